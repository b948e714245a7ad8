/- The document's example of a block. -/
import Derived.Test.YtopoepifbjbmoaaCRead
import Derived.Test.YtopoepifbjbmoaaCRound
import Derived.Deep.QuietTactic
import Derived.StillTailTactics
namespace Go.Proofs.Ytopoepifbjbmoaa.A
open Go.RowKit Go.Proofs.YtopoepifbjbmoaaW.PrintWords Go.Proofs.YtopoepifbjbmoaaW.PrintLast Go.Proofs.YtopoepifbjbmoaaW.PrintMore
open R
set_option linter.unusedVariables false
set_option linter.unusedSimpArgs false

theorem flat_cells : ∀ (l : List Vr) (j i : Nat) (p : Vr), l[j]? = some p → i < 8 → (l.flatMap vrCells)[j * 8 + i]? = (vrCells p)[i]?
  | [], j, i, p, h, _ => by simp at h
  | q :: l, 0, i, p, h, hi => by
    have : q = p := by simpa using h
    subst this
    rw [List.flatMap_cons, List.getElem?_append_left (by show 0 * 8 + i < 8; omega)]
    congr 1
    omega
  | q :: l, j + 1, i, p, h, hi => by
    have h' : l[j]? = some p := by simpa using h
    rw [List.flatMap_cons, List.getElem?_append_right (by show 8 ≤ _; omega)]
    rw [show (j + 1) * 8 + i - (vrCells q).length = j * 8 + i by show (j + 1) * 8 + i - 8 = _; omega]
    exact flat_cells l j i p h' hi
/-- A literal of versions. -/
theorem lit_CV (W : World) (l : List Vr) (e : Nat) (hl : l.length ≤ 9223372036854775807) : KVr.C (W.alloc (.cells (l.flatMap vrCells).toArray e)) (some ⟨W.heap.size, 0, none⟩) l.length l := by
  refine ⟨rfl, hl, fun _ => ⟨_, rfl, fun j p hj => ⟨vrCells p, rfl, KVr_K _ p, fun i u hu => ?_⟩⟩⟩
  have hi : i < 8 := by
    have := (List.getElem?_eq_some_iff.1 hu).1
    exact this
  rw [show KVr.sz = 8 from rfl, add_plain, cell_of_row _ _ _ (l.flatMap vrCells).toArray e (0, 0) (heap_alloc_new W _)]
  rw [List.getElem?_toArray]
  rw [flat_cells l j i p hj hi, hu]
theorem comL_self : ∀ x : List UInt8, comL x x = x.length
  | [] => rfl
  | a :: x => by rw [comL, if_pos rfl, comL_self x, List.length_cons]
theorem comS_self (k : ByteArray) : comS k k = k.size := by unfold comS; rw [comL_self, toL_len]
theorem comS_nil (k : ByteArray) : comS { data := #[] } k = 0 := by
  unfold comS
  have e : ({ data := #[] } : ByteArray).toList = [] := by rw [toL_data]
  rw [e]
  cases k.toList <;> rfl
abbrev kK : ByteArray := O.keyStr 0 { data := #[107] }
theorem kK_split : O.splitK kK = (0, { data := #[107] }, 0) := O.split_key 0 { data := #[107] } (by omega) (by omega) (by decide)
theorem kK_len : 2 ≤ kK.size ∧ kK.size ≤ 92 := by
  have e1 : O.keyErr 0 { data := #[107] } = 0 := by decide
  have e2 : kK = strOfNums (O.writeL (O.keyParts 0 { data := #[107] })) := by unfold kK O.keyStr; rw [if_pos e1]
  have h9 := key_size (k := kK) (by rw [kK_split])
  refine ⟨?_, h9⟩
  rw [e2, strOfNums_size]
  decide
theorem kK_may (s : Int) (h0 : 1 ≤ s) (h1 : s ≤ 100000) : mayV ⟨kK, 0, 1, s, 0, 1, { data := #[] }, false⟩ = true := by
  rw [mayV_iff, kK_split]
  refine ⟨rfl, ⟨⟨⟨by show (0:Int) ≤ 0; omega, by show (0:Int) ≤ 15; omega⟩, ⟨by show (1:Int) ≤ 1; omega, by show (1:Int) ≤ 10000; omega⟩⟩, ⟨h0, h1⟩⟩, ⟨by show (0:Int) ≤ 0; omega, by show (0:Int) < 1; omega, by show (1:Int) ≤ _; omega⟩, by show (0:Nat) ≤ 200; omega, ?_⟩
  intro h
  cases h
abbrev kV : Vr := ⟨kK, 0, 1, 1, 0, 1, { data := #[] }, false⟩
abbrev kW : Vr := ⟨kK, 0, 1, 2, 0, 1, { data := #[] }, false⟩
theorem k_may : mayBl [kV, kW] = true := by
  have a := kK_may 1 (by omega) (by omega)
  have b := kK_may 2 (by omega) (by omega)
  have c : lessV kV kW = true := by
    unfold lessV
    rw [if_pos rfl, if_pos rfl, if_pos rfl, if_neg (by show ¬ (1 : Int) = 2; omega)]
    rfl
  have s0 : stepOk [kV, kW] 0 = true := by unfold stepOk; rw [show [kV, kW].getD 0 default = kV from rfl, a]; rfl
  have s1 : stepOk [kV, kW] 1 = true := by unfold stepOk; rw [show [kV, kW].getD 1 default = kW from rfl, show [kV, kW].getD (1 - 1) default = kV from rfl, b, c]; rfl
  have e : okN [kV, kW] 2 = true := by rw [okN_succ, okN_succ, okN_zero, s0, s1]; rfl
  unfold mayBl
  rw [show [kV, kW].length = 2 from rfl, e]
  rfl
theorem six_len (s : Int) (h0 : 0 ≤ s) (h1 : s < 128) : (([0, 1, s, 0, 1 - 0, goneI false] : List Int).flatMap V.vput).length = 6 := by
  obtain ⟨n, rfl⟩ := Int.eq_ofNat_of_zero_le h0
  have e : ∀ m : Nat, m < 128 → (V.vput (m : Int)).length = 1 := fun m hm => vput_small m hm
  have a0 := e 0 (by omega)
  have a1 := e 1 (by omega)
  have a2 := e n (by omega)
  simp only [List.flatMap_cons, List.flatMap_nil, List.length_append, List.length_nil]
  show (V.vput ((0 : Nat) : Int)).length + ((V.vput ((1 : Nat) : Int)).length + ((V.vput (n : Int)).length + ((V.vput ((0 : Nat) : Int)).length + ((V.vput ((1 : Nat) : Int)).length + ((V.vput ((0 : Nat) : Int)).length + 0))))) = 6
  omega
theorem k_len : (blockB [kV, kW]).length = 19 + kK.size := by
  obtain ⟨h1, h2⟩ := kK_len
  have z : (V.vtext { data := #[] }).length = 1 := by rw [V.vtext_len]; show (V.vput ((0 : Nat) : Int)).length + 0 = 1; rw [vput_small 0 (by omega)]
  have s1 : (V.vtext (sufS { data := #[] } kK)).length = 1 + kK.size := by
    rw [V.vtext_len, suf_size, comS_nil, vput_small _ (by omega)]
    omega
  have s2 : (V.vtext (sufS kK kK)).length = 1 := by
    rw [V.vtext_len, suf_size, comS_self, Nat.sub_self, vput_small 0 (by omega)]
  unfold blockB bytesW bytesW bytesW bytesP
  simp only [List.length_append, List.length_cons, List.length_nil, s1, s2, z]
  rw [six_len 1 (by omega) (by omega), six_len 2 (by omega) (by omega), comS_nil, comS_self, vput_small 0 (by omega), vput_small _ (by omega)]
  rw [vput_small kK.size (by omega)]
  omega
set_option maxRecDepth 100000 in
set_option maxHeartbeats 4000000 in
theorem lives_calls (w : World) : Calls Try.prog 10 #[] w fun e w' => e = .returned (.bool true) ∧ Below w.heap.size w w' := by
  obtain ⟨hl1, hl2⟩ := kK_len
  have hL := k_len
  have hM := k_may
  have hR := readB_block [kV, kW] hM
  have hW : wrB [kV, kW] = blockB [kV, kW] := by unfold wrB; rw [hM]; rfl
  have hE : wrE [kV, kW] = 0 := by unfold wrE; rw [hM]; rfl
  have hG := blockB_range [kV, kW]
  have HK := Aside0.mk (fun w => O.refkey_calls 0 { data := #[107] } w (by omega) (by omega) (by decide))
  obtain ⟨x, hx⟩ : ∃ x, kK = x := ⟨_, rfl⟩
  have hx' : O.keyStr 0 { data := #[107] } = x := hx
  rw [hx'] at HK
  unfold kV kW at hL hR hW hE hG
  rw [hx] at hl1 hl2 hL hR hW hE hG
  obtain ⟨B, hB⟩ : ∃ B, blockB [⟨x, 0, 1, 1, 0, 1, { data := #[] }, false⟩, ⟨x, 0, 1, 2, 0, 1, { data := #[] }, false⟩] = B := ⟨_, rfl⟩
  rw [hB] at hL hR hW hG
  have HR := Aside0.mk hR
  have HW := Aside0.mk hW
  have HE := Aside0.mk hE
  have HG := Aside0.mk hG
  have HL := Aside0.mk hL
  have hq := eqA39
  have hself : eqV ⟨x, 0, 1, 2, 0, 1, { data := #[] }, false⟩ ⟨x, 0, 1, 2, 0, 1, { data := #[] }, false⟩ = true := (eqV_iff _ _).2 rfl
  clear hL hR hW hE hG hB hM hx hx'
  go_enter Try.func10, Try.ntmps10
  go_wp2_with fail
  (with_reducible refine (HK.out _).mono ?_)
  rintro e w1 ⟨rfl, hb1⟩
  have HB1 := Aside0.mk hb1
  clear hb1
  go_wp2_with fail
  have ev : ∀ a b : Int, vrB ⟨x, 0, 1, a, 0, b, { data := #[] }, false⟩ = vrBox x 0 1 a 0 b { data := #[] } false := fun _ _ => rfl
  obtain ⟨w2, hw2⟩ : ∃ w2, (w1.alloc (vrBox x 0 1 1 0 1 { data := #[] } false)).alloc (vrBox x 0 1 2 0 1 { data := #[] } false) = w2 := ⟨_, rfl⟩
  have hz2 : w2.heap.size = w1.heap.size + 1 + 1 := by rw [← hw2]; simp only [World.size_alloc]
  have HX2 : Aside0 (w2.heap[w1.heap.size + 1]? = some (vrBox x 0 1 2 0 1 { data := #[] } false)) := ⟨by
    have h := heap_alloc_new (w1.alloc (vrBox x 0 1 1 0 1 { data := #[] } false)) (vrBox x 0 1 2 0 1 { data := #[] } false)
    rw [hw2, World.size_alloc] at h
    exact h⟩
  have HB2 : Aside0 (Below w.heap.size w w2) := ⟨by rw [← hw2]; exact below_alloc (below_alloc HB1.out _) _⟩
  have HC2 := Aside0.mk (lit_CV w2 [⟨x, 0, 1, 1, 0, 1, { data := #[] }, false⟩, ⟨x, 0, 1, 2, 0, 1, { data := #[] }, false⟩] 39 (by show (2 : Nat) ≤ _; omega))
  have HX3 := Aside0.mk (box_keep HX2.out (below_alloc (Below.refl w2.heap.size w2) (.cells ([⟨x, 0, 1, 1, 0, 1, { data := #[] }, false⟩, ⟨x, 0, 1, 2, 0, 1, { data := #[] }, false⟩].flatMap vrCells).toArray 39)))
  have HB3 := Aside0.mk (below_step HB2.out (below_alloc (Below.refl w2.heap.size w2) (.cells ([⟨x, 0, 1, 1, 0, 1, { data := #[] }, false⟩, ⟨x, 0, 1, 2, 0, 1, { data := #[] }, false⟩].flatMap vrCells).toArray 39)))
  rw [hw2, ← hz2]
  have HSM : Aside0 (smallB [⟨x, 0, 1, 1, 0, 1, { data := #[] }, false⟩, ⟨x, 0, 1, 2, 0, 1, { data := #[] }, false⟩]) := ⟨by
    intro p hp
    simp only [List.mem_cons, List.not_mem_nil, or_false] at hp
    have z : ({ data := #[] } : ByteArray).size = 0 := rfl
    rcases hp with rfl | rfl <;> exact ⟨by show x.size ≤ _; omega, by show ({ data := #[] } : ByteArray).size ≤ _; omega⟩⟩
  clear hw2 HX2 HB2 HB1
  (with_reducible refine (writeB_calls _ 2 2 [⟨x, 0, 1, 1, 0, 1, { data := #[] }, false⟩, ⟨x, 0, 1, 2, 0, 1, { data := #[] }, false⟩] _ HC2.out (Nat.le_refl _) HSM.out).mono ?_)
  rw [HW.out, HE.out]
  rintro e w4 ⟨u4, rfl, hO4, hb4⟩
  obtain ⟨n, hn⟩ : ∃ n, B.length = n := ⟨_, rfl⟩
  have hnl : n = 19 + x.size := by rw [← hn]; exact HL.out
  have hn1 : n ≤ 200 := by omega
  have hn2 : n < 2 * x.size + 16 + 2 := by omega
  obtain ⟨A4, c4, rfl, hc4, hC4⟩ := OB_readn hO4 n hn
  have HC4 := Aside0.mk hC4
  have HX4 := Aside0.mk (box_keep HX3.out hb4)
  have HB4 := Aside0.mk (below_step HB3.out hb4)
  clear hO4 hC4 hb4 HX3 HB3 HC2 hn HL hnl
  go_wp2_with fail
  (with_reducible refine (readb_calls A4 n c4 B w4 HC4.out hc4 (by omega) HG.out).mono ?_)
  rw [HR.out]
  rintro e w5 ⟨u5, rfl, hO5, hb5⟩
  obtain ⟨A5, c5, rfl, hc5, hC5⟩ := OVr_readn hO5 2 rfl
  have HX5 := Aside0.mk (box_keep HX4.out hb5)
  have HB5 := Aside0.mk (below_step HB4.out hb5)
  have hd := below_drew1 (Below.refl w5.heap.size w5)
  obtain ⟨x0, x1, x2, x3, x4, x5, x6, x7⟩ := vr_cells (box_keep HX5.out hd)
  obtain ⟨ad, rfl, -⟩ := C_atVr hC5 1 (by omega)
  obtain ⟨y0, y1, y2, y3, y4, y5, y6, y7⟩ := C_atVr' (Kd.C_below hC5 hd) 1 (by omega) ⟨x, 0, 1, 2, 0, 1, { data := #[] }, false⟩ rfl
  have e8 : ad.add (1 * 8) = ⟨ad.block, ad.off + 8, none⟩ := by unfold Addr.add; rw [if_neg (by omega)]
  rw [e8] at y0 y1 y2 y3 y4 y5 y6 y7
  simp only [Nat.add_assoc, Nat.reduceAdd] at y0 y1 y2 y3 y4 y5 y6 y7
  have HBd := Aside0.mk (below_step HB5.out hd)
  clear hd hC5 hO5 hb5 HX4 HX5 HB4 HC4
  have i1 : (n : Int) < 2 * (x.size : Int) + 16 + 2 := by omega
  have i2 : IntKind.i64.wrap (2 * (x.size : Int)) = 2 * (x.size : Int) := IntWalk.i64_in _ (by omega)
  have i3 : IntKind.i64.wrap (2 * (x.size : Int) + 16) = 2 * (x.size : Int) + 16 := IntWalk.i64_in _ (by omega)
  have i4 : IntKind.i64.wrap (2 * (x.size : Int) + 16 + 2) = 2 * (x.size : Int) + 16 + 2 := IntWalk.i64_in _ (by omega)
  go_wp2_with fail
  refine wp_region_held_drew (S := fun w' => w'.cell? ⟨w1.heap.size + 1, 0, none⟩ = some (.string x) ∧ w'.cell? ⟨w1.heap.size + 1, 1, none⟩ = some (.int .i64 0) ∧ w'.cell? ⟨w1.heap.size + 1, 2, none⟩ = some (.int .i64 1) ∧ w'.cell? ⟨w1.heap.size + 1, 3, none⟩ = some (.int .i64 2) ∧ w'.cell? ⟨w1.heap.size + 1, 4, none⟩ = some (.int .i64 0) ∧ w'.cell? ⟨w1.heap.size + 1, 5, none⟩ = some (.int .i64 1) ∧ w'.cell? ⟨w1.heap.size + 1, 6, none⟩ = some (.string { data := #[] }) ∧ w'.cell? ⟨w1.heap.size + 1, 7, none⟩ = some (.bool false) ∧ w'.cell? ⟨ad.block, ad.off + 8, none⟩ = some (.string x) ∧ w'.cell? ⟨ad.block, ad.off + 9, none⟩ = some (.int .i64 0) ∧ w'.cell? ⟨ad.block, ad.off + 10, none⟩ = some (.int .i64 1) ∧ w'.cell? ⟨ad.block, ad.off + 11, none⟩ = some (.int .i64 2) ∧ w'.cell? ⟨ad.block, ad.off + 12, none⟩ = some (.int .i64 0) ∧ w'.cell? ⟨ad.block, ad.off + 13, none⟩ = some (.int .i64 1) ∧ w'.cell? ⟨ad.block, ad.off + 14, none⟩ = some (.string { data := #[] }) ∧ w'.cell? ⟨ad.block, ad.off + 15, none⟩ = some (.bool false)) (by kernel_rfl) ⟨x0, x1, x2, x3, x4, x5, x6, x7, y0, y1, y2, y3, y4, y5, y6, y7⟩ (fun hHeld => ?_)
  (refine hd_take 0 (v := ?_) rfl (by kernel_rfl) (by kernel_rfl) (fun _ _ _ h => h) (by assumption) ?_ ?_; rotate_left; (intro w hSw; (try dsimp only at hSw); go_simp; first | done | with_reducible rfl); simp only [Act.put, List.setIfInBounds_toArray, List.set_cons_zero, List.set_cons_succ])
  (refine hd_take 1 (v := ?_) rfl (by kernel_rfl) (by kernel_rfl) (fun _ _ _ h => h) (by assumption) ?_ ?_; rotate_left; (intro w hSw; (try dsimp only at hSw); go_simp; first | done | with_reducible rfl); simp only [Act.put, List.setIfInBounds_toArray, List.set_cons_zero, List.set_cons_succ])
  (refine hd_take 2 (v := ?_) rfl (by kernel_rfl) (by kernel_rfl) (fun _ _ _ h => h) (by assumption) ?_ ?_; rotate_left; (intro w hSw; (try dsimp only at hSw); go_simp; first | done | with_reducible rfl); simp only [Act.put, List.setIfInBounds_toArray, List.set_cons_zero, List.set_cons_succ])
  (refine hd_take 3 (v := ?_) rfl (by kernel_rfl) (by kernel_rfl) (fun _ _ _ h => h) (by assumption) ?_ ?_; rotate_left; (intro w hSw; (try dsimp only at hSw); go_simp; first | done | with_reducible rfl); simp only [Act.put, List.setIfInBounds_toArray, List.set_cons_zero, List.set_cons_succ])
  (refine hd_take 4 (v := ?_) rfl (by kernel_rfl) (by kernel_rfl) (fun _ _ _ h => h) (by assumption) ?_ ?_; rotate_left; (intro w hSw; (try dsimp only at hSw); go_simp; first | done | with_reducible rfl); simp only [Act.put, List.setIfInBounds_toArray, List.set_cons_zero, List.set_cons_succ])
  (refine hd_take 5 (v := ?_) rfl (by kernel_rfl) (by kernel_rfl) (fun _ _ _ h => h) (by assumption) ?_ ?_; rotate_left; (intro w hSw; (try dsimp only at hSw); go_simp; first | done | with_reducible rfl); simp only [Act.put, List.setIfInBounds_toArray, List.set_cons_zero, List.set_cons_succ])
  (refine hd_take 6 (v := ?_) rfl (by kernel_rfl) (by kernel_rfl) (fun _ _ _ h => h) (by assumption) ?_ ?_; rotate_left; (intro w hSw; (try dsimp only at hSw); go_simp; first | done | with_reducible rfl); simp only [Act.put, List.setIfInBounds_toArray, List.set_cons_zero, List.set_cons_succ])
  (refine hd_take 7 (v := ?_) rfl (by kernel_rfl) (by kernel_rfl) (fun _ _ _ h => h) (by assumption) ?_ ?_; rotate_left; (intro w hSw; (try dsimp only at hSw); go_simp; first | done | with_reducible rfl); simp only [Act.put, List.setIfInBounds_toArray, List.set_cons_zero, List.set_cons_succ])
  (refine hd_take 8 (v := ?_) rfl (by kernel_rfl) (by kernel_rfl) (fun _ _ _ h => h) (by assumption) ?_ ?_; rotate_left; (intro w hSw; (try dsimp only at hSw); go_simp; first | done | with_reducible rfl); simp only [Act.put, List.setIfInBounds_toArray, List.set_cons_zero, List.set_cons_succ])
  (refine hd_take 9 (v := ?_) rfl (by kernel_rfl) (by kernel_rfl) (fun _ _ _ h => h) (by assumption) ?_ ?_; rotate_left; (intro w hSw; (try dsimp only at hSw); go_simp; first | done | with_reducible rfl); simp only [Act.put, List.setIfInBounds_toArray, List.set_cons_zero, List.set_cons_succ])
  (refine hd_take 10 (v := ?_) rfl (by kernel_rfl) (by kernel_rfl) (fun _ _ _ h => h) (by assumption) ?_ ?_; rotate_left; (intro w hSw; (try dsimp only at hSw); go_simp; first | done | with_reducible rfl); simp only [Act.put, List.setIfInBounds_toArray, List.set_cons_zero, List.set_cons_succ])
  (refine hd_take 11 (v := ?_) rfl (by kernel_rfl) (by kernel_rfl) (fun _ _ _ h => h) (by assumption) ?_ ?_; rotate_left; (intro w hSw; (try dsimp only at hSw); go_simp; first | done | with_reducible rfl); simp only [Act.put, List.setIfInBounds_toArray, List.set_cons_zero, List.set_cons_succ])
  (refine hd_take 12 (v := ?_) rfl (by kernel_rfl) (by kernel_rfl) (fun _ _ _ h => h) (by assumption) ?_ ?_; rotate_left; (intro w hSw; (try dsimp only at hSw); go_simp; first | done | with_reducible rfl); simp only [Act.put, List.setIfInBounds_toArray, List.set_cons_zero, List.set_cons_succ])
  (refine hd_take 13 (v := ?_) rfl (by kernel_rfl) (by kernel_rfl) (fun _ _ _ h => h) (by assumption) ?_ ?_; rotate_left; (intro w hSw; (try dsimp only at hSw); go_simp; first | done | with_reducible rfl); simp only [Act.put, List.setIfInBounds_toArray, List.set_cons_zero, List.set_cons_succ])
  (refine hd_take 14 (v := ?_) rfl (by kernel_rfl) (by kernel_rfl) (fun _ _ _ h => h) (by assumption) ?_ ?_; rotate_left; (intro w hSw; (try dsimp only at hSw); go_simp; first | done | with_reducible rfl); simp only [Act.put, List.setIfInBounds_toArray, List.set_cons_zero, List.set_cons_succ])
  (refine hd_take 15 (v := ?_) rfl (by kernel_rfl) (by kernel_rfl) (fun _ _ _ h => h) (by assumption) ?_ ?_; rotate_left; (intro w hSw; (try dsimp only at hSw); go_simp; first | done | with_reducible rfl); simp only [Act.put, List.setIfInBounds_toArray, List.set_cons_zero, List.set_cons_succ])
  (refine hd_take 16 (v := ?_) rfl (by kernel_rfl) (by kernel_rfl) (fun _ _ _ h => h) (by assumption) ?_ ?_; rotate_left; (intro w hSw; (try dsimp only at hSw); go_simp; first | done | with_reducible rfl); simp only [Act.put, List.setIfInBounds_toArray, List.set_cons_zero, List.set_cons_succ])
  (refine hd_take 17 (v := ?_) rfl (by kernel_rfl) (by kernel_rfl) (fun _ _ _ h => h) (by assumption) ?_ ?_; rotate_left; (intro w hSw; (try dsimp only at hSw); go_simp; first | done | with_reducible rfl); simp only [Act.put, List.setIfInBounds_toArray, List.set_cons_zero, List.set_cons_succ])
  (refine hd_take 18 (v := ?_) rfl (by kernel_rfl) (by kernel_rfl) (fun _ _ _ h => h) (by assumption) ?_ ?_; rotate_left; (intro w hSw; (try dsimp only at hSw); go_simp; first | done | with_reducible rfl); simp only [Act.put, List.setIfInBounds_toArray, List.set_cons_zero, List.set_cons_succ])
  (refine hd_take 19 (v := ?_) rfl (by kernel_rfl) (by kernel_rfl) (fun _ _ _ h => h) (by assumption) ?_ ?_; rotate_left; (intro w hSw; (try dsimp only at hSw); go_simp; first | done | with_reducible rfl); simp only [Act.put, List.setIfInBounds_toArray, List.set_cons_zero, List.set_cons_succ])
  (refine hd_take 20 (v := ?_) rfl (by kernel_rfl) (by kernel_rfl) (fun _ _ _ h => h) (by assumption) ?_ ?_; rotate_left; (intro w hSw; (try dsimp only at hSw); go_simp; first | done | with_reducible rfl); simp only [Act.put, List.setIfInBounds_toArray, List.set_cons_zero, List.set_cons_succ])
  (refine hd_take 21 (v := ?_) rfl (by kernel_rfl) (by kernel_rfl) (fun _ _ _ h => h) (by assumption) ?_ ?_; rotate_left; (intro w hSw; (try dsimp only at hSw); go_simp; first | done | with_reducible rfl); simp only [Act.put, List.setIfInBounds_toArray, List.set_cons_zero, List.set_cons_succ])
  (refine hd_take 22 (v := ?_) rfl (by kernel_rfl) (by kernel_rfl) (fun _ _ _ h => h) (by assumption) ?_ ?_; rotate_left; (intro w hSw; (try dsimp only at hSw); go_simp; first | done | with_reducible rfl); simp only [Act.put, List.setIfInBounds_toArray, List.set_cons_zero, List.set_cons_succ])
  (refine hd_take 23 (v := ?_) rfl (by kernel_rfl) (by kernel_rfl) (fun _ _ _ h => h) (by assumption) ?_ ?_; rotate_left; (intro w hSw; (try dsimp only at hSw); go_simp; first | done | with_reducible rfl); simp only [Act.put, List.setIfInBounds_toArray, List.set_cons_zero, List.set_cons_succ])
  (refine hd_take 24 (v := ?_) rfl (by kernel_rfl) (by kernel_rfl) (fun _ _ _ h => h) (by assumption) ?_ ?_; rotate_left; (intro w hSw; (try dsimp only at hSw); go_simp; first | done | with_reducible rfl); simp only [Act.put, List.setIfInBounds_toArray, List.set_cons_zero, List.set_cons_succ])
  (refine hd_take 25 (v := ?_) rfl (by kernel_rfl) (by kernel_rfl) (fun _ _ _ h => h) (by assumption) ?_ ?_; rotate_left; (intro w hSw; (try dsimp only at hSw); go_simp; first | done | with_reducible rfl); simp only [Act.put, List.setIfInBounds_toArray, List.set_cons_zero, List.set_cons_succ])
  (refine hd_take 26 (v := ?_) rfl (by kernel_rfl) (by kernel_rfl) (fun _ _ _ h => h) (by assumption) ?_ ?_; rotate_left; (intro w hSw; (try dsimp only at hSw); go_simp; first | done | with_reducible rfl); simp only [Act.put, List.setIfInBounds_toArray, List.set_cons_zero, List.set_cons_succ])
  (refine hd_take 27 (v := ?_) rfl (by kernel_rfl) (by kernel_rfl) (fun _ _ _ h => h) (by assumption) ?_ ?_; rotate_left; (intro w hSw; (try dsimp only at hSw); go_simp; first | done | with_reducible rfl); simp only [Act.put, List.setIfInBounds_toArray, List.set_cons_zero, List.set_cons_succ])
  (refine hd_take 28 (v := ?_) rfl (by kernel_rfl) (by kernel_rfl) (fun _ _ _ h => h) (by assumption) ?_ ?_; rotate_left; (intro w hSw; (try dsimp only at hSw); go_simp; first | done | with_reducible rfl); simp only [Act.put, List.setIfInBounds_toArray, List.set_cons_zero, List.set_cons_succ])
  refine wpAnyH_done (by kernel_rfl) ?_ _
  go_wp2_with fail
  go_ret
  exact ⟨by first | rfl | kernel_rfl, HBd.out⟩
end Go.Proofs.Ytopoepifbjbmoaa.A
