/- A block's bytes, the document's. -/
import Derived.Test.YtopoepifbjbmoaaCBlock
namespace Go.Proofs.Ytopoepifbjbmoaa.A
open Go.RowKit Go.Proofs.YtopoepifbjbmoaaW.PrintWords Go.Proofs.YtopoepifbjbmoaaW.PrintLast Go.Proofs.YtopoepifbjbmoaaW.PrintMore
open R
set_option linter.unusedVariables false
set_option linter.unusedSimpArgs false

/-- A row of one's own that grows, beside blocks that stay. -/
def KP (w : World) (u : Value) (Bs : List Int) (P : List (Nat × Obj)) (W : World) : Prop := OB W w.heap.size u Bs ∧ (∀ p ∈ P, some p.1 ≠ u.ownBlock ∧ W.heap[p.1]? = some p.2) ∧ Below w.heap.size w W
theorem KP_step {w : World} {u : Value} {Bs : List Int} {P : List (Nat × Obj)} {W W1 : World} (h : KP w u Bs P W) (hb : Below W.heap.size W W1) : KP w u Bs P W1 :=
  ⟨Kd.R_below h.1 hb, fun p hp => ⟨(h.2.1 p hp).1, box_keep (h.2.1 p hp).2 hb⟩, below_step h.2.2 hb⟩
theorem KP_app {w : World} {u v : Value} {Bs Cs : List Int} {P : List (Nat × Obj)} {W W1 : World} (h : KP w u Bs P W) (hO : OB W1 w.heap.size v Cs) (hb : Below w.heap.size W W1) (hg : W.grownBy W1 u.ownBlock) (hat : v.ownBlock = u.ownBlock ∨ ∃ b, v.ownBlock = some b ∧ W.heap.size ≤ b) : KP w v Cs P W1 := by
  refine ⟨hO, fun p hp => ⟨?_, (hg.block p.1 (Array.getElem?_eq_some_iff.1 (h.2.1 p hp).2).1 (h.2.1 p hp).1).trans (h.2.1 p hp).2⟩, h.2.2.trans hb⟩
  have h1 := (h.2.1 p hp).1
  have h2 := (Array.getElem?_eq_some_iff.1 (h.2.1 p hp).2).1
  rcases hat with e | ⟨b, e, hbb⟩
  · rw [e]; exact h1
  · rw [e]
    intro e2
    injection e2 with e2
    omega
theorem KP_alloc {w : World} {u : Value} {Bs : List Int} {P : List (Nat × Obj)} {W : World} (h : KP w u Bs P W) (o : Obj) : KP w u Bs ((W.heap.size, o) :: P) (W.alloc o) := by
  have hal := below_alloc (Below.refl W.heap.size W) o
  have h2 := KP_step h hal
  refine ⟨h2.1, fun p hp => ?_, h2.2.2⟩
  rcases List.mem_cons.1 hp with rfl | hp
  · refine ⟨?_, heap_alloc_new W o⟩
    intro e1
    obtain ⟨_, inner, ho, _⟩ := h.1
    have := own_lt ho _ e1.symm
    exact absurd this (Nat.lt_irrefl _)
  · exact h2.2.1 p hp
theorem KP_tail {w : World} {u : Value} {Bs : List Int} {p : Nat × Obj} {P : List (Nat × Obj)} {W : World} (h : KP w u Bs (p :: P) W) : KP w u Bs P W := ⟨h.1, fun q hq => h.2.1 q (List.mem_cons_of_mem _ hq), h.2.2⟩
theorem KP_forget {w : World} {u : Value} {Bs Cs : List Int} {P : List (Nat × Obj)} {W : World} (h : KP w u Bs P W) (e : Cs = Bs) : KP w u Cs [] W := by
  subst e
  exact ⟨h.1, fun q hq => (by cases hq), h.2.2⟩
theorem row_int {W : World} {y : Nat} {L : List Int} {e : Nat} {fr : Nat × Nat} (h : W.heap[y]? = some (.cells (L.map (Value.int .i64)).toArray e fr)) (j : Nat) (hj : j < L.length) : W.cell? ⟨y, j, none⟩ = some (.int .i64 (L.getD j 0)) := by
  rw [cell_of_row _ _ _ _ _ _ h]
  simp [List.getD_eq_getElem?_getD, hj]
theorem six_le (a b c d e f : Int) (ha : a ≤ 9223372036854775807) (hb : b ≤ 9223372036854775807) (hc : c ≤ 9223372036854775807) (hd : d ≤ 9223372036854775807) (he : e ≤ 9223372036854775807) (hf : f ≤ 9223372036854775807) : ([a, b, c, d, e, f].flatMap V.vput).length ≤ 54 := by
  have h1 := V.vput_le a ha
  have h2 := V.vput_le b hb
  have h3 := V.vput_le c hc
  have h4 := V.vput_le d hd
  have h5 := V.vput_le e he
  have h6 := V.vput_le f hf
  simp only [List.flatMap_cons, List.flatMap_nil, List.length_append, List.length_nil]
  omega
set_option maxRecDepth 100000 in
set_option maxHeartbeats 40000000 in
theorem refwriteB_calls (A : Option Addr) (n c : Nat) (l : List Vr) (w : World) (hr : KVr.C w A n l) (hc : n ≤ c) (h8 : n ≤ 8) (hm : ∀ p ∈ l, mayV p = true) :
    Calls Try.prog 13 #[.slice A n c] w fun e w' => ∃ u, e = .returned u ∧ OB w' w.heap.size u (blockB l) ∧ Below w.heap.size w w' := by
  have HR := Aside0.mk hr
  have HM := Aside0.mk hm
  have HN := Aside0.mk hr.1
  clear hr hm
  go_enter Try.func13, Try.ntmps13
  go_wp2_with fail
  (with_reducible refine (V.refput_calls (n : Int) _ (by omega)).mono ?_)
  rintro e w1 ⟨v1, rfl, hO1, hb1⟩
  have HO1 := Aside0.mk hO1
  have HB1 := Aside0.mk hb1
  clear hO1 hb1
  go_wp2_with fail
  go_loopw [3, 4, 5] (fun v3 v4 v5 w' => ∃ k : Nat, k ≤ n ∧ v5 = .int .i64 k ∧ v4 = .string (lastK { data := #[] } (l.take k)) ∧ Aside0 (KP w v3 (V.vput (n : Int) ++ bytesW { data := #[] } (l.take k)) [] w')) (fun _ _ v5 _ => n - (intOf v5).toNat)
  case atStart => exact ⟨0, Nat.zero_le _, rfl, rfl, ⟨by simpa [bytesW] using HO1.out, fun _ h => (by cases h), HB1.out⟩⟩
  case round =>
    obtain ⟨k, hk, rfl, rfl, HK0⟩ := hrel
    by_cases hlt : k < n
    · obtain ⟨q, hq⟩ : ∃ q, l.getD k default = q := ⟨_, rfl⟩
      have hml := getD_mem l k (by rw [HN.out]; exact hlt)
      rw [hq] at hml
      have HMQ := Aside0.mk (HM.out _ hml)
      have HTK : Aside0 (l.take (k + 1) = l.take k ++ [q]) := ⟨by rw [take_getD l k (by rw [HN.out]; exact hlt), hq]⟩
      obtain ⟨ad, rfl, -⟩ := C_atVr HR.out k hlt
      have hX := C_atVr' (Kd.C_below HR.out HK0.out.2.2) k hlt q hq
      have hbl := bytesW_len (l.take k) { data := #[] } (fun p hp => HM.out p (List.mem_of_mem_take hp))
      rw [List.length_take] at hbl
      have hks := lastK_le (l.take k) { data := #[] } (by decide) (fun p hp => key_le (HM.out p (List.mem_of_mem_take hp)))
      generalize hLK : lastK { data := #[] } (l.take k) = key at *
      have HLK := Aside0.mk hLK
      obtain ⟨m, hmm⟩ : ∃ m, (V.vput (n : Int) ++ bytesW { data := #[] } (l.take k)).length = m := ⟨_, rfl⟩
      have hm4 : m ≤ 4000 := by
        rw [← hmm, List.length_append, vput_small n (by omega)]
        omega
      obtain ⟨A4, c4, rfl, hc4, -⟩ := OB_readn HK0.out.1 m hmm
      have hk92 := key_le HMQ.out
      obtain ⟨_, ⟨⟨⟨r1, r2⟩, ⟨r3, r4⟩⟩, ⟨r5, r6⟩⟩, ⟨r7, r8, r9⟩, r10, _⟩ := (mayV_iff _).1 HMQ.out
      obtain ⟨qk, qbr, qep, qsq, qf, qt, qv, qg⟩ := q
      simp only at hk92 r1 r2 r3 r4 r5 r6 r7 r8 r9 r10
      obtain ⟨p0, p1, p2, p3, p4, p5, p6, p7⟩ := hX
      simp only at p0 p1 p2 p3 p4 p5 p6 p7
      obtain ⟨Bs, hB⟩ : ∃ Bs, V.vput (n : Int) ++ bytesW { data := #[] } (l.take k) = Bs := ⟨_, rfl⟩
      rw [hB] at HK0 hmm
      have HM4 : Aside0 (Bs.length = m ∧ m ≤ 4000) := ⟨hmm, hm4⟩
      have HBB := Aside0.mk hB
      clear hml hbl hLK hmm hq hB
      have i1 : (k : Int) < (n : Int) := by omega
      have i2 : (0 : Int) ≤ (k : Int) := by omega
      have HP0 := Aside0.mk (KP_alloc HK0.out (vrBox qk qbr qep qsq qf qt qv qg))
      obtain ⟨w0, hw0⟩ : ∃ w0, wr.alloc (vrBox qk qbr qep qsq qf qt qv qg) = w0 := ⟨_, rfl⟩
      obtain ⟨x, hx⟩ : ∃ x, wr.heap.size = x := ⟨_, rfl⟩
      rw [hw0, hx] at HP0
      have hw0' : wr.alloc (.cells #[.string qk, .int .i64 qbr, .int .i64 qep, .int .i64 qsq, .int .i64 qf, .int .i64 qt, .string qv, .bool qg] 39) = w0 := hw0
      clear HK0
      go_wp2_with fail
      try rw [hw0']
      try rw [hx]
      clear p0 p1 p2 p3 p4 p5 p6 p7 hw0 hw0' hx
      have hcs := comS_le key qk
      obtain ⟨cn, hcn⟩ : ∃ cn, comS key qk = cn := ⟨_, rfl⟩
      rw [hcn] at hcs
      have HCN := Aside0.mk hcn
      have hcs1 : cn ≤ key.size := hcs.1
      have hcs2 : cn ≤ qk.size := hcs.2
      obtain ⟨SF, hSF⟩ : ∃ SF, qk.extract cn qk.size = SF := ⟨_, rfl⟩
      have HSF : Aside0 (sufS key qk = SF ∧ SF.size ≤ 92) := ⟨by unfold sufS; rw [HCN.out]; exact hSF, by rw [← hSF, ByteArray.size_extract]; omega⟩
      clear hcn hcs
      go_loopw [7] (fun v7 w' => ∃ t : Nat, t ≤ key.size ∧ t ≤ qk.size ∧ v7 = .int .i64 t ∧ Aside0 (t + comL (key.toList.drop t) (qk.toList.drop t) = cn) ∧ Aside0 (KP w (.slice A4 m c4) Bs [(x, vrB ⟨qk, qbr, qep, qsq, qf, qt, qv, qg⟩)] w')) (fun v7 _ => key.size - (intOf v7).toNat)
      case atStart => exact ⟨0, Nat.zero_le _, Nat.zero_le _, rfl, ⟨by rw [List.drop_zero, List.drop_zero, Nat.zero_add]; exact HCN.out⟩, HP0⟩
      case round =>
        clear HP0
        obtain ⟨t, ht1, ht2, rfl, HT, HP1⟩ := hrel
        have HP := Aside0.mk (KP_step HP1.out (below_drew1 (Below.refl _ _)))
        clear HP1
        have x0 := (vr_cells (HP.out.2.1 _ List.mem_cons_self).2).1
        have t0 : (0 : Int) ≤ (t : Int) := by omega
        have t9 : (t : Int) ≤ (qk.size : Int) := by omega
        by_cases hk1 : t < key.size
        · have j1 : (t : Int) < (key.size : Int) := by omega
          by_cases hk2 : t < qk.size
          · have j2 : (t : Int) < (qk.size : Int) := by omega
            have hi1 := idx_str key t hk1
            have hi2 := idx_str qk t hk2
            have hT := HT.out
            rw [com_in hk1 hk2] at hT
            generalize key.toList.getD t 0 = b1 at *
            generalize qk.toList.getD t 0 = b2 at *
            clear HT
            by_cases hb : b1 = b2
            · subst hb
              rw [if_pos rfl] at hT
              have HT := Aside0.mk hT
              have hself : (((b1.toNat : Nat) : Int) == ((b1.toNat : Nat) : Int)) = true := by simp
              clear hT
              go_wp2_with fail
              refine wp_region_held_drew (S := fun w' => w'.cell? ⟨x, 0, none⟩ = some (.string qk)) (by kernel_rfl) x0 (fun hHeld => ?_)
              (refine hd_take 0 (v := ?_) rfl (by kernel_rfl) (by kernel_rfl) (fun _ _ _ h => h) (by assumption) ?_ ?_; rotate_left; (intro w hSw; (try dsimp only at hSw); go_simp; first | done | with_reducible rfl); simp only [Act.put, List.setIfInBounds_toArray, List.set_cons_zero, List.set_cons_succ])
              (refine hd_take 1 (v := ?_) rfl (by kernel_rfl) (by kernel_rfl) (fun _ _ _ h => h) (by assumption) ?_ ?_; rotate_left; (intro w hSw; (try dsimp only at hSw); go_simp; first | done | with_reducible rfl); simp only [Act.put, List.setIfInBounds_toArray, List.set_cons_zero, List.set_cons_succ])
              (refine hd_take 2 (v := ?_) rfl (by kernel_rfl) (by kernel_rfl) (fun _ _ _ h => h) (by assumption) ?_ ?_; rotate_left; (intro w hSw; (try dsimp only at hSw); go_simp; first | done | with_reducible rfl); simp only [Act.put, List.setIfInBounds_toArray, List.set_cons_zero, List.set_cons_succ])
              (refine hd_take 3 (v := ?_) rfl (by kernel_rfl) (by kernel_rfl) (fun _ _ _ h => h) (by assumption) ?_ ?_; rotate_left; (intro w hSw; (try dsimp only at hSw); go_simp; first | done | with_reducible rfl); simp only [Act.put, List.setIfInBounds_toArray, List.set_cons_zero, List.set_cons_succ])
              (refine hd_take 4 (v := ?_) rfl (by kernel_rfl) (by kernel_rfl) (fun _ _ _ h => h) (by assumption) ?_ ?_; rotate_left; (intro w hSw; (try dsimp only at hSw); go_simp; first | done | with_reducible rfl); simp only [Act.put, List.setIfInBounds_toArray, List.set_cons_zero, List.set_cons_succ])
              (refine hd_take 5 (v := ?_) rfl (by kernel_rfl) (by kernel_rfl) (fun _ _ _ h => h) (by assumption) ?_ ?_; rotate_left; (intro w hSw; (try dsimp only at hSw); go_simp; first | done | with_reducible rfl); simp only [Act.put, List.setIfInBounds_toArray, List.set_cons_zero, List.set_cons_succ])
              (refine hd_take 6 (v := ?_) rfl (by kernel_rfl) (by kernel_rfl) (fun _ _ _ h => h) (by assumption) ?_ ?_; rotate_left; (intro w hSw; (try dsimp only at hSw); go_simp; first | done | with_reducible rfl); simp only [Act.put, List.setIfInBounds_toArray, List.set_cons_zero, List.set_cons_succ])
              (refine hd_take 7 (v := ?_) rfl (by kernel_rfl) (by kernel_rfl) (fun _ _ _ h => h) (by assumption) ?_ ?_; rotate_left; (intro w hSw; (try dsimp only at hSw); go_simp; first | done | with_reducible rfl); simp only [Act.put, List.setIfInBounds_toArray, List.set_cons_zero, List.set_cons_succ])
              (refine hd_take 8 (v := ?_) rfl (by kernel_rfl) (by kernel_rfl) (fun _ _ _ h => h) (by assumption) ?_ ?_; rotate_left; (intro w hSw; (try dsimp only at hSw); go_simp; first | done | with_reducible rfl); simp only [Act.put, List.setIfInBounds_toArray, List.set_cons_zero, List.set_cons_succ])
              (refine hd_take 9 (v := ?_) rfl (by kernel_rfl) (by kernel_rfl) (fun _ _ _ h => h) (by assumption) ?_ ?_; rotate_left; (intro w hSw; (try dsimp only at hSw); go_simp; first | done | with_reducible rfl); simp only [Act.put, List.setIfInBounds_toArray, List.set_cons_zero, List.set_cons_succ])
              (refine hd_take 10 (v := ?_) rfl (by kernel_rfl) (by kernel_rfl) (fun _ _ _ h => h) (by assumption) ?_ ?_; rotate_left; (intro w hSw; (try dsimp only at hSw); go_simp; first | done | with_reducible rfl); simp only [Act.put, List.setIfInBounds_toArray, List.set_cons_zero, List.set_cons_succ])
              (refine hd_take 11 (v := ?_) rfl (by kernel_rfl) (by kernel_rfl) (fun _ _ _ h => h) (by assumption) ?_ ?_; rotate_left; (intro w hSw; (try dsimp only at hSw); go_simp; first | done | with_reducible rfl); simp only [Act.put, List.setIfInBounds_toArray, List.set_cons_zero, List.set_cons_succ])
              (refine hd_take 12 (v := ?_) rfl (by kernel_rfl) (by kernel_rfl) (fun _ _ _ h => h) (by assumption) ?_ ?_; rotate_left; (intro w hSw; (try dsimp only at hSw); go_simp; first | done | with_reducible rfl); simp only [Act.put, List.setIfInBounds_toArray, List.set_cons_zero, List.set_cons_succ])
              (refine hd_take 13 (v := ?_) rfl (by kernel_rfl) (by kernel_rfl) (fun _ _ _ h => h) (by assumption) ?_ ?_; rotate_left; (intro w hSw; (try dsimp only at hSw); go_simp; first | done | with_reducible rfl); simp only [Act.put, List.setIfInBounds_toArray, List.set_cons_zero, List.set_cons_succ])
              (refine hd_take 14 (v := ?_) rfl (by kernel_rfl) (by kernel_rfl) (fun _ _ _ h => h) (by assumption) ?_ ?_; rotate_left; (intro w hSw; (try dsimp only at hSw); go_simp; first | done | with_reducible rfl); simp only [Act.put, List.setIfInBounds_toArray, List.set_cons_zero, List.set_cons_succ])
              (refine hd_take 15 (v := ?_) rfl (by kernel_rfl) (by kernel_rfl) (fun _ _ _ h => h) (by assumption) ?_ ?_; rotate_left; (intro w hSw; (try dsimp only at hSw); go_simp; first | done | with_reducible rfl); simp only [Act.put, List.setIfInBounds_toArray, List.set_cons_zero, List.set_cons_succ])
              (refine hd_take 16 (v := ?_) rfl (by kernel_rfl) (by kernel_rfl) (fun _ _ _ h => h) (by assumption) ?_ ?_; rotate_left; (intro w hSw; (try dsimp only at hSw); go_simp; first | done | with_reducible rfl); simp only [Act.put, List.setIfInBounds_toArray, List.set_cons_zero, List.set_cons_succ])
              (refine hd_take 17 (v := ?_) rfl (by kernel_rfl) (by kernel_rfl) (fun _ _ _ h => h) (by assumption) ?_ ?_; rotate_left; (intro w hSw; (try dsimp only at hSw); go_simp; first | done | with_reducible rfl); simp only [Act.put, List.setIfInBounds_toArray, List.set_cons_zero, List.set_cons_succ])
              (refine hd_take 18 (v := ?_) rfl (by kernel_rfl) (by kernel_rfl) (fun _ _ _ h => h) (by assumption) ?_ ?_; rotate_left; (intro w hSw; (try dsimp only at hSw); go_simp; first | done | with_reducible rfl); simp only [Act.put, List.setIfInBounds_toArray, List.set_cons_zero, List.set_cons_succ])
              (refine hd_take 19 (v := ?_) rfl (by kernel_rfl) (by kernel_rfl) (fun _ _ _ h => h) (by assumption) ?_ ?_; rotate_left; (intro w hSw; (try dsimp only at hSw); go_simp; first | done | with_reducible rfl); simp only [Act.put, List.setIfInBounds_toArray, List.set_cons_zero, List.set_cons_succ])
              (refine hd_take 20 (v := ?_) rfl (by kernel_rfl) (by kernel_rfl) (fun _ _ _ h => h) (by assumption) ?_ ?_; rotate_left; (intro w hSw; (try dsimp only at hSw); go_simp; first | done | with_reducible rfl); simp only [Act.put, List.setIfInBounds_toArray, List.set_cons_zero, List.set_cons_succ])
              refine wpAnyH_done (by kernel_rfl) ?_ _
              go_wp2
              go_roundw
              case rel => exact ⟨t + 1, hk1, hk2, rfl, ⟨by have := HT.out; omega⟩, HP⟩
              case measure => simp [intOf]; omega
            · rw [if_neg hb, Nat.add_zero] at hT
              have hne : (((b1.toNat : Nat) : Int) == ((b2.toNat : Nat) : Int)) = false := by
                rw [beq_eq_false_iff_ne]
                intro e
                exact hb (UInt8.toNat_inj.1 (by omega))
              have HTC := Aside0.mk hT
              clear hb hT
              go_wp2_with fail
              refine wp_region_held_drew (S := fun w' => w'.cell? ⟨x, 0, none⟩ = some (.string qk)) (by kernel_rfl) x0 (fun hHeld => ?_)
              (refine hd_take 0 (v := ?_) rfl (by kernel_rfl) (by kernel_rfl) (fun _ _ _ h => h) (by assumption) ?_ ?_; rotate_left; (intro w hSw; (try dsimp only at hSw); go_simp; first | done | with_reducible rfl); simp only [Act.put, List.setIfInBounds_toArray, List.set_cons_zero, List.set_cons_succ])
              (refine hd_take 1 (v := ?_) rfl (by kernel_rfl) (by kernel_rfl) (fun _ _ _ h => h) (by assumption) ?_ ?_; rotate_left; (intro w hSw; (try dsimp only at hSw); go_simp; first | done | with_reducible rfl); simp only [Act.put, List.setIfInBounds_toArray, List.set_cons_zero, List.set_cons_succ])
              (refine hd_take 2 (v := ?_) rfl (by kernel_rfl) (by kernel_rfl) (fun _ _ _ h => h) (by assumption) ?_ ?_; rotate_left; (intro w hSw; (try dsimp only at hSw); go_simp; first | done | with_reducible rfl); simp only [Act.put, List.setIfInBounds_toArray, List.set_cons_zero, List.set_cons_succ])
              (refine hd_take 3 (v := ?_) rfl (by kernel_rfl) (by kernel_rfl) (fun _ _ _ h => h) (by assumption) ?_ ?_; rotate_left; (intro w hSw; (try dsimp only at hSw); go_simp; first | done | with_reducible rfl); simp only [Act.put, List.setIfInBounds_toArray, List.set_cons_zero, List.set_cons_succ])
              (refine hd_take 4 (v := ?_) rfl (by kernel_rfl) (by kernel_rfl) (fun _ _ _ h => h) (by assumption) ?_ ?_; rotate_left; (intro w hSw; (try dsimp only at hSw); go_simp; first | done | with_reducible rfl); simp only [Act.put, List.setIfInBounds_toArray, List.set_cons_zero, List.set_cons_succ])
              (refine hd_take 5 (v := ?_) rfl (by kernel_rfl) (by kernel_rfl) (fun _ _ _ h => h) (by assumption) ?_ ?_; rotate_left; (intro w hSw; (try dsimp only at hSw); go_simp; first | done | with_reducible rfl); simp only [Act.put, List.setIfInBounds_toArray, List.set_cons_zero, List.set_cons_succ])
              (refine hd_take 6 (v := ?_) rfl (by kernel_rfl) (by kernel_rfl) (fun _ _ _ h => h) (by assumption) ?_ ?_; rotate_left; (intro w hSw; (try dsimp only at hSw); go_simp; first | done | with_reducible rfl); simp only [Act.put, List.setIfInBounds_toArray, List.set_cons_zero, List.set_cons_succ])
              (refine hd_take 7 (v := ?_) rfl (by kernel_rfl) (by kernel_rfl) (fun _ _ _ h => h) (by assumption) ?_ ?_; rotate_left; (intro w hSw; (try dsimp only at hSw); go_simp; first | done | with_reducible rfl); simp only [Act.put, List.setIfInBounds_toArray, List.set_cons_zero, List.set_cons_succ])
              (refine hd_take 8 (v := ?_) rfl (by kernel_rfl) (by kernel_rfl) (fun _ _ _ h => h) (by assumption) ?_ ?_; rotate_left; (intro w hSw; (try dsimp only at hSw); go_simp; first | done | with_reducible rfl); simp only [Act.put, List.setIfInBounds_toArray, List.set_cons_zero, List.set_cons_succ])
              (refine hd_take 9 (v := ?_) rfl (by kernel_rfl) (by kernel_rfl) (fun _ _ _ h => h) (by assumption) ?_ ?_; rotate_left; (intro w hSw; (try dsimp only at hSw); go_simp; first | done | with_reducible rfl); simp only [Act.put, List.setIfInBounds_toArray, List.set_cons_zero, List.set_cons_succ])
              (refine hd_take 10 (v := ?_) rfl (by kernel_rfl) (by kernel_rfl) (fun _ _ _ h => h) (by assumption) ?_ ?_; rotate_left; (intro w hSw; (try dsimp only at hSw); go_simp; first | done | with_reducible rfl); simp only [Act.put, List.setIfInBounds_toArray, List.set_cons_zero, List.set_cons_succ])
              (refine hd_take 11 (v := ?_) rfl (by kernel_rfl) (by kernel_rfl) (fun _ _ _ h => h) (by assumption) ?_ ?_; rotate_left; (intro w hSw; (try dsimp only at hSw); go_simp; first | done | with_reducible rfl); simp only [Act.put, List.setIfInBounds_toArray, List.set_cons_zero, List.set_cons_succ])
              (refine hd_take 12 (v := ?_) rfl (by kernel_rfl) (by kernel_rfl) (fun _ _ _ h => h) (by assumption) ?_ ?_; rotate_left; (intro w hSw; (try dsimp only at hSw); go_simp; first | done | with_reducible rfl); simp only [Act.put, List.setIfInBounds_toArray, List.set_cons_zero, List.set_cons_succ])
              (refine hd_take 13 (v := ?_) rfl (by kernel_rfl) (by kernel_rfl) (fun _ _ _ h => h) (by assumption) ?_ ?_; rotate_left; (intro w hSw; (try dsimp only at hSw); go_simp; first | done | with_reducible rfl); simp only [Act.put, List.setIfInBounds_toArray, List.set_cons_zero, List.set_cons_succ])
              (refine hd_take 14 (v := ?_) rfl (by kernel_rfl) (by kernel_rfl) (fun _ _ _ h => h) (by assumption) ?_ ?_; rotate_left; (intro w hSw; (try dsimp only at hSw); go_simp; first | done | with_reducible rfl); simp only [Act.put, List.setIfInBounds_toArray, List.set_cons_zero, List.set_cons_succ])
              (refine hd_take 15 (v := ?_) rfl (by kernel_rfl) (by kernel_rfl) (fun _ _ _ h => h) (by assumption) ?_ ?_; rotate_left; (intro w hSw; (try dsimp only at hSw); go_simp; first | done | with_reducible rfl); simp only [Act.put, List.setIfInBounds_toArray, List.set_cons_zero, List.set_cons_succ])
              (refine hd_take 16 (v := ?_) rfl (by kernel_rfl) (by kernel_rfl) (fun _ _ _ h => h) (by assumption) ?_ ?_; rotate_left; (intro w hSw; (try dsimp only at hSw); go_simp; first | done | with_reducible rfl); simp only [Act.put, List.setIfInBounds_toArray, List.set_cons_zero, List.set_cons_succ])
              (refine hd_take 17 (v := ?_) rfl (by kernel_rfl) (by kernel_rfl) (fun _ _ _ h => h) (by assumption) ?_ ?_; rotate_left; (intro w hSw; (try dsimp only at hSw); go_simp; first | done | with_reducible rfl); simp only [Act.put, List.setIfInBounds_toArray, List.set_cons_zero, List.set_cons_succ])
              (refine hd_take 18 (v := ?_) rfl (by kernel_rfl) (by kernel_rfl) (fun _ _ _ h => h) (by assumption) ?_ ?_; rotate_left; (intro w hSw; (try dsimp only at hSw); go_simp; first | done | with_reducible rfl); simp only [Act.put, List.setIfInBounds_toArray, List.set_cons_zero, List.set_cons_succ])
              (refine hd_take 19 (v := ?_) rfl (by kernel_rfl) (by kernel_rfl) (fun _ _ _ h => h) (by assumption) ?_ ?_; rotate_left; (intro w hSw; (try dsimp only at hSw); go_simp; first | done | with_reducible rfl); simp only [Act.put, List.setIfInBounds_toArray, List.set_cons_zero, List.set_cons_succ])
              (refine hd_take 20 (v := ?_) rfl (by kernel_rfl) (by kernel_rfl) (fun _ _ _ h => h) (by assumption) ?_ ?_; rotate_left; (intro w hSw; (try dsimp only at hSw); go_simp; first | done | with_reducible rfl); simp only [Act.put, List.setIfInBounds_toArray, List.set_cons_zero, List.set_cons_succ])
              refine wpAnyH_done (by kernel_rfl) ?_ _
              have hT := HTC.out
              subst hT
              clear HTC
              have ht92 : t ≤ 92 := by omega
              cases qg with
              | false =>
                have HGI : Aside0 (goneI false = 0) := ⟨rfl⟩
                obtain ⟨x0, x1, x2, x3, x4, x5, x6, x7⟩ := vr_cells (HP.out.2.1 _ List.mem_cons_self).2
                go_wp2_with fail
                (with_reducible refine (V.refput_calls (t : Int) _ (by omega)).mono ?_)
                rintro e w2 ⟨v2, rfl, hO2, hb2⟩
                obtain ⟨A2, c2, rfl, hc2, hC2⟩ := OB_readn hO2 1 (by rw [vput_small t (by omega)])
                have HC2 := Aside0.mk hC2
                have HPa := Aside0.mk (KP_step HP.out hb2)
                clear hC2 hO2 hb2 HP x0 x1 x2 x3 x4 x5 x6 x7
                go_wp2_with ((with_reducible refine gate_dst (N := 50) rfl ?_); refine app_bytes rfl rfl rfl rfl HPa.out.1 HC2.out HPa.out.2.2.size (by have := HM4.out; omega) ?_; intro v3 w3 hO3 hb3 hg3 hat3; have HPb := Aside0.mk (KP_app HPa.out hO3 hb3 hg3 hat3); obtain ⟨A3b, c3b, rfl, hc3b, -⟩ := OB_readn hO3 (m + 1) (by rw [List.length_append, HM4.out.1, vput_small t (by omega)]); obtain ⟨x0, x1, x2, x3, x4, x5, x6, x7⟩ := vr_cells (HPb.out.2.1 _ List.mem_cons_self).2; clear hO3 hb3 hg3 hat3)
                clear HPa HC2
                have hsf : SF.size ≤ 92 := HSF.out.2
                (with_reducible refine (V.reftext_calls SF _ (by omega)).mono ?_)
                rintro e w4 ⟨v4, rfl, hO4, hb4⟩
                obtain ⟨n4, hn4⟩ : ∃ n4, (V.vtext SF).length = n4 := ⟨_, rfl⟩
                have hn4l : n4 ≤ 110 := by rw [← hn4, V.vtext_len]; have := V.vput_le (SF.size : Int) (by omega); omega
                obtain ⟨A4, c4, rfl, hc4, hC4⟩ := OB_readn hO4 n4 hn4
                have HC4 := Aside0.mk hC4
                have HN4 := Aside0.mk hn4
                have HPc := Aside0.mk (KP_step HPb.out hb4)
                have hl4 : (Bs ++ V.vput (t : Int)).length ≤ 6000 := by rw [List.length_append, HM4.out.1, vput_small t (by omega)]; have := HM4.out.2; omega
                clear hC4 hO4 hb4 HPb hn4 x0 x1 x2 x3 x4 x5 x6 x7
                go_wp2_with ((with_reducible refine gate_dst (N := 57) rfl ?_); refine app_bytes rfl rfl rfl rfl HPc.out.1 HC4.out HPc.out.2.2.size (by omega) ?_; intro v5 w5 hO5 hb5 hg5 hat5; have HPd := Aside0.mk (KP_app HPc.out hO5 hb5 hg5 hat5); obtain ⟨A5, c5, rfl, hc5, -⟩ := OB_readn hO5 (m + 1 + n4) (by rw [List.length_append, List.length_append, HM4.out.1, HN4.out, vput_small t (by omega)]); obtain ⟨x0, x1, x2, x3, x4, x5, x6, x7⟩ := vr_cells (HPd.out.2.1 _ List.mem_cons_self).2; clear hO5 hb5 hg5 hat5)
                have HPe := Aside0.mk (KP_alloc HPd.out (.cells #[.int .i64 qbr, .int .i64 qep, .int .i64 qsq, .int .i64 qf, .int .i64 (qt - qf), .int .i64 0] 3))
                obtain ⟨w6, hw6⟩ : ∃ w6, w5.alloc (.cells #[.int .i64 qbr, .int .i64 qep, .int .i64 qsq, .int .i64 qf, .int .i64 (qt - qf), .int .i64 0] 3) = w6 := ⟨_, rfl⟩
                obtain ⟨y, hy⟩ : ∃ y, w5.heap.size = y := ⟨_, rfl⟩
                rw [hw6, hy] at HPe
                rw [hw6, hy]
                obtain ⟨L, hL⟩ : ∃ L, [qbr, qep, qsq, qf, qt - qf, 0] = L := ⟨_, rfl⟩
                have HLL : Aside0 (L.length = 6 ∧ (∀ z ∈ L, z ≤ 9223372036854775807)) := ⟨by
                  rw [← hL]
                  refine ⟨rfl, fun z hz => ?_⟩
                  simp only [List.mem_cons, List.not_mem_nil, or_false] at hz
                  rcases hz with rfl | rfl | rfl | rfl | rfl | rfl <;> omega⟩
                rw [show (Obj.cells #[.int .i64 qbr, .int .i64 qep, .int .i64 qsq, .int .i64 qf, .int .i64 (qt - qf), .int .i64 0] 3) = Obj.cells (L.map (Value.int .i64)).toArray 3 (0, 0) by rw [← hL]; rfl] at HPe
                have HLE := Aside0.mk hL
                have HHL : Aside0 (∀ j, ((L.take j).flatMap V.vput).length ≤ 54) := ⟨fun j => Nat.le_trans (flat_le V.vput L j) (by rw [← hL]; exact six_le _ _ _ _ _ _ (by omega) (by omega) (by omega) (by omega) (by omega) (by omega))⟩
                obtain ⟨B5, hB5⟩ : ∃ B5, (Bs ++ V.vput (t : Int)) ++ V.vtext SF = B5 := ⟨_, rfl⟩
                rw [hB5] at HPe
                have HB5 := Aside0.mk hB5
                have HM5 : Aside0 (B5.length = m + 1 + n4) := ⟨by rw [← hB5, List.length_append, List.length_append, HM4.out.1, HN4.out, vput_small t (by omega)]⟩
                have hm6 : m + 1 + n4 ≤ 5200 := by have := HM4.out.2; omega
                clear hL hw6 hy hB5 HPc HPd HC4 x0 x1 x2 x3 x4 x5 x6 x7
                go_wp2_with fail
                go_loopw [3, 10] (fun v3 v10 w' => ∃ j : Nat, j ≤ 6 ∧ v10 = .int .i64 j ∧ Aside0 (KP w v3 (B5 ++ (L.take j).flatMap V.vput) ((y, .cells (L.map (Value.int .i64)).toArray 3 (0, 0)) :: [(x, vrB ⟨qk, qbr, qep, qsq, qf, qt, qv, false⟩)]) w')) (fun _ v10 _ => 6 - (intOf v10).toNat)
                case atStart => exact ⟨0, by omega, rfl, ⟨by simpa using HPe.out⟩⟩
                case round =>
                  clear HPe
                  obtain ⟨j, hj, rfl, HJ⟩ := hrel
                  by_cases hj6 : j < 6
                  · have p0 := row_int (HJ.out.2.1 _ List.mem_cons_self).2 j (by rw [HLL.out.1]; exact hj6)
                    have hfl := flat_take V.vput L 0 j (by rw [HLL.out.1]; exact hj6)
                    have hmem : L.getD j 0 ≤ 9223372036854775807 := by
                      have e : L.getD j 0 = L[j]'(by rw [HLL.out.1]; exact hj6) := by simp [List.getD_eq_getElem?_getD, HLL.out.1, hj6]
                      rw [e]
                      exact HLL.out.2 _ (List.getElem_mem _)
                    have hll := HHL.out j
                    generalize L.getD j 0 = a at *
                    generalize (L.take j).flatMap V.vput = mid at *
                    have HFL := Aside0.mk hfl
                    have j1 : (0 : Int) ≤ (j : Int) := by omega
                    have j2 : (j : Int) < 6 := by omega
                    clear hfl
                    go_wp2_with fail
                    (with_reducible refine (V.refput_calls a _ hmem).mono ?_)
                    rintro e w7 ⟨v7, rfl, hO7, hb7⟩
                    have hvl := V.vput_le a hmem
                    obtain ⟨n7, hn7⟩ : ∃ n7, (V.vput a).length = n7 := ⟨_, rfl⟩
                    rw [hn7] at hvl
                    obtain ⟨A7, c7, rfl, hc7, hC7⟩ := OB_readn hO7 n7 hn7
                    have HC7 := Aside0.mk hC7
                    have HJ7 := Aside0.mk (KP_step HJ.out hb7)
                    clear hO7 hC7 hb7 HJ p0 hn7
                    go_wp2_with ((with_reducible refine gate_dst (N := 93) rfl ?_); refine app_bytes rfl rfl rfl rfl HJ7.out.1 HC7.out HJ7.out.2.2.size (by rw [List.length_append, HM5.out]; omega) ?_; intro v8 w8 hO8 hb8 hg8 hat8; have HJ8 := Aside0.mk (KP_app HJ7.out hO8 hb8 hg8 hat8); clear hO8 hb8 hg8 hat8)
                    go_roundw
                    case rel => exact ⟨j + 1, hj6, rfl, ⟨by rw [HFL.out, ← List.append_assoc]; exact HJ8.out⟩⟩
                    case measure => simp [intOf]; omega
                  · obtain rfl : j = 6 := by omega
                    have hta : L.take 6 = L := List.take_of_length_le (by rw [HLL.out.1]; omega)
                    have hJ := HJ.out
                    have hll := HHL.out 6
                    rw [hta] at hJ hll
                    have HK := Aside0.mk (KP_tail hJ)
                    have hm6l : (B5 ++ L.flatMap V.vput).length ≤ 6000 := by rw [List.length_append, HM5.out]; omega
                    obtain ⟨x0, x1, x2, x3, x4, x5, x6, x7⟩ := vr_cells (HK.out.2.1 _ List.mem_cons_self).2
                    clear hta hJ hll HJ
                    go_wp2_with fail
                    (with_reducible refine (V.reftext_calls qv _ (by omega)).mono ?_)
                    rintro e w7 ⟨v7, rfl, hO7, hb7⟩
                    obtain ⟨n7, hn7⟩ : ∃ n7, (V.vtext qv).length = n7 := ⟨_, rfl⟩
                    have hn7l : n7 ≤ 220 := by rw [← hn7, V.vtext_len]; have := V.vput_le (qv.size : Int) (by omega); omega
                    obtain ⟨A7, c7, rfl, hc7, hC7⟩ := OB_readn hO7 n7 hn7
                    have HC7 := Aside0.mk hC7
                    have HK7 := Aside0.mk (KP_step HK.out hb7)
                    clear hO7 hC7 hb7 HK hn7 x0 x1 x2 x3 x4 x5 x6 x7
                    go_wp2_with ((with_reducible refine gate_dst (N := 98) rfl ?_); refine app_bytes rfl rfl rfl rfl HK7.out.1 HC7.out HK7.out.2.2.size (by omega) ?_; intro v8 w8 hO8 hb8 hg8 hat8; have HK8 := Aside0.mk (KP_app HK7.out hO8 hb8 hg8 hat8); obtain ⟨x0, x1, x2, x3, x4, x5, x6, x7⟩ := vr_cells (HK8.out.2.1 _ List.mem_cons_self).2; clear hO8 hb8 hg8 hat8)
                    go_roundw
                    case rel =>
                      refine ⟨k + 1, hlt, rfl, ?_, ⟨KP_forget HK8.out ?_⟩⟩
                      · rw [HTK.out, lastK_snoc]
                      · rw [HTK.out, bytesW_snoc, HLK.out, ← List.append_assoc, HBB.out]
                        unfold bytesP
                        simp only
                        rw [HCN.out, HSF.out.1, HGI.out, HLE.out, ← HB5.out]
                        simp only [List.append_assoc]
                    case measure => simp [intOf]; omega
              | true =>
                have HGI : Aside0 (goneI true = 1) := ⟨rfl⟩
                obtain ⟨x0, x1, x2, x3, x4, x5, x6, x7⟩ := vr_cells (HP.out.2.1 _ List.mem_cons_self).2
                go_wp2_with fail
                (with_reducible refine (V.refput_calls (t : Int) _ (by omega)).mono ?_)
                rintro e w2 ⟨v2, rfl, hO2, hb2⟩
                obtain ⟨A2, c2, rfl, hc2, hC2⟩ := OB_readn hO2 1 (by rw [vput_small t (by omega)])
                have HC2 := Aside0.mk hC2
                have HPa := Aside0.mk (KP_step HP.out hb2)
                clear hC2 hO2 hb2 HP x0 x1 x2 x3 x4 x5 x6 x7
                go_wp2_with ((with_reducible refine gate_dst (N := 50) rfl ?_); refine app_bytes rfl rfl rfl rfl HPa.out.1 HC2.out HPa.out.2.2.size (by have := HM4.out; omega) ?_; intro v3 w3 hO3 hb3 hg3 hat3; have HPb := Aside0.mk (KP_app HPa.out hO3 hb3 hg3 hat3); obtain ⟨A3b, c3b, rfl, hc3b, -⟩ := OB_readn hO3 (m + 1) (by rw [List.length_append, HM4.out.1, vput_small t (by omega)]); obtain ⟨x0, x1, x2, x3, x4, x5, x6, x7⟩ := vr_cells (HPb.out.2.1 _ List.mem_cons_self).2; clear hO3 hb3 hg3 hat3)
                clear HPa HC2
                have hsf : SF.size ≤ 92 := HSF.out.2
                (with_reducible refine (V.reftext_calls SF _ (by omega)).mono ?_)
                rintro e w4 ⟨v4, rfl, hO4, hb4⟩
                obtain ⟨n4, hn4⟩ : ∃ n4, (V.vtext SF).length = n4 := ⟨_, rfl⟩
                have hn4l : n4 ≤ 110 := by rw [← hn4, V.vtext_len]; have := V.vput_le (SF.size : Int) (by omega); omega
                obtain ⟨A4, c4, rfl, hc4, hC4⟩ := OB_readn hO4 n4 hn4
                have HC4 := Aside0.mk hC4
                have HN4 := Aside0.mk hn4
                have HPc := Aside0.mk (KP_step HPb.out hb4)
                have hl4 : (Bs ++ V.vput (t : Int)).length ≤ 6000 := by rw [List.length_append, HM4.out.1, vput_small t (by omega)]; have := HM4.out.2; omega
                clear hC4 hO4 hb4 HPb hn4 x0 x1 x2 x3 x4 x5 x6 x7
                go_wp2_with ((with_reducible refine gate_dst (N := 57) rfl ?_); refine app_bytes rfl rfl rfl rfl HPc.out.1 HC4.out HPc.out.2.2.size (by omega) ?_; intro v5 w5 hO5 hb5 hg5 hat5; have HPd := Aside0.mk (KP_app HPc.out hO5 hb5 hg5 hat5); obtain ⟨A5, c5, rfl, hc5, -⟩ := OB_readn hO5 (m + 1 + n4) (by rw [List.length_append, List.length_append, HM4.out.1, HN4.out, vput_small t (by omega)]); obtain ⟨x0, x1, x2, x3, x4, x5, x6, x7⟩ := vr_cells (HPd.out.2.1 _ List.mem_cons_self).2; clear hO5 hb5 hg5 hat5)
                have HPe := Aside0.mk (KP_alloc HPd.out (.cells #[.int .i64 qbr, .int .i64 qep, .int .i64 qsq, .int .i64 qf, .int .i64 (qt - qf), .int .i64 1] 3))
                obtain ⟨w6, hw6⟩ : ∃ w6, w5.alloc (.cells #[.int .i64 qbr, .int .i64 qep, .int .i64 qsq, .int .i64 qf, .int .i64 (qt - qf), .int .i64 1] 3) = w6 := ⟨_, rfl⟩
                obtain ⟨y, hy⟩ : ∃ y, w5.heap.size = y := ⟨_, rfl⟩
                rw [hw6, hy] at HPe
                rw [hw6, hy]
                obtain ⟨L, hL⟩ : ∃ L, [qbr, qep, qsq, qf, qt - qf, 1] = L := ⟨_, rfl⟩
                have HLL : Aside0 (L.length = 6 ∧ (∀ z ∈ L, z ≤ 9223372036854775807)) := ⟨by
                  rw [← hL]
                  refine ⟨rfl, fun z hz => ?_⟩
                  simp only [List.mem_cons, List.not_mem_nil, or_false] at hz
                  rcases hz with rfl | rfl | rfl | rfl | rfl | rfl <;> omega⟩
                rw [show (Obj.cells #[.int .i64 qbr, .int .i64 qep, .int .i64 qsq, .int .i64 qf, .int .i64 (qt - qf), .int .i64 1] 3) = Obj.cells (L.map (Value.int .i64)).toArray 3 (0, 0) by rw [← hL]; rfl] at HPe
                have HLE := Aside0.mk hL
                have HHL : Aside0 (∀ j, ((L.take j).flatMap V.vput).length ≤ 54) := ⟨fun j => Nat.le_trans (flat_le V.vput L j) (by rw [← hL]; exact six_le _ _ _ _ _ _ (by omega) (by omega) (by omega) (by omega) (by omega) (by omega))⟩
                obtain ⟨B5, hB5⟩ : ∃ B5, (Bs ++ V.vput (t : Int)) ++ V.vtext SF = B5 := ⟨_, rfl⟩
                rw [hB5] at HPe
                have HB5 := Aside0.mk hB5
                have HM5 : Aside0 (B5.length = m + 1 + n4) := ⟨by rw [← hB5, List.length_append, List.length_append, HM4.out.1, HN4.out, vput_small t (by omega)]⟩
                have hm6 : m + 1 + n4 ≤ 5200 := by have := HM4.out.2; omega
                clear hL hw6 hy hB5 HPc HPd HC4 x0 x1 x2 x3 x4 x5 x6 x7
                go_wp2_with fail
                go_loopw [3, 10] (fun v3 v10 w' => ∃ j : Nat, j ≤ 6 ∧ v10 = .int .i64 j ∧ Aside0 (KP w v3 (B5 ++ (L.take j).flatMap V.vput) ((y, .cells (L.map (Value.int .i64)).toArray 3 (0, 0)) :: [(x, vrB ⟨qk, qbr, qep, qsq, qf, qt, qv, true⟩)]) w')) (fun _ v10 _ => 6 - (intOf v10).toNat)
                case atStart => exact ⟨0, by omega, rfl, ⟨by simpa using HPe.out⟩⟩
                case round =>
                  clear HPe
                  obtain ⟨j, hj, rfl, HJ⟩ := hrel
                  by_cases hj6 : j < 6
                  · have p0 := row_int (HJ.out.2.1 _ List.mem_cons_self).2 j (by rw [HLL.out.1]; exact hj6)
                    have hfl := flat_take V.vput L 0 j (by rw [HLL.out.1]; exact hj6)
                    have hmem : L.getD j 0 ≤ 9223372036854775807 := by
                      have e : L.getD j 0 = L[j]'(by rw [HLL.out.1]; exact hj6) := by simp [List.getD_eq_getElem?_getD, HLL.out.1, hj6]
                      rw [e]
                      exact HLL.out.2 _ (List.getElem_mem _)
                    have hll := HHL.out j
                    generalize L.getD j 0 = a at *
                    generalize (L.take j).flatMap V.vput = mid at *
                    have HFL := Aside0.mk hfl
                    have j1 : (0 : Int) ≤ (j : Int) := by omega
                    have j2 : (j : Int) < 6 := by omega
                    clear hfl
                    go_wp2_with fail
                    (with_reducible refine (V.refput_calls a _ hmem).mono ?_)
                    rintro e w7 ⟨v7, rfl, hO7, hb7⟩
                    have hvl := V.vput_le a hmem
                    obtain ⟨n7, hn7⟩ : ∃ n7, (V.vput a).length = n7 := ⟨_, rfl⟩
                    rw [hn7] at hvl
                    obtain ⟨A7, c7, rfl, hc7, hC7⟩ := OB_readn hO7 n7 hn7
                    have HC7 := Aside0.mk hC7
                    have HJ7 := Aside0.mk (KP_step HJ.out hb7)
                    clear hO7 hC7 hb7 HJ p0 hn7
                    go_wp2_with ((with_reducible refine gate_dst (N := 93) rfl ?_); refine app_bytes rfl rfl rfl rfl HJ7.out.1 HC7.out HJ7.out.2.2.size (by rw [List.length_append, HM5.out]; omega) ?_; intro v8 w8 hO8 hb8 hg8 hat8; have HJ8 := Aside0.mk (KP_app HJ7.out hO8 hb8 hg8 hat8); clear hO8 hb8 hg8 hat8)
                    go_roundw
                    case rel => exact ⟨j + 1, hj6, rfl, ⟨by rw [HFL.out, ← List.append_assoc]; exact HJ8.out⟩⟩
                    case measure => simp [intOf]; omega
                  · obtain rfl : j = 6 := by omega
                    have hta : L.take 6 = L := List.take_of_length_le (by rw [HLL.out.1]; omega)
                    have hJ := HJ.out
                    have hll := HHL.out 6
                    rw [hta] at hJ hll
                    have HK := Aside0.mk (KP_tail hJ)
                    have hm6l : (B5 ++ L.flatMap V.vput).length ≤ 6000 := by rw [List.length_append, HM5.out]; omega
                    obtain ⟨x0, x1, x2, x3, x4, x5, x6, x7⟩ := vr_cells (HK.out.2.1 _ List.mem_cons_self).2
                    clear hta hJ hll HJ
                    go_wp2_with fail
                    (with_reducible refine (V.reftext_calls qv _ (by omega)).mono ?_)
                    rintro e w7 ⟨v7, rfl, hO7, hb7⟩
                    obtain ⟨n7, hn7⟩ : ∃ n7, (V.vtext qv).length = n7 := ⟨_, rfl⟩
                    have hn7l : n7 ≤ 220 := by rw [← hn7, V.vtext_len]; have := V.vput_le (qv.size : Int) (by omega); omega
                    obtain ⟨A7, c7, rfl, hc7, hC7⟩ := OB_readn hO7 n7 hn7
                    have HC7 := Aside0.mk hC7
                    have HK7 := Aside0.mk (KP_step HK.out hb7)
                    clear hO7 hC7 hb7 HK hn7 x0 x1 x2 x3 x4 x5 x6 x7
                    go_wp2_with ((with_reducible refine gate_dst (N := 98) rfl ?_); refine app_bytes rfl rfl rfl rfl HK7.out.1 HC7.out HK7.out.2.2.size (by omega) ?_; intro v8 w8 hO8 hb8 hg8 hat8; have HK8 := Aside0.mk (KP_app HK7.out hO8 hb8 hg8 hat8); obtain ⟨x0, x1, x2, x3, x4, x5, x6, x7⟩ := vr_cells (HK8.out.2.1 _ List.mem_cons_self).2; clear hO8 hb8 hg8 hat8)
                    go_roundw
                    case rel =>
                      refine ⟨k + 1, hlt, rfl, ?_, ⟨KP_forget HK8.out ?_⟩⟩
                      · rw [HTK.out, lastK_snoc]
                      · rw [HTK.out, bytesW_snoc, HLK.out, ← List.append_assoc, HBB.out]
                        unfold bytesP
                        simp only
                        rw [HCN.out, HSF.out.1, HGI.out, HLE.out, ← HB5.out]
                        simp only [List.append_assoc]
                    case measure => simp [intOf]; omega
          · have j2 : ¬ (t : Int) < (qk.size : Int) := by omega
            have hT := HT.out
            rw [com_out (.inr (by omega)), Nat.add_zero] at hT
            have HTC := Aside0.mk hT
            clear HT hT
            go_wp2_with fail
            refine wp_region_held_drew (S := fun w' => w'.cell? ⟨x, 0, none⟩ = some (.string qk)) (by kernel_rfl) x0 (fun hHeld => ?_)
            (refine hd_take 0 (v := ?_) rfl (by kernel_rfl) (by kernel_rfl) (fun _ _ _ h => h) (by assumption) ?_ ?_; rotate_left; (intro w hSw; (try dsimp only at hSw); go_simp; first | done | with_reducible rfl); simp only [Act.put, List.setIfInBounds_toArray, List.set_cons_zero, List.set_cons_succ])
            (refine hd_take 1 (v := ?_) rfl (by kernel_rfl) (by kernel_rfl) (fun _ _ _ h => h) (by assumption) ?_ ?_; rotate_left; (intro w hSw; (try dsimp only at hSw); go_simp; first | done | with_reducible rfl); simp only [Act.put, List.setIfInBounds_toArray, List.set_cons_zero, List.set_cons_succ])
            (refine hd_take 2 (v := ?_) rfl (by kernel_rfl) (by kernel_rfl) (fun _ _ _ h => h) (by assumption) ?_ ?_; rotate_left; (intro w hSw; (try dsimp only at hSw); go_simp; first | done | with_reducible rfl); simp only [Act.put, List.setIfInBounds_toArray, List.set_cons_zero, List.set_cons_succ])
            (refine hd_take 3 (v := ?_) rfl (by kernel_rfl) (by kernel_rfl) (fun _ _ _ h => h) (by assumption) ?_ ?_; rotate_left; (intro w hSw; (try dsimp only at hSw); go_simp; first | done | with_reducible rfl); simp only [Act.put, List.setIfInBounds_toArray, List.set_cons_zero, List.set_cons_succ])
            (refine hd_take 4 (v := ?_) rfl (by kernel_rfl) (by kernel_rfl) (fun _ _ _ h => h) (by assumption) ?_ ?_; rotate_left; (intro w hSw; (try dsimp only at hSw); go_simp; first | done | with_reducible rfl); simp only [Act.put, List.setIfInBounds_toArray, List.set_cons_zero, List.set_cons_succ])
            (refine hd_take 5 (v := ?_) rfl (by kernel_rfl) (by kernel_rfl) (fun _ _ _ h => h) (by assumption) ?_ ?_; rotate_left; (intro w hSw; (try dsimp only at hSw); go_simp; first | done | with_reducible rfl); simp only [Act.put, List.setIfInBounds_toArray, List.set_cons_zero, List.set_cons_succ])
            (refine hd_take 6 (v := ?_) rfl (by kernel_rfl) (by kernel_rfl) (fun _ _ _ h => h) (by assumption) ?_ ?_; rotate_left; (intro w hSw; (try dsimp only at hSw); go_simp; first | done | with_reducible rfl); simp only [Act.put, List.setIfInBounds_toArray, List.set_cons_zero, List.set_cons_succ])
            (refine hd_take 7 (v := ?_) rfl (by kernel_rfl) (by kernel_rfl) (fun _ _ _ h => h) (by assumption) ?_ ?_; rotate_left; (intro w hSw; (try dsimp only at hSw); go_simp; first | done | with_reducible rfl); simp only [Act.put, List.setIfInBounds_toArray, List.set_cons_zero, List.set_cons_succ])
            (refine hd_take 8 (v := ?_) rfl (by kernel_rfl) (by kernel_rfl) (fun _ _ _ h => h) (by assumption) ?_ ?_; rotate_left; (intro w hSw; (try dsimp only at hSw); go_simp; first | done | with_reducible rfl); simp only [Act.put, List.setIfInBounds_toArray, List.set_cons_zero, List.set_cons_succ])
            (refine hd_take 9 (v := ?_) rfl (by kernel_rfl) (by kernel_rfl) (fun _ _ _ h => h) (by assumption) ?_ ?_; rotate_left; (intro w hSw; (try dsimp only at hSw); go_simp; first | done | with_reducible rfl); simp only [Act.put, List.setIfInBounds_toArray, List.set_cons_zero, List.set_cons_succ])
            (refine hd_take 10 (v := ?_) rfl (by kernel_rfl) (by kernel_rfl) (fun _ _ _ h => h) (by assumption) ?_ ?_; rotate_left; (intro w hSw; (try dsimp only at hSw); go_simp; first | done | with_reducible rfl); simp only [Act.put, List.setIfInBounds_toArray, List.set_cons_zero, List.set_cons_succ])
            (refine hd_take 11 (v := ?_) rfl (by kernel_rfl) (by kernel_rfl) (fun _ _ _ h => h) (by assumption) ?_ ?_; rotate_left; (intro w hSw; (try dsimp only at hSw); go_simp; first | done | with_reducible rfl); simp only [Act.put, List.setIfInBounds_toArray, List.set_cons_zero, List.set_cons_succ])
            (refine hd_skip 12 rfl (by kernel_rfl) (by kernel_rfl) (fun _ _ _ h => h) (by assumption) ?_; simp only [Act.put, List.setIfInBounds_toArray, List.set_cons_zero, List.set_cons_succ])
            (refine hd_skip 13 rfl (by kernel_rfl) (by kernel_rfl) (fun _ _ _ h => h) (by assumption) ?_; simp only [Act.put, List.setIfInBounds_toArray, List.set_cons_zero, List.set_cons_succ])
            (refine hd_skip 14 rfl (by kernel_rfl) (by kernel_rfl) (fun _ _ _ h => h) (by assumption) ?_; simp only [Act.put, List.setIfInBounds_toArray, List.set_cons_zero, List.set_cons_succ])
            (refine hd_skip 15 rfl (by kernel_rfl) (by kernel_rfl) (fun _ _ _ h => h) (by assumption) ?_; simp only [Act.put, List.setIfInBounds_toArray, List.set_cons_zero, List.set_cons_succ])
            (refine hd_skip 16 rfl (by kernel_rfl) (by kernel_rfl) (fun _ _ _ h => h) (by assumption) ?_; simp only [Act.put, List.setIfInBounds_toArray, List.set_cons_zero, List.set_cons_succ])
            (refine hd_skip 17 rfl (by kernel_rfl) (by kernel_rfl) (fun _ _ _ h => h) (by assumption) ?_; simp only [Act.put, List.setIfInBounds_toArray, List.set_cons_zero, List.set_cons_succ])
            (refine hd_skip 18 rfl (by kernel_rfl) (by kernel_rfl) (fun _ _ _ h => h) (by assumption) ?_; simp only [Act.put, List.setIfInBounds_toArray, List.set_cons_zero, List.set_cons_succ])
            (refine hd_skip 19 rfl (by kernel_rfl) (by kernel_rfl) (fun _ _ _ h => h) (by assumption) ?_; simp only [Act.put, List.setIfInBounds_toArray, List.set_cons_zero, List.set_cons_succ])
            (refine hd_take 20 (v := ?_) rfl (by kernel_rfl) (by kernel_rfl) (fun _ _ _ h => h) (by assumption) ?_ ?_; rotate_left; (intro w hSw; (try dsimp only at hSw); go_simp; first | done | with_reducible rfl); simp only [Act.put, List.setIfInBounds_toArray, List.set_cons_zero, List.set_cons_succ])
            refine wpAnyH_done (by kernel_rfl) ?_ _
            have hT := HTC.out
            subst hT
            clear HTC
            have ht92 : t ≤ 92 := by omega
            cases qg with
            | false =>
              have HGI : Aside0 (goneI false = 0) := ⟨rfl⟩
              obtain ⟨x0, x1, x2, x3, x4, x5, x6, x7⟩ := vr_cells (HP.out.2.1 _ List.mem_cons_self).2
              go_wp2_with fail
              (with_reducible refine (V.refput_calls (t : Int) _ (by omega)).mono ?_)
              rintro e w2 ⟨v2, rfl, hO2, hb2⟩
              obtain ⟨A2, c2, rfl, hc2, hC2⟩ := OB_readn hO2 1 (by rw [vput_small t (by omega)])
              have HC2 := Aside0.mk hC2
              have HPa := Aside0.mk (KP_step HP.out hb2)
              clear hC2 hO2 hb2 HP x0 x1 x2 x3 x4 x5 x6 x7
              go_wp2_with ((with_reducible refine gate_dst (N := 50) rfl ?_); refine app_bytes rfl rfl rfl rfl HPa.out.1 HC2.out HPa.out.2.2.size (by have := HM4.out; omega) ?_; intro v3 w3 hO3 hb3 hg3 hat3; have HPb := Aside0.mk (KP_app HPa.out hO3 hb3 hg3 hat3); obtain ⟨A3b, c3b, rfl, hc3b, -⟩ := OB_readn hO3 (m + 1) (by rw [List.length_append, HM4.out.1, vput_small t (by omega)]); obtain ⟨x0, x1, x2, x3, x4, x5, x6, x7⟩ := vr_cells (HPb.out.2.1 _ List.mem_cons_self).2; clear hO3 hb3 hg3 hat3)
              clear HPa HC2
              have hsf : SF.size ≤ 92 := HSF.out.2
              (with_reducible refine (V.reftext_calls SF _ (by omega)).mono ?_)
              rintro e w4 ⟨v4, rfl, hO4, hb4⟩
              obtain ⟨n4, hn4⟩ : ∃ n4, (V.vtext SF).length = n4 := ⟨_, rfl⟩
              have hn4l : n4 ≤ 110 := by rw [← hn4, V.vtext_len]; have := V.vput_le (SF.size : Int) (by omega); omega
              obtain ⟨A4, c4, rfl, hc4, hC4⟩ := OB_readn hO4 n4 hn4
              have HC4 := Aside0.mk hC4
              have HN4 := Aside0.mk hn4
              have HPc := Aside0.mk (KP_step HPb.out hb4)
              have hl4 : (Bs ++ V.vput (t : Int)).length ≤ 6000 := by rw [List.length_append, HM4.out.1, vput_small t (by omega)]; have := HM4.out.2; omega
              clear hC4 hO4 hb4 HPb hn4 x0 x1 x2 x3 x4 x5 x6 x7
              go_wp2_with ((with_reducible refine gate_dst (N := 57) rfl ?_); refine app_bytes rfl rfl rfl rfl HPc.out.1 HC4.out HPc.out.2.2.size (by omega) ?_; intro v5 w5 hO5 hb5 hg5 hat5; have HPd := Aside0.mk (KP_app HPc.out hO5 hb5 hg5 hat5); obtain ⟨A5, c5, rfl, hc5, -⟩ := OB_readn hO5 (m + 1 + n4) (by rw [List.length_append, List.length_append, HM4.out.1, HN4.out, vput_small t (by omega)]); obtain ⟨x0, x1, x2, x3, x4, x5, x6, x7⟩ := vr_cells (HPd.out.2.1 _ List.mem_cons_self).2; clear hO5 hb5 hg5 hat5)
              have HPe := Aside0.mk (KP_alloc HPd.out (.cells #[.int .i64 qbr, .int .i64 qep, .int .i64 qsq, .int .i64 qf, .int .i64 (qt - qf), .int .i64 0] 3))
              obtain ⟨w6, hw6⟩ : ∃ w6, w5.alloc (.cells #[.int .i64 qbr, .int .i64 qep, .int .i64 qsq, .int .i64 qf, .int .i64 (qt - qf), .int .i64 0] 3) = w6 := ⟨_, rfl⟩
              obtain ⟨y, hy⟩ : ∃ y, w5.heap.size = y := ⟨_, rfl⟩
              rw [hw6, hy] at HPe
              rw [hw6, hy]
              obtain ⟨L, hL⟩ : ∃ L, [qbr, qep, qsq, qf, qt - qf, 0] = L := ⟨_, rfl⟩
              have HLL : Aside0 (L.length = 6 ∧ (∀ z ∈ L, z ≤ 9223372036854775807)) := ⟨by
                rw [← hL]
                refine ⟨rfl, fun z hz => ?_⟩
                simp only [List.mem_cons, List.not_mem_nil, or_false] at hz
                rcases hz with rfl | rfl | rfl | rfl | rfl | rfl <;> omega⟩
              rw [show (Obj.cells #[.int .i64 qbr, .int .i64 qep, .int .i64 qsq, .int .i64 qf, .int .i64 (qt - qf), .int .i64 0] 3) = Obj.cells (L.map (Value.int .i64)).toArray 3 (0, 0) by rw [← hL]; rfl] at HPe
              have HLE := Aside0.mk hL
              have HHL : Aside0 (∀ j, ((L.take j).flatMap V.vput).length ≤ 54) := ⟨fun j => Nat.le_trans (flat_le V.vput L j) (by rw [← hL]; exact six_le _ _ _ _ _ _ (by omega) (by omega) (by omega) (by omega) (by omega) (by omega))⟩
              obtain ⟨B5, hB5⟩ : ∃ B5, (Bs ++ V.vput (t : Int)) ++ V.vtext SF = B5 := ⟨_, rfl⟩
              rw [hB5] at HPe
              have HB5 := Aside0.mk hB5
              have HM5 : Aside0 (B5.length = m + 1 + n4) := ⟨by rw [← hB5, List.length_append, List.length_append, HM4.out.1, HN4.out, vput_small t (by omega)]⟩
              have hm6 : m + 1 + n4 ≤ 5200 := by have := HM4.out.2; omega
              clear hL hw6 hy hB5 HPc HPd HC4 x0 x1 x2 x3 x4 x5 x6 x7
              go_wp2_with fail
              go_loopw [3, 10] (fun v3 v10 w' => ∃ j : Nat, j ≤ 6 ∧ v10 = .int .i64 j ∧ Aside0 (KP w v3 (B5 ++ (L.take j).flatMap V.vput) ((y, .cells (L.map (Value.int .i64)).toArray 3 (0, 0)) :: [(x, vrB ⟨qk, qbr, qep, qsq, qf, qt, qv, false⟩)]) w')) (fun _ v10 _ => 6 - (intOf v10).toNat)
              case atStart => exact ⟨0, by omega, rfl, ⟨by simpa using HPe.out⟩⟩
              case round =>
                clear HPe
                obtain ⟨j, hj, rfl, HJ⟩ := hrel
                by_cases hj6 : j < 6
                · have p0 := row_int (HJ.out.2.1 _ List.mem_cons_self).2 j (by rw [HLL.out.1]; exact hj6)
                  have hfl := flat_take V.vput L 0 j (by rw [HLL.out.1]; exact hj6)
                  have hmem : L.getD j 0 ≤ 9223372036854775807 := by
                    have e : L.getD j 0 = L[j]'(by rw [HLL.out.1]; exact hj6) := by simp [List.getD_eq_getElem?_getD, HLL.out.1, hj6]
                    rw [e]
                    exact HLL.out.2 _ (List.getElem_mem _)
                  have hll := HHL.out j
                  generalize L.getD j 0 = a at *
                  generalize (L.take j).flatMap V.vput = mid at *
                  have HFL := Aside0.mk hfl
                  have j1 : (0 : Int) ≤ (j : Int) := by omega
                  have j2 : (j : Int) < 6 := by omega
                  clear hfl
                  go_wp2_with fail
                  (with_reducible refine (V.refput_calls a _ hmem).mono ?_)
                  rintro e w7 ⟨v7, rfl, hO7, hb7⟩
                  have hvl := V.vput_le a hmem
                  obtain ⟨n7, hn7⟩ : ∃ n7, (V.vput a).length = n7 := ⟨_, rfl⟩
                  rw [hn7] at hvl
                  obtain ⟨A7, c7, rfl, hc7, hC7⟩ := OB_readn hO7 n7 hn7
                  have HC7 := Aside0.mk hC7
                  have HJ7 := Aside0.mk (KP_step HJ.out hb7)
                  clear hO7 hC7 hb7 HJ p0 hn7
                  go_wp2_with ((with_reducible refine gate_dst (N := 93) rfl ?_); refine app_bytes rfl rfl rfl rfl HJ7.out.1 HC7.out HJ7.out.2.2.size (by rw [List.length_append, HM5.out]; omega) ?_; intro v8 w8 hO8 hb8 hg8 hat8; have HJ8 := Aside0.mk (KP_app HJ7.out hO8 hb8 hg8 hat8); clear hO8 hb8 hg8 hat8)
                  go_roundw
                  case rel => exact ⟨j + 1, hj6, rfl, ⟨by rw [HFL.out, ← List.append_assoc]; exact HJ8.out⟩⟩
                  case measure => simp [intOf]; omega
                · obtain rfl : j = 6 := by omega
                  have hta : L.take 6 = L := List.take_of_length_le (by rw [HLL.out.1]; omega)
                  have hJ := HJ.out
                  have hll := HHL.out 6
                  rw [hta] at hJ hll
                  have HK := Aside0.mk (KP_tail hJ)
                  have hm6l : (B5 ++ L.flatMap V.vput).length ≤ 6000 := by rw [List.length_append, HM5.out]; omega
                  obtain ⟨x0, x1, x2, x3, x4, x5, x6, x7⟩ := vr_cells (HK.out.2.1 _ List.mem_cons_self).2
                  clear hta hJ hll HJ
                  go_wp2_with fail
                  (with_reducible refine (V.reftext_calls qv _ (by omega)).mono ?_)
                  rintro e w7 ⟨v7, rfl, hO7, hb7⟩
                  obtain ⟨n7, hn7⟩ : ∃ n7, (V.vtext qv).length = n7 := ⟨_, rfl⟩
                  have hn7l : n7 ≤ 220 := by rw [← hn7, V.vtext_len]; have := V.vput_le (qv.size : Int) (by omega); omega
                  obtain ⟨A7, c7, rfl, hc7, hC7⟩ := OB_readn hO7 n7 hn7
                  have HC7 := Aside0.mk hC7
                  have HK7 := Aside0.mk (KP_step HK.out hb7)
                  clear hO7 hC7 hb7 HK hn7 x0 x1 x2 x3 x4 x5 x6 x7
                  go_wp2_with ((with_reducible refine gate_dst (N := 98) rfl ?_); refine app_bytes rfl rfl rfl rfl HK7.out.1 HC7.out HK7.out.2.2.size (by omega) ?_; intro v8 w8 hO8 hb8 hg8 hat8; have HK8 := Aside0.mk (KP_app HK7.out hO8 hb8 hg8 hat8); obtain ⟨x0, x1, x2, x3, x4, x5, x6, x7⟩ := vr_cells (HK8.out.2.1 _ List.mem_cons_self).2; clear hO8 hb8 hg8 hat8)
                  go_roundw
                  case rel =>
                    refine ⟨k + 1, hlt, rfl, ?_, ⟨KP_forget HK8.out ?_⟩⟩
                    · rw [HTK.out, lastK_snoc]
                    · rw [HTK.out, bytesW_snoc, HLK.out, ← List.append_assoc, HBB.out]
                      unfold bytesP
                      simp only
                      rw [HCN.out, HSF.out.1, HGI.out, HLE.out, ← HB5.out]
                      simp only [List.append_assoc]
                  case measure => simp [intOf]; omega
            | true =>
              have HGI : Aside0 (goneI true = 1) := ⟨rfl⟩
              obtain ⟨x0, x1, x2, x3, x4, x5, x6, x7⟩ := vr_cells (HP.out.2.1 _ List.mem_cons_self).2
              go_wp2_with fail
              (with_reducible refine (V.refput_calls (t : Int) _ (by omega)).mono ?_)
              rintro e w2 ⟨v2, rfl, hO2, hb2⟩
              obtain ⟨A2, c2, rfl, hc2, hC2⟩ := OB_readn hO2 1 (by rw [vput_small t (by omega)])
              have HC2 := Aside0.mk hC2
              have HPa := Aside0.mk (KP_step HP.out hb2)
              clear hC2 hO2 hb2 HP x0 x1 x2 x3 x4 x5 x6 x7
              go_wp2_with ((with_reducible refine gate_dst (N := 50) rfl ?_); refine app_bytes rfl rfl rfl rfl HPa.out.1 HC2.out HPa.out.2.2.size (by have := HM4.out; omega) ?_; intro v3 w3 hO3 hb3 hg3 hat3; have HPb := Aside0.mk (KP_app HPa.out hO3 hb3 hg3 hat3); obtain ⟨A3b, c3b, rfl, hc3b, -⟩ := OB_readn hO3 (m + 1) (by rw [List.length_append, HM4.out.1, vput_small t (by omega)]); obtain ⟨x0, x1, x2, x3, x4, x5, x6, x7⟩ := vr_cells (HPb.out.2.1 _ List.mem_cons_self).2; clear hO3 hb3 hg3 hat3)
              clear HPa HC2
              have hsf : SF.size ≤ 92 := HSF.out.2
              (with_reducible refine (V.reftext_calls SF _ (by omega)).mono ?_)
              rintro e w4 ⟨v4, rfl, hO4, hb4⟩
              obtain ⟨n4, hn4⟩ : ∃ n4, (V.vtext SF).length = n4 := ⟨_, rfl⟩
              have hn4l : n4 ≤ 110 := by rw [← hn4, V.vtext_len]; have := V.vput_le (SF.size : Int) (by omega); omega
              obtain ⟨A4, c4, rfl, hc4, hC4⟩ := OB_readn hO4 n4 hn4
              have HC4 := Aside0.mk hC4
              have HN4 := Aside0.mk hn4
              have HPc := Aside0.mk (KP_step HPb.out hb4)
              have hl4 : (Bs ++ V.vput (t : Int)).length ≤ 6000 := by rw [List.length_append, HM4.out.1, vput_small t (by omega)]; have := HM4.out.2; omega
              clear hC4 hO4 hb4 HPb hn4 x0 x1 x2 x3 x4 x5 x6 x7
              go_wp2_with ((with_reducible refine gate_dst (N := 57) rfl ?_); refine app_bytes rfl rfl rfl rfl HPc.out.1 HC4.out HPc.out.2.2.size (by omega) ?_; intro v5 w5 hO5 hb5 hg5 hat5; have HPd := Aside0.mk (KP_app HPc.out hO5 hb5 hg5 hat5); obtain ⟨A5, c5, rfl, hc5, -⟩ := OB_readn hO5 (m + 1 + n4) (by rw [List.length_append, List.length_append, HM4.out.1, HN4.out, vput_small t (by omega)]); obtain ⟨x0, x1, x2, x3, x4, x5, x6, x7⟩ := vr_cells (HPd.out.2.1 _ List.mem_cons_self).2; clear hO5 hb5 hg5 hat5)
              have HPe := Aside0.mk (KP_alloc HPd.out (.cells #[.int .i64 qbr, .int .i64 qep, .int .i64 qsq, .int .i64 qf, .int .i64 (qt - qf), .int .i64 1] 3))
              obtain ⟨w6, hw6⟩ : ∃ w6, w5.alloc (.cells #[.int .i64 qbr, .int .i64 qep, .int .i64 qsq, .int .i64 qf, .int .i64 (qt - qf), .int .i64 1] 3) = w6 := ⟨_, rfl⟩
              obtain ⟨y, hy⟩ : ∃ y, w5.heap.size = y := ⟨_, rfl⟩
              rw [hw6, hy] at HPe
              rw [hw6, hy]
              obtain ⟨L, hL⟩ : ∃ L, [qbr, qep, qsq, qf, qt - qf, 1] = L := ⟨_, rfl⟩
              have HLL : Aside0 (L.length = 6 ∧ (∀ z ∈ L, z ≤ 9223372036854775807)) := ⟨by
                rw [← hL]
                refine ⟨rfl, fun z hz => ?_⟩
                simp only [List.mem_cons, List.not_mem_nil, or_false] at hz
                rcases hz with rfl | rfl | rfl | rfl | rfl | rfl <;> omega⟩
              rw [show (Obj.cells #[.int .i64 qbr, .int .i64 qep, .int .i64 qsq, .int .i64 qf, .int .i64 (qt - qf), .int .i64 1] 3) = Obj.cells (L.map (Value.int .i64)).toArray 3 (0, 0) by rw [← hL]; rfl] at HPe
              have HLE := Aside0.mk hL
              have HHL : Aside0 (∀ j, ((L.take j).flatMap V.vput).length ≤ 54) := ⟨fun j => Nat.le_trans (flat_le V.vput L j) (by rw [← hL]; exact six_le _ _ _ _ _ _ (by omega) (by omega) (by omega) (by omega) (by omega) (by omega))⟩
              obtain ⟨B5, hB5⟩ : ∃ B5, (Bs ++ V.vput (t : Int)) ++ V.vtext SF = B5 := ⟨_, rfl⟩
              rw [hB5] at HPe
              have HB5 := Aside0.mk hB5
              have HM5 : Aside0 (B5.length = m + 1 + n4) := ⟨by rw [← hB5, List.length_append, List.length_append, HM4.out.1, HN4.out, vput_small t (by omega)]⟩
              have hm6 : m + 1 + n4 ≤ 5200 := by have := HM4.out.2; omega
              clear hL hw6 hy hB5 HPc HPd HC4 x0 x1 x2 x3 x4 x5 x6 x7
              go_wp2_with fail
              go_loopw [3, 10] (fun v3 v10 w' => ∃ j : Nat, j ≤ 6 ∧ v10 = .int .i64 j ∧ Aside0 (KP w v3 (B5 ++ (L.take j).flatMap V.vput) ((y, .cells (L.map (Value.int .i64)).toArray 3 (0, 0)) :: [(x, vrB ⟨qk, qbr, qep, qsq, qf, qt, qv, true⟩)]) w')) (fun _ v10 _ => 6 - (intOf v10).toNat)
              case atStart => exact ⟨0, by omega, rfl, ⟨by simpa using HPe.out⟩⟩
              case round =>
                clear HPe
                obtain ⟨j, hj, rfl, HJ⟩ := hrel
                by_cases hj6 : j < 6
                · have p0 := row_int (HJ.out.2.1 _ List.mem_cons_self).2 j (by rw [HLL.out.1]; exact hj6)
                  have hfl := flat_take V.vput L 0 j (by rw [HLL.out.1]; exact hj6)
                  have hmem : L.getD j 0 ≤ 9223372036854775807 := by
                    have e : L.getD j 0 = L[j]'(by rw [HLL.out.1]; exact hj6) := by simp [List.getD_eq_getElem?_getD, HLL.out.1, hj6]
                    rw [e]
                    exact HLL.out.2 _ (List.getElem_mem _)
                  have hll := HHL.out j
                  generalize L.getD j 0 = a at *
                  generalize (L.take j).flatMap V.vput = mid at *
                  have HFL := Aside0.mk hfl
                  have j1 : (0 : Int) ≤ (j : Int) := by omega
                  have j2 : (j : Int) < 6 := by omega
                  clear hfl
                  go_wp2_with fail
                  (with_reducible refine (V.refput_calls a _ hmem).mono ?_)
                  rintro e w7 ⟨v7, rfl, hO7, hb7⟩
                  have hvl := V.vput_le a hmem
                  obtain ⟨n7, hn7⟩ : ∃ n7, (V.vput a).length = n7 := ⟨_, rfl⟩
                  rw [hn7] at hvl
                  obtain ⟨A7, c7, rfl, hc7, hC7⟩ := OB_readn hO7 n7 hn7
                  have HC7 := Aside0.mk hC7
                  have HJ7 := Aside0.mk (KP_step HJ.out hb7)
                  clear hO7 hC7 hb7 HJ p0 hn7
                  go_wp2_with ((with_reducible refine gate_dst (N := 93) rfl ?_); refine app_bytes rfl rfl rfl rfl HJ7.out.1 HC7.out HJ7.out.2.2.size (by rw [List.length_append, HM5.out]; omega) ?_; intro v8 w8 hO8 hb8 hg8 hat8; have HJ8 := Aside0.mk (KP_app HJ7.out hO8 hb8 hg8 hat8); clear hO8 hb8 hg8 hat8)
                  go_roundw
                  case rel => exact ⟨j + 1, hj6, rfl, ⟨by rw [HFL.out, ← List.append_assoc]; exact HJ8.out⟩⟩
                  case measure => simp [intOf]; omega
                · obtain rfl : j = 6 := by omega
                  have hta : L.take 6 = L := List.take_of_length_le (by rw [HLL.out.1]; omega)
                  have hJ := HJ.out
                  have hll := HHL.out 6
                  rw [hta] at hJ hll
                  have HK := Aside0.mk (KP_tail hJ)
                  have hm6l : (B5 ++ L.flatMap V.vput).length ≤ 6000 := by rw [List.length_append, HM5.out]; omega
                  obtain ⟨x0, x1, x2, x3, x4, x5, x6, x7⟩ := vr_cells (HK.out.2.1 _ List.mem_cons_self).2
                  clear hta hJ hll HJ
                  go_wp2_with fail
                  (with_reducible refine (V.reftext_calls qv _ (by omega)).mono ?_)
                  rintro e w7 ⟨v7, rfl, hO7, hb7⟩
                  obtain ⟨n7, hn7⟩ : ∃ n7, (V.vtext qv).length = n7 := ⟨_, rfl⟩
                  have hn7l : n7 ≤ 220 := by rw [← hn7, V.vtext_len]; have := V.vput_le (qv.size : Int) (by omega); omega
                  obtain ⟨A7, c7, rfl, hc7, hC7⟩ := OB_readn hO7 n7 hn7
                  have HC7 := Aside0.mk hC7
                  have HK7 := Aside0.mk (KP_step HK.out hb7)
                  clear hO7 hC7 hb7 HK hn7 x0 x1 x2 x3 x4 x5 x6 x7
                  go_wp2_with ((with_reducible refine gate_dst (N := 98) rfl ?_); refine app_bytes rfl rfl rfl rfl HK7.out.1 HC7.out HK7.out.2.2.size (by omega) ?_; intro v8 w8 hO8 hb8 hg8 hat8; have HK8 := Aside0.mk (KP_app HK7.out hO8 hb8 hg8 hat8); obtain ⟨x0, x1, x2, x3, x4, x5, x6, x7⟩ := vr_cells (HK8.out.2.1 _ List.mem_cons_self).2; clear hO8 hb8 hg8 hat8)
                  go_roundw
                  case rel =>
                    refine ⟨k + 1, hlt, rfl, ?_, ⟨KP_forget HK8.out ?_⟩⟩
                    · rw [HTK.out, lastK_snoc]
                    · rw [HTK.out, bytesW_snoc, HLK.out, ← List.append_assoc, HBB.out]
                      unfold bytesP
                      simp only
                      rw [HCN.out, HSF.out.1, HGI.out, HLE.out, ← HB5.out]
                      simp only [List.append_assoc]
                  case measure => simp [intOf]; omega
        · have j1 : ¬ (t : Int) < (key.size : Int) := by omega
          have hT := HT.out
          rw [com_out (.inl (by omega)), Nat.add_zero] at hT
          have HTC := Aside0.mk hT
          clear HT hT
          go_wp2_with fail
          refine wp_region_held_drew (S := fun w' => w'.cell? ⟨x, 0, none⟩ = some (.string qk)) (by kernel_rfl) x0 (fun hHeld => ?_)
          (refine hd_take 0 (v := ?_) rfl (by kernel_rfl) (by kernel_rfl) (fun _ _ _ h => h) (by assumption) ?_ ?_; rotate_left; (intro w hSw; (try dsimp only at hSw); go_simp; first | done | with_reducible rfl); simp only [Act.put, List.setIfInBounds_toArray, List.set_cons_zero, List.set_cons_succ])
          (refine hd_take 1 (v := ?_) rfl (by kernel_rfl) (by kernel_rfl) (fun _ _ _ h => h) (by assumption) ?_ ?_; rotate_left; (intro w hSw; (try dsimp only at hSw); go_simp; first | done | with_reducible rfl); simp only [Act.put, List.setIfInBounds_toArray, List.set_cons_zero, List.set_cons_succ])
          (refine hd_take 2 (v := ?_) rfl (by kernel_rfl) (by kernel_rfl) (fun _ _ _ h => h) (by assumption) ?_ ?_; rotate_left; (intro w hSw; (try dsimp only at hSw); go_simp; first | done | with_reducible rfl); simp only [Act.put, List.setIfInBounds_toArray, List.set_cons_zero, List.set_cons_succ])
          (refine hd_take 3 (v := ?_) rfl (by kernel_rfl) (by kernel_rfl) (fun _ _ _ h => h) (by assumption) ?_ ?_; rotate_left; (intro w hSw; (try dsimp only at hSw); go_simp; first | done | with_reducible rfl); simp only [Act.put, List.setIfInBounds_toArray, List.set_cons_zero, List.set_cons_succ])
          (refine hd_take 4 (v := ?_) rfl (by kernel_rfl) (by kernel_rfl) (fun _ _ _ h => h) (by assumption) ?_ ?_; rotate_left; (intro w hSw; (try dsimp only at hSw); go_simp; first | done | with_reducible rfl); simp only [Act.put, List.setIfInBounds_toArray, List.set_cons_zero, List.set_cons_succ])
          (refine hd_skip 5 rfl (by kernel_rfl) (by kernel_rfl) (fun _ _ _ h => h) (by assumption) ?_; simp only [Act.put, List.setIfInBounds_toArray, List.set_cons_zero, List.set_cons_succ])
          (refine hd_skip 6 rfl (by kernel_rfl) (by kernel_rfl) (fun _ _ _ h => h) (by assumption) ?_; simp only [Act.put, List.setIfInBounds_toArray, List.set_cons_zero, List.set_cons_succ])
          (refine hd_skip 7 rfl (by kernel_rfl) (by kernel_rfl) (fun _ _ _ h => h) (by assumption) ?_; simp only [Act.put, List.setIfInBounds_toArray, List.set_cons_zero, List.set_cons_succ])
          (refine hd_skip 8 rfl (by kernel_rfl) (by kernel_rfl) (fun _ _ _ h => h) (by assumption) ?_; simp only [Act.put, List.setIfInBounds_toArray, List.set_cons_zero, List.set_cons_succ])
          (refine hd_skip 9 rfl (by kernel_rfl) (by kernel_rfl) (fun _ _ _ h => h) (by assumption) ?_; simp only [Act.put, List.setIfInBounds_toArray, List.set_cons_zero, List.set_cons_succ])
          (refine hd_take 10 (v := ?_) rfl (by kernel_rfl) (by kernel_rfl) (fun _ _ _ h => h) (by assumption) ?_ ?_; rotate_left; (intro w hSw; (try dsimp only at hSw); go_simp; first | done | with_reducible rfl); simp only [Act.put, List.setIfInBounds_toArray, List.set_cons_zero, List.set_cons_succ])
          (refine hd_take 11 (v := ?_) rfl (by kernel_rfl) (by kernel_rfl) (fun _ _ _ h => h) (by assumption) ?_ ?_; rotate_left; (intro w hSw; (try dsimp only at hSw); go_simp; first | done | with_reducible rfl); simp only [Act.put, List.setIfInBounds_toArray, List.set_cons_zero, List.set_cons_succ])
          (refine hd_skip 12 rfl (by kernel_rfl) (by kernel_rfl) (fun _ _ _ h => h) (by assumption) ?_; simp only [Act.put, List.setIfInBounds_toArray, List.set_cons_zero, List.set_cons_succ])
          (refine hd_skip 13 rfl (by kernel_rfl) (by kernel_rfl) (fun _ _ _ h => h) (by assumption) ?_; simp only [Act.put, List.setIfInBounds_toArray, List.set_cons_zero, List.set_cons_succ])
          (refine hd_skip 14 rfl (by kernel_rfl) (by kernel_rfl) (fun _ _ _ h => h) (by assumption) ?_; simp only [Act.put, List.setIfInBounds_toArray, List.set_cons_zero, List.set_cons_succ])
          (refine hd_skip 15 rfl (by kernel_rfl) (by kernel_rfl) (fun _ _ _ h => h) (by assumption) ?_; simp only [Act.put, List.setIfInBounds_toArray, List.set_cons_zero, List.set_cons_succ])
          (refine hd_skip 16 rfl (by kernel_rfl) (by kernel_rfl) (fun _ _ _ h => h) (by assumption) ?_; simp only [Act.put, List.setIfInBounds_toArray, List.set_cons_zero, List.set_cons_succ])
          (refine hd_skip 17 rfl (by kernel_rfl) (by kernel_rfl) (fun _ _ _ h => h) (by assumption) ?_; simp only [Act.put, List.setIfInBounds_toArray, List.set_cons_zero, List.set_cons_succ])
          (refine hd_skip 18 rfl (by kernel_rfl) (by kernel_rfl) (fun _ _ _ h => h) (by assumption) ?_; simp only [Act.put, List.setIfInBounds_toArray, List.set_cons_zero, List.set_cons_succ])
          (refine hd_skip 19 rfl (by kernel_rfl) (by kernel_rfl) (fun _ _ _ h => h) (by assumption) ?_; simp only [Act.put, List.setIfInBounds_toArray, List.set_cons_zero, List.set_cons_succ])
          (refine hd_take 20 (v := ?_) rfl (by kernel_rfl) (by kernel_rfl) (fun _ _ _ h => h) (by assumption) ?_ ?_; rotate_left; (intro w hSw; (try dsimp only at hSw); go_simp; first | done | with_reducible rfl); simp only [Act.put, List.setIfInBounds_toArray, List.set_cons_zero, List.set_cons_succ])
          refine wpAnyH_done (by kernel_rfl) ?_ _
          have hT := HTC.out
          subst hT
          clear HTC
          have ht92 : t ≤ 92 := by omega
          cases qg with
          | false =>
            have HGI : Aside0 (goneI false = 0) := ⟨rfl⟩
            obtain ⟨x0, x1, x2, x3, x4, x5, x6, x7⟩ := vr_cells (HP.out.2.1 _ List.mem_cons_self).2
            go_wp2_with fail
            (with_reducible refine (V.refput_calls (t : Int) _ (by omega)).mono ?_)
            rintro e w2 ⟨v2, rfl, hO2, hb2⟩
            obtain ⟨A2, c2, rfl, hc2, hC2⟩ := OB_readn hO2 1 (by rw [vput_small t (by omega)])
            have HC2 := Aside0.mk hC2
            have HPa := Aside0.mk (KP_step HP.out hb2)
            clear hC2 hO2 hb2 HP x0 x1 x2 x3 x4 x5 x6 x7
            go_wp2_with ((with_reducible refine gate_dst (N := 50) rfl ?_); refine app_bytes rfl rfl rfl rfl HPa.out.1 HC2.out HPa.out.2.2.size (by have := HM4.out; omega) ?_; intro v3 w3 hO3 hb3 hg3 hat3; have HPb := Aside0.mk (KP_app HPa.out hO3 hb3 hg3 hat3); obtain ⟨A3b, c3b, rfl, hc3b, -⟩ := OB_readn hO3 (m + 1) (by rw [List.length_append, HM4.out.1, vput_small t (by omega)]); obtain ⟨x0, x1, x2, x3, x4, x5, x6, x7⟩ := vr_cells (HPb.out.2.1 _ List.mem_cons_self).2; clear hO3 hb3 hg3 hat3)
            clear HPa HC2
            have hsf : SF.size ≤ 92 := HSF.out.2
            (with_reducible refine (V.reftext_calls SF _ (by omega)).mono ?_)
            rintro e w4 ⟨v4, rfl, hO4, hb4⟩
            obtain ⟨n4, hn4⟩ : ∃ n4, (V.vtext SF).length = n4 := ⟨_, rfl⟩
            have hn4l : n4 ≤ 110 := by rw [← hn4, V.vtext_len]; have := V.vput_le (SF.size : Int) (by omega); omega
            obtain ⟨A4, c4, rfl, hc4, hC4⟩ := OB_readn hO4 n4 hn4
            have HC4 := Aside0.mk hC4
            have HN4 := Aside0.mk hn4
            have HPc := Aside0.mk (KP_step HPb.out hb4)
            have hl4 : (Bs ++ V.vput (t : Int)).length ≤ 6000 := by rw [List.length_append, HM4.out.1, vput_small t (by omega)]; have := HM4.out.2; omega
            clear hC4 hO4 hb4 HPb hn4 x0 x1 x2 x3 x4 x5 x6 x7
            go_wp2_with ((with_reducible refine gate_dst (N := 57) rfl ?_); refine app_bytes rfl rfl rfl rfl HPc.out.1 HC4.out HPc.out.2.2.size (by omega) ?_; intro v5 w5 hO5 hb5 hg5 hat5; have HPd := Aside0.mk (KP_app HPc.out hO5 hb5 hg5 hat5); obtain ⟨A5, c5, rfl, hc5, -⟩ := OB_readn hO5 (m + 1 + n4) (by rw [List.length_append, List.length_append, HM4.out.1, HN4.out, vput_small t (by omega)]); obtain ⟨x0, x1, x2, x3, x4, x5, x6, x7⟩ := vr_cells (HPd.out.2.1 _ List.mem_cons_self).2; clear hO5 hb5 hg5 hat5)
            have HPe := Aside0.mk (KP_alloc HPd.out (.cells #[.int .i64 qbr, .int .i64 qep, .int .i64 qsq, .int .i64 qf, .int .i64 (qt - qf), .int .i64 0] 3))
            obtain ⟨w6, hw6⟩ : ∃ w6, w5.alloc (.cells #[.int .i64 qbr, .int .i64 qep, .int .i64 qsq, .int .i64 qf, .int .i64 (qt - qf), .int .i64 0] 3) = w6 := ⟨_, rfl⟩
            obtain ⟨y, hy⟩ : ∃ y, w5.heap.size = y := ⟨_, rfl⟩
            rw [hw6, hy] at HPe
            rw [hw6, hy]
            obtain ⟨L, hL⟩ : ∃ L, [qbr, qep, qsq, qf, qt - qf, 0] = L := ⟨_, rfl⟩
            have HLL : Aside0 (L.length = 6 ∧ (∀ z ∈ L, z ≤ 9223372036854775807)) := ⟨by
              rw [← hL]
              refine ⟨rfl, fun z hz => ?_⟩
              simp only [List.mem_cons, List.not_mem_nil, or_false] at hz
              rcases hz with rfl | rfl | rfl | rfl | rfl | rfl <;> omega⟩
            rw [show (Obj.cells #[.int .i64 qbr, .int .i64 qep, .int .i64 qsq, .int .i64 qf, .int .i64 (qt - qf), .int .i64 0] 3) = Obj.cells (L.map (Value.int .i64)).toArray 3 (0, 0) by rw [← hL]; rfl] at HPe
            have HLE := Aside0.mk hL
            have HHL : Aside0 (∀ j, ((L.take j).flatMap V.vput).length ≤ 54) := ⟨fun j => Nat.le_trans (flat_le V.vput L j) (by rw [← hL]; exact six_le _ _ _ _ _ _ (by omega) (by omega) (by omega) (by omega) (by omega) (by omega))⟩
            obtain ⟨B5, hB5⟩ : ∃ B5, (Bs ++ V.vput (t : Int)) ++ V.vtext SF = B5 := ⟨_, rfl⟩
            rw [hB5] at HPe
            have HB5 := Aside0.mk hB5
            have HM5 : Aside0 (B5.length = m + 1 + n4) := ⟨by rw [← hB5, List.length_append, List.length_append, HM4.out.1, HN4.out, vput_small t (by omega)]⟩
            have hm6 : m + 1 + n4 ≤ 5200 := by have := HM4.out.2; omega
            clear hL hw6 hy hB5 HPc HPd HC4 x0 x1 x2 x3 x4 x5 x6 x7
            go_wp2_with fail
            go_loopw [3, 10] (fun v3 v10 w' => ∃ j : Nat, j ≤ 6 ∧ v10 = .int .i64 j ∧ Aside0 (KP w v3 (B5 ++ (L.take j).flatMap V.vput) ((y, .cells (L.map (Value.int .i64)).toArray 3 (0, 0)) :: [(x, vrB ⟨qk, qbr, qep, qsq, qf, qt, qv, false⟩)]) w')) (fun _ v10 _ => 6 - (intOf v10).toNat)
            case atStart => exact ⟨0, by omega, rfl, ⟨by simpa using HPe.out⟩⟩
            case round =>
              clear HPe
              obtain ⟨j, hj, rfl, HJ⟩ := hrel
              by_cases hj6 : j < 6
              · have p0 := row_int (HJ.out.2.1 _ List.mem_cons_self).2 j (by rw [HLL.out.1]; exact hj6)
                have hfl := flat_take V.vput L 0 j (by rw [HLL.out.1]; exact hj6)
                have hmem : L.getD j 0 ≤ 9223372036854775807 := by
                  have e : L.getD j 0 = L[j]'(by rw [HLL.out.1]; exact hj6) := by simp [List.getD_eq_getElem?_getD, HLL.out.1, hj6]
                  rw [e]
                  exact HLL.out.2 _ (List.getElem_mem _)
                have hll := HHL.out j
                generalize L.getD j 0 = a at *
                generalize (L.take j).flatMap V.vput = mid at *
                have HFL := Aside0.mk hfl
                have j1 : (0 : Int) ≤ (j : Int) := by omega
                have j2 : (j : Int) < 6 := by omega
                clear hfl
                go_wp2_with fail
                (with_reducible refine (V.refput_calls a _ hmem).mono ?_)
                rintro e w7 ⟨v7, rfl, hO7, hb7⟩
                have hvl := V.vput_le a hmem
                obtain ⟨n7, hn7⟩ : ∃ n7, (V.vput a).length = n7 := ⟨_, rfl⟩
                rw [hn7] at hvl
                obtain ⟨A7, c7, rfl, hc7, hC7⟩ := OB_readn hO7 n7 hn7
                have HC7 := Aside0.mk hC7
                have HJ7 := Aside0.mk (KP_step HJ.out hb7)
                clear hO7 hC7 hb7 HJ p0 hn7
                go_wp2_with ((with_reducible refine gate_dst (N := 93) rfl ?_); refine app_bytes rfl rfl rfl rfl HJ7.out.1 HC7.out HJ7.out.2.2.size (by rw [List.length_append, HM5.out]; omega) ?_; intro v8 w8 hO8 hb8 hg8 hat8; have HJ8 := Aside0.mk (KP_app HJ7.out hO8 hb8 hg8 hat8); clear hO8 hb8 hg8 hat8)
                go_roundw
                case rel => exact ⟨j + 1, hj6, rfl, ⟨by rw [HFL.out, ← List.append_assoc]; exact HJ8.out⟩⟩
                case measure => simp [intOf]; omega
              · obtain rfl : j = 6 := by omega
                have hta : L.take 6 = L := List.take_of_length_le (by rw [HLL.out.1]; omega)
                have hJ := HJ.out
                have hll := HHL.out 6
                rw [hta] at hJ hll
                have HK := Aside0.mk (KP_tail hJ)
                have hm6l : (B5 ++ L.flatMap V.vput).length ≤ 6000 := by rw [List.length_append, HM5.out]; omega
                obtain ⟨x0, x1, x2, x3, x4, x5, x6, x7⟩ := vr_cells (HK.out.2.1 _ List.mem_cons_self).2
                clear hta hJ hll HJ
                go_wp2_with fail
                (with_reducible refine (V.reftext_calls qv _ (by omega)).mono ?_)
                rintro e w7 ⟨v7, rfl, hO7, hb7⟩
                obtain ⟨n7, hn7⟩ : ∃ n7, (V.vtext qv).length = n7 := ⟨_, rfl⟩
                have hn7l : n7 ≤ 220 := by rw [← hn7, V.vtext_len]; have := V.vput_le (qv.size : Int) (by omega); omega
                obtain ⟨A7, c7, rfl, hc7, hC7⟩ := OB_readn hO7 n7 hn7
                have HC7 := Aside0.mk hC7
                have HK7 := Aside0.mk (KP_step HK.out hb7)
                clear hO7 hC7 hb7 HK hn7 x0 x1 x2 x3 x4 x5 x6 x7
                go_wp2_with ((with_reducible refine gate_dst (N := 98) rfl ?_); refine app_bytes rfl rfl rfl rfl HK7.out.1 HC7.out HK7.out.2.2.size (by omega) ?_; intro v8 w8 hO8 hb8 hg8 hat8; have HK8 := Aside0.mk (KP_app HK7.out hO8 hb8 hg8 hat8); obtain ⟨x0, x1, x2, x3, x4, x5, x6, x7⟩ := vr_cells (HK8.out.2.1 _ List.mem_cons_self).2; clear hO8 hb8 hg8 hat8)
                go_roundw
                case rel =>
                  refine ⟨k + 1, hlt, rfl, ?_, ⟨KP_forget HK8.out ?_⟩⟩
                  · rw [HTK.out, lastK_snoc]
                  · rw [HTK.out, bytesW_snoc, HLK.out, ← List.append_assoc, HBB.out]
                    unfold bytesP
                    simp only
                    rw [HCN.out, HSF.out.1, HGI.out, HLE.out, ← HB5.out]
                    simp only [List.append_assoc]
                case measure => simp [intOf]; omega
          | true =>
            have HGI : Aside0 (goneI true = 1) := ⟨rfl⟩
            obtain ⟨x0, x1, x2, x3, x4, x5, x6, x7⟩ := vr_cells (HP.out.2.1 _ List.mem_cons_self).2
            go_wp2_with fail
            (with_reducible refine (V.refput_calls (t : Int) _ (by omega)).mono ?_)
            rintro e w2 ⟨v2, rfl, hO2, hb2⟩
            obtain ⟨A2, c2, rfl, hc2, hC2⟩ := OB_readn hO2 1 (by rw [vput_small t (by omega)])
            have HC2 := Aside0.mk hC2
            have HPa := Aside0.mk (KP_step HP.out hb2)
            clear hC2 hO2 hb2 HP x0 x1 x2 x3 x4 x5 x6 x7
            go_wp2_with ((with_reducible refine gate_dst (N := 50) rfl ?_); refine app_bytes rfl rfl rfl rfl HPa.out.1 HC2.out HPa.out.2.2.size (by have := HM4.out; omega) ?_; intro v3 w3 hO3 hb3 hg3 hat3; have HPb := Aside0.mk (KP_app HPa.out hO3 hb3 hg3 hat3); obtain ⟨A3b, c3b, rfl, hc3b, -⟩ := OB_readn hO3 (m + 1) (by rw [List.length_append, HM4.out.1, vput_small t (by omega)]); obtain ⟨x0, x1, x2, x3, x4, x5, x6, x7⟩ := vr_cells (HPb.out.2.1 _ List.mem_cons_self).2; clear hO3 hb3 hg3 hat3)
            clear HPa HC2
            have hsf : SF.size ≤ 92 := HSF.out.2
            (with_reducible refine (V.reftext_calls SF _ (by omega)).mono ?_)
            rintro e w4 ⟨v4, rfl, hO4, hb4⟩
            obtain ⟨n4, hn4⟩ : ∃ n4, (V.vtext SF).length = n4 := ⟨_, rfl⟩
            have hn4l : n4 ≤ 110 := by rw [← hn4, V.vtext_len]; have := V.vput_le (SF.size : Int) (by omega); omega
            obtain ⟨A4, c4, rfl, hc4, hC4⟩ := OB_readn hO4 n4 hn4
            have HC4 := Aside0.mk hC4
            have HN4 := Aside0.mk hn4
            have HPc := Aside0.mk (KP_step HPb.out hb4)
            have hl4 : (Bs ++ V.vput (t : Int)).length ≤ 6000 := by rw [List.length_append, HM4.out.1, vput_small t (by omega)]; have := HM4.out.2; omega
            clear hC4 hO4 hb4 HPb hn4 x0 x1 x2 x3 x4 x5 x6 x7
            go_wp2_with ((with_reducible refine gate_dst (N := 57) rfl ?_); refine app_bytes rfl rfl rfl rfl HPc.out.1 HC4.out HPc.out.2.2.size (by omega) ?_; intro v5 w5 hO5 hb5 hg5 hat5; have HPd := Aside0.mk (KP_app HPc.out hO5 hb5 hg5 hat5); obtain ⟨A5, c5, rfl, hc5, -⟩ := OB_readn hO5 (m + 1 + n4) (by rw [List.length_append, List.length_append, HM4.out.1, HN4.out, vput_small t (by omega)]); obtain ⟨x0, x1, x2, x3, x4, x5, x6, x7⟩ := vr_cells (HPd.out.2.1 _ List.mem_cons_self).2; clear hO5 hb5 hg5 hat5)
            have HPe := Aside0.mk (KP_alloc HPd.out (.cells #[.int .i64 qbr, .int .i64 qep, .int .i64 qsq, .int .i64 qf, .int .i64 (qt - qf), .int .i64 1] 3))
            obtain ⟨w6, hw6⟩ : ∃ w6, w5.alloc (.cells #[.int .i64 qbr, .int .i64 qep, .int .i64 qsq, .int .i64 qf, .int .i64 (qt - qf), .int .i64 1] 3) = w6 := ⟨_, rfl⟩
            obtain ⟨y, hy⟩ : ∃ y, w5.heap.size = y := ⟨_, rfl⟩
            rw [hw6, hy] at HPe
            rw [hw6, hy]
            obtain ⟨L, hL⟩ : ∃ L, [qbr, qep, qsq, qf, qt - qf, 1] = L := ⟨_, rfl⟩
            have HLL : Aside0 (L.length = 6 ∧ (∀ z ∈ L, z ≤ 9223372036854775807)) := ⟨by
              rw [← hL]
              refine ⟨rfl, fun z hz => ?_⟩
              simp only [List.mem_cons, List.not_mem_nil, or_false] at hz
              rcases hz with rfl | rfl | rfl | rfl | rfl | rfl <;> omega⟩
            rw [show (Obj.cells #[.int .i64 qbr, .int .i64 qep, .int .i64 qsq, .int .i64 qf, .int .i64 (qt - qf), .int .i64 1] 3) = Obj.cells (L.map (Value.int .i64)).toArray 3 (0, 0) by rw [← hL]; rfl] at HPe
            have HLE := Aside0.mk hL
            have HHL : Aside0 (∀ j, ((L.take j).flatMap V.vput).length ≤ 54) := ⟨fun j => Nat.le_trans (flat_le V.vput L j) (by rw [← hL]; exact six_le _ _ _ _ _ _ (by omega) (by omega) (by omega) (by omega) (by omega) (by omega))⟩
            obtain ⟨B5, hB5⟩ : ∃ B5, (Bs ++ V.vput (t : Int)) ++ V.vtext SF = B5 := ⟨_, rfl⟩
            rw [hB5] at HPe
            have HB5 := Aside0.mk hB5
            have HM5 : Aside0 (B5.length = m + 1 + n4) := ⟨by rw [← hB5, List.length_append, List.length_append, HM4.out.1, HN4.out, vput_small t (by omega)]⟩
            have hm6 : m + 1 + n4 ≤ 5200 := by have := HM4.out.2; omega
            clear hL hw6 hy hB5 HPc HPd HC4 x0 x1 x2 x3 x4 x5 x6 x7
            go_wp2_with fail
            go_loopw [3, 10] (fun v3 v10 w' => ∃ j : Nat, j ≤ 6 ∧ v10 = .int .i64 j ∧ Aside0 (KP w v3 (B5 ++ (L.take j).flatMap V.vput) ((y, .cells (L.map (Value.int .i64)).toArray 3 (0, 0)) :: [(x, vrB ⟨qk, qbr, qep, qsq, qf, qt, qv, true⟩)]) w')) (fun _ v10 _ => 6 - (intOf v10).toNat)
            case atStart => exact ⟨0, by omega, rfl, ⟨by simpa using HPe.out⟩⟩
            case round =>
              clear HPe
              obtain ⟨j, hj, rfl, HJ⟩ := hrel
              by_cases hj6 : j < 6
              · have p0 := row_int (HJ.out.2.1 _ List.mem_cons_self).2 j (by rw [HLL.out.1]; exact hj6)
                have hfl := flat_take V.vput L 0 j (by rw [HLL.out.1]; exact hj6)
                have hmem : L.getD j 0 ≤ 9223372036854775807 := by
                  have e : L.getD j 0 = L[j]'(by rw [HLL.out.1]; exact hj6) := by simp [List.getD_eq_getElem?_getD, HLL.out.1, hj6]
                  rw [e]
                  exact HLL.out.2 _ (List.getElem_mem _)
                have hll := HHL.out j
                generalize L.getD j 0 = a at *
                generalize (L.take j).flatMap V.vput = mid at *
                have HFL := Aside0.mk hfl
                have j1 : (0 : Int) ≤ (j : Int) := by omega
                have j2 : (j : Int) < 6 := by omega
                clear hfl
                go_wp2_with fail
                (with_reducible refine (V.refput_calls a _ hmem).mono ?_)
                rintro e w7 ⟨v7, rfl, hO7, hb7⟩
                have hvl := V.vput_le a hmem
                obtain ⟨n7, hn7⟩ : ∃ n7, (V.vput a).length = n7 := ⟨_, rfl⟩
                rw [hn7] at hvl
                obtain ⟨A7, c7, rfl, hc7, hC7⟩ := OB_readn hO7 n7 hn7
                have HC7 := Aside0.mk hC7
                have HJ7 := Aside0.mk (KP_step HJ.out hb7)
                clear hO7 hC7 hb7 HJ p0 hn7
                go_wp2_with ((with_reducible refine gate_dst (N := 93) rfl ?_); refine app_bytes rfl rfl rfl rfl HJ7.out.1 HC7.out HJ7.out.2.2.size (by rw [List.length_append, HM5.out]; omega) ?_; intro v8 w8 hO8 hb8 hg8 hat8; have HJ8 := Aside0.mk (KP_app HJ7.out hO8 hb8 hg8 hat8); clear hO8 hb8 hg8 hat8)
                go_roundw
                case rel => exact ⟨j + 1, hj6, rfl, ⟨by rw [HFL.out, ← List.append_assoc]; exact HJ8.out⟩⟩
                case measure => simp [intOf]; omega
              · obtain rfl : j = 6 := by omega
                have hta : L.take 6 = L := List.take_of_length_le (by rw [HLL.out.1]; omega)
                have hJ := HJ.out
                have hll := HHL.out 6
                rw [hta] at hJ hll
                have HK := Aside0.mk (KP_tail hJ)
                have hm6l : (B5 ++ L.flatMap V.vput).length ≤ 6000 := by rw [List.length_append, HM5.out]; omega
                obtain ⟨x0, x1, x2, x3, x4, x5, x6, x7⟩ := vr_cells (HK.out.2.1 _ List.mem_cons_self).2
                clear hta hJ hll HJ
                go_wp2_with fail
                (with_reducible refine (V.reftext_calls qv _ (by omega)).mono ?_)
                rintro e w7 ⟨v7, rfl, hO7, hb7⟩
                obtain ⟨n7, hn7⟩ : ∃ n7, (V.vtext qv).length = n7 := ⟨_, rfl⟩
                have hn7l : n7 ≤ 220 := by rw [← hn7, V.vtext_len]; have := V.vput_le (qv.size : Int) (by omega); omega
                obtain ⟨A7, c7, rfl, hc7, hC7⟩ := OB_readn hO7 n7 hn7
                have HC7 := Aside0.mk hC7
                have HK7 := Aside0.mk (KP_step HK.out hb7)
                clear hO7 hC7 hb7 HK hn7 x0 x1 x2 x3 x4 x5 x6 x7
                go_wp2_with ((with_reducible refine gate_dst (N := 98) rfl ?_); refine app_bytes rfl rfl rfl rfl HK7.out.1 HC7.out HK7.out.2.2.size (by omega) ?_; intro v8 w8 hO8 hb8 hg8 hat8; have HK8 := Aside0.mk (KP_app HK7.out hO8 hb8 hg8 hat8); obtain ⟨x0, x1, x2, x3, x4, x5, x6, x7⟩ := vr_cells (HK8.out.2.1 _ List.mem_cons_self).2; clear hO8 hb8 hg8 hat8)
                go_roundw
                case rel =>
                  refine ⟨k + 1, hlt, rfl, ?_, ⟨KP_forget HK8.out ?_⟩⟩
                  · rw [HTK.out, lastK_snoc]
                  · rw [HTK.out, bytesW_snoc, HLK.out, ← List.append_assoc, HBB.out]
                    unfold bytesP
                    simp only
                    rw [HCN.out, HSF.out.1, HGI.out, HLE.out, ← HB5.out]
                    simp only [List.append_assoc]
                case measure => simp [intOf]; omega
    · obtain rfl : k = n := by omega
      have i1 : ¬ (k : Int) < (k : Int) := by omega
      have hO := HK0.out.1
      rw [List.take_of_length_le (by rw [HN.out]; omega)] at hO
      have HOO := Aside0.mk hO
      have HBk := Aside0.mk HK0.out.2.2
      clear hO HK0
      go_wp2_with fail
      go_ret
      exact ⟨_, rfl, by unfold blockB; rw [HN.out]; exact HOO.out, HBk.out⟩
end Go.Proofs.Ytopoepifbjbmoaa.A
