/- The document's example: two versions of one key. -/
import Derived.Test.YtheoodbkjgfdfaaNLike
namespace Go.Proofs.Ytheoodbkjgfdfaa.A
open R
open Go.RowKit Go.Proofs.YtheoodbkjgfdfaaW.PrintWords Go.Proofs.YtheoodbkjgfdfaaW.PrintLast Go.Proofs.YtheoodbkjgfdfaaW.PrintMore
set_option linter.unusedVariables false
set_option linter.unusedSimpArgs false

abbrev lK : ByteArray := O.keyStr 0 { data := #[107] }
abbrev lV : Vr := ⟨lK, 0, 2, 1, 0, 1, { data := #[] }, false⟩
abbrev lW : Vr := ⟨lK, 0, 1, 1, 0, 1, { data := #[] }, false⟩
theorem lK_split : O.splitK lK = (0, { data := #[107] }, 0) := O.split_key 0 { data := #[107] } (by omega) (by omega) (by decide)
theorem lK_size : lK.size ≤ 100000 := by decide +kernel
theorem l_may : mayV lV = true ∧ mayV lW = true := by
  constructor <;> (unfold mayV; rw [lK_split]; decide)
theorem l_cmp : cmpV lV lW = 1 ∧ cmpV lW lV = -1 := by
  have h : O.cmpS lK lK = 0 := (cmpS_iff lK lK).2.2 rfl
  constructor <;> (unfold cmpV; simp only [firstL]; rw [h]; decide)
theorem l_add1 : addV [] lV = ([lV], 0) := by
  unfold addV
  rw [if_neg (by rw [l_may.1]; simp), if_neg (by simp [hadV])]
  rfl
theorem l_add2 : addV [lV] lW = ([lW, lV], 0) := by
  have h1 : aV [lV] lW = [] := by unfold aV; rw [List.takeWhile_cons_of_neg (by rw [l_cmp.1]; decide)]
  have h2 : bV [lV] lW = [lV] := by unfold bV; rw [List.dropWhile_cons_of_neg (by rw [l_cmp.1]; decide)]
  unfold addV
  rw [if_neg (by rw [l_may.2]; simp), if_neg (by unfold hadV; rw [List.any_cons, l_cmp.1]; decide), h1, h2]
  rfl
theorem l_of : ofV [lW, lV] lK = [lW, lV] := by
  unfold ofV
  rw [List.filter_cons_of_pos (by simp), List.filter_cons_of_pos (by simp)]
  rfl
theorem l_put (u v : M.Sl) : M.putS (M.putS [] lK 1 u) lK 4 v = [⟨lK, 1, v⟩] := by
  have e1 : M.putS [] lK 1 u = [⟨lK, 1, u⟩] := by simp [M.putS, M.isS, M.atS, M.clampL]
  have h1 : M.atS [⟨lK, 1, u⟩] lK = 0 := by
    unfold M.atS
    rw [if_neg (by rw [show M.ltS lK lK = false from M.ltS_self _]; simp)]
  have h2 : M.isS [⟨lK, 1, u⟩] lK = true := by
    unfold M.isS
    rw [h1]
    show (true && (lK.toList == lK.toList)) = true
    simp
  rw [e1]
  unfold M.putS
  rw [h2, h1]
  rfl
theorem vr80 {n : Nat} {l : List Vr} {w : World} {ad : Addr} (h : KVr.C w (some ad) n l) (hi : 0 < n) (p : Vr) (hp : l.getD 0 default = p) :
    w.cell? ad = some (.string p.k) ∧ w.cell? ⟨ad.block, ad.off + 1, none⟩ = some (.int .i64 p.br) ∧ w.cell? ⟨ad.block, ad.off + 2, none⟩ = some (.int .i64 p.ep) ∧ w.cell? ⟨ad.block, ad.off + 3, none⟩ = some (.int .i64 p.sq) ∧ w.cell? ⟨ad.block, ad.off + 4, none⟩ = some (.int .i64 p.f) ∧ w.cell? ⟨ad.block, ad.off + 5, none⟩ = some (.int .i64 p.t) ∧ w.cell? ⟨ad.block, ad.off + 6, none⟩ = some (.string p.v) ∧ w.cell? ⟨ad.block, ad.off + 7, none⟩ = some (.bool p.g) := by
  have h9 := vr8 rfl h 0 hi p hp
  have e : ad.add (0 * 8) = ad := by simp [Addr.add]
  rw [e] at h9
  exact h9
set_option maxRecDepth 100000 in
set_option maxHeartbeats 4000000 in
theorem lives_calls (w : World) : Calls Try.prog 14 #[] w fun e w' => e = .returned (.bool true) ∧ Below w.heap.size w w' := by
  have hq := eqA35
  go_enter Try.func14, Try.ntmps14
  go_wp2_with fail
  (with_reducible refine (xnew_calls w).mono ?_)
  rintro e w1 ⟨X, rfl, hX, hb1⟩
  have HX1 := Aside0.mk hX
  have HB1 := Aside0.mk hb1
  clear hX hb1
  have heq : eqV ⟨O.keyStr 0 { data := #[107] }, 0, 1, 1, 0, 1, { data := #[] }, false⟩ ⟨O.keyStr 0 { data := #[107] }, 0, 1, 1, 0, 1, { data := #[] }, false⟩ = true := by unfold eqV; simp
  go_wp2_with fail
  (with_reducible refine (O.refkey_calls 0 { data := #[107] } w1 (by omega) (by omega) (by decide)).mono ?_)
  rintro e w2 ⟨rfl, hb2⟩
  have HX2 := Aside0.mk (IXi_below HX1.out hb2)
  have HB2 := Aside0.mk (below_step HB1.out hb2)
  clear hb2
  go_wp2_with fail
  obtain ⟨g, hg⟩ : ∃ g, w2.heap.size = g := ⟨_, rfl⟩
  obtain ⟨w3, hw3⟩ : ∃ w3, (w2.alloc (vrB lV)).alloc (vrB lW) = w3 := ⟨_, rfl⟩
  have hb3 : Below w2.heap.size w2 w3 := by rw [← hw3]; exact below_alloc (below_alloc (Below.refl _ _) _) _
  have hz3 : w3.heap[g]? = some (vrB lV) := by rw [← hw3, ← hg]; exact box_keep (blk_new w2 _) (below_alloc (Below.refl _ _) _)
  have hy3 : w3.heap[g + 1]? = some (vrB lW) := by
    rw [← hw3, ← hg]
    have h9 := blk_new (w2.alloc (vrB lV)) (vrB lW)
    rwa [World.size_alloc] at h9
  have HX3 := Aside0.mk (IXi_below HX2.out hb3)
  have HB3 := Aside0.mk (below_step HB2.out hb3)
  have HZ3 := Aside0.mk hz3
  have HY3 := Aside0.mk hy3
  have ha1 := iadd_calls w3 w.heap.size X 0 [] [] lV 1 HX3.out lK_size (by decide) (by decide) (by omega) (by omega)
  rw [l_add1] at ha1
  have HA1 := Aside0.mk ha1
  rw [hw3]
  clear hb3 hz3 hy3 hw3 ha1
  (with_reducible refine HA1.out.mono ?_)
  rintro e w4 ⟨rfl, ⟨its1, hI4, hp4, -⟩, hif4, hb4⟩
  obtain ⟨u1, hu1⟩ := hp4 rfl
  have HX4 : Aside0 (IXi w4 w.heap.size X 1 its1 [lV]) := ⟨hI4⟩
  have HB4 := Aside0.mk (HB3.out.trans hb4)
  have HZ4 := Aside0.mk ((hif4.block g (box_lt HZ3.out) (ver_notix HZ3.out)).trans HZ3.out)
  have HY4 := Aside0.mk ((hif4.block (g + 1) (box_lt HY3.out) (ver_notix HY3.out)).trans HY3.out)
  have HU1 := Aside0.mk hu1
  clear hI4 hp4 hif4 hb4 hu1 HA1
  have ha2 := iadd_calls w4 w.heap.size X 1 its1 [lV] lW 4 HX4.out lK_size (by decide) (by decide) (by omega) (by omega)
  rw [l_add2] at ha2
  have HA2 := Aside0.mk ha2
  clear ha2
  obtain ⟨t0, t1, t2, t3, t4, t5, t6, t7⟩ := vr_cells HY4.out
  go_wp2_with fail
  (with_reducible refine HA2.out.mono ?_)
  rintro e w5 ⟨rfl, ⟨its2, hI5, hp5, -⟩, hif5, hb5⟩
  obtain ⟨u2, hu2⟩ := hp5 (by first | trivial | rfl)
  have HE : Aside0 (its2 = [⟨lK, 1, u2⟩]) := ⟨by rw [hu2, HU1.out, l_put]⟩
  have HX5' : Aside0 (IXi w5 w.heap.size X 2 its2 [lW, lV]) := ⟨hI5⟩
  have HB5' := Aside0.mk (HB4.out.trans hb5)
  have HZ5' := Aside0.mk ((hif5.block g (box_lt HZ4.out) (ver_notix HZ4.out)).trans HZ4.out)
  have HY5' := Aside0.mk ((hif5.block (g + 1) (box_lt HY4.out) (ver_notix HY4.out)).trans HY4.out)
  have ho5 := xof_calls HX5'.out (by decide) lK
  rw [l_of] at ho5
  have HOF := Aside0.mk ho5
  clear hI5 hp5 hif5 hb5 hu2 HA2 ho5 t0 t1 t2 t3 t4 t5 t6 t7
  obtain ⟨t0, t1, t2, t3, t4, t5, t6, t7⟩ := vr_cells HZ5'.out
  go_wp2_with fail
  (with_reducible refine HOF.out.mono ?_)
  rintro e w6 ⟨v6, rfl, hO6, hb6⟩
  clear t0 t1 t2 t3 t4 t5 t6 t7
  obtain ⟨A6, c6, rfl, hc6, hC6⟩ := OVr_readn hO6 2 rfl
  obtain ⟨ad, rfl, -⟩ := C_atVr hC6 0 (by omega)
  have HC5 := Aside0.mk hC6
  have HI5 := Aside0.mk (IXi_below HX5'.out hb6)
  have HB5 := Aside0.mk (below_step HB5'.out hb6)
  have HZ5 := Aside0.mk (box_keep HY5'.out hb6)
  have HH5 : Aside0 (∃ L, w6.heap[X]? = some (ixB L 2) ∧ ∀ V, Below w6.heap.size w6 V → Calls Try.prog 39 #[.pointer (some ⟨L, 0, none⟩)] V fun e w' => e = .returned (.int .i64 1) ∧ V = w') := ⟨by
    obtain ⟨L, xs, a1, a2, a3, a4, a5, a6⟩ := HI5.out
    refine ⟨L, a1, fun V hV => ?_⟩
    have h9 := M.height_calls V L xs ⟨M.SL_below a3.1 hV, a3.2⟩
    rw [a4, HE.out] at h9
    exact h9⟩
  obtain ⟨L, hX5, hH5⟩ := HH5.out
  have HX5 := Aside0.mk hX5
  have HH5 := Aside0.mk hH5
  clear hO6 hb6 hC6 hX5 hH5
  go_wp2_with fail
  refine wp_region_held_drew (S := (fun w' => Below w6.heap.size w6 w')) (by kernel_rfl) (below_drew1 (Below.refl _ _)) (fun hHeld => ?_)
  (refine hd_take 0 (v := ?_) rfl (by kernel_rfl) (by kernel_rfl) (fun _ _ _ h => h) (by assumption) ?_ ?_; rotate_left; (intro w hSw; (try dsimp only at hSw); go_simp; first | done | with_reducible rfl); simp only [Act.put, List.setIfInBounds_toArray, List.set_cons_zero, List.set_cons_succ])
  (refine hd_take 1 (v := ?_) rfl (by kernel_rfl) (by kernel_rfl) (fun _ _ _ h => h) (by assumption) ?_ ?_; rotate_left; (intro w hSw; (try dsimp only at hSw); go_simp; first | done | with_reducible rfl); simp only [Act.put, List.setIfInBounds_toArray, List.set_cons_zero, List.set_cons_succ])
  (refine hd_take 2 (v := ?_) rfl (by kernel_rfl) (by kernel_rfl) (fun _ _ _ h => h) (by assumption) ?_ ?_; rotate_left; (intro w hSw; (try dsimp only at hSw); go_simp; first | done | with_reducible rfl); simp only [Act.put, List.setIfInBounds_toArray, List.set_cons_zero, List.set_cons_succ])
  (refine hd_take 3 (v := ?_) rfl (by kernel_rfl) (by kernel_rfl) (fun _ _ _ h => h) (by assumption) ?_ ?_; rotate_left; (intro w hSw; (try dsimp only at hSw); go_simp; first | done | with_reducible rfl); simp only [Act.put, List.setIfInBounds_toArray, List.set_cons_zero, List.set_cons_succ])
  (refine hd_take 4 (v := ?_) rfl (by kernel_rfl) (by kernel_rfl) (fun _ _ _ h => h) (by assumption) ?_ ?_; rotate_left; (intro w hSw; (try dsimp only at hSw); go_simp; first | done | with_reducible rfl); simp only [Act.put, List.setIfInBounds_toArray, List.set_cons_zero, List.set_cons_succ])
  (refine hd_take 5 (v := ?_) rfl (by kernel_rfl) (by kernel_rfl) (fun _ _ _ h => h) (by assumption) ?_ ?_; rotate_left; (intro w hSw; (try dsimp only at hSw); go_simp; first | done | with_reducible rfl); simp only [Act.put, List.setIfInBounds_toArray, List.set_cons_zero, List.set_cons_succ])
  (refine hd_take 6 (v := ?_) rfl (by kernel_rfl) (by kernel_rfl) (fun _ _ _ h => h) (by assumption) ?_ ?_; rotate_left; (intro w hSw; (try dsimp only at hSw); go_simp; first | done | with_reducible rfl); simp only [Act.put, List.setIfInBounds_toArray, List.set_cons_zero, List.set_cons_succ])
  (refine hd_take 7 (v := ?_) rfl (by kernel_rfl) (by kernel_rfl) (fun _ _ _ h => h) (by assumption) ?_ ?_; rotate_left; (intro w hSw; (try dsimp only at hSw); go_simp; first | done | with_reducible rfl); simp only [Act.put, List.setIfInBounds_toArray, List.set_cons_zero, List.set_cons_succ])
  (refine hd_take 8 (v := ?_) rfl (by kernel_rfl) (by kernel_rfl) (fun _ _ _ h => h) (by assumption) ?_ ?_; rotate_left; (intro w hSw; (try dsimp only at hSw); go_simp; first | done | with_reducible rfl); simp only [Act.put, List.setIfInBounds_toArray, List.set_cons_zero, List.set_cons_succ])
  (refine hd_take 9 (v := ?_) rfl (by kernel_rfl) (by kernel_rfl) (fun _ _ _ h => h) (by assumption) ?_ ?_; rotate_left; (intro w hSw; (try dsimp only at hSw); go_simp; first | done | with_reducible rfl); simp only [Act.put, List.setIfInBounds_toArray, List.set_cons_zero, List.set_cons_succ])
  (refine hd_take 10 (v := ?_) rfl (by kernel_rfl) (by kernel_rfl) (fun _ _ _ h => h) (by assumption) ?_ ?_; rotate_left; (intro w hSw; (try dsimp only at hSw); go_simp; first | done | with_reducible rfl); simp only [Act.put, List.setIfInBounds_toArray, List.set_cons_zero, List.set_cons_succ])
  (refine hd_take 11 (v := ?_) rfl (by kernel_rfl) (by kernel_rfl) (fun _ _ _ h => h) (by assumption) ?_ ?_; rotate_left; (intro w hSw; (try dsimp only at hSw); go_simp; first | done | with_reducible rfl); simp only [Act.put, List.setIfInBounds_toArray, List.set_cons_zero, List.set_cons_succ])
  (refine hd_take 12 (v := ?_) rfl (by kernel_rfl) (by kernel_rfl) (fun _ _ _ h => h) (by assumption) ?_ ?_; rotate_left; (intro w hSw; (try dsimp only at hSw); go_simp; first | done | with_reducible rfl); simp only [Act.put, List.setIfInBounds_toArray, List.set_cons_zero, List.set_cons_succ])
  (refine hd_take 13 (v := ?_) rfl (by kernel_rfl) (by kernel_rfl) (fun _ _ _ h => h) (by assumption) ?_ ?_; rotate_left; (intro w hSw; (try dsimp only at hSw); go_simp; first | done | with_reducible rfl); simp only [Act.put, List.setIfInBounds_toArray, List.set_cons_zero, List.set_cons_succ])
  (refine hd_take 14 (v := ?_) rfl (by kernel_rfl) (by kernel_rfl) (fun _ _ _ h => h) (by assumption) ?_ ?_; rotate_left; (intro w hSw; (try dsimp only at hSw); obtain ⟨s0, s1, s2, s3, s4, s5, s6, s7⟩ := vr80 (Kd.C_below HC5.out hSw) (by omega) lW rfl; go_simp; first | done | with_reducible rfl); simp only [Act.put, List.setIfInBounds_toArray, List.set_cons_zero, List.set_cons_succ])
  (refine hd_take 15 (v := ?_) rfl (by kernel_rfl) (by kernel_rfl) (fun _ _ _ h => h) (by assumption) ?_ ?_; rotate_left; (intro w hSw; (try dsimp only at hSw); obtain ⟨r0, r1, r2, r3, r4, r5, r6, r7⟩ := vr_cells (box_keep HZ5.out hSw); go_simp; first | done | with_reducible rfl); simp only [Act.put, List.setIfInBounds_toArray, List.set_cons_zero, List.set_cons_succ])
  (refine hd_take 16 (v := ?_) rfl (by kernel_rfl) (by kernel_rfl) (fun _ _ _ h => h) (by assumption) ?_ ?_; rotate_left; (intro w hSw; (try dsimp only at hSw); go_simp; first | done | with_reducible rfl); simp only [Act.put, List.setIfInBounds_toArray, List.set_cons_zero, List.set_cons_succ])
  (refine hd_take 17 (v := ?_) rfl (by kernel_rfl) (by kernel_rfl) (fun _ _ _ h => h) (by assumption) ?_ ?_; rotate_left; (intro w hSw; (try dsimp only at hSw); go_simp; first | done | with_reducible rfl); simp only [Act.put, List.setIfInBounds_toArray, List.set_cons_zero, List.set_cons_succ])
  (refine hd_take 18 (v := ?_) rfl (by kernel_rfl) (by kernel_rfl) (fun _ _ _ h => h) (by assumption) ?_ ?_; rotate_left; (intro w hSw; (try dsimp only at hSw); go_simp; first | done | with_reducible rfl); simp only [Act.put, List.setIfInBounds_toArray, List.set_cons_zero, List.set_cons_succ])
  (refine hd_take 19 (v := ?_) rfl (by kernel_rfl) (by kernel_rfl) (fun _ _ _ h => h) (by assumption) ?_ ?_; rotate_left; (intro w hSw; (try dsimp only at hSw); go_simp; first | done | with_reducible rfl); simp only [Act.put, List.setIfInBounds_toArray, List.set_cons_zero, List.set_cons_succ])
  refine hd_one 20 rfl (by kernel_rfl) (fun K hK => ?_)
  go_simp
  go_wp2_with ((go_at_call 37); (with_reducible refine (xlen_calls (IXi_below HI5.out hHeld)).mono ?_); rintro e u1 ⟨rfl, rfl⟩)
  refine hK.out _ _ hHeld (fun hHeld => ?_)
  clear hK K
  (refine hd_take 21 (v := ?_) rfl (by kernel_rfl) (by kernel_rfl) (fun _ _ _ h => h) (by assumption) ?_ ?_; rotate_left; (intro w hSw; (try dsimp only at hSw); go_simp; first | done | with_reducible rfl); simp only [Act.put, List.setIfInBounds_toArray, List.set_cons_zero, List.set_cons_succ])
  (refine hd_take 22 (v := ?_) rfl (by kernel_rfl) (by kernel_rfl) (fun _ _ _ h => h) (by assumption) ?_ ?_; rotate_left; (intro w hSw; (try dsimp only at hSw); go_simp; first | done | with_reducible rfl); simp only [Act.put, List.setIfInBounds_toArray, List.set_cons_zero, List.set_cons_succ])
  (refine hd_take 23 (v := ?_) rfl (by kernel_rfl) (by kernel_rfl) (fun _ _ _ h => h) (by assumption) ?_ ?_; rotate_left; (intro w hSw; (try dsimp only at hSw); go_simp; first | done | with_reducible rfl); simp only [Act.put, List.setIfInBounds_toArray, List.set_cons_zero, List.set_cons_succ])
  (refine hd_take 24 (v := ?_) rfl (by kernel_rfl) (by kernel_rfl) (fun _ _ _ h => h) (by assumption) ?_ ?_; rotate_left; (intro w hSw; (try dsimp only at hSw); go_simp; first | done | with_reducible rfl); simp only [Act.put, List.setIfInBounds_toArray, List.set_cons_zero, List.set_cons_succ])
  (refine hd_take 25 (v := ?_) rfl (by kernel_rfl) (by kernel_rfl) (fun _ _ _ h => h) (by assumption) ?_ ?_; rotate_left; (intro w hSw; (try dsimp only at hSw); go_simp; first | done | with_reducible rfl); simp only [Act.put, List.setIfInBounds_toArray, List.set_cons_zero, List.set_cons_succ])
  (refine hd_take 26 (v := ?_) rfl (by kernel_rfl) (by kernel_rfl) (fun _ _ _ h => h) (by assumption) ?_ ?_; rotate_left; (intro w hSw; (try dsimp only at hSw); go_simp; first | done | with_reducible rfl); simp only [Act.put, List.setIfInBounds_toArray, List.set_cons_zero, List.set_cons_succ])
  (refine hd_take 27 (v := ?_) rfl (by kernel_rfl) (by kernel_rfl) (fun _ _ _ h => h) (by assumption) ?_ ?_; rotate_left; (intro w hSw; (try dsimp only at hSw); obtain ⟨x0, x1, x2⟩ := ix_cells (box_keep HX5.out hSw); go_simp; first | done | with_reducible rfl); simp only [Act.put, List.setIfInBounds_toArray, List.set_cons_zero, List.set_cons_succ])
  refine hd_one 28 rfl (by kernel_rfl) (fun K hK => ?_)
  go_simp
  go_wp2_with ((go_at_call 39); (with_reducible refine (HH5.out _ hHeld).mono ?_); rintro e u1 ⟨rfl, rfl⟩)
  refine hK.out _ _ hHeld (fun hHeld => ?_)
  clear hK K
  (refine hd_take 29 (v := ?_) rfl (by kernel_rfl) (by kernel_rfl) (fun _ _ _ h => h) (by assumption) ?_ ?_; rotate_left; (intro w hSw; (try dsimp only at hSw); go_simp; first | done | with_reducible rfl); simp only [Act.put, List.setIfInBounds_toArray, List.set_cons_zero, List.set_cons_succ])
  (refine hd_take 30 (v := ?_) rfl (by kernel_rfl) (by kernel_rfl) (fun _ _ _ h => h) (by assumption) ?_ ?_; rotate_left; (intro w hSw; (try dsimp only at hSw); go_simp; first | done | with_reducible rfl); simp only [Act.put, List.setIfInBounds_toArray, List.set_cons_zero, List.set_cons_succ])
  (refine hd_take 31 (v := ?_) rfl (by kernel_rfl) (by kernel_rfl) (fun _ _ _ h => h) (by assumption) ?_ ?_; rotate_left; (intro w hSw; (try dsimp only at hSw); go_simp; first | done | with_reducible rfl); simp only [Act.put, List.setIfInBounds_toArray, List.set_cons_zero, List.set_cons_succ])
  refine wpAnyH_done (by kernel_rfl) ?_ _
  have HB6 := Aside0.mk (below_step HB5.out hHeld)
  go_wp2_with fail
  go_ret
  exact ⟨by rfl, HB6.out⟩
end Go.Proofs.Ytheoodbkjgfdfaa.A
