/- A rectangle turned; rectangles of epochs and a span. -/
import Derived.Test.YthmkpgemilmikaaPSides
namespace Go.Proofs.Ythmkpgemilmikaa.A
open Go.RowKit Go.Proofs.YthmkpgemilmikaaW.PrintWords Go.Proofs.YthmkpgemilmikaaW.PrintLast Go.Proofs.YthmkpgemilmikaaW.PrintMore
attribute [local go_sem] run_store_cx
set_option linter.unusedVariables false
set_option linter.unusedSimpArgs false

def Rc.turn (r : Rc) : Rc := ⟨r.t0, r.t1, r.e0, r.e1⟩
abbrev rB0 : Obj := .cells #[.complex .f64 0 0, .complex .f64 0 0] 29
set_option maxHeartbeats 1000000 in
theorem turn_calls (r : Rc) (hr : r.ok) (w : World) :
    Calls Try.prog 16 #[rv r] w fun e w' => e = .returned (rv r.turn) ∧ Below w.heap.size w w' := by
  obtain ⟨a, b, c, d⟩ := r
  obtain ⟨h1, h2, h3, h4⟩ := hr
  simp only at h1 h2 h3 h4
  obtain ⟨g, hg⟩ : ∃ g, w.heap.size = g := ⟨_, rfl⟩
  obtain ⟨W, hW⟩ : ∃ W, (w.alloc (rB4 a b c d)).alloc rB0 = W := ⟨_, rfl⟩
  have hb : Below w.heap.size w W := by rw [← hW]; exact below_alloc (below_alloc (Below.refl _ _) _) _
  have hx0 : W.heap[g]? = some (rB4 a b c d) := by rw [← hW, ← hg]; exact blk_alloc (blk_new w _) _
  have hx1 : W.heap[g + 1]? = some rB0 := by
    have h9 := heap_alloc_new (w.alloc (rB4 a b c d)) rB0
    rw [World.size_alloc, hg, hW] at h9
    exact h9
  obtain ⟨c0, c1, -⟩ := two_cells (w := W.drew) hx0
  obtain ⟨d0, d1, df⟩ := two_cells (w := W.drew) hx1
  have d2 := df 0
  have d3 := df 1
  have d4 : W.cell? ⟨g + 1, 1, none⟩ = some (.complex .f64 0 0) := d1
  have d5 : W.frozen? ⟨g + 1, 1, none⟩ = false := df 1
  clear df
  go_enter Try.func16, Try.ntmps16
  go_wp2_with fail
  refine wp_region_held_drew (S := (fun w' => w'.cell? ⟨g, 0, none⟩ = some (cx a c) ∧ w'.cell? ⟨g, 1, none⟩ = some (cx b d))) (by kernel_rfl) ⟨c0, c1⟩ (fun hHeld => ?_)
  (refine hd_take 0 (v := ?_) rfl (by kernel_rfl) (by kernel_rfl) (fun _ _ _ h => h) (by assumption) ?_ ?_; rotate_left; (intro w hSw; (try dsimp only at hSw); go_simp; first | done | with_reducible rfl); simp only [Act.put, List.setIfInBounds_toArray, List.set_cons_zero, List.set_cons_succ])
  (refine hd_take 1 (v := ?_) rfl (by kernel_rfl) (by kernel_rfl) (fun _ _ _ h => h) (by assumption) ?_ ?_; rotate_left; (intro w hSw; (try dsimp only at hSw); go_simp; first | done | with_reducible rfl); simp only [Act.put, List.setIfInBounds_toArray, List.set_cons_zero, List.set_cons_succ])
  (refine hd_take 3 (v := ?_) rfl (by kernel_rfl) (by kernel_rfl) (fun _ _ _ h => h) (by assumption) ?_ ?_; rotate_left; (intro w hSw; (try dsimp only at hSw); go_simp; first | done | with_reducible rfl); simp only [Act.put, List.setIfInBounds_toArray, List.set_cons_zero, List.set_cons_succ])
  (refine hd_take 4 (v := ?_) rfl (by kernel_rfl) (by kernel_rfl) (fun _ _ _ h => h) (by assumption) ?_ ?_; rotate_left; (intro w hSw; (try dsimp only at hSw); go_simp; first | done | with_reducible rfl); simp only [Act.put, List.setIfInBounds_toArray, List.set_cons_zero, List.set_cons_succ])
  refine hd_one 2 rfl (by kernel_rfl) (fun K hK => ?_)
  go_simp
  go_wp2_with ((go_at_call 26); (with_reducible refine (turned_calls _ a c (by omega) (by omega)).mono ?_); rintro e w' ⟨rfl, rfl⟩)
  refine hK.out _ _ hHeld (fun hHeld => ?_)
  clear hK K
  refine hd_one 5 rfl (by kernel_rfl) (fun K hK => ?_)
  go_simp
  go_wp2_with ((go_at_call 26); (with_reducible refine (turned_calls _ b d (by omega) (by omega)).mono ?_); rintro e w' ⟨rfl, rfl⟩)
  refine hK.out _ _ hHeld (fun hHeld => ?_)
  clear hK K
  (refine hd_take 6 (v := ?_) rfl (by kernel_rfl) (by kernel_rfl) (fun _ _ _ h => h) (by assumption) ?_ ?_; rotate_left; (intro w hSw; (try dsimp only at hSw); go_simp; first | done | with_reducible rfl); simp only [Act.put, List.setIfInBounds_toArray, List.set_cons_zero, List.set_cons_succ])
  refine hd_one 7 rfl (by kernel_rfl) (fun K hK => ?_)
  go_simp
  refine hK.out _ _ ⟨far2 (g' := g + 1) c0 (by omega), far2 (g' := g + 1) c1 (by omega)⟩ (fun hHeld => ?_)
  clear hK K
  refine wpAnyH_done (by kernel_rfl) ?_ _
  go_wp2
  have hf := two_set (u' := cx c a) (v' := cx d b) hx1
  have hb3 : Below w.heap.size w (((W.setCell ⟨g + 1, 0, none⟩ (cx c a)).setCell ⟨g + 1, 1, none⟩ (cx d b)).drew) := below_drew1 (below_set (below_set hb (by omega)) (by omega))
  refine bodyPost_ret (results_single rfl (.cell (g + 1) _ _ _ _ rfl hf Try.underlying29 rfl infoRect .nil)) rfl ⟨rfl, hb3⟩
/-- The rectangle of two spans; without points, where one may not be. -/
def mkR (e t : S.Sp) : Rc := if e.may && t.may then ⟨e.f.toNat, e.t.toNat, t.f.toNat, t.t.toNat⟩ else ⟨0, 0, 0, 0⟩
theorem mkR_ok (e t : S.Sp) : (mkR e t).ok := by
  unfold mkR
  split
  · rename_i h
    rw [Bool.and_eq_true, S.may_iff, S.may_iff] at h
    unfold Rc.ok
    simp only
    omega
  · unfold Rc.ok
    simp only
    omega
set_option maxHeartbeats 2000000 in
theorem of_calls (x y f t : Int) (w : World) :
    Calls Try.prog 21 #[.int .i64 x, .int .i64 y, .agg #[.int .i64 f, .int .i64 t]] w fun e w' => e = .returned (.tuple #[rv (mkR ⟨x, y⟩ ⟨f, t⟩), .bool (S.Sp.may ⟨x, y⟩ && S.Sp.may ⟨f, t⟩)]) ∧ Below w.heap.size w w' := by
  obtain ⟨g, hg⟩ : ∃ g, w.heap.size = g := ⟨_, rfl⟩
  obtain ⟨W, hW⟩ : ∃ W, (w.alloc (S.spBox f t)).alloc rB0 = W := ⟨_, rfl⟩
  have hb : Below w.heap.size w W := by rw [← hW]; exact below_alloc (below_alloc (Below.refl _ _) _) _
  have hx0 : W.heap[g]? = some (S.spBox f t) := by rw [← hW, ← hg]; exact blk_alloc (blk_new w _) _
  have hx1 : W.heap[g + 1]? = some rB0 := by
    have h9 := heap_alloc_new (w.alloc (S.spBox f t)) rB0
    rw [World.size_alloc, hg, hW] at h9
    exact h9
  have HB := Aside0.mk hb
  have HX := Aside0.mk (show W.heap[g]? = some (S.spBox f t) ∧ W.heap[g + 1]? = some rB0 from ⟨hx0, hx1⟩)
  clear hb hx0 hx1
  cases hm1 : S.Sp.may ⟨x, y⟩ with
  | false =>
    have HM1 := Aside0.mk hm1
    have HR : Aside0 (rv (mkR ⟨x, y⟩ ⟨f, t⟩) = .agg #[.complex .f64 0 0, .complex .f64 0 0]) := ⟨by unfold mkR; rw [hm1, Bool.false_and, if_neg (by simp)]; exact rv0⟩
    clear hm1
    go_enter Try.func21, Try.ntmps21
    go_wp2_with fail
    (with_reducible refine (S.may_calls x y W).mono ?_)
    rw [HM1.out]
    rintro e w1 ⟨rfl, rfl⟩
    obtain ⟨W1, hW1⟩ : ∃ W1, W.alloc (S.spBox x y) = W1 := ⟨_, rfl⟩
    have hx1 : W1.heap[g + 1]? = some rB0 := by rw [← hW1]; exact blk_alloc HX.out.2 _
    obtain ⟨d0, d1, df⟩ := two_cells hx1
    have d2 := df 0
    have d3 := df 1
    have HB1 : Aside0 (Below w.heap.size w W1) := ⟨by rw [← hW1]; exact below_alloc HB.out _⟩
    have HX1 := Aside0.mk hx1
    clear df hx1
    go_wp2_with fail
    have hf := two_set (u' := .complex .f64 0 0) (v' := .complex .f64 0 0) HX1.out
    have hb3 : Below w.heap.size w ((W1.setCell ⟨g + 1, 0, none⟩ (.complex .f64 0 0)).setCell ⟨g + 1, 1, none⟩ (.complex .f64 0 0)) := below_set (below_set HB1.out (by omega)) (by omega)
    refine bodyPost_ret (results_ct (p := 6) (u := 7) rfl _ _ (g + 1) _ _ _ _ rfl hf Try.underlying29 rfl infoRect) rfl ?_
    rw [HR.out]
    exact ⟨rfl, hb3⟩
  | true =>
    have HM1 := Aside0.mk hm1
    cases hm2 : S.Sp.may ⟨f, t⟩ with
    | false =>
      have HM2 := Aside0.mk hm2
      have HR : Aside0 (rv (mkR ⟨x, y⟩ ⟨f, t⟩) = .agg #[.complex .f64 0 0, .complex .f64 0 0]) := ⟨by unfold mkR; rw [hm2, Bool.and_false, if_neg (by simp)]; exact rv0⟩
      clear hm1 hm2
      go_enter Try.func21, Try.ntmps21
      go_wp2_with fail
      (with_reducible refine (S.may_calls x y W).mono ?_)
      rw [HM1.out]
      rintro e w1 ⟨rfl, rfl⟩
      obtain ⟨W1, hW1⟩ : ∃ W1, W.alloc (S.spBox x y) = W1 := ⟨_, rfl⟩
      have hx0 : W1.heap[g]? = some (S.spBox f t) := by rw [← hW1]; exact blk_alloc HX.out.1 _
      obtain ⟨c0, c1, -⟩ := two_cells hx0
      go_wp2_with fail
      (with_reducible refine (S.may_calls f t W1).mono ?_)
      rw [HM2.out]
      rintro e w1 ⟨rfl, rfl⟩
      obtain ⟨W2, hW2⟩ : ∃ W2, W1.alloc (S.spBox f t) = W2 := ⟨_, rfl⟩
      have hx1 : W2.heap[g + 1]? = some rB0 := by rw [← hW2, ← hW1]; exact blk_alloc (blk_alloc HX.out.2 _) _
      obtain ⟨d0, d1, df⟩ := two_cells hx1
      have d2 := df 0
      have d3 := df 1
      have HB1 : Aside0 (Below w.heap.size w W2) := ⟨by rw [← hW2, ← hW1]; exact below_alloc (below_alloc HB.out _) _⟩
      have HX1 := Aside0.mk hx1
      clear df hx1 hx0
      go_wp2_with fail
      have hf := two_set (u' := .complex .f64 0 0) (v' := .complex .f64 0 0) HX1.out
      have hb3 : Below w.heap.size w ((W2.setCell ⟨g + 1, 0, none⟩ (.complex .f64 0 0)).setCell ⟨g + 1, 1, none⟩ (.complex .f64 0 0)) := below_set (below_set HB1.out (by omega)) (by omega)
      refine bodyPost_ret (results_ct (p := 6) (u := 7) rfl _ _ (g + 1) _ _ _ _ rfl hf Try.underlying29 rfl infoRect) rfl ?_
      rw [HR.out]
      exact ⟨rfl, hb3⟩
    | true =>
      have HM2 := Aside0.mk hm2
      have hmk : mkR ⟨x, y⟩ ⟨f, t⟩ = ⟨x.toNat, y.toNat, f.toNat, t.toNat⟩ := by unfold mkR; rw [hm1, hm2]; rfl
      rw [S.may_iff] at hm1 hm2
      simp only at hm1 hm2
      obtain ⟨a, ha⟩ : ∃ a : Nat, x = (a : Int) := ⟨x.toNat, by omega⟩
      obtain ⟨b, hb⟩ : ∃ a : Nat, y = (a : Int) := ⟨y.toNat, by omega⟩
      obtain ⟨c, hc⟩ : ∃ a : Nat, f = (a : Int) := ⟨f.toNat, by omega⟩
      obtain ⟨d, hd⟩ : ∃ a : Nat, t = (a : Int) := ⟨t.toNat, by omega⟩
      subst ha hb hc hd
      simp only [Int.toNat_natCast] at hmk
      have i1 : a ≤ 1099511627776 := by omega
      have i2 : b ≤ 1099511627776 := by omega
      have i3 : c ≤ 1099511627776 := by omega
      have i4 : d ≤ 1099511627776 := by omega
      have HK := Aside0.mk hmk
      clear hm1 hm2 hmk
      go_enter Try.func21, Try.ntmps21
      go_wp2_with fail
      (with_reducible refine (S.may_calls (a : Int) (b : Int) W).mono ?_)
      rw [HM1.out]
      rintro e w1 ⟨rfl, rfl⟩
      obtain ⟨W1, hW1⟩ : ∃ W1, W.alloc (S.spBox (a : Int) (b : Int)) = W1 := ⟨_, rfl⟩
      have hx0 : W1.heap[g]? = some (S.spBox (c : Int) (d : Int)) := by rw [← hW1]; exact blk_alloc HX.out.1 _
      obtain ⟨c0, c1, -⟩ := two_cells hx0
      go_wp2_with fail
      (with_reducible refine (S.may_calls (c : Int) (d : Int) W1).mono ?_)
      rw [HM2.out]
      rintro e w1 ⟨rfl, rfl⟩
      clear c0 c1
      obtain ⟨W2, hW2⟩ : ∃ W2, W1.alloc (S.spBox (c : Int) (d : Int)) = W2 := ⟨_, rfl⟩
      have hx1 : W2.heap[g + 1]? = some rB0 := by rw [← hW2, ← hW1]; exact blk_alloc (blk_alloc HX.out.2 _) _
      have hx2 : W2.heap[g]? = some (S.spBox (c : Int) (d : Int)) := by rw [← hW2]; exact blk_alloc hx0 _
      obtain ⟨c0, c1, -⟩ := two_cells (w := W2.drew) hx2
      obtain ⟨d0, d1, df⟩ := two_cells (w := W2.drew) hx1
      have d2 := df 0
      have d3 := df 1
      have d4 : W2.cell? ⟨g + 1, 1, none⟩ = some (.complex .f64 0 0) := d1
      have d5 : W2.frozen? ⟨g + 1, 1, none⟩ = false := df 1
      have HB1 : Aside0 (Below w.heap.size w W2) := ⟨by rw [← hW2, ← hW1]; exact below_alloc (below_alloc HB.out _) _⟩
      have HX1 := Aside0.mk hx1
      clear df hx1 hx0 hx2
      go_wp2_with fail
      refine wp_region_held_drew (S := (fun w' => w'.cell? ⟨g, 0, none⟩ = some (.int .i64 (c : Int)) ∧ w'.cell? ⟨g, 1, none⟩ = some (.int .i64 (d : Int)))) (by kernel_rfl) ⟨c0, c1⟩ (fun hHeld => ?_)
      (refine hd_take 0 (v := ?_) rfl (by kernel_rfl) (by kernel_rfl) (fun _ _ _ h => h) (by assumption) ?_ ?_; rotate_left; (intro w hSw; (try dsimp only at hSw); go_simp; first | done | with_reducible rfl); simp only [Act.put, List.setIfInBounds_toArray, List.set_cons_zero, List.set_cons_succ])
      (refine hd_take 1 (v := ?_) rfl (by kernel_rfl) (by kernel_rfl) (fun _ _ _ h => h) (by assumption) ?_ ?_; rotate_left; (intro w hSw; (try dsimp only at hSw); go_simp; first | done | with_reducible rfl); simp only [Act.put, List.setIfInBounds_toArray, List.set_cons_zero, List.set_cons_succ])
      (refine hd_take 2 (v := ?_) rfl (by kernel_rfl) (by kernel_rfl) (fun _ _ _ h => h) (by assumption) ?_ ?_; rotate_left; (intro w hSw; (try dsimp only at hSw); go_simp; first | done | with_reducible rfl); simp only [Act.put, List.setIfInBounds_toArray, List.set_cons_zero, List.set_cons_succ])
      (refine hd_take 4 (v := ?_) rfl (by kernel_rfl) (by kernel_rfl) (fun _ _ _ h => h) (by assumption) ?_ ?_; rotate_left; (intro w hSw; (try dsimp only at hSw); go_simp; first | done | with_reducible rfl); simp only [Act.put, List.setIfInBounds_toArray, List.set_cons_zero, List.set_cons_succ])
      (refine hd_take 5 (v := ?_) rfl (by kernel_rfl) (by kernel_rfl) (fun _ _ _ h => h) (by assumption) ?_ ?_; rotate_left; (intro w hSw; (try dsimp only at hSw); go_simp; first | done | with_reducible rfl); simp only [Act.put, List.setIfInBounds_toArray, List.set_cons_zero, List.set_cons_succ])
      (refine hd_take 6 (v := ?_) rfl (by kernel_rfl) (by kernel_rfl) (fun _ _ _ h => h) (by assumption) ?_ ?_; rotate_left; (intro w hSw; (try dsimp only at hSw); go_simp; first | done | with_reducible rfl); simp only [Act.put, List.setIfInBounds_toArray, List.set_cons_zero, List.set_cons_succ])
      refine hd_one 3 rfl (by kernel_rfl) (fun K hK => ?_)
      go_simp
      go_wp2_with ((go_at_call 29); (with_reducible refine (at_calls _ a c (by omega) (by omega)).mono ?_); rintro e w' ⟨rfl, rfl⟩)
      refine hK.out _ _ hHeld (fun hHeld => ?_)
      clear hK K
      refine hd_one 7 rfl (by kernel_rfl) (fun K hK => ?_)
      go_simp
      go_wp2_with ((go_at_call 29); (with_reducible refine (at_calls _ b d (by omega) (by omega)).mono ?_); rintro e w' ⟨rfl, rfl⟩)
      refine hK.out _ _ hHeld (fun hHeld => ?_)
      clear hK K
      (refine hd_take 8 (v := ?_) rfl (by kernel_rfl) (by kernel_rfl) (fun _ _ _ h => h) (by assumption) ?_ ?_; rotate_left; (intro w hSw; (try dsimp only at hSw); go_simp; first | done | with_reducible rfl); simp only [Act.put, List.setIfInBounds_toArray, List.set_cons_zero, List.set_cons_succ])
      refine hd_one 9 rfl (by kernel_rfl) (fun K hK => ?_)
      go_simp
      refine hK.out _ _ ⟨far2 (g' := g + 1) c0 (by omega), far2 (g' := g + 1) c1 (by omega)⟩ (fun hHeld => ?_)
      clear hK K
      (refine hd_take 10 (v := ?_) rfl (by kernel_rfl) (by kernel_rfl) (fun _ _ _ h => h) (by assumption) ?_ ?_; rotate_left; (intro w hSw; (try dsimp only at hSw); go_simp; first | done | with_reducible rfl); simp only [Act.put, List.setIfInBounds_toArray, List.set_cons_zero, List.set_cons_succ])
      refine wpAnyH_done (by kernel_rfl) ?_ _
      go_wp2
      have hf := two_set (u' := cx a c) (v' := cx b d) HX1.out
      have hb3 : Below w.heap.size w (((W2.setCell ⟨g + 1, 0, none⟩ (cx a c)).setCell ⟨g + 1, 1, none⟩ (cx b d)).drew) := below_drew1 (below_set (below_set HB1.out (by omega)) (by omega))
      refine bodyPost_ret (results_ct (p := 6) (u := 7) rfl _ _ (g + 1) _ _ _ _ rfl hf Try.underlying29 rfl infoRect) rfl ?_
      rw [HK.out]
      exact ⟨rfl, hb3⟩
end Go.Proofs.Ythmkpgemilmikaa.A
