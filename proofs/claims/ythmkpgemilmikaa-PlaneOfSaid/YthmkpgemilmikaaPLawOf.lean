/- PlaneOf: a rectangle's sides, points and area are those that the reference tells; turned twice it is itself. -/
import Derived.Test.YthmkpgemilmikaaPLawTurns
import Derived.Test.YthmkpgemilmikaaPRef
import Derived.Test.YthmkpgemilmikaaIHeld
namespace Go.Proofs.Ythmkpgemilmikaa.A
open Go.RowKit Go.Proofs.YthmkpgemilmikaaW.PrintWords Go.Proofs.YthmkpgemilmikaaW.PrintLast Go.Proofs.YthmkpgemilmikaaW.PrintMore
attribute [local go_sem] run_store_cx
set_option linter.unusedVariables false
set_option linter.unusedSimpArgs false

theorem area_R0 : R0.area = 0 := by decide
theorem has_rc (a b c d : Nat) (h1 : a < b) (h2 : b ≤ 1099511627776) (h3 : c < d) (h4 : d ≤ 1099511627776) (x y : Int) : (S.Sp.has ⟨(a : Int), (b : Int)⟩ x && S.Sp.has ⟨(c : Int), (d : Int)⟩ y) = decide (Rc.inn ⟨a, b, c, d⟩ x y) := by
  have hm1 : S.Sp.may ⟨(a : Int), (b : Int)⟩ = true := (S.may_iff _).2 (by simp only; omega)
  have hm2 : S.Sp.may ⟨(c : Int), (d : Int)⟩ = true := (S.may_iff _).2 (by simp only; omega)
  rw [Bool.eq_iff_iff, Bool.and_eq_true, S.has_iff, S.has_iff, decide_eq_true_eq]
  simp only [hm1, hm2, true_and, Rc.inn]
  omega
set_option maxRecDepth 100000 in
set_option maxHeartbeats 4000000 in
theorem ofl_dead (w : World) (a : RR) (hm : (S.Sp.may ⟨a.e0, a.e1⟩ && S.Sp.may ⟨a.t0, a.t1⟩) = false) (ep t : Int) :
    Calls Try.prog 4 #[.agg #[.int .i64 a.e0, .int .i64 a.e1, .int .i64 a.t0, .int .i64 a.t1], .int .i64 ep, .int .i64 t] w fun e w' => e = .returned (.bool true) ∧ Below w.heap.size w w' := by
  have HOF := Aside0.mk (fun W => lof_calls a.e0 a.e1 a.t0 a.t1 W)
  have HMY := Aside0.mk (fun W => rmay5_calls a.e0 a.e1 a.t0 a.t1 W)
  have hr : mkR ⟨a.e0, a.e1⟩ ⟨a.t0, a.t1⟩ = R0 := by unfold mkR; rw [hm]; rfl
  rw [hm, hr] at HOF
  rw [hm] at HMY
  have HSX := Aside0.mk (fun W => lsides_calls R0 R0_ok W)
  rw [show (Value.agg #[.int .i64 (R0.e0 : Int), .int .i64 (R0.e1 : Int), .int .i64 (R0.t0 : Int), .int .i64 (R0.t1 : Int)]) = .agg #[.int .i64 0, .int .i64 0, .int .i64 0, .int .i64 0] from rfl] at HSX
  have HHX := Aside0.mk (fun W => phas_calls R0 R0_ok ep t W)
  rw [has_inn R0 R0_ok, decide_eq_false (show ¬ R0.inn ep t by unfold Rc.inn R0; simp only; omega)] at HHX
  have HAX := Aside0.mk (fun W => area_calls R0 R0_ok W)
  rw [area_R0] at HAX
  rw [show ((0 : Nat) : Int) = 0 from rfl] at HAX
  have hq := fun d W => eqR_self d W 0 0 0 0
  obtain ⟨x, hx⟩ : ∃ x, R0 = x := ⟨_, rfl⟩
  rw [hx] at HOF HSX HHX HAX
  clear hm hr hx
  obtain ⟨g, hg⟩ : ∃ g, w.heap.size = g := ⟨_, rfl⟩
  obtain ⟨W, hW⟩ : ∃ W, w.alloc (fB a.e0 a.e1 a.t0 a.t1) = W := ⟨_, rfl⟩
  have hb : Below w.heap.size w W := by rw [← hW]; exact below_alloc (Below.refl _ _) _
  have z0 : W.heap[g]? = some (fB a.e0 a.e1 a.t0 a.t1) := by rw [← hW, ← hg]; exact blk_new w _
  obtain ⟨d0, d1, d2, d3, -⟩ := four_cells z0
  have HB := Aside0.mk hb
  have HZ := Aside0.mk z0
  clear hb z0
  go_enter Try.func4, Try.ntmps4
  go_wp2_with fail
  (with_reducible refine (HOF.out W).mono ?_)
  rintro e w1 ⟨rfl, hb1⟩
  obtain ⟨g1, hg1⟩ : ∃ g, w1.heap.size = g := ⟨_, rfl⟩
  obtain ⟨W1, hW1⟩ : ∃ W1, w1.alloc (rBox x) = W1 := ⟨_, rfl⟩
  have hb1' : Below W.heap.size W W1 := by rw [← hW1]; exact below_alloc hb1 _
  have hx1 : W1.heap[g1]? = some (rBox x) := by rw [← hW1, ← hg1]; exact blk_new w1 _
  have hz1 := blk_below HZ.out hb1'
  clear d0 d1 d2 d3
  obtain ⟨d0, d1, d2, d3, -⟩ := four_cells hz1
  have HB1 := Aside0.mk (below_step HB.out hb1')
  have HX1 := Aside0.mk hx1
  have HZ1 := Aside0.mk hz1
  clear hb1 hb1' hx1 hz1
  go_wp2_with fail
  (with_reducible refine (HMY.out W1).mono ?_)
  rintro e w2 ⟨rfl, hb2⟩
  have HB2 := Aside0.mk (below_step HB1.out hb2)
  have HX2 := Aside0.mk (blk_below HX1.out hb2)
  have HZ2 := Aside0.mk (blk_below HZ1.out hb2)
  clear hb2 d0 d1 d2 d3
  obtain ⟨e0, e1, -⟩ := two_cells HX2.out
  go_wp2_with fail
  (with_reducible refine (HSX.out w2).mono ?_)
  rintro e w3 ⟨rfl, hb3⟩
  have HB3 := Aside0.mk (below_step HB2.out hb3)
  have HX3 := Aside0.mk (blk_below HX2.out hb3)
  clear hb3 e0 e1
  obtain ⟨e0, e1, -⟩ := two_cells HX3.out
  go_wp2_with fail
  (with_reducible refine (HHX.out w3).mono ?_)
  rintro e w4 ⟨rfl, hb4⟩
  have HB4 := Aside0.mk (below_step HB3.out hb4)
  have HX4 := Aside0.mk (blk_below HX3.out hb4)
  clear hb4 e0 e1
  obtain ⟨e0, e1, -⟩ := two_cells HX4.out
  go_wp2_with fail
  (with_reducible refine (HAX.out w4).mono ?_)
  rintro e w5 ⟨rfl, hb5⟩
  have HB5 := Aside0.mk (below_step HB4.out hb5)
  clear hb5 e0 e1
  go_wp2_with fail
  (with_reducible refine (lives_calls _).mono ?_)
  rintro e w6 ⟨rfl, hb6⟩
  have HB6 := Aside0.mk (below_step HB5.out hb6)
  clear hb6
  go_wp2_with fail
  clear hg
  go_ret
  exact ⟨rfl, HB6.out⟩
set_option maxRecDepth 100000 in
set_option maxHeartbeats 8000000 in
theorem ofl_live (w : World) (a b c d : Nat) (h1 : a < b) (h2 : b ≤ 1099511627776) (h3 : c < d) (h4 : d ≤ 1099511627776) (ep t : Int) :
    Calls Try.prog 4 #[.agg #[.int .i64 (a : Int), .int .i64 (b : Int), .int .i64 (c : Int), .int .i64 (d : Int)], .int .i64 ep, .int .i64 t] w fun e w' => e = .returned (.bool true) ∧ Below w.heap.size w w' := by
  have hm1 : S.Sp.may ⟨(a : Int), (b : Int)⟩ = true := (S.may_iff _).2 (by simp only; omega)
  have hm2 : S.Sp.may ⟨(c : Int), (d : Int)⟩ = true := (S.may_iff _).2 (by simp only; omega)
  have HOF := Aside0.mk (fun W => lof_calls (a : Int) (b : Int) (c : Int) (d : Int) W)
  have HMY := Aside0.mk (fun W => rmay5_calls (a : Int) (b : Int) (c : Int) (d : Int) W)
  have hr : mkR ⟨(a : Int), (b : Int)⟩ ⟨(c : Int), (d : Int)⟩ = ⟨a, b, c, d⟩ := by unfold mkR; rw [hm1, hm2]; rfl
  rw [hm1, hm2, hr] at HOF
  rw [hm1, hm2] at HMY
  have hok : Rc.ok ⟨a, b, c, d⟩ := by unfold Rc.ok; simp only; omega
  have hokt : Rc.ok ⟨c, d, a, b⟩ := by unfold Rc.ok; simp only; omega
  have HTX := Aside0.mk (fun W => turn_calls ⟨a, b, c, d⟩ hok W)
  have HTT := Aside0.mk (fun W => turn_calls ⟨c, d, a, b⟩ hokt W)
  rw [show Rc.turn ⟨a, b, c, d⟩ = ⟨c, d, a, b⟩ from rfl] at HTX
  rw [show Rc.turn ⟨c, d, a, b⟩ = ⟨a, b, c, d⟩ from rfl] at HTT
  have HSX := Aside0.mk (fun W => lsides_calls ⟨a, b, c, d⟩ hok W)
  have HST := Aside0.mk (fun W => lsides_calls ⟨c, d, a, b⟩ hokt W)
  have HHX := Aside0.mk (fun W => phas_calls ⟨a, b, c, d⟩ hok ep t W)
  have HHT := Aside0.mk (fun W => phas_calls ⟨c, d, a, b⟩ hokt t ep W)
  have HRH := Aside0.mk (fun W => rhas5_calls (a : Int) (b : Int) (c : Int) (d : Int) ep t W)
  rw [has_inn _ hok] at HHX
  rw [has_inn _ hokt, show decide (Rc.inn ⟨c, d, a, b⟩ t ep) = decide (Rc.inn ⟨a, b, c, d⟩ ep t) from decide_eq_decide.2 (by unfold Rc.inn; simp only; omega)] at HHT
  rw [has_rc a b c d h1 h2 h3 h4] at HRH
  have HAX := Aside0.mk (fun W => area_calls ⟨a, b, c, d⟩ hok W)
  have HRA := Aside0.mk (fun W => rarea5_calls a b c d h1 h2 h3 h4 W)
  obtain ⟨ar, har⟩ : ∃ k, Rc.area ⟨a, b, c, d⟩ = k := ⟨_, rfl⟩
  obtain ⟨hb', hhb⟩ : ∃ k, decide (Rc.inn ⟨a, b, c, d⟩ ep t) = k := ⟨_, rfl⟩
  rw [har] at HAX HRA
  rw [hhb] at HHX HHT HRH
  have hq := fun e W => eqR_self e W (a : Int) (b : Int) (c : Int) (d : Int)
  have hq2 := fun e W => eqR_self e W (c : Int) (d : Int) (a : Int) (b : Int)
  clear hm1 hm2 hr hok hokt har hhb h1 h2 h3 h4
  obtain ⟨g, hg⟩ : ∃ g, w.heap.size = g := ⟨_, rfl⟩
  obtain ⟨W, hW⟩ : ∃ W, w.alloc (fB (a : Int) (b : Int) (c : Int) (d : Int)) = W := ⟨_, rfl⟩
  have hb : Below w.heap.size w W := by rw [← hW]; exact below_alloc (Below.refl _ _) _
  have z0 : W.heap[g]? = some (fB (a : Int) (b : Int) (c : Int) (d : Int)) := by rw [← hW, ← hg]; exact blk_new w _
  obtain ⟨d0, d1, d2, d3, -⟩ := four_cells z0
  have HB := Aside0.mk hb
  have HZ := Aside0.mk z0
  clear hb z0
  go_enter Try.func4, Try.ntmps4
  go_wp2_with fail
  (with_reducible refine (HOF.out W).mono ?_)
  rintro e w1 ⟨rfl, hb1⟩
  obtain ⟨g1, hg1⟩ : ∃ g, w1.heap.size = g := ⟨_, rfl⟩
  obtain ⟨W1, hW1⟩ : ∃ W1, w1.alloc (rB4 a b c d) = W1 := ⟨_, rfl⟩
  have hb1' : Below W.heap.size W W1 := by rw [← hW1]; exact below_alloc hb1 _
  have hx1 : W1.heap[g1]? = some (rB4 a b c d) := by rw [← hW1, ← hg1]; exact blk_new w1 _
  have hz1 := blk_below HZ.out hb1'
  clear d0 d1 d2 d3
  obtain ⟨d0, d1, d2, d3, -⟩ := four_cells hz1
  have HB1 := Aside0.mk (below_step HB.out hb1')
  have HX1 := Aside0.mk hx1
  have HZ1 := Aside0.mk hz1
  clear hb1 hb1' hx1 hz1
  go_wp2_with fail
  (with_reducible refine (HMY.out W1).mono ?_)
  rintro e w2 ⟨rfl, hb2⟩
  have HB2 := Aside0.mk (below_step HB1.out hb2)
  have HX2 := Aside0.mk (blk_below HX1.out hb2)
  have HZ2 := Aside0.mk (blk_below HZ1.out hb2)
  clear hb2 d0 d1 d2 d3
  obtain ⟨e0, e1, -⟩ := two_cells HX2.out
  go_wp2_with fail
  (with_reducible refine (HTX.out w2).mono ?_)
  rintro e w3 ⟨rfl, hb3⟩
  obtain ⟨g3, hg3⟩ : ∃ g, w3.heap.size = g := ⟨_, rfl⟩
  obtain ⟨W3, hW3⟩ : ∃ W3, w3.alloc (rB4 c d a b) = W3 := ⟨_, rfl⟩
  have hb3' : Below w2.heap.size w2 W3 := by rw [← hW3]; exact below_alloc hb3 _
  have hx3 : W3.heap[g3]? = some (rB4 c d a b) := by rw [← hW3, ← hg3]; exact blk_new w3 _
  have HB3 := Aside0.mk (below_step HB2.out hb3')
  have HX3 := Aside0.mk (show W3.heap[g1]? = some (rB4 a b c d) ∧ W3.heap[g3]? = some (rB4 c d a b) ∧ W3.heap[g]? = some (fB (a : Int) (b : Int) (c : Int) (d : Int)) from ⟨blk_below HX2.out hb3', hx3, blk_below HZ2.out hb3'⟩)
  clear hb3 hb3' hx3 e0 e1
  go_wp2_with fail
  refine wp_region_held_drew (S := (fun w' => Below W3.heap.size W3 w')) (by kernel_rfl) (below_drew1 (Below.refl _ _)) (fun hHeld => ?_)
  (refine hd_take 0 (v := ?_) rfl (by kernel_rfl) (by kernel_rfl) (fun _ _ _ h => h) (by assumption) ?_ ?_; rotate_left; (intro w hSw; (try dsimp only at hSw); obtain ⟨s0, s1, -⟩ := two_cells (blk_below HX3.out.1 hSw); obtain ⟨s2, s3, -⟩ := two_cells (blk_below HX3.out.2.1 hSw); obtain ⟨s4, s5, s6, s7, -⟩ := four_cells (blk_below HX3.out.2.2 hSw); go_simp; first | done | with_reducible rfl); simp only [Act.put, List.setIfInBounds_toArray, List.set_cons_zero, List.set_cons_succ])
  (refine hd_take 2 (v := ?_) rfl (by kernel_rfl) (by kernel_rfl) (fun _ _ _ h => h) (by assumption) ?_ ?_; rotate_left; (intro w hSw; (try dsimp only at hSw); obtain ⟨s0, s1, -⟩ := two_cells (blk_below HX3.out.1 hSw); obtain ⟨s2, s3, -⟩ := two_cells (blk_below HX3.out.2.1 hSw); obtain ⟨s4, s5, s6, s7, -⟩ := four_cells (blk_below HX3.out.2.2 hSw); go_simp; first | done | with_reducible rfl); simp only [Act.put, List.setIfInBounds_toArray, List.set_cons_zero, List.set_cons_succ])
  (refine hd_take 3 (v := ?_) rfl (by kernel_rfl) (by kernel_rfl) (fun _ _ _ h => h) (by assumption) ?_ ?_; rotate_left; (intro w hSw; (try dsimp only at hSw); obtain ⟨s0, s1, -⟩ := two_cells (blk_below HX3.out.1 hSw); obtain ⟨s2, s3, -⟩ := two_cells (blk_below HX3.out.2.1 hSw); obtain ⟨s4, s5, s6, s7, -⟩ := four_cells (blk_below HX3.out.2.2 hSw); go_simp; first | done | with_reducible rfl); simp only [Act.put, List.setIfInBounds_toArray, List.set_cons_zero, List.set_cons_succ])
  (refine hd_take 4 (v := ?_) rfl (by kernel_rfl) (by kernel_rfl) (fun _ _ _ h => h) (by assumption) ?_ ?_; rotate_left; (intro w hSw; (try dsimp only at hSw); obtain ⟨s0, s1, -⟩ := two_cells (blk_below HX3.out.1 hSw); obtain ⟨s2, s3, -⟩ := two_cells (blk_below HX3.out.2.1 hSw); obtain ⟨s4, s5, s6, s7, -⟩ := four_cells (blk_below HX3.out.2.2 hSw); go_simp; first | done | with_reducible rfl); simp only [Act.put, List.setIfInBounds_toArray, List.set_cons_zero, List.set_cons_succ])
  (refine hd_take 5 (v := ?_) rfl (by kernel_rfl) (by kernel_rfl) (fun _ _ _ h => h) (by assumption) ?_ ?_; rotate_left; (intro w hSw; (try dsimp only at hSw); obtain ⟨s0, s1, -⟩ := two_cells (blk_below HX3.out.1 hSw); obtain ⟨s2, s3, -⟩ := two_cells (blk_below HX3.out.2.1 hSw); obtain ⟨s4, s5, s6, s7, -⟩ := four_cells (blk_below HX3.out.2.2 hSw); go_simp; first | done | with_reducible rfl); simp only [Act.put, List.setIfInBounds_toArray, List.set_cons_zero, List.set_cons_succ])
  (refine hd_take 6 (v := ?_) rfl (by kernel_rfl) (by kernel_rfl) (fun _ _ _ h => h) (by assumption) ?_ ?_; rotate_left; (intro w hSw; (try dsimp only at hSw); obtain ⟨s0, s1, -⟩ := two_cells (blk_below HX3.out.1 hSw); obtain ⟨s2, s3, -⟩ := two_cells (blk_below HX3.out.2.1 hSw); obtain ⟨s4, s5, s6, s7, -⟩ := four_cells (blk_below HX3.out.2.2 hSw); go_simp; first | done | with_reducible rfl); simp only [Act.put, List.setIfInBounds_toArray, List.set_cons_zero, List.set_cons_succ])
  refine hd_one 1 rfl (by kernel_rfl) (fun K hK => ?_)
  go_simp
  go_wp2_with ((go_at_call 14); (with_reducible refine (HST.out _).mono ?_); rintro e u1 ⟨rfl, hc1⟩)
  refine hK.out _ _ (below_step hHeld hc1) (fun hHeld => ?_)
  clear hK K
  (refine hd_take 7 (v := ?_) rfl (by kernel_rfl) (by kernel_rfl) (fun _ _ _ h => h) (by assumption) ?_ ?_; rotate_left; (intro w hSw; (try dsimp only at hSw); go_simp; first | done | with_reducible rfl); simp only [Act.put, List.setIfInBounds_toArray, List.set_cons_zero, List.set_cons_succ])
  (refine hd_take 8 (v := ?_) rfl (by kernel_rfl) (by kernel_rfl) (fun _ _ _ h => h) (by assumption) ?_ ?_; rotate_left; (intro w hSw; (try dsimp only at hSw); go_simp; first | done | with_reducible rfl); simp only [Act.put, List.setIfInBounds_toArray, List.set_cons_zero, List.set_cons_succ])
  (refine hd_take 9 (v := ?_) rfl (by kernel_rfl) (by kernel_rfl) (fun _ _ _ h => h) (by assumption) ?_ ?_; rotate_left; (intro w hSw; (try dsimp only at hSw); obtain ⟨s0, s1, -⟩ := two_cells (blk_below HX3.out.1 hSw); obtain ⟨s2, s3, -⟩ := two_cells (blk_below HX3.out.2.1 hSw); obtain ⟨s4, s5, s6, s7, -⟩ := four_cells (blk_below HX3.out.2.2 hSw); go_simp; first | done | with_reducible rfl); simp only [Act.put, List.setIfInBounds_toArray, List.set_cons_zero, List.set_cons_succ])
  (refine hd_take 10 (v := ?_) rfl (by kernel_rfl) (by kernel_rfl) (fun _ _ _ h => h) (by assumption) ?_ ?_; rotate_left; (intro w hSw; (try dsimp only at hSw); obtain ⟨s0, s1, -⟩ := two_cells (blk_below HX3.out.1 hSw); obtain ⟨s2, s3, -⟩ := two_cells (blk_below HX3.out.2.1 hSw); obtain ⟨s4, s5, s6, s7, -⟩ := four_cells (blk_below HX3.out.2.2 hSw); go_simp; first | done | with_reducible rfl); simp only [Act.put, List.setIfInBounds_toArray, List.set_cons_zero, List.set_cons_succ])
  (refine hd_take 11 (v := ?_) rfl (by kernel_rfl) (by kernel_rfl) (fun _ _ _ h => h) (by assumption) ?_ ?_; rotate_left; (intro w hSw; (try dsimp only at hSw); obtain ⟨s0, s1, -⟩ := two_cells (blk_below HX3.out.1 hSw); obtain ⟨s2, s3, -⟩ := two_cells (blk_below HX3.out.2.1 hSw); obtain ⟨s4, s5, s6, s7, -⟩ := four_cells (blk_below HX3.out.2.2 hSw); go_simp; first | done | with_reducible rfl); simp only [Act.put, List.setIfInBounds_toArray, List.set_cons_zero, List.set_cons_succ])
  (refine hd_take 13 (v := ?_) rfl (by kernel_rfl) (by kernel_rfl) (fun _ _ _ h => h) (by assumption) ?_ ?_; rotate_left; (intro w hSw; (try dsimp only at hSw); obtain ⟨s0, s1, -⟩ := two_cells (blk_below HX3.out.1 hSw); obtain ⟨s2, s3, -⟩ := two_cells (blk_below HX3.out.2.1 hSw); obtain ⟨s4, s5, s6, s7, -⟩ := four_cells (blk_below HX3.out.2.2 hSw); go_simp; first | done | with_reducible rfl); simp only [Act.put, List.setIfInBounds_toArray, List.set_cons_zero, List.set_cons_succ])
  (refine hd_take 14 (v := ?_) rfl (by kernel_rfl) (by kernel_rfl) (fun _ _ _ h => h) (by assumption) ?_ ?_; rotate_left; (intro w hSw; (try dsimp only at hSw); obtain ⟨s0, s1, -⟩ := two_cells (blk_below HX3.out.1 hSw); obtain ⟨s2, s3, -⟩ := two_cells (blk_below HX3.out.2.1 hSw); obtain ⟨s4, s5, s6, s7, -⟩ := four_cells (blk_below HX3.out.2.2 hSw); go_simp; first | done | with_reducible rfl); simp only [Act.put, List.setIfInBounds_toArray, List.set_cons_zero, List.set_cons_succ])
  (refine hd_take 15 (v := ?_) rfl (by kernel_rfl) (by kernel_rfl) (fun _ _ _ h => h) (by assumption) ?_ ?_; rotate_left; (intro w hSw; (try dsimp only at hSw); obtain ⟨s0, s1, -⟩ := two_cells (blk_below HX3.out.1 hSw); obtain ⟨s2, s3, -⟩ := two_cells (blk_below HX3.out.2.1 hSw); obtain ⟨s4, s5, s6, s7, -⟩ := four_cells (blk_below HX3.out.2.2 hSw); go_simp; first | done | with_reducible rfl); simp only [Act.put, List.setIfInBounds_toArray, List.set_cons_zero, List.set_cons_succ])
  refine hd_one 12 rfl (by kernel_rfl) (fun K hK => ?_)
  go_simp
  go_wp2_with ((go_at_call 15); (with_reducible refine (HHT.out _).mono ?_); rintro e u2 ⟨rfl, hc2⟩)
  refine hK.out _ _ (below_step hHeld hc2) (fun hHeld => ?_)
  clear hK K
  refine hd_one 16 rfl (by kernel_rfl) (fun K hK => ?_)
  go_simp
  go_wp2_with ((go_at_call 15); (with_reducible refine (HHX.out _).mono ?_); rintro e u3 ⟨rfl, hc3⟩)
  refine hK.out _ _ (below_step hHeld hc3) (fun hHeld => ?_)
  clear hK K
  (refine hd_take 17 (v := ?_) rfl (by kernel_rfl) (by kernel_rfl) (fun _ _ _ h => h) (by assumption) ?_ ?_; rotate_left; (intro w hSw; (try dsimp only at hSw); go_simp; first | done | with_reducible rfl); simp only [Act.put, List.setIfInBounds_toArray, List.set_cons_zero, List.set_cons_succ])
  (refine hd_take 18 (v := ?_) rfl (by kernel_rfl) (by kernel_rfl) (fun _ _ _ h => h) (by assumption) ?_ ?_; rotate_left; (intro w hSw; (try dsimp only at hSw); go_simp; first | done | with_reducible rfl); simp only [Act.put, List.setIfInBounds_toArray, List.set_cons_zero, List.set_cons_succ])
  (refine hd_take 19 (v := ?_) rfl (by kernel_rfl) (by kernel_rfl) (fun _ _ _ h => h) (by assumption) ?_ ?_; rotate_left; (intro w hSw; (try dsimp only at hSw); go_simp; first | done | with_reducible rfl); simp only [Act.put, List.setIfInBounds_toArray, List.set_cons_zero, List.set_cons_succ])
  (refine hd_take 20 (v := ?_) rfl (by kernel_rfl) (by kernel_rfl) (fun _ _ _ h => h) (by assumption) ?_ ?_; rotate_left; (intro w hSw; (try dsimp only at hSw); obtain ⟨s0, s1, -⟩ := two_cells (blk_below HX3.out.1 hSw); obtain ⟨s2, s3, -⟩ := two_cells (blk_below HX3.out.2.1 hSw); obtain ⟨s4, s5, s6, s7, -⟩ := four_cells (blk_below HX3.out.2.2 hSw); go_simp; first | done | with_reducible rfl); simp only [Act.put, List.setIfInBounds_toArray, List.set_cons_zero, List.set_cons_succ])
  (refine hd_take 23 (v := ?_) rfl (by kernel_rfl) (by kernel_rfl) (fun _ _ _ h => h) (by assumption) ?_ ?_; rotate_left; (intro w hSw; (try dsimp only at hSw); obtain ⟨s0, s1, -⟩ := two_cells (blk_below HX3.out.1 hSw); obtain ⟨s2, s3, -⟩ := two_cells (blk_below HX3.out.2.1 hSw); obtain ⟨s4, s5, s6, s7, -⟩ := four_cells (blk_below HX3.out.2.2 hSw); go_simp; first | done | with_reducible rfl); simp only [Act.put, List.setIfInBounds_toArray, List.set_cons_zero, List.set_cons_succ])
  refine hd_one 21 rfl (by kernel_rfl) (fun K hK => ?_)
  go_simp
  go_wp2_with ((go_at_call 16); (with_reducible refine (HTT.out _).mono ?_); rintro e u4 ⟨rfl, hc4⟩)
  refine hK.out _ _ (below_step hHeld hc4) (fun hHeld => ?_)
  clear hK K
  refine hd_one 22 rfl (by kernel_rfl) (fun K hK => ?_)
  go_simp
  go_wp2_with ((go_at_call 14); (with_reducible refine (HSX.out _).mono ?_); rintro e u5 ⟨rfl, hc5⟩)
  refine hK.out _ _ (below_step hHeld hc5) (fun hHeld => ?_)
  clear hK K
  (refine hd_take 24 (v := ?_) rfl (by kernel_rfl) (by kernel_rfl) (fun _ _ _ h => h) (by assumption) ?_ ?_; rotate_left; (intro w hSw; (try dsimp only at hSw); go_simp; first | done | with_reducible rfl); simp only [Act.put, List.setIfInBounds_toArray, List.set_cons_zero, List.set_cons_succ])
  (refine hd_take 25 (v := ?_) rfl (by kernel_rfl) (by kernel_rfl) (fun _ _ _ h => h) (by assumption) ?_ ?_; rotate_left; (intro w hSw; (try dsimp only at hSw); go_simp; first | done | with_reducible rfl); simp only [Act.put, List.setIfInBounds_toArray, List.set_cons_zero, List.set_cons_succ])
  (refine hd_take 26 (v := ?_) rfl (by kernel_rfl) (by kernel_rfl) (fun _ _ _ h => h) (by assumption) ?_ ?_; rotate_left; (intro w hSw; (try dsimp only at hSw); go_simp; first | done | with_reducible rfl); simp only [Act.put, List.setIfInBounds_toArray, List.set_cons_zero, List.set_cons_succ])
  refine wpAnyH_done (by kernel_rfl) ?_ _
  have HB5 := Aside0.mk (below_step HB3.out hHeld)
  have HX5 := Aside0.mk (show u5.heap[g1]? = some (rB4 a b c d) ∧ u5.heap[g3]? = some (rB4 c d a b) ∧ u5.heap[g]? = some (fB (a : Int) (b : Int) (c : Int) (d : Int)) from ⟨blk_below HX3.out.1 hHeld, blk_below HX3.out.2.1 hHeld, blk_below HX3.out.2.2 hHeld⟩)
  clear hHeld
  go_wp2_with fail
  refine wp_region_held_drew (S := (fun w' => Below u5.heap.size u5 w')) (by kernel_rfl) (below_drew1 (Below.refl _ _)) (fun hHeld => ?_)
  (refine hd_take 0 (v := ?_) rfl (by kernel_rfl) (by kernel_rfl) (fun _ _ _ h => h) (by assumption) ?_ ?_; rotate_left; (intro w hSw; (try dsimp only at hSw); obtain ⟨s0, s1, -⟩ := two_cells (blk_below HX5.out.1 hSw); obtain ⟨s2, s3, -⟩ := two_cells (blk_below HX5.out.2.1 hSw); obtain ⟨s4, s5, s6, s7, -⟩ := four_cells (blk_below HX5.out.2.2 hSw); go_simp; first | done | with_reducible rfl); simp only [Act.put, List.setIfInBounds_toArray, List.set_cons_zero, List.set_cons_succ])
  (refine hd_take 2 (v := ?_) rfl (by kernel_rfl) (by kernel_rfl) (fun _ _ _ h => h) (by assumption) ?_ ?_; rotate_left; (intro w hSw; (try dsimp only at hSw); obtain ⟨s0, s1, -⟩ := two_cells (blk_below HX5.out.1 hSw); obtain ⟨s2, s3, -⟩ := two_cells (blk_below HX5.out.2.1 hSw); obtain ⟨s4, s5, s6, s7, -⟩ := four_cells (blk_below HX5.out.2.2 hSw); go_simp; first | done | with_reducible rfl); simp only [Act.put, List.setIfInBounds_toArray, List.set_cons_zero, List.set_cons_succ])
  refine hd_one 1 rfl (by kernel_rfl) (fun K hK => ?_)
  go_simp
  go_wp2_with ((go_at_call 14); (with_reducible refine (HSX.out _).mono ?_); rintro e u6 ⟨rfl, hc6⟩)
  refine hK.out _ _ (below_step hHeld hc6) (fun hHeld => ?_)
  clear hK K
  (refine hd_take 3 (v := ?_) rfl (by kernel_rfl) (by kernel_rfl) (fun _ _ _ h => h) (by assumption) ?_ ?_; rotate_left; (intro w hSw; (try dsimp only at hSw); go_simp; first | done | with_reducible rfl); simp only [Act.put, List.setIfInBounds_toArray, List.set_cons_zero, List.set_cons_succ])
  (refine hd_take 4 (v := ?_) rfl (by kernel_rfl) (by kernel_rfl) (fun _ _ _ h => h) (by assumption) ?_ ?_; rotate_left; (intro w hSw; (try dsimp only at hSw); go_simp; first | done | with_reducible rfl); simp only [Act.put, List.setIfInBounds_toArray, List.set_cons_zero, List.set_cons_succ])
  (refine hd_take 5 (v := ?_) rfl (by kernel_rfl) (by kernel_rfl) (fun _ _ _ h => h) (by assumption) ?_ ?_; rotate_left; (intro w hSw; (try dsimp only at hSw); obtain ⟨s0, s1, -⟩ := two_cells (blk_below HX5.out.1 hSw); obtain ⟨s2, s3, -⟩ := two_cells (blk_below HX5.out.2.1 hSw); obtain ⟨s4, s5, s6, s7, -⟩ := four_cells (blk_below HX5.out.2.2 hSw); go_simp; first | done | with_reducible rfl); simp only [Act.put, List.setIfInBounds_toArray, List.set_cons_zero, List.set_cons_succ])
  (refine hd_take 6 (v := ?_) rfl (by kernel_rfl) (by kernel_rfl) (fun _ _ _ h => h) (by assumption) ?_ ?_; rotate_left; (intro w hSw; (try dsimp only at hSw); obtain ⟨s0, s1, -⟩ := two_cells (blk_below HX5.out.1 hSw); obtain ⟨s2, s3, -⟩ := two_cells (blk_below HX5.out.2.1 hSw); obtain ⟨s4, s5, s6, s7, -⟩ := four_cells (blk_below HX5.out.2.2 hSw); go_simp; first | done | with_reducible rfl); simp only [Act.put, List.setIfInBounds_toArray, List.set_cons_zero, List.set_cons_succ])
  (refine hd_take 7 (v := ?_) rfl (by kernel_rfl) (by kernel_rfl) (fun _ _ _ h => h) (by assumption) ?_ ?_; rotate_left; (intro w hSw; (try dsimp only at hSw); obtain ⟨s0, s1, -⟩ := two_cells (blk_below HX5.out.1 hSw); obtain ⟨s2, s3, -⟩ := two_cells (blk_below HX5.out.2.1 hSw); obtain ⟨s4, s5, s6, s7, -⟩ := four_cells (blk_below HX5.out.2.2 hSw); go_simp; first | done | with_reducible rfl); simp only [Act.put, List.setIfInBounds_toArray, List.set_cons_zero, List.set_cons_succ])
  (refine hd_take 9 (v := ?_) rfl (by kernel_rfl) (by kernel_rfl) (fun _ _ _ h => h) (by assumption) ?_ ?_; rotate_left; (intro w hSw; (try dsimp only at hSw); obtain ⟨s0, s1, -⟩ := two_cells (blk_below HX5.out.1 hSw); obtain ⟨s2, s3, -⟩ := two_cells (blk_below HX5.out.2.1 hSw); obtain ⟨s4, s5, s6, s7, -⟩ := four_cells (blk_below HX5.out.2.2 hSw); go_simp; first | done | with_reducible rfl); simp only [Act.put, List.setIfInBounds_toArray, List.set_cons_zero, List.set_cons_succ])
  (refine hd_take 10 (v := ?_) rfl (by kernel_rfl) (by kernel_rfl) (fun _ _ _ h => h) (by assumption) ?_ ?_; rotate_left; (intro w hSw; (try dsimp only at hSw); obtain ⟨s0, s1, -⟩ := two_cells (blk_below HX5.out.1 hSw); obtain ⟨s2, s3, -⟩ := two_cells (blk_below HX5.out.2.1 hSw); obtain ⟨s4, s5, s6, s7, -⟩ := four_cells (blk_below HX5.out.2.2 hSw); go_simp; first | done | with_reducible rfl); simp only [Act.put, List.setIfInBounds_toArray, List.set_cons_zero, List.set_cons_succ])
  (refine hd_take 11 (v := ?_) rfl (by kernel_rfl) (by kernel_rfl) (fun _ _ _ h => h) (by assumption) ?_ ?_; rotate_left; (intro w hSw; (try dsimp only at hSw); obtain ⟨s0, s1, -⟩ := two_cells (blk_below HX5.out.1 hSw); obtain ⟨s2, s3, -⟩ := two_cells (blk_below HX5.out.2.1 hSw); obtain ⟨s4, s5, s6, s7, -⟩ := four_cells (blk_below HX5.out.2.2 hSw); go_simp; first | done | with_reducible rfl); simp only [Act.put, List.setIfInBounds_toArray, List.set_cons_zero, List.set_cons_succ])
  refine hd_one 8 rfl (by kernel_rfl) (fun K hK => ?_)
  go_simp
  go_wp2_with ((go_at_call 15); (with_reducible refine (HHX.out _).mono ?_); rintro e u7 ⟨rfl, hc7⟩)
  refine hK.out _ _ (below_step hHeld hc7) (fun hHeld => ?_)
  clear hK K
  refine hd_one 12 rfl (by kernel_rfl) (fun K hK => ?_)
  go_simp
  go_wp2_with ((go_at_call 17); (with_reducible refine (HRH.out _).mono ?_); rintro e u8 ⟨rfl, hc8⟩)
  refine hK.out _ _ (below_step hHeld hc8) (fun hHeld => ?_)
  clear hK K
  (refine hd_take 13 (v := ?_) rfl (by kernel_rfl) (by kernel_rfl) (fun _ _ _ h => h) (by assumption) ?_ ?_; rotate_left; (intro w hSw; (try dsimp only at hSw); go_simp; first | done | with_reducible rfl); simp only [Act.put, List.setIfInBounds_toArray, List.set_cons_zero, List.set_cons_succ])
  (refine hd_take 14 (v := ?_) rfl (by kernel_rfl) (by kernel_rfl) (fun _ _ _ h => h) (by assumption) ?_ ?_; rotate_left; (intro w hSw; (try dsimp only at hSw); go_simp; first | done | with_reducible rfl); simp only [Act.put, List.setIfInBounds_toArray, List.set_cons_zero, List.set_cons_succ])
  (refine hd_take 15 (v := ?_) rfl (by kernel_rfl) (by kernel_rfl) (fun _ _ _ h => h) (by assumption) ?_ ?_; rotate_left; (intro w hSw; (try dsimp only at hSw); go_simp; first | done | with_reducible rfl); simp only [Act.put, List.setIfInBounds_toArray, List.set_cons_zero, List.set_cons_succ])
  (refine hd_take 16 (v := ?_) rfl (by kernel_rfl) (by kernel_rfl) (fun _ _ _ h => h) (by assumption) ?_ ?_; rotate_left; (intro w hSw; (try dsimp only at hSw); obtain ⟨s0, s1, -⟩ := two_cells (blk_below HX5.out.1 hSw); obtain ⟨s2, s3, -⟩ := two_cells (blk_below HX5.out.2.1 hSw); obtain ⟨s4, s5, s6, s7, -⟩ := four_cells (blk_below HX5.out.2.2 hSw); go_simp; first | done | with_reducible rfl); simp only [Act.put, List.setIfInBounds_toArray, List.set_cons_zero, List.set_cons_succ])
  (refine hd_take 18 (v := ?_) rfl (by kernel_rfl) (by kernel_rfl) (fun _ _ _ h => h) (by assumption) ?_ ?_; rotate_left; (intro w hSw; (try dsimp only at hSw); obtain ⟨s0, s1, -⟩ := two_cells (blk_below HX5.out.1 hSw); obtain ⟨s2, s3, -⟩ := two_cells (blk_below HX5.out.2.1 hSw); obtain ⟨s4, s5, s6, s7, -⟩ := four_cells (blk_below HX5.out.2.2 hSw); go_simp; first | done | with_reducible rfl); simp only [Act.put, List.setIfInBounds_toArray, List.set_cons_zero, List.set_cons_succ])
  refine hd_one 17 rfl (by kernel_rfl) (fun K hK => ?_)
  go_simp
  go_wp2_with ((go_at_call 11); (with_reducible refine (HAX.out _).mono ?_); rintro e u9 ⟨rfl, hc9⟩)
  refine hK.out _ _ (below_step hHeld hc9) (fun hHeld => ?_)
  clear hK K
  refine hd_one 19 rfl (by kernel_rfl) (fun K hK => ?_)
  go_simp
  go_wp2_with ((go_at_call 18); (with_reducible refine (HRA.out _).mono ?_); rintro e u10 ⟨rfl, hc10⟩)
  refine hK.out _ _ (below_step hHeld hc10) (fun hHeld => ?_)
  clear hK K
  (refine hd_take 20 (v := ?_) rfl (by kernel_rfl) (by kernel_rfl) (fun _ _ _ h => h) (by assumption) ?_ ?_; rotate_left; (intro w hSw; (try dsimp only at hSw); go_simp; first | done | with_reducible rfl); simp only [Act.put, List.setIfInBounds_toArray, List.set_cons_zero, List.set_cons_succ])
  (refine hd_take 21 (v := ?_) rfl (by kernel_rfl) (by kernel_rfl) (fun _ _ _ h => h) (by assumption) ?_ ?_; rotate_left; (intro w hSw; (try dsimp only at hSw); go_simp; first | done | with_reducible rfl); simp only [Act.put, List.setIfInBounds_toArray, List.set_cons_zero, List.set_cons_succ])
  (refine hd_take 22 (v := ?_) rfl (by kernel_rfl) (by kernel_rfl) (fun _ _ _ h => h) (by assumption) ?_ ?_; rotate_left; (intro w hSw; (try dsimp only at hSw); go_simp; first | done | with_reducible rfl); simp only [Act.put, List.setIfInBounds_toArray, List.set_cons_zero, List.set_cons_succ])
  (refine hd_take 23 (v := ?_) rfl (by kernel_rfl) (by kernel_rfl) (fun _ _ _ h => h) (by assumption) ?_ ?_; rotate_left; (intro w hSw; (try dsimp only at hSw); go_simp; first | done | with_reducible rfl); simp only [Act.put, List.setIfInBounds_toArray, List.set_cons_zero, List.set_cons_succ])
  (refine hd_take 24 (v := ?_) rfl (by kernel_rfl) (by kernel_rfl) (fun _ _ _ h => h) (by assumption) ?_ ?_; rotate_left; (intro w hSw; (try dsimp only at hSw); go_simp; first | done | with_reducible rfl); simp only [Act.put, List.setIfInBounds_toArray, List.set_cons_zero, List.set_cons_succ])
  (refine hd_take 25 (v := ?_) rfl (by kernel_rfl) (by kernel_rfl) (fun _ _ _ h => h) (by assumption) ?_ ?_; rotate_left; (intro w hSw; (try dsimp only at hSw); go_simp; first | done | with_reducible rfl); simp only [Act.put, List.setIfInBounds_toArray, List.set_cons_zero, List.set_cons_succ])
  refine hd_one 26 rfl (by kernel_rfl) (fun K hK => ?_)
  go_simp
  go_wp2_with ((go_at_call 8); (with_reducible refine (lives_calls _).mono ?_); rintro e u11 ⟨rfl, hc11⟩)
  refine hK.out _ _ (below_step hHeld hc11) (fun hHeld => ?_)
  clear hK K
  (refine hd_take 27 (v := ?_) rfl (by kernel_rfl) (by kernel_rfl) (fun _ _ _ h => h) (by assumption) ?_ ?_; rotate_left; (intro w hSw; (try dsimp only at hSw); go_simp; first | done | with_reducible rfl); simp only [Act.put, List.setIfInBounds_toArray, List.set_cons_zero, List.set_cons_succ])
  (refine hd_take 28 (v := ?_) rfl (by kernel_rfl) (by kernel_rfl) (fun _ _ _ h => h) (by assumption) ?_ ?_; rotate_left; (intro w hSw; (try dsimp only at hSw); go_simp; first | done | with_reducible rfl); simp only [Act.put, List.setIfInBounds_toArray, List.set_cons_zero, List.set_cons_succ])
  refine wpAnyH_done (by kernel_rfl) ?_ _
  have HB9 := Aside0.mk (below_step HB5.out hHeld)
  go_wp2_with fail
  clear hg
  go_ret
  exact ⟨rfl, HB9.out⟩
theorem ofl_calls (w : World) (c1 : Array Value) (a : RR) (hk1 : KRR.K w a (Value.agg c1).cells.toList) (_g1 : a.fits) (ep : Int) (_ge : IntKind.i64.min ≤ ep ∧ ep ≤ IntKind.i64.max) (t : Int) (_gt : IntKind.i64.min ≤ t ∧ t ≤ IntKind.i64.max) :
    Calls Try.prog 4 #[.agg c1, .int .i64 ep, .int .i64 t] w fun e w' => e = .returned (.bool true) ∧ Below w.heap.size w w' := by
  have e1 := RR_agg hk1
  subst e1
  cases hm : (S.Sp.may ⟨a.e0, a.e1⟩ && S.Sp.may ⟨a.t0, a.t1⟩) with
  | false => exact ofl_dead w a hm ep t
  | true =>
    rw [Bool.and_eq_true, S.may_iff, S.may_iff] at hm
    simp only at hm
    obtain ⟨a0, h0⟩ : ∃ x : Nat, a.e0 = (x : Int) := ⟨a.e0.toNat, by omega⟩
    obtain ⟨a1, h1⟩ : ∃ x : Nat, a.e1 = (x : Int) := ⟨a.e1.toNat, by omega⟩
    obtain ⟨a2, h2⟩ : ∃ x : Nat, a.t0 = (x : Int) := ⟨a.t0.toNat, by omega⟩
    obtain ⟨a3, h3⟩ : ∃ x : Nat, a.t1 = (x : Int) := ⟨a.t1.toNat, by omega⟩
    rw [h0, h1, h2, h3]
    exact ofl_live w a0 a1 a2 a3 (by omega) (by omega) (by omega) (by omega) ep t
end Go.Proofs.Ythmkpgemilmikaa.A
