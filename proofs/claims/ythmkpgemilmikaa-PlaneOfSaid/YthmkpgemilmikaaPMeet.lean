/- What two rectangles have in common; the law's own words on rectangles. -/
import Derived.Test.YthmkpgemilmikaaPMade
import Derived.Test.YthmkpgemilmikaaWEqStruct
namespace Go.Proofs.Ythmkpgemilmikaa.A
open Go.RowKit Go.Proofs.YthmkpgemilmikaaW.PrintWords Go.Proofs.YthmkpgemilmikaaW.PrintLast Go.Proofs.YthmkpgemilmikaaW.PrintMore
attribute [local go_sem] run_store_cx
set_option linter.unusedVariables false
set_option linter.unusedSimpArgs false

def meetR (a b : Rc) : Rc := ⟨max a.e0 b.e0, min a.e1 b.e1, max a.t0 b.t0, min a.t1 b.t1⟩
def Rc.live (r : Rc) : Bool := decide (r.e0 < r.e1) && decide (r.t0 < r.t1)
def meetB (a b : Rc) : Bool := (meetR a b).live
def R0 : Rc := ⟨0, 0, 0, 0⟩
theorem geq_no {a b : Nat} (ha : a ≤ 4503599627370495) (hb : b ≤ 4503599627370495) (h : a < b) : (FloatKind.f64.format.order (E a) (E b) == some .gt) = false ∧ (FloatKind.f64.format.order (E a) (E b) == some .eq) = false := by
  have g := geq_E a b ha hb
  rw [decide_eq_false (by omega), Bool.or_eq_false_iff] at g
  exact g
theorem geq_yes {a b : Nat} (ha : a ≤ 4503599627370495) (hb : b ≤ 4503599627370495) (h : b ≤ a) : ((FloatKind.f64.format.order (E a) (E b) == some .gt) = true ∧ (FloatKind.f64.format.order (E a) (E b) == some .eq) = false) ∨ ((FloatKind.f64.format.order (E a) (E b) == some .gt) = false ∧ (FloatKind.f64.format.order (E a) (E b) == some .eq) = true) := by
  rw [ord_E a b ha hb]
  rcases Nat.lt_or_ge b a with h1 | h1
  · rw [cmp_gt (by omega)]
    exact .inl ⟨rfl, rfl⟩
  · obtain rfl : a = b := by omega
    rw [cmp_eq]
    exact .inr ⟨rfl, rfl⟩
def meetX (a b : Rc) : Rc := if meetB a b then meetR a b else R0
theorem R0_ok : R0.ok := by unfold Rc.ok R0; simp only; omega
theorem meetX_ok (a b : Rc) (ha : a.ok) (hb : b.ok) : (meetX a b).ok := by
  unfold meetX
  split
  · rename_i h
    unfold meetB Rc.live at h
    simp only [Bool.and_eq_true, decide_eq_true_eq] at h
    unfold Rc.ok meetR at *
    simp only at *
    omega
  · exact R0_ok
set_option maxRecDepth 100000 in
set_option maxHeartbeats 2000000 in
theorem meet_calls (a b : Rc) (ha : a.ok) (hb : b.ok) (w : World) :
    Calls Try.prog 10 #[rv a, rv b] w fun e w' => e = .returned (.tuple #[rv (meetX a b), .bool (meetB a b)]) ∧ Below w.heap.size w w' := by
  obtain ⟨a0, a1, a2, a3⟩ := a
  obtain ⟨b0, b1, b2, b3⟩ := b
  obtain ⟨h1, h2, h3, h4⟩ := ha
  obtain ⟨h5, h6, h7, h8⟩ := hb
  simp only at h1 h2 h3 h4 h5 h6 h7 h8
  have hB : meetB ⟨a0, a1, a2, a3⟩ ⟨b0, b1, b2, b3⟩ = (decide (max a0 b0 < min a1 b1) && decide (max a2 b2 < min a3 b3)) := rfl
  have hX : meetX ⟨a0, a1, a2, a3⟩ ⟨b0, b1, b2, b3⟩ = if meetB ⟨a0, a1, a2, a3⟩ ⟨b0, b1, b2, b3⟩ then ⟨max a0 b0, min a1 b1, max a2 b2, min a3 b3⟩ else ⟨0, 0, 0, 0⟩ := rfl
  have m0 := fun W => max_E #[50, 50] 50 a0 b0 (by omega) (by omega) W
  have m1 := fun W => min_E #[50, 50] 50 a1 b1 (by omega) (by omega) W
  have m2 := fun W => max_E #[50, 50] 50 a2 b2 (by omega) (by omega) W
  have m3 := fun W => min_E #[50, 50] 50 a3 b3 (by omega) (by omega) W
  have n0 : max a0 b0 ≤ 4503599627370495 := by omega
  have n1 : min a1 b1 ≤ 4503599627370495 := by omega
  have n2 : max a2 b2 ≤ 4503599627370495 := by omega
  have n3 : min a3 b3 ≤ 4503599627370495 := by omega
  obtain ⟨x0, hx0⟩ : ∃ x, max a0 b0 = x := ⟨_, rfl⟩
  obtain ⟨x1, hx1⟩ : ∃ x, min a1 b1 = x := ⟨_, rfl⟩
  obtain ⟨x2, hx2⟩ : ∃ x, max a2 b2 = x := ⟨_, rfl⟩
  obtain ⟨x3, hx3⟩ : ∃ x, min a3 b3 = x := ⟨_, rfl⟩
  rw [hx0, hx1, hx2, hx3] at hB hX
  rw [hx0] at m0 n0
  rw [hx1] at m1 n1
  rw [hx2] at m2 n2
  rw [hx3] at m3 n3
  obtain ⟨g, hg⟩ : ∃ g, w.heap.size = g := ⟨_, rfl⟩
  obtain ⟨W, hW⟩ : ∃ W, ((w.alloc (rB4 a0 a1 a2 a3)).alloc (rB4 b0 b1 b2 b3)).alloc rB0 = W := ⟨_, rfl⟩
  have hbb : Below w.heap.size w W := by rw [← hW]; exact below_alloc (below_alloc (below_alloc (Below.refl _ _) _) _) _
  have y0 : W.heap[g]? = some (rB4 a0 a1 a2 a3) := by rw [← hW, ← hg]; exact blk_alloc (blk_alloc (blk_new w _) _) _
  have y1 : W.heap[g + 1]? = some (rB4 b0 b1 b2 b3) := by
    have h9 := blk_alloc (blk_new (w.alloc (rB4 a0 a1 a2 a3)) (rB4 b0 b1 b2 b3)) rB0
    rw [World.size_alloc, hg, hW] at h9
    exact h9
  have y2 : W.heap[g + 1 + 1]? = some rB0 := by
    have h9 := blk_new ((w.alloc (rB4 a0 a1 a2 a3)).alloc (rB4 b0 b1 b2 b3)) rB0
    rw [World.size_alloc, World.size_alloc, hg, hW] at h9
    exact h9
  obtain ⟨c0, c1, -⟩ := two_cells y0
  obtain ⟨d0, d1, -⟩ := two_cells y1
  obtain ⟨e0, e1, ef⟩ := two_cells y2
  have e2 := ef 0
  have e3 := ef 1
  have HB := Aside0.mk hB
  have HX := Aside0.mk hX
  have HBB := Aside0.mk hbb
  have HY := Aside0.mk y2
  clear hB hX hbb y0 y1 y2 ef hx0 hx1 hx2 hx3 h1 h2 h3 h4 h5 h6 h7 h8
  by_cases k1 : x0 < x1
  · obtain ⟨u1, u2⟩ := geq_no n0 n1 k1
    by_cases k2 : x2 < x3
    · obtain ⟨u3, u4⟩ := geq_no n2 n3 k2
      have HE : Aside0 (meetB ⟨a0, a1, a2, a3⟩ ⟨b0, b1, b2, b3⟩ = true) := ⟨by rw [HB.out]; simp [k1, k2]⟩
      go_enter Try.func10, Try.ntmps10
      go_wp2_with fail
      have hf := two_set (u' := (cx x0 x2)) (v' := (cx x1 x3)) HY.out
      have hb3 : Below w.heap.size w ((W.setCell ⟨g + 1 + 1, 0, none⟩ (cx x0 x2)).setCell ⟨g + 1 + 1, 1, none⟩ (cx x1 x3)) := below_set (below_set HBB.out (by omega)) (by omega)
      refine bodyPost_ret (results_ct (p := 4) (u := 5) rfl _ _ (g + 1 + 1) _ _ _ _ rfl hf Try.underlying29 rfl infoRect) rfl ?_
      rw [HX.out, HE.out]
      exact ⟨rfl, hb3⟩
    · have HE : Aside0 (meetB ⟨a0, a1, a2, a3⟩ ⟨b0, b1, b2, b3⟩ = false) := ⟨by rw [HB.out]; simp [k2]⟩
      rcases geq_yes n2 n3 (by omega) with ⟨u3, u4⟩ | ⟨u3, u4⟩
      all_goals
        go_enter Try.func10, Try.ntmps10
        go_wp2_with fail
        have hf := two_set (u' := (.complex .f64 0 0)) (v' := (.complex .f64 0 0)) HY.out
        have hb3 : Below w.heap.size w ((W.setCell ⟨g + 1 + 1, 0, none⟩ (.complex .f64 0 0)).setCell ⟨g + 1 + 1, 1, none⟩ (.complex .f64 0 0)) := below_set (below_set HBB.out (by omega)) (by omega)
        refine bodyPost_ret (results_ct (p := 4) (u := 5) rfl _ _ (g + 1 + 1) _ _ _ _ rfl hf Try.underlying29 rfl infoRect) rfl ?_
        rw [HX.out, HE.out, if_neg (by simp), rv0]
        exact ⟨rfl, hb3⟩
  · have HE : Aside0 (meetB ⟨a0, a1, a2, a3⟩ ⟨b0, b1, b2, b3⟩ = false) := ⟨by rw [HB.out]; simp [k1]⟩
    rcases geq_yes n0 n1 (by omega) with ⟨u1, u2⟩ | ⟨u1, u2⟩
    all_goals
      go_enter Try.func10, Try.ntmps10
      go_wp2_with fail
      have hf := two_set (u' := (.complex .f64 0 0)) (v' := (.complex .f64 0 0)) HY.out
      have hb3 : Below w.heap.size w ((W.setCell ⟨g + 1 + 1, 0, none⟩ (.complex .f64 0 0)).setCell ⟨g + 1 + 1, 1, none⟩ (.complex .f64 0 0)) := below_set (below_set HBB.out (by omega)) (by omega)
      refine bodyPost_ret (results_ct (p := 4) (u := 5) rfl _ _ (g + 1 + 1) _ _ _ _ rfl hf Try.underlying29 rfl infoRect) rfl ?_
      rw [HX.out, HE.out, if_neg (by simp), rv0]
      exact ⟨rfl, hb3⟩
end Go.Proofs.Ythmkpgemilmikaa.A
