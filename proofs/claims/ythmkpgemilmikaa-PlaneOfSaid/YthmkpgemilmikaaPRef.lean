/- The reference's own words on rectangles: whether one may be, has a point, and its area. -/
import Derived.Test.YthmkpgemilmikaaPCover
namespace Go.Proofs.Ythmkpgemilmikaa.A
open Go.RowKit Go.Proofs.YthmkpgemilmikaaW.PrintWords Go.Proofs.YthmkpgemilmikaaW.PrintLast Go.Proofs.YthmkpgemilmikaaW.PrintMore
set_option linter.unusedVariables false
set_option linter.unusedSimpArgs false

set_option maxHeartbeats 1000000 in
theorem rmay5_calls (a b c d : Int) (w : World) :
    Calls Try.prog 13 #[.agg #[.int .i64 a, .int .i64 b, .int .i64 c, .int .i64 d]] w fun e w' => e = .returned (.bool (S.Sp.may ⟨a, b⟩ && S.Sp.may ⟨c, d⟩)) ∧ Below w.heap.size w w' := by
  have HM1 := Aside0.mk (fun W => S.rmay_calls a b W)
  have HM2 := Aside0.mk (fun W => S.rmay_calls c d W)
  obtain ⟨m1, hm1⟩ : ∃ m, S.Sp.may ⟨a, b⟩ = m := ⟨_, rfl⟩
  obtain ⟨m2, hm2⟩ : ∃ m, S.Sp.may ⟨c, d⟩ = m := ⟨_, rfl⟩
  rw [hm1] at HM1
  rw [hm2] at HM2
  rw [hm1, hm2]
  clear hm1 hm2
  obtain ⟨g, hg⟩ : ∃ g, w.heap.size = g := ⟨_, rfl⟩
  obtain ⟨W, hW⟩ : ∃ W, w.alloc (fB a b c d) = W := ⟨_, rfl⟩
  have hb : Below w.heap.size w W := by rw [← hW]; exact below_alloc (Below.refl _ _) _
  have z0 : W.heap[g]? = some (fB a b c d) := by rw [← hW, ← hg]; exact blk_new w _
  obtain ⟨d0, d1, d2, d3, -⟩ := four_cells z0
  have HB := Aside0.mk hb
  have HZ := Aside0.mk z0
  clear hb z0
  cases m1 with
  | false =>
    go_enter Try.func13, Try.ntmps13
    go_wp2_with fail
    (with_reducible refine (HM1.out W).mono ?_)
    rintro e w1 ⟨rfl, rfl⟩
    obtain ⟨W1, hW1⟩ : ∃ W1, W.alloc (S.spBox a b) = W1 := ⟨_, rfl⟩
    have hb1 : Below W.heap.size W W1 := by rw [← hW1]; exact below_alloc (Below.refl _ _) _
    have HB1 := Aside0.mk (below_step HB.out hb1)
    clear d0 d1 d2 d3
    obtain ⟨d0, d1, d2, d3, -⟩ := four_cells (blk_below HZ.out hb1)
    clear hb1
    go_wp2_with fail
    (with_reducible refine (HM2.out W1).mono ?_)
    rintro e w2 ⟨rfl, rfl⟩
    go_wp2_with fail
    clear hg
    go_ret
    exact ⟨rfl, below_alloc HB1.out _⟩
  | true =>
    go_enter Try.func13, Try.ntmps13
    go_wp2_with fail
    (with_reducible refine (HM1.out W).mono ?_)
    rintro e w1 ⟨rfl, rfl⟩
    obtain ⟨W1, hW1⟩ : ∃ W1, W.alloc (S.spBox a b) = W1 := ⟨_, rfl⟩
    have hb1 : Below W.heap.size W W1 := by rw [← hW1]; exact below_alloc (Below.refl _ _) _
    have HB1 := Aside0.mk (below_step HB.out hb1)
    clear d0 d1 d2 d3
    obtain ⟨d0, d1, d2, d3, -⟩ := four_cells (blk_below HZ.out hb1)
    clear hb1
    go_wp2_with fail
    (with_reducible refine (HM2.out W1).mono ?_)
    rintro e w2 ⟨rfl, rfl⟩
    go_wp2_with fail
    clear hg
    go_ret
    exact ⟨rfl, below_alloc HB1.out _⟩
set_option maxHeartbeats 1000000 in
theorem rhas5_calls (a b c d x y : Int) (w : World) :
    Calls Try.prog 17 #[.agg #[.int .i64 a, .int .i64 b, .int .i64 c, .int .i64 d], .int .i64 x, .int .i64 y] w fun e w' => e = .returned (.bool (S.Sp.has ⟨a, b⟩ x && S.Sp.has ⟨c, d⟩ y)) ∧ Below w.heap.size w w' := by
  have HM1 := Aside0.mk (fun W => S.rhas_calls a b x W)
  have HM2 := Aside0.mk (fun W => S.rhas_calls c d y W)
  obtain ⟨m1, hm1⟩ : ∃ m, S.Sp.has ⟨a, b⟩ x = m := ⟨_, rfl⟩
  obtain ⟨m2, hm2⟩ : ∃ m, S.Sp.has ⟨c, d⟩ y = m := ⟨_, rfl⟩
  rw [hm1] at HM1
  rw [hm2] at HM2
  rw [hm1, hm2]
  clear hm1 hm2
  obtain ⟨g, hg⟩ : ∃ g, w.heap.size = g := ⟨_, rfl⟩
  obtain ⟨W, hW⟩ : ∃ W, w.alloc (fB a b c d) = W := ⟨_, rfl⟩
  have hb : Below w.heap.size w W := by rw [← hW]; exact below_alloc (Below.refl _ _) _
  have z0 : W.heap[g]? = some (fB a b c d) := by rw [← hW, ← hg]; exact blk_new w _
  obtain ⟨d0, d1, d2, d3, -⟩ := four_cells z0
  have HB := Aside0.mk hb
  have HZ := Aside0.mk z0
  clear hb z0
  cases m1
  all_goals
    go_enter Try.func17, Try.ntmps17
    go_wp2_with fail
    (with_reducible refine (HM1.out W).mono ?_)
    rintro e w1 ⟨rfl, rfl⟩
    obtain ⟨W1, hW1⟩ : ∃ W1, (W.alloc (S.spBox a b)).alloc (S.spBox a b) = W1 := ⟨_, rfl⟩
    have hb1 : Below W.heap.size W W1 := by rw [← hW1]; exact below_alloc (below_alloc (Below.refl _ _) _) _
    have HB1 := Aside0.mk (below_step HB.out hb1)
    clear d0 d1 d2 d3
    obtain ⟨d0, d1, d2, d3, -⟩ := four_cells (blk_below HZ.out hb1)
    clear hb1
    go_wp2_with fail
    (with_reducible refine (HM2.out W1).mono ?_)
    rintro e w2 ⟨rfl, rfl⟩
    go_wp2_with fail
    clear hg
    go_ret
    exact ⟨rfl, below_alloc (below_alloc HB1.out _) _⟩
set_option maxHeartbeats 1000000 in
theorem rarea5_calls (a b c d : Nat) (h1 : a < b) (h2 : b ≤ 1099511627776) (h3 : c < d) (h4 : d ≤ 1099511627776) (w : World) :
    Calls Try.prog 18 #[.agg #[.int .i64 (a : Int), .int .i64 (b : Int), .int .i64 (c : Int), .int .i64 (d : Int)]] w fun e w' => e = .returned (.int .i64 (Rc.area ⟨a, b, c, d⟩ : Int)) ∧ Below w.heap.size w w' := by
  have har : Rc.area ⟨a, b, c, d⟩ = if 4611686018427387904 < (b - a) * (d - c) then 4611686018427387904 else (b - a) * (d - c) := rfl
  have hm1 : S.Sp.may ⟨(a : Int), (b : Int)⟩ = true := (S.may_iff _).2 (by simp only; omega)
  have hm2 : S.Sp.may ⟨(c : Int), (d : Int)⟩ = true := (S.may_iff _).2 (by simp only; omega)
  have HM := Aside0.mk (fun W => rmay5_calls (a : Int) (b : Int) (c : Int) (d : Int) W)
  rw [hm1, hm2] at HM
  obtain ⟨x, hx⟩ : ∃ x, b - a = x := ⟨_, rfl⟩
  obtain ⟨y, hy⟩ : ∃ x, d - c = x := ⟨_, rfl⟩
  rw [hx, hy] at har
  have i1 : (b : Int) - (a : Int) = (x : Int) := by omega
  have i2 : (d : Int) - (c : Int) = (y : Int) := by omega
  have x1 : x ≤ 1099511627776 := by omega
  have y1 : y ≤ 1099511627776 := by omega
  have y0 : 0 < y := by omega
  have y2 : ¬ (y : Int) = 0 := by omega
  obtain ⟨q, hq⟩ : ∃ q, 4611686018427387904 / y = q := ⟨_, rfl⟩
  have i3 : (4611686018427387904 : Int).tdiv (y : Int) = (q : Int) := by rw [← hq]; rfl
  have q1 : q ≤ 4611686018427387904 := by rw [← hq]; exact Nat.div_le_self _ _
  have hle : x ≤ q ↔ x * y ≤ 4611686018427387904 := by rw [← hq]; exact Nat.le_div_iff_mul_le y0
  have HAR := Aside0.mk har
  obtain ⟨g, hg⟩ : ∃ g, w.heap.size = g := ⟨_, rfl⟩
  obtain ⟨W, hW⟩ : ∃ W, w.alloc (fB (a : Int) (b : Int) (c : Int) (d : Int)) = W := ⟨_, rfl⟩
  have hb : Below w.heap.size w W := by rw [← hW]; exact below_alloc (Below.refl _ _) _
  have z0 : W.heap[g]? = some (fB (a : Int) (b : Int) (c : Int) (d : Int)) := by rw [← hW, ← hg]; exact blk_new w _
  obtain ⟨d0, d1, d2, d3, -⟩ := four_cells z0
  have HB := Aside0.mk hb
  have HZ := Aside0.mk z0
  clear hb z0 hx hy hq har
  by_cases k : x ≤ q
  · have k1 : ¬ (q : Int) < (x : Int) := by omega
    have k2 := hle.1 k
    have HE : Aside0 (Rc.area ⟨a, b, c, d⟩ = x * y) := ⟨by rw [HAR.out, if_neg (by omega)]⟩
    have i4 : (x : Int) * (y : Int) = ((x * y : Nat) : Int) := by push_cast; rfl
    obtain ⟨p, hp⟩ : ∃ p, x * y = p := ⟨_, rfl⟩
    rw [hp] at k2 HE i4
    clear hle hp k
    go_enter Try.func18, Try.ntmps18
    go_wp2_with fail
    (with_reducible refine (HM.out W).mono ?_)
    rintro e w1 ⟨rfl, hb1⟩
    have HB1 := Aside0.mk (below_step HB.out hb1)
    clear d0 d1 d2 d3
    obtain ⟨d0, d1, d2, d3, -⟩ := four_cells (blk_below HZ.out hb1)
    clear hb1
    go_wp2_with fail
    clear hg
    go_ret
    exact ⟨by rw [HE.out]; rfl, HB1.out⟩
  · have k1 : (q : Int) < (x : Int) := by omega
    have k2 : 4611686018427387904 < x * y := by
      rcases Nat.lt_or_ge 4611686018427387904 (x * y) with h | h
      · exact h
      · exact absurd (hle.2 h) k
    have HE : Aside0 (Rc.area ⟨a, b, c, d⟩ = 4611686018427387904) := ⟨by rw [HAR.out, if_pos k2]⟩
    clear hle k k2
    go_enter Try.func18, Try.ntmps18
    go_wp2_with fail
    (with_reducible refine (HM.out W).mono ?_)
    rintro e w1 ⟨rfl, hb1⟩
    have HB1 := Aside0.mk (below_step HB.out hb1)
    clear d0 d1 d2 d3
    obtain ⟨d0, d1, d2, d3, -⟩ := four_cells (blk_below HZ.out hb1)
    clear hb1
    go_wp2_with fail
    clear hg
    go_ret
    exact ⟨by rw [HE.out]; rfl, HB1.out⟩
end Go.Proofs.Ythmkpgemilmikaa.A
