/- Spans: which may be, which times lie in them, what two have in common. -/
import Derived.Test.YtloachifhaigjaaABase
namespace Go.Proofs.Ytloachifhaigjaa.A
open Go.RowKit Go.Proofs.YtloachifhaigjaaW.PrintWords Go.Proofs.YtloachifhaigjaaW.PrintLast Go.Proofs.YtloachifhaigjaaW.PrintMore
attribute [local go_sem] max2_int min2_int
set_option linter.unusedVariables false
set_option linter.unusedSimpArgs false

structure Sp where
  f : Int
  t : Int
  deriving DecidableEq
abbrev Sp.val (s : Sp) : Value := .agg #[.int .i64 s.f, .int .i64 s.t]
def Sp.may (s : Sp) : Bool := decide (0 ≤ s.f ∧ s.f < s.t ∧ s.t ≤ 1099511627776)
def Sp.has (s : Sp) (x : Int) : Bool := s.may && decide (s.f ≤ x ∧ x < s.t)
theorem may_iff (s : Sp) : s.may = true ↔ 0 ≤ s.f ∧ s.f < s.t ∧ s.t ≤ 1099511627776 := by simp [Sp.may]
theorem may_not (s : Sp) : s.may = false ↔ ¬ (0 ≤ s.f ∧ s.f < s.t ∧ s.t ≤ 1099511627776) := by simp [Sp.may]
/-- The block of a span's variable. -/
abbrev spBox (a b : Int) : Obj := .cells #[.int .i64 a, .int .i64 b] 23

set_option maxHeartbeats 400000 in
theorem may_calls (a b : Int) (w : World) : Calls Try.prog 14 #[.agg #[.int .i64 a, .int .i64 b]] w fun e w' => e = .returned (.bool (Sp.may ⟨a, b⟩)) ∧ w' = w.alloc (spBox a b) := by
  by_cases h1 : 0 ≤ a
  · by_cases h2 : a < b
    · by_cases h3 : b ≤ 1099511627776
      · have hm : Sp.may ⟨a, b⟩ = true := (may_iff _).2 ⟨h1, h2, h3⟩
        rw [hm]
        clear hm
        go_enter Try.func14, Try.ntmps14
        go_wp2
        go_ret
        exact ⟨rfl, rfl⟩
      · have hm : Sp.may ⟨a, b⟩ = false := (may_not _).2 (fun h => h3 h.2.2)
        rw [hm]
        clear hm
        have hd : decide (b ≤ 1099511627776) = false := decide_eq_false h3
        go_enter Try.func14, Try.ntmps14
        go_wp2
        go_ret
        exact ⟨rfl, rfl⟩
    · have hm : Sp.may ⟨a, b⟩ = false := (may_not _).2 (fun h => h2 h.2.1)
      rw [hm]
      clear hm
      have hd : decide (a < b) = false := decide_eq_false h2
      go_enter Try.func14, Try.ntmps14
      go_wp2
      go_ret
      exact ⟨rfl, rfl⟩
  · have hm : Sp.may ⟨a, b⟩ = false := (may_not _).2 (fun h => h1 h.1)
    rw [hm]
    clear hm
    have hd : decide (0 ≤ a) = false := decide_eq_false h1
    go_enter Try.func14, Try.ntmps14
    go_wp2
    go_ret
    exact ⟨rfl, rfl⟩

theorem has_iff (s : Sp) (x : Int) : s.has x = true ↔ s.may = true ∧ s.f ≤ x ∧ x < s.t := by simp [Sp.has]
theorem has_not (s : Sp) (x : Int) : s.has x = false ↔ ¬ (s.may = true ∧ s.f ≤ x ∧ x < s.t) := by rw [← has_iff]; cases s.has x <;> simp

set_option maxHeartbeats 400000 in
theorem has_calls (a b x : Int) (w : World) : Calls Try.prog 16 #[.agg #[.int .i64 a, .int .i64 b], .int .i64 x] w fun e w' => e = .returned (.bool (Sp.has ⟨a, b⟩ x)) ∧ w' = (w.alloc (spBox a b)).alloc (spBox a b) := by
  by_cases hm : Sp.may ⟨a, b⟩ = true
  · by_cases h1 : a ≤ x
    · by_cases h2 : x < b
      · have hh : Sp.has ⟨a, b⟩ x = true := (has_iff _ _).2 ⟨hm, h1, h2⟩
        rw [hh]
        have HM := Aside0.mk hm
        clear hm hh
        go_enter Try.func16, Try.ntmps16
        go_wp2_with ((go_at_call 14); (with_reducible refine (may_calls _ _ _).mono ?_); rw [HM.out]; rintro e w1 ⟨rfl, rfl⟩)
        go_ret
        exact ⟨rfl, rfl⟩
      · have hh : Sp.has ⟨a, b⟩ x = false := (has_not _ _).2 (fun h => h2 h.2.2)
        rw [hh]
        have HM := Aside0.mk hm
        clear hm hh
        have hd : decide (x < b) = false := decide_eq_false h2
        go_enter Try.func16, Try.ntmps16
        go_wp2_with ((go_at_call 14); (with_reducible refine (may_calls _ _ _).mono ?_); rw [HM.out]; rintro e w1 ⟨rfl, rfl⟩)
        go_ret
        exact ⟨rfl, rfl⟩
    · have hh : Sp.has ⟨a, b⟩ x = false := (has_not _ _).2 (fun h => h1 h.2.1)
      rw [hh]
      have HM := Aside0.mk hm
      clear hm hh
      have hd : decide (a ≤ x) = false := decide_eq_false h1
      go_enter Try.func16, Try.ntmps16
      go_wp2_with ((go_at_call 14); (with_reducible refine (may_calls _ _ _).mono ?_); rw [HM.out]; rintro e w1 ⟨rfl, rfl⟩)
      go_ret
      exact ⟨rfl, rfl⟩
  · have hh : Sp.has ⟨a, b⟩ x = false := (has_not _ _).2 (fun h => hm h.1)
    rw [hh]
    have hm' : Sp.may ⟨a, b⟩ = false := by simpa using hm
    have HM := Aside0.mk hm'
    clear hm hh hm'
    go_enter Try.func16, Try.ntmps16
    go_wp2_with ((go_at_call 14); (with_reducible refine (may_calls _ _ _).mono ?_); rw [HM.out]; rintro e w1 ⟨rfl, rfl⟩)
    go_ret
    exact ⟨rfl, rfl⟩

/-- What two have in common, if anything. -/
def meetV (a b : Sp) : Sp := ⟨if a.f < b.f then b.f else a.f, if b.t < a.t then b.t else a.t⟩
def meetB (a b : Sp) : Bool := a.may && b.may && (meetV a b).may
def meetR (a b : Sp) : Sp := if meetB a b then meetV a b else ⟨0, 0⟩

set_option maxHeartbeats 1000000 in
theorem meet_calls (a b c d : Int) (w : World) : Calls Try.prog 10 #[.agg #[.int .i64 a, .int .i64 b], .agg #[.int .i64 c, .int .i64 d]] w fun e w' => e = .returned (.tuple #[.agg #[.int .i64 (meetR ⟨a, b⟩ ⟨c, d⟩).f, .int .i64 (meetR ⟨a, b⟩ ⟨c, d⟩).t], .bool (meetB ⟨a, b⟩ ⟨c, d⟩)]) ∧ Below w.heap.size w w' := by
  obtain ⟨p, hp⟩ : ∃ p, (if a < c then c else a) = p := ⟨_, rfl⟩
  obtain ⟨q, hq⟩ : ∃ q, (if d < b then d else b) = q := ⟨_, rfl⟩
  have hV : meetV ⟨a, b⟩ ⟨c, d⟩ = ⟨p, q⟩ := by simp [meetV, hp, hq]
  rcases hm1 : Sp.may ⟨a, b⟩ with _ | _
  · have hB : meetB ⟨a, b⟩ ⟨c, d⟩ = false := by simp [meetB, hm1]
    have hR : meetR ⟨a, b⟩ ⟨c, d⟩ = ⟨0, 0⟩ := by simp [meetR, hB]
    rw [hB, hR]
    have HM := Aside0.mk hm1
    clear hm1 hB hR hV
    go_enter Try.func10, Try.ntmps10
    go_wp2_with (first | ((go_at_call 14); (with_reducible refine (may_calls a b _).mono ?_); rw [HM.out]; rintro e w1 ⟨rfl, rfl⟩))
    exact bodyPost_ret (v := .tuple #[.agg #[.int .i64 0, .int .i64 0], .bool false]) (by simp [results, Try.results10, go_sem]) rfl ⟨rfl, by repeat (with_reducible first | exact Below.refl _ _ | apply below_alloc)⟩
  · rcases hm2 : Sp.may ⟨c, d⟩ with _ | _
    · have hB : meetB ⟨a, b⟩ ⟨c, d⟩ = false := by simp [meetB, hm2]
      have hR : meetR ⟨a, b⟩ ⟨c, d⟩ = ⟨0, 0⟩ := by simp [meetR, hB]
      rw [hB, hR]
      have HM := Aside0.mk hm1
      have HM2 := Aside0.mk hm2
      clear hm1 hm2 hB hR hV
      go_enter Try.func10, Try.ntmps10
      go_wp2_with fail
      (with_reducible refine (may_calls _ _ _).mono ?_)
      rw [HM.out]
      rintro e w1 ⟨rfl, rfl⟩
      go_wp2_with fail
      (with_reducible refine (may_calls _ _ _).mono ?_)
      rw [HM2.out]
      rintro e w1 ⟨rfl, rfl⟩
      go_wp2
      exact bodyPost_ret (v := .tuple #[.agg #[.int .i64 0, .int .i64 0], .bool false]) (by simp [results, Try.results10, go_sem]) rfl ⟨rfl, by repeat (with_reducible first | exact Below.refl _ _ | apply below_alloc)⟩
    · rcases hm3 : Sp.may ⟨p, q⟩ with _ | _
      · have hB : meetB ⟨a, b⟩ ⟨c, d⟩ = false := by simp [meetB, hV, hm3]
        have hR : meetR ⟨a, b⟩ ⟨c, d⟩ = ⟨0, 0⟩ := by simp [meetR, hB]
        rw [hB, hR]
        have HM := Aside0.mk hm1
        have HM2 := Aside0.mk hm2
        have HM3 := Aside0.mk hm3
        clear hm1 hm2 hm3 hB hR hV
        go_enter Try.func10, Try.ntmps10
        go_wp2_with fail
        (with_reducible refine (may_calls _ _ _).mono ?_)
        rw [HM.out]
        rintro e w1 ⟨rfl, rfl⟩
        go_wp2_with fail
        (with_reducible refine (may_calls _ _ _).mono ?_)
        rw [HM2.out]
        rintro e w1 ⟨rfl, rfl⟩
        go_wp2_with fail
        (with_reducible refine (may_calls _ _ _).mono ?_)
        rw [HM3.out]
        rintro e w1 ⟨rfl, rfl⟩
        go_wp2
        exact bodyPost_ret (v := .tuple #[.agg #[.int .i64 0, .int .i64 0], .bool false]) (by simp [results, Try.results10, go_sem]) rfl ⟨rfl, by repeat (with_reducible first | exact Below.refl _ _ | apply below_alloc)⟩
      · have hB : meetB ⟨a, b⟩ ⟨c, d⟩ = true := by simp [meetB, hV, hm1, hm2, hm3]
        have hR : meetR ⟨a, b⟩ ⟨c, d⟩ = ⟨p, q⟩ := by simp [meetR, hB, hV]
        rw [hB, hR]
        have HM := Aside0.mk hm1
        have HM2 := Aside0.mk hm2
        have HM3 := Aside0.mk hm3
        clear hm1 hm2 hm3 hB hR hV
        go_enter Try.func10, Try.ntmps10
        go_wp2_with fail
        (with_reducible refine (may_calls _ _ _).mono ?_)
        rw [HM.out]
        rintro e w1 ⟨rfl, rfl⟩
        go_wp2_with fail
        (with_reducible refine (may_calls _ _ _).mono ?_)
        rw [HM2.out]
        rintro e w1 ⟨rfl, rfl⟩
        go_wp2_with fail
        (with_reducible refine (may_calls _ _ _).mono ?_)
        rw [HM3.out]
        rintro e w1 ⟨rfl, rfl⟩
        go_wp2
        exact bodyPost_ret (v := .tuple #[.agg #[.int .i64 p, .int .i64 q], .bool true]) (by simp [results, Try.results10, go_sem]) rfl ⟨rfl, by repeat (with_reducible first | exact Below.refl _ _ | apply below_alloc)⟩

end Go.Proofs.Ytloachifhaigjaa.A
