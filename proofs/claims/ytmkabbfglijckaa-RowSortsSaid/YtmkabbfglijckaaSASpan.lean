/- Spans: which may be, which times lie in them, what two have in common. -/
import Derived.Test.YtmkabbfglijckaaABase
namespace Go.Proofs.Ytmkabbfglijckaa.A.S
open Go.RowKit Go.Proofs.YtmkabbfglijckaaW.PrintWords Go.Proofs.YtmkabbfglijckaaW.PrintLast Go.Proofs.YtmkabbfglijckaaW.PrintMore
attribute [local go_sem] max2_int min2_int
set_option linter.unusedVariables false
set_option linter.unusedSimpArgs false

structure Sp where
  f : Int
  t : Int
  deriving DecidableEq
abbrev Sp.val (s : Sp) : Value := .agg #[.int .i64 s.f, .int .i64 s.t]
def Sp.may (s : Sp) : Bool := decide (0 ≤ s.f ∧ s.f < s.t ∧ s.t ≤ 1099511627776)
def Sp.has (s : Sp) (x : Int) : Bool := s.may && decide (s.f ≤ x ∧ x < s.t)
theorem may_iff (s : Sp) : s.may = true ↔ 0 ≤ s.f ∧ s.f < s.t ∧ s.t ≤ 1099511627776 := by simp [Sp.may]
theorem may_not (s : Sp) : s.may = false ↔ ¬ (0 ≤ s.f ∧ s.f < s.t ∧ s.t ≤ 1099511627776) := by simp [Sp.may]
/-- The block of a span's variable. -/
abbrev spBox (a b : Int) : Obj := .cells #[.int .i64 a, .int .i64 b] 25

set_option maxHeartbeats 400000 in
theorem may_calls (a b : Int) (w : World) : Calls Try.prog 33 #[.agg #[.int .i64 a, .int .i64 b]] w fun e w' => e = .returned (.bool (Sp.may ⟨a, b⟩)) ∧ w' = w.alloc (spBox a b) := by
  by_cases h1 : 0 ≤ a
  · by_cases h2 : a < b
    · by_cases h3 : b ≤ 1099511627776
      · have hm : Sp.may ⟨a, b⟩ = true := (may_iff _).2 ⟨h1, h2, h3⟩
        rw [hm]
        clear hm
        go_enter Try.func33, Try.ntmps33
        go_wp2
        go_ret
        exact ⟨rfl, rfl⟩
      · have hm : Sp.may ⟨a, b⟩ = false := (may_not _).2 (fun h => h3 h.2.2)
        rw [hm]
        clear hm
        have hd : decide (b ≤ 1099511627776) = false := decide_eq_false h3
        go_enter Try.func33, Try.ntmps33
        go_wp2
        go_ret
        exact ⟨rfl, rfl⟩
    · have hm : Sp.may ⟨a, b⟩ = false := (may_not _).2 (fun h => h2 h.2.1)
      rw [hm]
      clear hm
      have hd : decide (a < b) = false := decide_eq_false h2
      go_enter Try.func33, Try.ntmps33
      go_wp2
      go_ret
      exact ⟨rfl, rfl⟩
  · have hm : Sp.may ⟨a, b⟩ = false := (may_not _).2 (fun h => h1 h.1)
    rw [hm]
    clear hm
    have hd : decide (0 ≤ a) = false := decide_eq_false h1
    go_enter Try.func33, Try.ntmps33
    go_wp2
    go_ret
    exact ⟨rfl, rfl⟩

theorem has_iff (s : Sp) (x : Int) : s.has x = true ↔ s.may = true ∧ s.f ≤ x ∧ x < s.t := by simp [Sp.has]
theorem has_not (s : Sp) (x : Int) : s.has x = false ↔ ¬ (s.may = true ∧ s.f ≤ x ∧ x < s.t) := by rw [← has_iff]; cases s.has x <;> simp

/-- What two have in common, if anything. -/
def meetV (a b : Sp) : Sp := ⟨if a.f < b.f then b.f else a.f, if b.t < a.t then b.t else a.t⟩
def meetB (a b : Sp) : Bool := a.may && b.may && (meetV a b).may
def meetR (a b : Sp) : Sp := if meetB a b then meetV a b else ⟨0, 0⟩

end Go.Proofs.Ytmkabbfglijckaa.A.S
