/- SOne -/
import Derived.Test.YtmfnbkghfmeekaaZABase
namespace Go.Proofs.Ytmfnbkghfmeekaa.A.S
open Go.RowKit Go.Proofs.YtmfnbkghfmeekaaW.PrintWords Go.Proofs.YtmfnbkghfmeekaaW.PrintLast Go.Proofs.YtmfnbkghfmeekaaW.PrintMore
attribute [local go_sem] max2_int min2_int
set_option linter.unusedVariables false
set_option linter.unusedSimpArgs false
structure Sp where
  f : Int
  t : Int
  deriving DecidableEq
abbrev Sp.val (s : Sp) : Value := .agg #[.int .i64 s.f, .int .i64 s.t]
def Sp.may (s : Sp) : Bool := decide (0 ≤ s.f ∧ s.f < s.t ∧ s.t ≤ 1099511627776)
theorem may_iff (s : Sp) : s.may = true ↔ 0 ≤ s.f ∧ s.f < s.t ∧ s.t ≤ 1099511627776 := by simp [Sp.may]
theorem may_not (s : Sp) : s.may = false ↔ ¬ (0 ≤ s.f ∧ s.f < s.t ∧ s.t ≤ 1099511627776) := by simp [Sp.may]
abbrev spBox (a b : Int) : Obj := .cells #[.int .i64 a, .int .i64 b] 26
set_option maxHeartbeats 400000 in
theorem may_calls (a b : Int) (w : World) : Calls Try.prog 83 #[.agg #[.int .i64 a, .int .i64 b]] w fun e w' => e = .returned (.bool (Sp.may ⟨a, b⟩)) ∧ w' = w.alloc (spBox a b) := by
  by_cases h1 : 0 ≤ a
  · by_cases h2 : a < b
    · by_cases h3 : b ≤ 1099511627776
      · have hm : Sp.may ⟨a, b⟩ = true := (may_iff _).2 ⟨h1, h2, h3⟩
        rw [hm]
        clear hm
        go_enter Try.func83, Try.ntmps83
        go_wp2
        go_ret
        exact ⟨rfl, rfl⟩
      · have hm : Sp.may ⟨a, b⟩ = false := (may_not _).2 (fun h => h3 h.2.2)
        rw [hm]
        clear hm
        have hd : decide (b ≤ 1099511627776) = false := decide_eq_false h3
        go_enter Try.func83, Try.ntmps83
        go_wp2
        go_ret
        exact ⟨rfl, rfl⟩
    · have hm : Sp.may ⟨a, b⟩ = false := (may_not _).2 (fun h => h2 h.2.1)
      rw [hm]
      clear hm
      have hd : decide (a < b) = false := decide_eq_false h2
      go_enter Try.func83, Try.ntmps83
      go_wp2
      go_ret
      exact ⟨rfl, rfl⟩
  · have hm : Sp.may ⟨a, b⟩ = false := (may_not _).2 (fun h => h1 h.1)
    rw [hm]
    clear hm
    have hd : decide (0 ≤ a) = false := decide_eq_false h1
    go_enter Try.func83, Try.ntmps83
    go_wp2
    go_ret
    exact ⟨rfl, rfl⟩
end Go.Proofs.Ytmfnbkghfmeekaa.A.S
namespace Go.Proofs.Ytmfnbkghfmeekaa.A.S
open Go.RowKit Go.Proofs.YtmfnbkghfmeekaaW.PrintWords Go.Proofs.YtmfnbkghfmeekaaW.PrintLast Go.Proofs.YtmfnbkghfmeekaaW.PrintMore
attribute [local go_sem] max2_int min2_int
set_option linter.unusedVariables false
set_option linter.unusedSimpArgs false
section
variable {ops : Array Oper} {rest : List Oper} {o : Oper} {a : Act} {Q : Exit → Act → World → Prop} {W : World} {B : Nat}
end
end Go.Proofs.Ytmfnbkghfmeekaa.A.S
namespace Go.Proofs.Ytmfnbkghfmeekaa.A.S
open Go.RowKit Go.Proofs.YtmfnbkghfmeekaaW.PrintWords Go.Proofs.YtmfnbkghfmeekaaW.PrintLast Go.Proofs.YtmfnbkghfmeekaaW.PrintMore
set_option linter.unusedVariables false
set_option linter.unusedSimpArgs false
set_option maxHeartbeats 400000 in
theorem rmay_calls (a b : Int) (w : World) : Calls Try.prog 57 #[.agg #[.int .i64 a, .int .i64 b]] w fun e w' => e = .returned (.bool (Sp.may ⟨a, b⟩)) ∧ w' = w.alloc (spBox a b) := by
  by_cases h1 : 0 ≤ a
  · by_cases h2 : a < b
    · by_cases h3 : b ≤ 1099511627776
      · have hm : Sp.may ⟨a, b⟩ = true := (may_iff _).2 ⟨h1, h2, h3⟩
        rw [hm]
        clear hm
        go_enter Try.func57, Try.ntmps57
        go_wp2
        go_ret
        exact ⟨rfl, rfl⟩
      · have hm : Sp.may ⟨a, b⟩ = false := (may_not _).2 (fun h => h3 h.2.2)
        rw [hm]
        clear hm
        have hd : decide (b ≤ 1099511627776) = false := decide_eq_false h3
        go_enter Try.func57, Try.ntmps57
        go_wp2
        go_ret
        exact ⟨rfl, rfl⟩
    · have hm : Sp.may ⟨a, b⟩ = false := (may_not _).2 (fun h => h2 h.2.1)
      rw [hm]
      clear hm
      have hd : decide (a < b) = false := decide_eq_false h2
      go_enter Try.func57, Try.ntmps57
      go_wp2
      go_ret
      exact ⟨rfl, rfl⟩
  · have hm : Sp.may ⟨a, b⟩ = false := (may_not _).2 (fun h => h1 h.1)
    rw [hm]
    clear hm
    have hd : decide (0 ≤ a) = false := decide_eq_false h1
    go_enter Try.func57, Try.ntmps57
    go_wp2
    go_ret
    exact ⟨rfl, rfl⟩
end Go.Proofs.Ytmfnbkghfmeekaa.A.S
