/- The document's spans. -/
import Derived.Test.YtmkabbfglijckaaSAMinus
namespace Go.Proofs.Ytmkabbfglijckaa.A.S
open Go.RowKit Go.Proofs.YtmkabbfglijckaaW.PrintWords Go.Proofs.YtmkabbfglijckaaW.PrintLast Go.Proofs.YtmkabbfglijckaaW.PrintMore
set_option linter.unusedVariables false
set_option linter.unusedSimpArgs false

set_option maxHeartbeats 400000 in
theorem rmay_calls (a b : Int) (w : World) : Calls Try.prog 30 #[.agg #[.int .i64 a, .int .i64 b]] w fun e w' => e = .returned (.bool (Sp.may ⟨a, b⟩)) ∧ w' = w.alloc (spBox a b) := by
  by_cases h1 : 0 ≤ a
  · by_cases h2 : a < b
    · by_cases h3 : b ≤ 1099511627776
      · have hm : Sp.may ⟨a, b⟩ = true := (may_iff _).2 ⟨h1, h2, h3⟩
        rw [hm]
        clear hm
        go_enter Try.func30, Try.ntmps30
        go_wp2
        go_ret
        exact ⟨rfl, rfl⟩
      · have hm : Sp.may ⟨a, b⟩ = false := (may_not _).2 (fun h => h3 h.2.2)
        rw [hm]
        clear hm
        have hd : decide (b ≤ 1099511627776) = false := decide_eq_false h3
        go_enter Try.func30, Try.ntmps30
        go_wp2
        go_ret
        exact ⟨rfl, rfl⟩
    · have hm : Sp.may ⟨a, b⟩ = false := (may_not _).2 (fun h => h2 h.2.1)
      rw [hm]
      clear hm
      have hd : decide (a < b) = false := decide_eq_false h2
      go_enter Try.func30, Try.ntmps30
      go_wp2
      go_ret
      exact ⟨rfl, rfl⟩
  · have hm : Sp.may ⟨a, b⟩ = false := (may_not _).2 (fun h => h1 h.1)
    rw [hm]
    clear hm
    have hd : decide (0 ≤ a) = false := decide_eq_false h1
    go_enter Try.func30, Try.ntmps30
    go_wp2
    go_ret
    exact ⟨rfl, rfl⟩

theorem meetB_iff (a b c d : Int) (h1 : Sp.may ⟨a, b⟩ = true) (h2 : Sp.may ⟨c, d⟩ = true) : meetB ⟨a, b⟩ ⟨c, d⟩ = true ↔ c < b ∧ a < d := by
  rw [may_iff] at h1 h2
  have e : meetB ⟨a, b⟩ ⟨c, d⟩ = (meetV ⟨a, b⟩ ⟨c, d⟩).may := by
    unfold meetB
    rw [(may_iff _).2 h1, (may_iff _).2 h2]
    rfl
  rw [e, may_iff]
  simp only [meetV]
  simp only at h1 h2
  constructor
  · intro h
    split at h <;> split at h <;> omega
  · intro h
    split <;> split <;> omega

end Go.Proofs.Ytmkabbfglijckaa.A.S
