/- The order of two parts, of two tuples: the program's and the document's. -/
import Derived.Test.YtmkabbfglijckaaOAOrd
import Derived.Laws.Cover1
namespace Go.Proofs.Ytmkabbfglijckaa.A.O
open Go.RowKit Go.Proofs.YtmkabbfglijckaaW.PrintWords Go.Proofs.YtmkabbfglijckaaW.PrintLast Go.Proofs.YtmkabbfglijckaaW.PrintMore
open Go.Op (bytesLess)
set_option linter.unusedVariables false
set_option linter.unusedSimpArgs false

theorem nanS_calls (x : ByteArray) (w : World) : Calls Try.prog 46 #[.string x] w fun e w' => e = .returned (.bool false) ∧ w = w' := by
  go_enter Try.func46, Try.ntmps46
  go_wp2
  go_ret
  exact ⟨by first | rfl | simp, rfl⟩
theorem nanI_calls (x : Int) (w : World) : Calls Try.prog 47 #[.int .i64 x] w fun e w' => e = .returned (.bool false) ∧ w = w' := by
  go_enter Try.func47, Try.ntmps47
  go_wp2
  go_ret
  exact ⟨by first | rfl | simp, rfl⟩
theorem cmpS_calls (x y : ByteArray) (w : World) : Calls Try.prog 27 #[.string x, .string y] w fun e w' => e = .returned (.int .i64 (cmpS x y)) ∧ w = w' := by
  have hs : (bytesLess x.toList y.toList = true ∧ cmpS x y = -1) ∨ ((bytesLess x.toList y.toList = false ∧ bytesLess y.toList y.toList = false) ∧ x.toList = y.toList ∧ cmpS x y = 0) ∨ ((bytesLess x.toList y.toList = false ∧ (x.toList == y.toList) = false) ∧ ¬ x.toList = y.toList ∧ cmpS x y = 1) := by
    unfold cmpS
    rcases bl_tri x.toList y.toList with ⟨h1, h2, h3⟩ | h | ⟨h1, h2, h3⟩
    · simp [h1]
    · rw [h]
      simp [bl_self]
    · simp [h1, h2, h3]
  rcases hs with ⟨h1, h2⟩ | ⟨⟨h1, h4⟩, h2, h3⟩ | ⟨⟨h1, h4⟩, h2, h3⟩
  · rw [h2]
    clear h2
    go_enter Try.func27, Try.ntmps27
    go_wp2_with ((go_at_call 46); (with_reducible refine (nanS_calls _ _).mono ?_); rintro e w1 ⟨rfl, rfl⟩)
    go_ret
    exact ⟨rfl, rfl⟩
  · rw [h3]
    clear h3
    go_enter Try.func27, Try.ntmps27
    go_wp2_with ((go_at_call 46); (with_reducible refine (nanS_calls _ _).mono ?_); rintro e w1 ⟨rfl, rfl⟩)
    go_ret
    exact ⟨rfl, rfl⟩
  · rw [h3]
    clear h3
    go_enter Try.func27, Try.ntmps27
    go_wp2_with ((go_at_call 46); (with_reducible refine (nanS_calls _ _).mono ?_); rintro e w1 ⟨rfl, rfl⟩)
    go_ret
    exact ⟨rfl, rfl⟩
theorem cmpI_calls (x y : Int) (w : World) : Calls Try.prog 28 #[.int .i64 x, .int .i64 y] w fun e w' => e = .returned (.int .i64 (cmpI x y)) ∧ w = w' := by
  unfold cmpI
  rcases Int.lt_trichotomy x y with h | h | h
  · rw [if_pos h]
    go_enter Try.func28, Try.ntmps28
    go_wp2_with ((go_at_call 47); (with_reducible refine (nanI_calls _ _).mono ?_); rintro e w1 ⟨rfl, rfl⟩)
    go_ret
    exact ⟨rfl, rfl⟩
  · subst h
    rw [if_neg (by omega), if_pos rfl]
    go_enter Try.func28, Try.ntmps28
    go_wp2_with ((go_at_call 47); (with_reducible refine (nanI_calls _ _).mono ?_); rintro e w1 ⟨rfl, rfl⟩)
    go_ret
    exact ⟨rfl, rfl⟩
  · rw [if_neg (by omega), if_neg (by omega)]
    have h2 : ¬ x < y := by omega
    go_enter Try.func28, Try.ntmps28
    go_wp2_with ((go_at_call 47); (with_reducible refine (nanI_calls _ _).mono ?_); rintro e w1 ⟨rfl, rfl⟩)
    go_ret
    exact ⟨rfl, rfl⟩
end Go.Proofs.Ytmkabbfglijckaa.A.O
