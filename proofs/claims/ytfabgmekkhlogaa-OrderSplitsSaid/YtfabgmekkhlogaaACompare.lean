/- The order of two parts, of two tuples: the program's and the document's. -/
import Derived.Test.YtfabgmekkhlogaaAOrd
import Derived.Laws.Cover1
namespace Go.Proofs.Ytfabgmekkhlogaa.A
open Go.RowKit Go.Proofs.YtfabgmekkhlogaaW.PrintWords Go.Proofs.YtfabgmekkhlogaaW.PrintLast Go.Proofs.YtfabgmekkhlogaaW.PrintMore
open Go.Op (bytesLess)
set_option linter.unusedVariables false
set_option linter.unusedSimpArgs false

theorem nanS_calls (x : ByteArray) (w : World) : Calls Try.prog 35 #[.string x] w fun e w' => e = .returned (.bool false) ∧ w = w' := by
  go_enter Try.func35, Try.ntmps35
  go_wp2
  go_ret
  exact ⟨by first | rfl | simp, rfl⟩
theorem nanI_calls (x : Int) (w : World) : Calls Try.prog 36 #[.int .i64 x] w fun e w' => e = .returned (.bool false) ∧ w = w' := by
  go_enter Try.func36, Try.ntmps36
  go_wp2
  go_ret
  exact ⟨by first | rfl | simp, rfl⟩
theorem cmpS_calls (x y : ByteArray) (w : World) : Calls Try.prog 33 #[.string x, .string y] w fun e w' => e = .returned (.int .i64 (cmpS x y)) ∧ w = w' := by
  have hs : (bytesLess x.toList y.toList = true ∧ cmpS x y = -1) ∨ ((bytesLess x.toList y.toList = false ∧ bytesLess y.toList y.toList = false) ∧ x.toList = y.toList ∧ cmpS x y = 0) ∨ ((bytesLess x.toList y.toList = false ∧ (x.toList == y.toList) = false) ∧ ¬ x.toList = y.toList ∧ cmpS x y = 1) := by
    unfold cmpS
    rcases bl_tri x.toList y.toList with ⟨h1, h2, h3⟩ | h | ⟨h1, h2, h3⟩
    · simp [h1]
    · rw [h]
      simp [bl_self]
    · simp [h1, h2, h3]
  rcases hs with ⟨h1, h2⟩ | ⟨⟨h1, h4⟩, h2, h3⟩ | ⟨⟨h1, h4⟩, h2, h3⟩
  · rw [h2]
    clear h2
    go_enter Try.func33, Try.ntmps33
    go_wp2_with ((go_at_call 35); (with_reducible refine (nanS_calls _ _).mono ?_); rintro e w1 ⟨rfl, rfl⟩)
    go_ret
    exact ⟨rfl, rfl⟩
  · rw [h3]
    clear h3
    go_enter Try.func33, Try.ntmps33
    go_wp2_with ((go_at_call 35); (with_reducible refine (nanS_calls _ _).mono ?_); rintro e w1 ⟨rfl, rfl⟩)
    go_ret
    exact ⟨rfl, rfl⟩
  · rw [h3]
    clear h3
    go_enter Try.func33, Try.ntmps33
    go_wp2_with ((go_at_call 35); (with_reducible refine (nanS_calls _ _).mono ?_); rintro e w1 ⟨rfl, rfl⟩)
    go_ret
    exact ⟨rfl, rfl⟩
theorem cmpI_calls (x y : Int) (w : World) : Calls Try.prog 34 #[.int .i64 x, .int .i64 y] w fun e w' => e = .returned (.int .i64 (cmpI x y)) ∧ w = w' := by
  unfold cmpI
  rcases Int.lt_trichotomy x y with h | h | h
  · rw [if_pos h]
    go_enter Try.func34, Try.ntmps34
    go_wp2_with ((go_at_call 36); (with_reducible refine (nanI_calls _ _).mono ?_); rintro e w1 ⟨rfl, rfl⟩)
    go_ret
    exact ⟨rfl, rfl⟩
  · subst h
    rw [if_neg (by omega), if_pos rfl]
    go_enter Try.func34, Try.ntmps34
    go_wp2_with ((go_at_call 36); (with_reducible refine (nanI_calls _ _).mono ?_); rintro e w1 ⟨rfl, rfl⟩)
    go_ret
    exact ⟨rfl, rfl⟩
  · rw [if_neg (by omega), if_neg (by omega)]
    have h2 : ¬ x < y := by omega
    go_enter Try.func34, Try.ntmps34
    go_wp2_with ((go_at_call 36); (with_reducible refine (nanI_calls _ _).mono ?_); rintro e w1 ⟨rfl, rfl⟩)
    go_ret
    exact ⟨rfl, rfl⟩
theorem compare_calls (pt : Bool) (pn : Int) (ps : ByteArray) (qt : Bool) (qn : Int) (qs : ByteArray) (w : World) :
    Calls Try.prog 26 #[.agg #[.bool pt, .int .i64 pn, .string ps], .agg #[.bool qt, .int .i64 qn, .string qs]] w fun e w' => e = .returned (.int .i64 (cmpP ⟨pt, pn, ps⟩ ⟨qt, qn, qs⟩)) ∧ Below w.heap.size w w' := by
  cases pt <;> cases qt
  all_goals
    go_enter Try.func26, Try.ntmps26
    go_wp2_with (first
      | ((go_at_call 33); (with_reducible refine (cmpS_calls _ _ _).mono ?_); rintro e w1 ⟨rfl, rfl⟩)
      | ((go_at_call 34); (with_reducible refine (cmpI_calls _ _ _).mono ?_); rintro e w1 ⟨rfl, rfl⟩))
    go_ret
    exact ⟨rfl, by repeat (with_reducible first | exact Below.refl _ _ | apply below_alloc)⟩
theorem parts_calls (pt : Bool) (pn : Int) (ps : ByteArray) (qt : Bool) (qn : Int) (qs : ByteArray) (w : World) :
    Calls Try.prog 27 #[.agg #[.bool pt, .int .i64 pn, .string ps], .agg #[.bool qt, .int .i64 qn, .string qs]] w fun e w' => e = .returned (.int .i64 (cmpP ⟨pt, pn, ps⟩ ⟨qt, qn, qs⟩)) ∧ Below w.heap.size w w' := by
  have hs : (bytesLess ps.toList qs.toList = true ∧ cmpS ps qs = -1) ∨ ((bytesLess ps.toList qs.toList = false ∧ bytesLess qs.toList qs.toList = false) ∧ ps.toList = qs.toList ∧ cmpS ps qs = 0) ∨ ((bytesLess ps.toList qs.toList = false ∧ (ps.toList == qs.toList) = false) ∧ ¬ ps.toList = qs.toList ∧ cmpS ps qs = 1) := by
    unfold cmpS
    rcases bl_tri ps.toList qs.toList with ⟨h1, h2, h3⟩ | h | ⟨h1, h2, h3⟩
    · simp [h1]
    · rw [h]
      simp [bl_self]
    · simp [h1, h2, h3]
  cases pt <;> cases qt
  · unfold cmpP
    simp only [Bool.false_eq_true, if_false]
    clear hs
    unfold cmpI
    rcases Int.lt_trichotomy pn qn with h | h | h
    · rw [if_pos h]
      go_enter Try.func27, Try.ntmps27
      go_wp2
      go_ret
      exact ⟨rfl, by repeat (with_reducible first | exact Below.refl _ _ | apply below_alloc)⟩
    · subst h
      rw [if_neg (by omega), if_pos rfl]
      go_enter Try.func27, Try.ntmps27
      go_wp2
      go_ret
      exact ⟨rfl, by repeat (with_reducible first | exact Below.refl _ _ | apply below_alloc)⟩
    · rw [if_neg (by omega), if_neg (by omega)]
      have h2 : ¬ pn < qn := by omega
      go_enter Try.func27, Try.ntmps27
      go_wp2
      go_ret
      exact ⟨rfl, by repeat (with_reducible first | exact Below.refl _ _ | apply below_alloc)⟩
  · clear hs
    go_enter Try.func27, Try.ntmps27
    go_wp2
    go_ret
    exact ⟨rfl, by repeat (with_reducible first | exact Below.refl _ _ | apply below_alloc)⟩
  · clear hs
    go_enter Try.func27, Try.ntmps27
    go_wp2
    go_ret
    exact ⟨rfl, by repeat (with_reducible first | exact Below.refl _ _ | apply below_alloc)⟩
  · unfold cmpP
    simp only [if_true]
    rcases hs with ⟨h1, h2⟩ | ⟨⟨h1, h4⟩, h2, h3⟩ | ⟨⟨h1, h4⟩, h2, h3⟩
    · rw [h2]
      clear h2
      go_enter Try.func27, Try.ntmps27
      go_wp2
      go_ret
      exact ⟨rfl, by repeat (with_reducible first | exact Below.refl _ _ | apply below_alloc)⟩
    · rw [h3]
      clear h3
      go_enter Try.func27, Try.ntmps27
      go_wp2
      go_ret
      exact ⟨rfl, by repeat (with_reducible first | exact Below.refl _ _ | apply below_alloc)⟩
    · rw [h3]
      clear h3
      go_enter Try.func27, Try.ntmps27
      go_wp2
      go_ret
      exact ⟨rfl, by repeat (with_reducible first | exact Below.refl _ _ | apply below_alloc)⟩

end Go.Proofs.Ytfabgmekkhlogaa.A
