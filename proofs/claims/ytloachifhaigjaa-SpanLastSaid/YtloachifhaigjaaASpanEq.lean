/- What the document leaves is what is left. -/
import Derived.Test.YtloachifhaigjaaASpanRMinus
namespace Go.Proofs.Ytloachifhaigjaa.A
open Go.RowKit Go.Proofs.YtloachifhaigjaaW.PrintWords Go.Proofs.YtloachifhaigjaaW.PrintLast Go.Proofs.YtloachifhaigjaaW.PrintMore
set_option linter.unusedVariables false
set_option linter.unusedSimpArgs false

theorem minus_off (a b c d : Int) (h1 : 0 ≤ a) (h2 : a < b) (h3 : b ≤ 1099511627776) (h : ¬ ((0 ≤ c ∧ c < d ∧ d ≤ 1099511627776) ∧ c < b ∧ a < d)) : minusL ⟨a, b⟩ ⟨c, d⟩ = [⟨a, b⟩] := by
  have hm1 : Sp.may ⟨a, b⟩ = true := (may_iff _).2 ⟨h1, h2, h3⟩
  have hB : meetB ⟨a, b⟩ ⟨c, d⟩ = false := by
    rcases hm2 : Sp.may ⟨c, d⟩ with _ | _
    · simp [meetB, hm2]
    · rw [← Bool.not_eq_true, meetB_iff a b c d hm1 hm2]
      rw [may_iff] at hm2
      simp only at hm2
      omega
  simp [minusL, hm1, hB]
theorem minus_over (a b c d : Int) (h1 : 0 ≤ a) (h2 : a < b) (h3 : b ≤ 1099511627776) (h4 : 0 ≤ c) (h5 : c < d) (h6 : d ≤ 1099511627776) (h7 : c < b) (h8 : a < d) :
    minusL ⟨a, b⟩ ⟨c, d⟩ = (if a < c then [⟨a, c⟩] else []) ++ (if d < b then [⟨d, b⟩] else []) := by
  have hm1 : Sp.may ⟨a, b⟩ = true := (may_iff _).2 ⟨h1, h2, h3⟩
  have hm2 : Sp.may ⟨c, d⟩ = true := (may_iff _).2 ⟨h4, h5, h6⟩
  have hB : meetB ⟨a, b⟩ ⟨c, d⟩ = true := (meetB_iff a b c d hm1 hm2).2 ⟨h7, h8⟩
  have hl : ∀ x y : Int, 0 ≤ x → y ≤ 1099511627776 → Sp.may ⟨x, y⟩ = decide (x < y) := by
    intro x y hx hy
    simp [Sp.may, hx, hy]
  simp only [minusL, hm1, hB, if_true, twoOf, meetV, List.filter_cons, List.filter_nil]
  by_cases p : a < c <;> by_cases q : d < b
  all_goals simp only [p, q, if_true, if_false]
  · rw [hl _ _ h1 (by omega), hl _ _ (by omega) h3]
    simp [p, q]
  · rw [hl _ _ h1 (by omega), hl _ _ (by omega) h3]
    simp [p]
  · rw [hl _ _ h1 (by omega), hl _ _ (by omega) h3]
    simp [q]
  · rw [hl _ _ h1 (by omega), hl _ _ (by omega) h3]
    simp

set_option maxHeartbeats 4000000 in
theorem rminus_eq (a b c d : Int) : rminusL ⟨a, b⟩ ⟨c, d⟩ = minusL ⟨a, b⟩ ⟨c, d⟩ := by
  rcases hm1 : Sp.may ⟨a, b⟩ with _ | _
  · simp [rminusL, minusL, hm1]
  have hm := (may_iff _).1 hm1
  obtain ⟨h1, h2, h3⟩ := hm
  simp only at h1 h2 h3
  have e0 : rminusL ⟨a, b⟩ ⟨c, d⟩ = rleft ⟨a, b⟩ ⟨c, d⟩ (ends2 a b c d) ((ends2 a b c d).length - 1) := by simp [rminusL, hm1]
  rw [e0]
  clear e0 hm1
  by_cases hb : (0 ≤ c ∧ c < d ∧ d ≤ 1099511627776) ∧ c < b ∧ a < d
  · obtain ⟨⟨h4, h5, h6⟩, h7, h8⟩ := hb
    rw [minus_over a b c d h1 h2 h3 h4 h5 h6 h7 h8]
    rcases (show c < a ∨ c = a ∨ a < c by omega) with p | rfl | p <;> rcases (show d < b ∨ d = b ∨ b < d by omega) with q | rfl | q
    all_goals simp (disch := omega) only [ends2, putL, if_pos, if_neg, rleft, rstep, has_iff, has_not, may_iff, List.length_cons, List.length_nil, List.length_append, List.getD_cons_zero, List.getD_cons_succ, List.set_cons_zero, List.set_cons_succ, List.nil_append, List.cons_append, List.append_nil, Nat.add_sub_cancel, Nat.zero_add, Nat.reduceAdd, Nat.reduceSub, and_true, Nat.zero_lt_one, Nat.reduceLT, if_true, false_and, true_and, if_false]
  · rw [minus_off a b c d h1 h2 h3 hb]
    rcases (show c < a ∨ a = c ∨ (a < c ∧ c < b) ∨ b = c ∨ b < c by omega) with p | p | ⟨p, p'⟩ | p | p
    all_goals rcases (show d < c ∨ c = d ∨ c < d by omega) with r | r | r
    all_goals first | (exfalso; omega) | (subst_vars; simp (disch := omega) only [ends2, putL, if_pos, if_neg, rleft, rstep, has_iff, has_not, may_iff, List.length_cons, List.length_nil, List.length_append, List.getD_cons_zero, List.getD_cons_succ, List.set_cons_zero, List.set_cons_succ, List.nil_append, List.cons_append, List.append_nil, Nat.add_sub_cancel, Nat.zero_add, Nat.reduceAdd, Nat.reduceSub, and_true, Nat.zero_lt_one, Nat.reduceLT, if_true, false_and, true_and, if_false]; done) | (rcases (show d < b ∨ b = d ∨ b < d by omega) with q | q | q <;> first | (exfalso; omega) | (subst_vars; simp (disch := omega) only [ends2, putL, if_pos, if_neg, rleft, rstep, has_iff, has_not, may_iff, List.length_cons, List.length_nil, List.length_append, List.getD_cons_zero, List.getD_cons_succ, List.set_cons_zero, List.set_cons_succ, List.nil_append, List.cons_append, List.append_nil, Nat.add_sub_cancel, Nat.zero_add, Nat.reduceAdd, Nat.reduceSub, and_true, Nat.zero_lt_one, Nat.reduceLT, if_true, false_and, true_and, if_false]; done) | (rcases (show d < a ∨ a = d ∨ a < d by omega) with q' | q' | q' <;> first | (exfalso; omega) | (subst_vars; simp (disch := omega) only [ends2, putL, if_pos, if_neg, rleft, rstep, has_iff, has_not, may_iff, List.length_cons, List.length_nil, List.length_append, List.getD_cons_zero, List.getD_cons_succ, List.set_cons_zero, List.set_cons_succ, List.nil_append, List.cons_append, List.append_nil, Nat.add_sub_cancel, Nat.zero_add, Nat.reduceAdd, Nat.reduceSub, and_true, Nat.zero_lt_one, Nat.reduceLT, if_true, false_and, true_and, if_false]; done) | trace_state))

end Go.Proofs.Ytloachifhaigjaa.A
