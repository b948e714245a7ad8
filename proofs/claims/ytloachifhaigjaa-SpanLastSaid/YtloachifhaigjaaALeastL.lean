/- The least pieces: the plain law. -/
import Derived.Test.YtloachifhaigjaaATaken
namespace Go.Proofs.Ytloachifhaigjaa.A
open Go.RowKit Go.Proofs.YtloachifhaigjaaW.PrintWords Go.Proofs.YtloachifhaigjaaW.PrintLast Go.Proofs.YtloachifhaigjaaW.PrintMore
set_option linter.unusedVariables false
set_option linter.unusedSimpArgs false

/-- The last piece out, and what comes. -/
def leastGo (cur : Pc) : List Pc → List Pc
  | [] => [cur]
  | p :: l => if cur.t = p.f ∧ cur.v = p.v then leastGo ⟨cur.f, p.t, p.v⟩ l else cur :: leastGo p l
def leastL : List Pc → List Pc
  | [] => []
  | p :: l => leastGo p l
theorem go_head (cur : Pc) (l : List Pc) : ∃ q r, leastGo cur l = q :: r ∧ q.f = cur.f ∧ q.v = cur.v := by
  induction l generalizing cur with
  | nil => exact ⟨cur, [], rfl, rfl, rfl⟩
  | cons p l ih =>
    unfold leastGo
    split
    · rename_i h
      obtain ⟨q, r, e, e1, e2⟩ := ih ⟨cur.f, p.t, p.v⟩
      exact ⟨q, r, e, e1, e2.trans h.2.symm⟩
    · exact ⟨cur, _, rfl, rfl, rfl⟩
theorem go_again (cur : Pc) (l : List Pc) : leastL (leastGo cur l) = leastGo cur l := by
  induction l generalizing cur with
  | nil => rfl
  | cons p l ih =>
    unfold leastGo
    split
    · exact ih _
    · rename_i h
      obtain ⟨q, r, e, e1, e2⟩ := go_head p l
      have h2 := ih p
      rw [e] at h2 ⊢
      show leastGo cur (q :: r) = _
      unfold leastGo
      rw [if_neg (by rw [e1, e2]; exact h)]
      rw [show leastGo q r = leastL (q :: r) from rfl, h2]
theorem least_again (l : List Pc) : leastL (leastL l) = leastL l := by
  cases l with
  | nil => rfl
  | cons p l => exact go_again p l
theorem go_at (cur : Pc) (l : List Pc) (x : Int) (hc : cur.sp.may = true) (hl : ∀ p ∈ l, p.sp.may = true) : atL (leastGo cur l) x = atL (cur :: l) x := by
  induction l generalizing cur with
  | nil => rfl
  | cons p l ih =>
    have hp := hl p (List.mem_cons_self ..)
    have hl2 : ∀ q ∈ l, q.sp.may = true := fun q hq => hl q (List.mem_cons_of_mem _ hq)
    obtain ⟨cf, ct, cv⟩ := cur
    obtain ⟨pf, pt, pv⟩ := p
    unfold leastGo
    split
    · rename_i h
      obtain ⟨e1, e2⟩ := h
      simp only at e1 e2
      subst e1 e2
      have h1 := (may_iff _).1 hc
      have h2 := (may_iff _).1 hp
      simp only at h1 h2
      have hm : Sp.may ⟨cf, pt⟩ = true := (may_iff _).2 ⟨h1.1, by simp only; omega, h2.2.2⟩
      rw [ih _ hm hl2, atL, atL, atL]
      have e3 : Sp.has ⟨cf, pt⟩ x = (Sp.has ⟨cf, ct⟩ x || Sp.has ⟨ct, pt⟩ x) := by
        rw [Bool.eq_iff_iff, Bool.or_eq_true, has_iff, has_iff, has_iff]
        simp only [hm, show Sp.may ⟨cf, ct⟩ = true from hc, show Sp.may ⟨ct, pt⟩ = true from hp, true_and]
        omega
      show (if Sp.has ⟨cf, pt⟩ x = true then _ else _) = if Sp.has ⟨cf, ct⟩ x = true then _ else if Sp.has ⟨ct, pt⟩ x = true then _ else _
      rw [e3]
      cases Sp.has ⟨cf, ct⟩ x <;> cases Sp.has ⟨ct, pt⟩ x <;> rfl
    · rw [atL, atL, ih _ hp hl2]
theorem least_at (l : List Pc) (x : Int) (hl : ∀ p ∈ l, p.sp.may = true) : atL (leastL l) x = atL l x := by
  cases l with
  | nil => rfl
  | cons p l => exact go_at p l x (hl p (List.mem_cons_self ..)) (fun q hq => hl q (List.mem_cons_of_mem _ hq))
/-- What others make are spans that may be. -/
theorem minus_may (a s : Sp) : ∀ r ∈ minusL a s, r.may = true := by
  intro r hr
  unfold minusL at hr
  split at hr
  · split at hr
    · exact (List.mem_filter.1 hr).2
    · rename_i h _
      rw [List.mem_singleton.1 hr]
      exact h
  · cases hr
theorem wo_may (s : Sp) (l : List Pc) : ∀ p ∈ l.flatMap (wo s), p.sp.may = true := by
  intro p hp
  obtain ⟨q, _, hq⟩ := List.mem_flatMap.1 hp
  obtain ⟨r, hr, rfl⟩ := List.mem_map.1 hq
  exact minus_may _ _ r hr
theorem overGo_mem (p : Pc) (L : List Pc) (d : Bool) : ∀ q ∈ overGo p L d, q = p ∨ q ∈ L := by
  induction L generalizing d with
  | nil => intro q hq; cases d <;> simp [overGo] at hq; exact .inl hq
  | cons r L ih =>
    intro q hq
    unfold overGo at hq
    split at hq
    · rcases List.mem_cons.1 hq with h | hq
      · exact .inl h
      rcases List.mem_cons.1 hq with h | hq
      · exact .inr (h ▸ List.mem_cons_self ..)
      · rcases ih _ q hq with h | h
        · exact .inl h
        · exact .inr (List.mem_cons_of_mem _ h)
    · rcases List.mem_cons.1 hq with h | hq
      · exact .inr (h ▸ List.mem_cons_self ..)
      · rcases ih _ q hq with h | h
        · exact .inl h
        · exact .inr (List.mem_cons_of_mem _ h)
theorem overL_may (l : List Pc) (p : Pc) (hl : ∀ q ∈ l, q.sp.may = true) : ∀ q ∈ overL l p, q.sp.may = true := by
  intro q hq
  unfold overL at hq
  split at hq
  · rename_i h
    rw [without_may h] at hq
    rcases overGo_mem _ _ _ q hq with e | e
    · rw [e]; exact h
    · exact wo_may _ _ q e
  · exact hl q hq
theorem madeK_may (l : List Pc) (k : Nat) : ∀ q ∈ madeK l k, q.sp.may = true := by
  induction k with
  | zero => intro q hq; simp [madeK] at hq
  | succ k ih =>
    by_cases h : k < l.length
    · rw [madeK_succ l k h]
      exact overL_may _ _ ih
    · have e : madeK l (k + 1) = madeK l k := by unfold madeK; rw [List.take_of_length_le (by omega), List.take_of_length_le (by omega)]
      rw [e]
      exact ih
end Go.Proofs.Ytloachifhaigjaa.A
