/- What stands at a time, without a span: the plain law. -/
import Derived.Test.YtloachifhaigjaaAMade
namespace Go.Proofs.Ytloachifhaigjaa.A
open Go.RowKit Go.Proofs.YtloachifhaigjaaW.PrintWords Go.Proofs.YtloachifhaigjaaW.PrintLast Go.Proofs.YtloachifhaigjaaW.PrintMore
set_option linter.unusedVariables false
set_option linter.unusedSimpArgs false

theorem minus_any (a s : Sp) (x : Int) : (minusL a s).any (fun r => r.has x) = (a.has x && !s.has x) := by
  obtain ⟨a, b⟩ := a
  obtain ⟨c, d⟩ := s
  rw [Bool.eq_iff_iff]
  by_cases hm : Sp.may ⟨a, b⟩ = true
  · by_cases hb : meetB ⟨a, b⟩ ⟨c, d⟩ = true
    · have h1 := meetB_may hb
      have h2 := meet_le ⟨a, b⟩ ⟨c, d⟩
      have e : minusL ⟨a, b⟩ ⟨c, d⟩ = (twoOf ⟨a, b⟩ (meetV ⟨a, b⟩ ⟨c, d⟩)).filter Sp.may := by unfold minusL; rw [if_pos hm, if_pos hb]
      rw [e]
      have hx : (meetV ⟨a, b⟩ ⟨c, d⟩).f = max a c ∧ (meetV ⟨a, b⟩ ⟨c, d⟩).t = min b d := by
        constructor
        · simp only [meetV]; split <;> omega
        · simp only [meetV]; split <;> omega
      generalize meetV ⟨a, b⟩ ⟨c, d⟩ = m at *
      obtain ⟨mf, mt⟩ := m
      simp only [may_iff] at h1
      simp only at h1 h2 hx
      simp [twoOf, List.any_filter, Sp.has, Sp.may]
      omega
    · have e : minusL ⟨a, b⟩ ⟨c, d⟩ = [⟨a, b⟩] := by unfold minusL; rw [if_pos hm, if_neg hb]
      rw [e]
      have h3 : ¬ (Sp.may ⟨c, d⟩ = true ∧ c < b ∧ a < d) := fun h => hb ((meetB_iff a b c d hm h.1).2 h.2)
      simp only [List.any_cons, List.any_nil, Bool.or_false, Bool.and_eq_true, Bool.not_eq_true']
      refine ⟨fun h => ⟨h, (has_not _ _).2 fun k => ?_⟩, fun h => h.1⟩
      have h1 := (has_iff _ _).1 h
      exact h3 ⟨k.1, by have := k.2; have := h1.2; simp only at *; omega⟩
  · have e : minusL ⟨a, b⟩ ⟨c, d⟩ = [] := by unfold minusL; rw [if_neg hm]
    rw [e]
    simp [Sp.has, hm]
theorem at_app (l r : List Pc) (x : Int) : atL (l ++ r) x = if (atL l x).2 then atL l x else atL r x := by
  induction l with
  | nil => rfl
  | cons p l ih =>
    rw [List.cons_append, atL, atL]
    split
    · simp
    · exact ih
theorem at_map (v : ByteArray) (M : List Sp) (x : Int) : atL (M.map fun r => ⟨r.f, r.t, v⟩) x = if M.any (fun r => r.has x) then (v, true) else (ByteArray.empty, false) := by
  induction M with
  | nil => rfl
  | cons r M ih =>
    rw [List.map_cons, atL, List.any_cons]
    rw [ih, show Pc.sp ⟨r.f, r.t, v⟩ = r from rfl]
    cases Sp.has r x <;> simp
theorem at_taken (l : List Pc) (s : Sp) (x : Int) (h : s.has x = true) : atL (withoutL l s) x = (ByteArray.empty, false) := by
  have hm : s.may = true := by have := (has_iff s x).1 h; exact this.1
  rw [without_may hm]
  induction l with
  | nil => rfl
  | cons p l ih =>
    rw [List.flatMap_cons, at_app]
    have e : atL (wo s p) x = (ByteArray.empty, false) := by unfold wo; rw [at_map, minus_any, h]; simp
    rw [e]
    exact ih
theorem at_left (l : List Pc) (s : Sp) (x : Int) (h : s.has x = false) : atL (withoutL l s) x = atL l x := by
  by_cases hm : s.may = true
  · rw [without_may hm]
    induction l with
    | nil => rfl
    | cons p l ih =>
      rw [List.flatMap_cons, at_app, atL]
      have e : atL (wo s p) x = if p.sp.has x then (p.v, true) else (ByteArray.empty, false) := by unfold wo; rw [at_map, minus_any, h]; simp
      rw [e, ih]
      split <;> simp
  · unfold withoutL
    rw [if_neg hm]
end Go.Proofs.Ytloachifhaigjaa.A
