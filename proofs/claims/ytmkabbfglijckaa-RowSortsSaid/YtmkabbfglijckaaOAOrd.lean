/- The order of tuples, plainly. -/
import Derived.Test.YtmkabbfglijckaaOATuple
namespace Go.Proofs.Ytmkabbfglijckaa.A.O
open Go.Op (bytesLess)
set_option linter.unusedVariables false
set_option linter.unusedSimpArgs false

theorem bl_self : ∀ x : List UInt8, bytesLess x x = false
  | [] => rfl
  | a :: x => by simp [bytesLess, bl_self x]
/-- Of two texts one is less, or they are the same. -/
theorem bl_tri : ∀ x y : List UInt8, (bytesLess x y = true ∧ bytesLess y x = false ∧ x ≠ y) ∨ x = y ∨ (bytesLess x y = false ∧ bytesLess y x = true ∧ x ≠ y)
  | [], [] => .inr (.inl rfl)
  | [], b :: y => .inl ⟨rfl, rfl, by simp⟩
  | a :: x, [] => .inr (.inr ⟨rfl, rfl, by simp⟩)
  | a :: x, b :: y => by
    simp only [bytesLess]
    by_cases h1 : a < b
    · have h2 : ¬ b < a := by rw [UInt8.lt_iff_toNat_lt] at *; omega
      have h3 : a ≠ b := by rintro rfl; exact h2 h1
      have h4 : ¬ b = a := fun e => h3 e.symm
      left
      simp [h1, h2, h3, h4]
    · by_cases h2 : b < a
      · have h3 : a ≠ b := by rintro rfl; exact h1 h2
        have h4 : ¬ b = a := fun e => h3 e.symm
        right; right
        simp [h1, h2, h3, h4]
      · have h3 : a = b := by
          apply UInt8.toNat_inj.1
          rw [UInt8.lt_iff_toNat_lt] at *
          omega
        subst h3
        simpa [h1] using bl_tri x y
def cmpS (x y : ByteArray) : Int := if bytesLess x.toList y.toList then -1 else if x.toList = y.toList then 0 else 1
def cmpI (x y : Int) : Int := if x < y then -1 else if x = y then 0 else 1
theorem cmpS_swap (x y : ByteArray) : cmpS y x = - cmpS x y := by
  unfold cmpS
  rcases bl_tri x.toList y.toList with ⟨h1, h2, h3⟩ | h | ⟨h1, h2, h3⟩
  · have h4 : ¬ y.toList = x.toList := fun e => h3 e.symm
    simp [h1, h2, h3, h4]
  · rw [h]
    simp [bl_self]
  · have h4 : ¬ y.toList = x.toList := fun e => h3 e.symm
    simp [h1, h2, h3, h4]
theorem cmpI_swap (x y : Int) : cmpI y x = - cmpI x y := by
  unfold cmpI
  rcases Int.lt_trichotomy x y with h | h | h
  · rw [if_pos h, if_neg (by omega), if_neg (by omega)]; rfl
  · rw [h, if_neg (by omega), if_pos rfl]; rfl
  · rw [if_pos h, if_neg (by omega), if_neg (by omega)]
def cmpP (p q : Pt) : Int := if p.t then (if q.t then cmpS p.s q.s else 1) else if q.t then -1 else cmpI p.n q.n
theorem cmpP_swap (p q : Pt) : cmpP q p = - cmpP p q := by
  unfold cmpP
  cases p.t <;> cases q.t
  · exact cmpI_swap _ _
  · rfl
  · rfl
  · exact cmpS_swap _ _
def cmpL : List Pt → List Pt → Int
  | [], [] => 0
  | [], _ :: _ => -1
  | _ :: _, [] => 1
  | p :: a, q :: b => if cmpP p q = 0 then cmpL a b else cmpP p q
theorem cmpL_swap : ∀ a b : List Pt, cmpL b a = - cmpL a b
  | [], [] => rfl
  | [], _ :: _ => rfl
  | _ :: _, [] => rfl
  | p :: a, q :: b => by
    simp only [cmpL]
    rw [cmpP_swap p q]
    by_cases h : cmpP p q = 0
    · rw [if_pos h, if_pos (by omega)]
      exact cmpL_swap a b
    · rw [if_neg h, if_neg (by omega)]
theorem cmpS_range (x y : ByteArray) : -1 ≤ cmpS x y ∧ cmpS x y ≤ 1 := by
  unfold cmpS
  split
  · omega
  · split <;> omega
theorem cmpI_range (x y : Int) : -1 ≤ cmpI x y ∧ cmpI x y ≤ 1 := by
  unfold cmpI
  split
  · omega
  · split <;> omega
theorem cmpP_range (p q : Pt) : -1 ≤ cmpP p q ∧ cmpP p q ≤ 1 := by
  unfold cmpP
  split
  · split
    · exact cmpS_range _ _
    · omega
  · split
    · omega
    · exact cmpI_range _ _
theorem cmpL_range : ∀ a b : List Pt, -1 ≤ cmpL a b ∧ cmpL a b ≤ 1
  | [], [] => by simp [cmpL]
  | [], _ :: _ => by simp [cmpL]
  | _ :: _, [] => by simp [cmpL]
  | p :: a, q :: b => by
    simp only [cmpL]
    split
    · exact cmpL_range a b
    · exact cmpP_range p q
theorem cmpL_drop (a b : List Pt) (k : Nat) (ha : k < a.length) (hb : k < b.length) : cmpL (a.drop k) (b.drop k) = if cmpP (a.getD k default) (b.getD k default) = 0 then cmpL (a.drop (k + 1)) (b.drop (k + 1)) else cmpP (a.getD k default) (b.getD k default) := by
  rw [List.drop_eq_getElem_cons ha, List.drop_eq_getElem_cons hb, cmpL]
  simp [List.getD_eq_getElem?_getD, ha, hb]
theorem cmpL_end (a b : List Pt) (k : Nat) (h : a.length ≤ k ∨ b.length ≤ k) (ha : k ≤ a.length) (hb : k ≤ b.length) : cmpL (a.drop k) (b.drop k) = if a.length < b.length then -1 else if b.length < a.length then 1 else 0 := by
  rcases Nat.lt_or_ge k a.length with h1 | h1
  · have h2 : b.length ≤ k := by omega
    rw [List.drop_eq_getElem_cons h1, List.drop_of_length_le h2, cmpL, if_neg (by omega), if_pos (by omega)]
  · rw [List.drop_of_length_le h1]
    rcases Nat.lt_or_ge k b.length with h2 | h2
    · rw [List.drop_eq_getElem_cons h2, cmpL, if_pos (by omega)]
    · rw [List.drop_of_length_le h2, cmpL, if_neg (by omega), if_neg (by omega)]

end Go.Proofs.Ytmkabbfglijckaa.A.O
