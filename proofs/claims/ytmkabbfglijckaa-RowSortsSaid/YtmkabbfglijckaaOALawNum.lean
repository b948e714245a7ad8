/- OrderNumbers: bytes of numbers are 9, in the numbers' order; those of a table's keys are in the order of their texts. -/
import Derived.Test.YtmkabbfglijckaaOALawKeeps
namespace Go.Proofs.Ytmkabbfglijckaa.A.O
open Go.RowKit Go.Proofs.YtmkabbfglijckaaW.PrintWords Go.Proofs.YtmkabbfglijckaaW.PrintLast Go.Proofs.YtmkabbfglijckaaW.PrintMore
open Go.Op (bytesLess)
set_option linter.unusedVariables false
set_option linter.unusedSimpArgs false

def numPart (n : Int) : List Pt := [⟨false, n, { data := #[] }⟩]
theorem numPart_ok (n : Int) (h0 : -9223372036854775808 ≤ n) (h1 : n ≤ 9223372036854775807) : ∀ p ∈ numPart n, p.ok := by
  intro p hp
  rw [numPart, List.mem_singleton] at hp
  subst hp
  exact ⟨⟨h0, h1⟩, by show (0 : Nat) ≤ _; omega⟩
theorem numPart_size (n : Int) : ∀ p ∈ numPart n, p.s.size ≤ 100000 := by
  intro p hp
  rw [numPart, List.mem_singleton] at hp
  subst hp
  show (0 : Nat) ≤ _
  omega
theorem numPart_len (n : Int) : (writeL (numPart n)).length = 9 := by simp [writeL, numPart, wpart, num8]
theorem num_keeps (a b : Int) (ha : -9223372036854775808 ≤ a ∧ a ≤ 9223372036854775807) (hb : -9223372036854775808 ≤ b ∧ b ≤ 9223372036854775807) : cmpS (strOfNums (writeL (numPart a))) (strOfNums (writeL (numPart b))) = cmpI a b := by
  rw [keeps _ _ (numPart_ok a ha.1 ha.2) (numPart_ok b hb.1 hb.2)]
  show (if cmpI a b = 0 then 0 else cmpI a b) = _
  split
  · omega
  · rfl
theorem keyParts_ok (t : Int) (s : ByteArray) (h0 : 0 ≤ t) (h1 : t < 4) (hs : s.size ≤ 40) : ∀ p ∈ keyParts t s, p.ok := by
  intro p hp
  simp only [keyParts, List.mem_cons, List.not_mem_nil, or_false] at hp
  rcases hp with rfl | rfl
  · exact ⟨⟨by show -9223372036854775808 ≤ t; omega, by show t ≤ 9223372036854775807; omega⟩, by show (0 : Nat) ≤ _; omega⟩
  · exact ⟨⟨by show -9223372036854775808 ≤ (0 : Int); omega, by show (0 : Int) ≤ 9223372036854775807; omega⟩, by show s.size ≤ 9223372036854775807; omega⟩
theorem key_keeps (t : Int) (x y : ByteArray) (h0 : 0 ≤ t) (h1 : t < 4) (hx : x.size ≤ 40) (hy : y.size ≤ 40) : keyErr t x = 0 ∧ cmpS (keyStr t x) (keyStr t y) = cmpS x y := by
  have e1 : keyErr t x = 0 := by unfold keyErr; rw [if_neg (by omega), if_neg (by omega)]
  have e2 : keyErr t y = 0 := by unfold keyErr; rw [if_neg (by omega), if_neg (by omega)]
  refine ⟨e1, ?_⟩
  unfold keyStr
  rw [if_pos e1, if_pos e2, keeps _ _ (keyParts_ok t x h0 h1 hx) (keyParts_ok t y h0 h1 hy)]
  show (if cmpI t t = 0 then (if cmpS x y = 0 then 0 else cmpS x y) else cmpI t t) = _
  have e3 : cmpI t t = 0 := by unfold cmpI; rw [if_neg (by omega), if_pos rfl]
  rw [if_pos e3]
  split
  · omega
  · rfl
theorem less_of (x y : ByteArray) : bytesLess x.toList y.toList = decide (cmpS x y < 0) := by
  rcases str_facts x y with ⟨h0, h1, _⟩ | ⟨h0, h1, _⟩ | ⟨h0, h1, _⟩ <;> rw [h0, h1] <;> rfl
theorem num_less (a b : Int) (ha : -9223372036854775808 ≤ a ∧ a ≤ 9223372036854775807) (hb : -9223372036854775808 ≤ b ∧ b ≤ 9223372036854775807) : bytesLess (strOfNums (writeL (numPart a))).toList (strOfNums (writeL (numPart b))).toList = decide (a < b) := by
  rw [less_of, num_keeps a b ha hb]
  unfold cmpI
  by_cases h : a < b
  · rw [if_pos h, decide_eq_true h]
    rfl
  · rw [if_neg h, decide_eq_false h]
    split <;> rfl
theorem key_less (t : Int) (x y : ByteArray) (h0 : 0 ≤ t) (h1 : t < 4) (hx : x.size ≤ 40) (hy : y.size ≤ 40) : bytesLess (keyStr t x).toList (keyStr t y).toList = bytesLess x.toList y.toList := by
  rw [less_of, less_of, (key_keeps t x y h0 h1 hx hy).2]

end Go.Proofs.Ytmkabbfglijckaa.A.O
