/- What is read is written as it was: the plain law. -/
import Derived.Test.YtmkabbfglijckaaOASplit
namespace Go.Proofs.Ytmkabbfglijckaa.A.O
open Go.RowKit Go.Proofs.YtmkabbfglijckaaW.PrintWords Go.Proofs.YtmkabbfglijckaaW.PrintLast Go.Proofs.YtmkabbfglijckaaW.PrintMore
set_option linter.unusedVariables false
set_option linter.unusedSimpArgs false

theorem numK_val : ∀ (k : Nat) (t : List Int), t.length = k → (∀ x ∈ t, 0 ≤ x ∧ x ≤ 255) → numK k (valK t) = t
  | 0, t, h, _ => by
    rw [List.eq_nil_of_length_eq_zero h]
    rfl
  | k + 1, t, h, hb => by
    rcases List.eq_nil_or_concat t with rfl | ⟨L, x, rfl⟩
    · simp at h
    · have hL : L.length = k := by simpa using h
      have hx := hb x (by simp)
      have ih := numK_val k L hL (fun y hy => hb y (by simp [hy]))
      rw [List.concat_eq_append, valK_snoc, numK]
      have e1 : (256 * valK L + x) / 256 = valK L := by omega
      have e2 : (256 * valK L + x) % 256 = x := by omega
      rw [e1, e2, ih]
theorem words_canon : ∀ (l acc : List Int), (∀ x ∈ l, 0 ≤ x ∧ x ≤ 255) → (wordsL l acc).2.2 = 0 → ∃ xs, (wordsL l acc).1 = acc ++ xs ∧ l = xs.flatMap wtextB ++ ([0, 1] ++ (wordsL l acc).2.1) ∧ ∀ x ∈ xs, 0 ≤ x ∧ x ≤ 255
  | [], acc, _, h => by
    have : (3 : Int) = 0 := h
    omega
  | b :: [], acc, hb, h => by
    exfalso
    rw [wordsL_cons] at h
    split at h
    · have : (3 : Int) = 0 := h
      omega
    · have : (3 : Int) = 0 := h
      omega
  | b :: c :: r, acc, hb, h => by
    by_cases h0 : b = 0
    · have e : wordsL (b :: c :: r) acc = if c = 255 then wordsL r (acc ++ [0]) else if c = 1 then (acc, r, 0) else ([], [], 2) := by
        rw [wordsL_cons, if_pos h0]
      rw [e] at h ⊢
      by_cases hc : c = 255
      · rw [if_pos hc] at h ⊢
        obtain ⟨xs, h1, h2, h3⟩ := words_canon r (acc ++ [0]) (fun x hx => hb x (by simp [hx])) h
        refine ⟨0 :: xs, by rw [h1]; simp, ?_, ?_⟩
        · rw [h0, hc, List.flatMap_cons]
          show 0 :: 255 :: r = 0 :: 255 :: (xs.flatMap wtextB ++ ([0, 1] ++ _))
          rw [← h2]
        · intro x hx
          rcases List.mem_cons.1 hx with rfl | hx
          · omega
          · exact h3 x hx
      · rw [if_neg hc] at h ⊢
        by_cases hc1 : c = 1
        · rw [if_pos hc1]
          exact ⟨[], by simp, by rw [h0, hc1]; rfl, by simp⟩
        · rw [if_neg hc1] at h
          have : (2 : Int) = 0 := h
          omega
    · have e : wordsL (b :: c :: r) acc = wordsL (c :: r) (acc ++ [b]) := by rw [wordsL_cons, if_neg h0]
      rw [e] at h ⊢
      obtain ⟨xs, h1, h2, h3⟩ := words_canon (c :: r) (acc ++ [b]) (fun x hx => hb x (by simp at hx ⊢; right; exact hx)) h
      refine ⟨b :: xs, by rw [h1]; simp, ?_, ?_⟩
      · rw [List.flatMap_cons, show wtextB b = [b] by unfold wtextB; rw [if_neg h0]]
        show b :: c :: r = b :: (xs.flatMap wtextB ++ ([0, 1] ++ _))
        rw [← h2]
      · intro x hx
        rcases List.mem_cons.1 hx with rfl | hx
        · exact hb x (by simp)
        · exact h3 x hx
theorem read_canon : ∀ (f : Nat) (b : List Int) (acc : List Pt), b.length < f → (∀ x ∈ b, 0 ≤ x ∧ x ≤ 255) → (readL f b acc).2 = 0 → ∃ l, (readL f b acc).1 = acc ++ l ∧ b = writeL l
  | 0, b, acc, h, _, _ => by omega
  | f + 1, [], acc, _, _, _ => ⟨[], by simp [readL], rfl⟩
  | f + 1, k :: r, acc, hf, hb, h => by
    rw [List.length_cons] at hf
    have hr : ∀ x ∈ r, 0 ≤ x ∧ x ≤ 255 := fun x hx => hb x (by simp [hx])
    rw [readL] at h ⊢
    by_cases hk1 : k = 1
    · rw [if_pos hk1] at h ⊢
      by_cases h8 : r.length < 8
      · rw [if_pos h8] at h
        have : (3 : Int) = 0 := h
        omega
      · rw [if_neg h8] at h ⊢
        obtain ⟨l, h1, h2⟩ := read_canon f (r.drop 8) _ (by rw [List.length_drop]; omega) (fun x hx => hr x (List.mem_of_mem_drop hx)) h
        refine ⟨wordP r :: l, by rw [h1]; simp, ?_⟩
        have e1 : valK (r.take 8) - 9223372036854775808 + 9223372036854775808 = valK (r.take 8) := by omega
        have e2 : wpart (wordP r) = 1 :: r.take 8 := by
          show [1] ++ num8 (valK (r.take 8) - 9223372036854775808 + 9223372036854775808) = _
          rw [e1, num8_K, numK_val 8 _ (by rw [List.length_take]; omega) (fun x hx => hr x (List.mem_of_mem_take hx))]
          rfl
        unfold writeL at h2 ⊢
        rw [List.flatMap_cons, e2, ← h2, hk1]
        show 1 :: r = 1 :: (r.take 8 ++ r.drop 8)
        rw [List.take_append_drop]
    · rw [if_neg hk1] at h ⊢
      by_cases hk2 : k = 2
      · rw [if_pos hk2] at h ⊢
        by_cases he : errW r = 0
        · rw [if_pos he] at h ⊢
          obtain ⟨z, hz⟩ := restW_drop r
          obtain ⟨l, h1, h2⟩ := read_canon f (restW r) _ (by rw [hz, List.length_drop]; omega) (fun x hx => hr x (by rw [hz] at hx; exact List.mem_of_mem_drop hx)) h
          refine ⟨wordsP r :: l, by rw [h1]; simp, ?_⟩
          obtain ⟨xs, g1, g2, g3⟩ := words_canon r [] hr he
          have e2 : wpart (wordsP r) = 2 :: (xs.flatMap wtextB ++ [0, 1]) := by
            unfold wordsP
            rw [if_pos he, g1]
            show [2] ++ ((bytesOf (strOfNums ([] ++ xs))).flatMap wtextB ++ [0, 1]) = _
            rw [List.nil_append, bytesOf_str xs g3]
            rfl
          have e3 : r = xs.flatMap wtextB ++ ([0, 1] ++ restW r) := g2
          unfold writeL at h2 ⊢
          rw [List.flatMap_cons, e2, ← h2, hk2]
          show 2 :: r = 2 :: (xs.flatMap wtextB ++ [0, 1] ++ restW r)
          rw [List.append_assoc, ← e3]
        · rw [if_neg he] at h
          exact (he h).elim
      · rw [if_neg hk2] at h
        have : (2 : Int) = 0 := h
        omega
/-- A key that is read as a table's number and a text is the key of these. -/
theorem key_canon (key : ByteArray) (pn qn : Int) (ps qs : ByteArray) (h0 : (readB (bytesOf key)).2 = 0) (h1 : (readB (bytesOf key)).1 = [⟨false, pn, ps⟩, ⟨true, qn, qs⟩]) (h2 : keyErr pn qs = 0) : keyStr pn qs = key := by
  obtain ⟨l, g1, g2⟩ := read_canon ((bytesOf key).length + 1) (bytesOf key) [] (by omega) (bytesOf_range key) h0
  have g3 : l = [⟨false, pn, ps⟩, ⟨true, qn, qs⟩] := by
    have : (readB (bytesOf key)).1 = [] ++ l := g1
    rw [List.nil_append] at this
    rw [← this, h1]
  have e : writeL (keyParts pn qs) = bytesOf key := by
    rw [g2, g3]
    rfl
  unfold keyStr
  rw [if_pos h2, e, str_bytes]

end Go.Proofs.Ytmkabbfglijckaa.A.O
