/- A node put into a list of nodes, and one taken out of it: what each row leads to. No program in sight. -/
import Derived.Test.YthilhcdlpfjodaaKRow
namespace Go.Proofs.Ythilhcdlpfjodaa.A
open Go.RowKit
set_option linter.unusedVariables false
set_option linter.unusedSimpArgs false

theorem nx_split (xs : List Nd) (q i r : Nat) (hi : i < q) (hq : q ≤ xs.length) : nx xs i r = match nxt ((xs.take q).drop (i + 1)) r with | some b => some b | none => nxt (xs.drop q) r := by
  unfold nx
  have e : xs.drop (i + 1) = (xs.take q).drop (i + 1) ++ xs.drop q := by
    have h1 : xs = xs.take q ++ xs.drop q := (List.take_append_drop q xs).symm
    conv => lhs; rw [h1]
    rw [List.drop_append_of_le_length (by rw [List.length_take]; omega)]
  rw [e, nxt_append]
  rfl
theorem mid_none (xs : List Nd) (q i r : Nat) (hi : i < q) (hq : q ≤ xs.length) : nxt ((xs.take q).drop (i + 1)) r = none ↔ ∀ k, i < k → k < q → ¬ r < (xs.getD k default).it.lv := by
  rw [nxt_none]
  constructor
  · intro h k h1 h2
    have h3 : xs.getD k default ∈ (xs.take q).drop (i + 1) := by
      rw [getD_idx xs k (by omega)]
      have e : xs[k] = ((xs.take q).drop (i + 1))[k - (i + 1)]'(by rw [List.length_drop, List.length_take]; omega) := by
        rw [List.getElem_drop, List.getElem_take]
        congr 1
        omega
      rw [e]
      exact List.getElem_mem _
    exact h _ h3
  · intro h n hn
    obtain ⟨k, hk, rfl⟩ := List.mem_iff_getElem.1 hn
    rw [List.length_drop, List.length_take] at hk
    rw [List.getElem_drop, List.getElem_take, ← getD_idx xs (i + 1 + k) (by omega)]
    exact h _ (by omega) (by omega)
theorem mid_la (xs : List Nd) (q i r : Nat) (hi : i < q) (hq : q ≤ xs.length) (hr : r < (xs.getD i default).it.lv) (h0 : r < (xs.getD 0 default).it.lv) : nxt ((xs.take q).drop (i + 1)) r = none ↔ i = la xs q r := by
  rw [mid_none xs q i r hi hq]
  constructor
  · intro h
    exact (la_is xs r q i hi hr h).symm
  · rintro rfl
    exact (la_spec xs r h0 q (by omega)).2.2
/-- The row of a node, where the one that stands ahead of the cut is its last one. -/
theorem nx_la (xs : List Nd) (q r : Nat) (h0 : r < (xs.getD 0 default).it.lv) (hq0 : 0 < q) (hq : q ≤ xs.length) : nx xs (la xs q r) r = nxt (xs.drop q) r := by
  obtain ⟨h1, h2, h3⟩ := la_spec xs r h0 q hq0
  rw [nx_split xs q _ r h1 hq, (mid_la xs q _ r h1 hq h2 h0).2 rfl]
/-- Rows below r are turned: the node at p + 1 is left out. -/
def dF (xs : List Nd) (p r i r' : Nat) : Option Nat := if r' < r ∧ r' < (xs.getD (p + 1) default).it.lv ∧ i = la xs (p + 1) r' then nx xs (p + 1) r' else nx xs i r'
theorem dF_zero (xs : List Nd) (p i r' : Nat) : dF xs p 0 i r' = nx xs i r' := by
  unfold dF
  rw [if_neg (by omega)]
theorem dF_no (xs : List Nd) (p r i r' : Nat) (h : ¬ r < (xs.getD (p + 1) default).it.lv) : dF xs p (r + 1) i r' = dF xs p r i r' := by
  unfold dF
  by_cases h1 : r' < r
  · simp only [h1, show r' < r + 1 by omega]
  · rw [if_neg (show ¬ (r' < r ∧ _) from fun h => h1 h.1), if_neg]
    rintro ⟨h2, h3, -⟩
    obtain rfl : r' = r := by omega
    exact h h3
theorem dF_yes (xs : List Nd) (p r i r' : Nat) (h : r < (xs.getD (p + 1) default).it.lv) : upd (dF xs p r) (la xs (p + 1) r) r (nx xs (p + 1) r) i r' = dF xs p (r + 1) i r' := by
  unfold upd
  by_cases h1 : i = la xs (p + 1) r ∧ r' = r
  · obtain ⟨rfl, rfl⟩ := h1
    rw [if_pos ⟨rfl, rfl⟩]
    unfold dF
    rw [if_pos ⟨by omega, h, rfl⟩]
  · rw [if_neg h1]
    unfold dF
    by_cases h2 : r' = r
    · subst h2
      rw [if_neg (by omega), if_neg]
      rintro ⟨-, -, h3⟩
      exact h1 ⟨h3, rfl⟩
    · by_cases h3 : r' < r
      · simp only [h3, show r' < r + 1 by omega]
      · rw [if_neg (by omega), if_neg (by omega)]
theorem out_getD (xs : List Nd) (q i : Nat) (hq : q < xs.length) : (xs.take q ++ xs.drop (q + 1)).getD i default = xs.getD (if i < q then i else i + 1) default := by
  rw [List.getD_eq_getElem?_getD, List.getD_eq_getElem?_getD]
  congr 1
  rw [List.getElem?_append, List.length_take, Nat.min_eq_left (by omega)]
  split
  · rename_i h
    rw [List.getElem?_take_of_lt h]
  · rename_i h
    rw [List.getElem?_drop]
    congr 1
    omega
theorem out_len (xs : List Nd) (q : Nat) (hq : q < xs.length) : (xs.take q ++ xs.drop (q + 1)).length = xs.length - 1 := by
  rw [List.length_append, List.length_take, List.length_drop]
  omega
theorem in_getD (xs : List Nd) (n : Nd) (q i : Nat) (hq : q ≤ xs.length) : (xs.take q ++ n :: xs.drop q).getD i default = if i < q then xs.getD i default else if i = q then n else xs.getD (i - 1) default := by
  rw [List.getD_eq_getElem?_getD, List.getElem?_append, List.length_take, Nat.min_eq_left hq]
  split
  · rename_i h
    rw [List.getElem?_take_of_lt h, List.getD_eq_getElem?_getD]
  · rename_i h
    by_cases e : i = q
    · subst e
      rw [if_pos rfl, Nat.sub_self]
      rfl
    · rw [if_neg e, show i - q = (i - q - 1) + 1 by omega, List.getElem?_cons_succ, List.getElem?_drop, List.getD_eq_getElem?_getD]
      congr 2
      omega
theorem in_len (xs : List Nd) (n : Nd) (q : Nat) (hq : q ≤ xs.length) : (xs.take q ++ n :: xs.drop q).length = xs.length + 1 := by
  rw [List.length_append, List.length_take, List.length_cons, List.length_drop]
  omega
theorem drop_step (xs : List Nd) (q : Nat) (hq : q < xs.length) : xs.drop q = xs.getD q default :: xs.drop (q + 1) := by rw [List.drop_eq_getElem_cons hq, getD_idx xs q hq]
/-- All rows turned: the rows of the list without the node. -/
theorem dF_done (xs : List Nd) (p i r : Nat) (hp : p + 1 < xs.length) (hlv : (xs.getD (p + 1) default).it.lv ≤ 8) (h0 : r < (xs.getD 0 default).it.lv) (hr : r < (xs.getD (if i < p + 1 then i else i + 1) default).it.lv) (hr8 : r < 8) :
    dF xs p 8 (if i < p + 1 then i else i + 1) r = nx (xs.take (p + 1) ++ xs.drop (p + 1 + 1)) i r := by
  have hle : (xs.take (p + 1)).length = p + 1 := by rw [List.length_take]; omega
  by_cases hi : i < p + 1
  · rw [if_pos hi] at hr ⊢
    have e : nx (xs.take (p + 1) ++ xs.drop (p + 1 + 1)) i r = match nxt ((xs.take (p + 1)).drop (i + 1)) r with | some b => some b | none => nxt (xs.drop (p + 1 + 1)) r := by
      unfold nx
      rw [List.drop_append_of_le_length (by omega), nxt_append]
      rfl
    rw [e]
    have hla := mid_la xs (p + 1) i r hi (by omega) hr h0
    have hsp := nx_split xs (p + 1) i r hi (by omega)
    unfold dF
    cases hm : nxt ((xs.take (p + 1)).drop (i + 1)) r with
    | some b =>
      rw [if_neg (fun h => by rw [hla.2 h.2.2] at hm; cases hm), hsp, hm]
    | none =>
      by_cases h1 : r < (xs.getD (p + 1) default).it.lv
      · rw [if_pos ⟨hr8, h1, hla.1 hm⟩]
        rfl
      · rw [if_neg (fun h => h1 h.2.1), hsp, hm]
        show nxt (xs.drop (p + 1)) r = nxt (xs.drop (p + 1 + 1)) r
        rw [drop_step xs (p + 1) hp, nxt, if_neg h1]
  · rw [if_neg hi] at hr ⊢
    unfold dF
    have hl : la xs (p + 1) r < p + 1 := (la_spec xs r h0 (p + 1) (by omega)).1
    rw [if_neg (by omega)]
    unfold nx
    congr 1
    have ed : (xs.take (p + 1)).drop (i + 1) = [] := List.drop_of_length_le (by omega)
    rw [List.drop_append, hle, ed, List.nil_append, List.drop_drop]
    congr 1
    omega
/-- Rows below r are turned: a node of lv rows stands behind p. -/
def pF (xs : List Nd) (q lv b r i r' : Nat) : Option Nat := if r' < r ∧ r' < lv ∧ i = la xs q r' then some b else nx xs i r'
def pG (xs : List Nd) (q lv r r' : Nat) : Option Nat := if r' < r ∧ r' < lv then nx xs (la xs q r') r' else none
theorem pF_zero (xs : List Nd) (q lv b i r' : Nat) : pF xs q lv b 0 i r' = nx xs i r' := by
  unfold pF
  rw [if_neg (by omega)]
theorem pF_no (xs : List Nd) (q lv b r i r' : Nat) (h : ¬ r < lv) : pF xs q lv b (r + 1) i r' = pF xs q lv b r i r' := by
  unfold pF
  by_cases h1 : r' < r
  · simp only [h1, show r' < r + 1 by omega]
  · rw [if_neg (show ¬ (r' < r ∧ _) from fun h => h1 h.1), if_neg]
    rintro ⟨h2, h3, -⟩
    obtain rfl : r' = r := by omega
    exact h h3
theorem pG_no (xs : List Nd) (q lv r r' : Nat) (h : ¬ r < lv) : pG xs q lv (r + 1) r' = pG xs q lv r r' := by
  unfold pG
  by_cases h1 : r' < r
  · simp only [h1, show r' < r + 1 by omega]
  · rw [if_neg (by omega), if_neg]
    rintro ⟨h2, h3⟩
    obtain rfl : r' = r := by omega
    exact h h3
theorem pF_yes (xs : List Nd) (q lv b r i r' : Nat) (h : r < lv) : upd (pF xs q lv b r) (la xs q r) r (some b) i r' = pF xs q lv b (r + 1) i r' := by
  unfold upd
  by_cases h1 : i = la xs q r ∧ r' = r
  · obtain ⟨rfl, rfl⟩ := h1
    rw [if_pos ⟨rfl, rfl⟩]
    unfold pF
    rw [if_pos ⟨by omega, h, rfl⟩]
  · rw [if_neg h1]
    unfold pF
    by_cases h2 : r' = r
    · subst h2
      rw [if_neg (by omega), if_neg]
      rintro ⟨-, -, h3⟩
      exact h1 ⟨h3, rfl⟩
    · by_cases h3 : r' < r
      · simp only [h3, show r' < r + 1 by omega]
      · rw [if_neg (by omega), if_neg (by omega)]
theorem pG_yes (xs : List Nd) (q lv r r' : Nat) (h : r < lv) : (if r' = r then nx xs (la xs q r) r else pG xs q lv r r') = pG xs q lv (r + 1) r' := by
  unfold pG
  by_cases h2 : r' = r
  · subst h2
    rw [if_pos rfl, if_pos ⟨by omega, h⟩]
  · rw [if_neg h2]
    by_cases h3 : r' < r
    · simp only [h3, show r' < r + 1 by omega]
    · rw [if_neg (by omega), if_neg (by omega)]
/-- All rows turned: the rows of the list with the node. -/
def pAll (xs : List Nd) (q lv b : Nat) (i r : Nat) : Option Nat := if i < q then pF xs q lv b 8 i r else if i = q then pG xs q lv 8 r else pF xs q lv b 8 (i - 1) r
theorem pAll_done (xs : List Nd) (q i r : Nat) (n : Nd) (hq0 : 0 < q) (hq : q ≤ xs.length) (h0 : r < (xs.getD 0 default).it.lv) (hr : r < ((xs.take q ++ n :: xs.drop q).getD i default).it.lv) (hr8 : r < 8) :
    pAll xs q n.it.lv n.b i r = nx (xs.take q ++ n :: xs.drop q) i r := by
  have hle : (xs.take q).length = q := by rw [List.length_take]; omega
  rw [in_getD xs n q i hq] at hr
  unfold pAll
  by_cases hi : i < q
  · rw [if_pos hi] at hr ⊢
    have e : nx (xs.take q ++ n :: xs.drop q) i r = match nxt ((xs.take q).drop (i + 1)) r with | some b => some b | none => nxt (n :: xs.drop q) r := by
      unfold nx
      rw [List.drop_append_of_le_length (by omega), nxt_append]
      rfl
    rw [e]
    have hla := mid_la xs q i r hi hq hr h0
    have hsp := nx_split xs q i r hi hq
    unfold pF
    cases hm : nxt ((xs.take q).drop (i + 1)) r with
    | some b =>
      rw [if_neg (fun h => by rw [hla.2 h.2.2] at hm; cases hm), hsp, hm]
    | none =>
      show _ = nxt (n :: xs.drop q) r
      rw [nxt]
      by_cases h1 : r < n.it.lv
      · rw [if_pos ⟨hr8, h1, hla.1 hm⟩, if_pos h1]
      · rw [if_neg (fun h => h1 h.2.1), if_neg h1, hsp, hm]
  · rw [if_neg hi] at hr ⊢
    by_cases e : i = q
    · subst e
      rw [if_pos rfl] at hr ⊢
      unfold pG
      rw [if_pos ⟨hr8, hr⟩, nx_la xs i r h0 hq0 hq]
      unfold nx
      have ed : (xs.take i).drop (i + 1) = [] := List.drop_of_length_le (by omega)
      rw [List.drop_append, hle, ed, List.nil_append, show i + 1 - i = 0 + 1 by omega, List.drop_succ_cons, List.drop_zero]
    · rw [if_neg e] at hr ⊢
      unfold pF
      have hl : la xs q r < q := (la_spec xs r h0 q hq0).1
      rw [if_neg (by omega)]
      unfold nx
      congr 1
      have ed : (xs.take q).drop (i + 1) = [] := List.drop_of_length_le (by omega)
      rw [List.drop_append, hle, ed, List.nil_append, show i + 1 - q = (i - q) + 1 by omega, List.drop_succ_cons, List.drop_drop]
      congr 1
      omega

/-! ### The nodes in memory -/
theorem sub_blks {l m : List Nd} (h : l.Sublist m) : (blks l).Sublist (blks m) := by
  induction h with
  | slnil => exact List.Sublist.refl _
  | cons a _ ih => exact ((ih.cons a.nb).cons a.b)
  | cons_cons a _ ih => exact ((ih.cons_cons a.nb).cons_cons a.b)
theorem blks_out (xs : List Nd) (q : Nat) : (blks (xs.take q ++ xs.drop (q + 1))).Sublist (blks xs) := by
  have h1 : (xs.take q ++ xs.drop (q + 1)).Sublist xs := by
    have h2 : (xs.take q ++ xs.drop (q + 1)).Sublist (xs.take q ++ xs.drop q) := by
      refine List.Sublist.append (List.Sublist.refl _) ?_
      rw [← List.drop_drop]
      exact List.drop_sublist _ _
    rwa [List.take_append_drop] at h2
  exact sub_blks h1
theorem blks_in (xs : List Nd) (n : Nd) (q : Nat) : (blks (xs.take q ++ n :: xs.drop q)).Perm (n.b :: n.nb :: blks xs) := by
  have h1 : (xs.take q ++ n :: xs.drop q).Perm (n :: xs) := by
    have h2 := List.perm_middle (a := n) (l₁ := xs.take q) (l₂ := xs.drop q)
    rwa [List.take_append_drop] at h2
  exact h1.flatMap_right _
section
variable {W : World} {L : Nat} {xs : List Nd} {f : Nat → Nat → Option Nat} {m : Int}
theorem SL_out (h : SL W L xs f m) (q : Nat) (hq0 : 0 < q) (hq : q < xs.length) : SL W L (xs.take q ++ xs.drop (q + 1)) (fun i => f (if i < q then i else i + 1)) m := by
  obtain ⟨h1, h2, h3, h4⟩ := h
  refine ⟨?_, by rw [out_len xs q hq]; omega, fun i hi => ?_, ?_⟩
  · rw [out_getD xs q 0 hq, if_pos hq0]
    exact h1
  · rw [out_len xs q hq] at hi
    rw [out_getD xs q i hq]
    exact h3 _ (by split <;> omega)
  · rw [List.nodup_cons] at h4 ⊢
    exact ⟨fun h => h4.1 ((blks_out xs q).subset h), h4.2.sublist (blks_out xs q)⟩
theorem SL_in (h : SL W L xs f m) (n : Nd) (g : Nat → Option Nat) (hn : NodeAt W n g) (hf1 : n.b ∉ L :: blks xs) (hf2 : n.nb ∉ L :: blks xs) (hne : n.b ≠ n.nb) (q : Nat) (hq0 : 0 < q) (hq : q ≤ xs.length) :
    SL W L (xs.take q ++ n :: xs.drop q) (fun i => if i < q then f i else if i = q then g else f (i - 1)) m := by
  obtain ⟨h1, h2, h3, h4⟩ := h
  refine ⟨?_, by rw [in_len xs n q hq]; omega, fun i hi => ?_, ?_⟩
  · rw [in_getD xs n q 0 hq, if_pos hq0]
    exact h1
  · rw [in_len xs n q hq] at hi
    rw [in_getD xs n q i hq]
    by_cases hi1 : i < q
    · simp only [if_pos hi1]
      exact h3 _ (by omega)
    · simp only [if_neg hi1]
      by_cases e : i = q
      · simp only [if_pos e]
        exact hn
      · simp only [if_neg e]
        exact h3 _ (by omega)
  · have hp : (L :: blks (xs.take q ++ n :: xs.drop q)).Perm (n.b :: n.nb :: L :: blks xs) :=
      ((blks_in xs n q).cons L).trans (((List.Perm.swap n.b L (n.nb :: blks xs))).trans ((List.Perm.swap n.nb L (blks xs)).cons n.b))
    refine hp.nodup_iff.2 ?_
    rw [List.nodup_cons, List.nodup_cons]
    exact ⟨fun h => (List.mem_cons.1 h).elim hne hf1, hf2, h4⟩
end
end Go.Proofs.Ythilhcdlpfjodaa.A
