/- A node put into a list of nodes, and one taken out of it: what each row leads to. No program in sight. -/
import Derived.Test.YtheoodbkjgfdfaaMOne
import Derived.BigRegion
import Derived.Test.YtheoodbkjgfdfaaIRange
import Derived.Shelf.RegionOpen
import Derived.OwnWalkIn
import Derived.TacticsInMore
import Derived.LoopNIn
import Derived.LoopIn
import Derived.Stop.RegionWithIn
namespace Go.Proofs.Ytheoodbkjgfdfaa.A.M
open Go.RowKit
set_option linter.unusedVariables false
set_option linter.unusedSimpArgs false

theorem nx_split (xs : List Nd) (q i r : Nat) (hi : i < q) (hq : q ≤ xs.length) : nx xs i r = match nxt ((xs.take q).drop (i + 1)) r with | some b => some b | none => nxt (xs.drop q) r := by
  unfold nx
  have e : xs.drop (i + 1) = (xs.take q).drop (i + 1) ++ xs.drop q := by
    have h1 : xs = xs.take q ++ xs.drop q := (List.take_append_drop q xs).symm
    conv => lhs; rw [h1]
    rw [List.drop_append_of_le_length (by rw [List.length_take]; omega)]
  rw [e, nxt_append]
  rfl
theorem mid_none (xs : List Nd) (q i r : Nat) (hi : i < q) (hq : q ≤ xs.length) : nxt ((xs.take q).drop (i + 1)) r = none ↔ ∀ k, i < k → k < q → ¬ r < (xs.getD k default).it.lv := by
  rw [nxt_none]
  constructor
  · intro h k h1 h2
    have h3 : xs.getD k default ∈ (xs.take q).drop (i + 1) := by
      rw [getD_idx xs k (by omega)]
      have e : xs[k] = ((xs.take q).drop (i + 1))[k - (i + 1)]'(by rw [List.length_drop, List.length_take]; omega) := by
        rw [List.getElem_drop, List.getElem_take]
        congr 1
        omega
      rw [e]
      exact List.getElem_mem _
    exact h _ h3
  · intro h n hn
    obtain ⟨k, hk, rfl⟩ := List.mem_iff_getElem.1 hn
    rw [List.length_drop, List.length_take] at hk
    rw [List.getElem_drop, List.getElem_take, ← getD_idx xs (i + 1 + k) (by omega)]
    exact h _ (by omega) (by omega)
theorem mid_la (xs : List Nd) (q i r : Nat) (hi : i < q) (hq : q ≤ xs.length) (hr : r < (xs.getD i default).it.lv) (h0 : r < (xs.getD 0 default).it.lv) : nxt ((xs.take q).drop (i + 1)) r = none ↔ i = la xs q r := by
  rw [mid_none xs q i r hi hq]
  constructor
  · intro h
    exact (la_is xs r q i hi hr h).symm
  · rintro rfl
    exact (la_spec xs r h0 q (by omega)).2.2
/-- The row of a node, where the one that stands ahead of the cut is its last one. -/
theorem nx_la (xs : List Nd) (q r : Nat) (h0 : r < (xs.getD 0 default).it.lv) (hq0 : 0 < q) (hq : q ≤ xs.length) : nx xs (la xs q r) r = nxt (xs.drop q) r := by
  obtain ⟨h1, h2, h3⟩ := la_spec xs r h0 q hq0
  rw [nx_split xs q _ r h1 hq, (mid_la xs q _ r h1 hq h2 h0).2 rfl]
/-- Rows below r are turned: the node at p + 1 is left out. -/
def dF (xs : List Nd) (p r i r' : Nat) : Option Nat := if r' < r ∧ r' < (xs.getD (p + 1) default).it.lv ∧ i = la xs (p + 1) r' then nx xs (p + 1) r' else nx xs i r'
theorem dF_zero (xs : List Nd) (p i r' : Nat) : dF xs p 0 i r' = nx xs i r' := by
  unfold dF
  rw [if_neg (by omega)]
theorem dF_no (xs : List Nd) (p r i r' : Nat) (h : ¬ r < (xs.getD (p + 1) default).it.lv) : dF xs p (r + 1) i r' = dF xs p r i r' := by
  unfold dF
  by_cases h1 : r' < r
  · simp only [h1, show r' < r + 1 by omega]
  · rw [if_neg (show ¬ (r' < r ∧ _) from fun h => h1 h.1), if_neg]
    rintro ⟨h2, h3, -⟩
    obtain rfl : r' = r := by omega
    exact h h3
theorem dF_yes (xs : List Nd) (p r i r' : Nat) (h : r < (xs.getD (p + 1) default).it.lv) : upd (dF xs p r) (la xs (p + 1) r) r (nx xs (p + 1) r) i r' = dF xs p (r + 1) i r' := by
  unfold upd
  by_cases h1 : i = la xs (p + 1) r ∧ r' = r
  · obtain ⟨rfl, rfl⟩ := h1
    rw [if_pos ⟨rfl, rfl⟩]
    unfold dF
    rw [if_pos ⟨by omega, h, rfl⟩]
  · rw [if_neg h1]
    unfold dF
    by_cases h2 : r' = r
    · subst h2
      rw [if_neg (by omega), if_neg]
      rintro ⟨-, -, h3⟩
      exact h1 ⟨h3, rfl⟩
    · by_cases h3 : r' < r
      · simp only [h3, show r' < r + 1 by omega]
      · rw [if_neg (by omega), if_neg (by omega)]
theorem out_getD (xs : List Nd) (q i : Nat) (hq : q < xs.length) : (xs.take q ++ xs.drop (q + 1)).getD i default = xs.getD (if i < q then i else i + 1) default := by
  rw [List.getD_eq_getElem?_getD, List.getD_eq_getElem?_getD]
  congr 1
  rw [List.getElem?_append, List.length_take, Nat.min_eq_left (by omega)]
  split
  · rename_i h
    rw [List.getElem?_take_of_lt h]
  · rename_i h
    rw [List.getElem?_drop]
    congr 1
    omega
theorem out_len (xs : List Nd) (q : Nat) (hq : q < xs.length) : (xs.take q ++ xs.drop (q + 1)).length = xs.length - 1 := by
  rw [List.length_append, List.length_take, List.length_drop]
  omega
theorem in_getD (xs : List Nd) (n : Nd) (q i : Nat) (hq : q ≤ xs.length) : (xs.take q ++ n :: xs.drop q).getD i default = if i < q then xs.getD i default else if i = q then n else xs.getD (i - 1) default := by
  rw [List.getD_eq_getElem?_getD, List.getElem?_append, List.length_take, Nat.min_eq_left hq]
  split
  · rename_i h
    rw [List.getElem?_take_of_lt h, List.getD_eq_getElem?_getD]
  · rename_i h
    by_cases e : i = q
    · subst e
      rw [if_pos rfl, Nat.sub_self]
      rfl
    · rw [if_neg e, show i - q = (i - q - 1) + 1 by omega, List.getElem?_cons_succ, List.getElem?_drop, List.getD_eq_getElem?_getD]
      congr 2
      omega
theorem in_len (xs : List Nd) (n : Nd) (q : Nat) (hq : q ≤ xs.length) : (xs.take q ++ n :: xs.drop q).length = xs.length + 1 := by
  rw [List.length_append, List.length_take, List.length_cons, List.length_drop]
  omega
theorem drop_step (xs : List Nd) (q : Nat) (hq : q < xs.length) : xs.drop q = xs.getD q default :: xs.drop (q + 1) := by rw [List.drop_eq_getElem_cons hq, getD_idx xs q hq]
/-- All rows turned: the rows of the list without the node. -/
theorem dF_done (xs : List Nd) (p i r : Nat) (hp : p + 1 < xs.length) (hlv : (xs.getD (p + 1) default).it.lv ≤ 8) (h0 : r < (xs.getD 0 default).it.lv) (hr : r < (xs.getD (if i < p + 1 then i else i + 1) default).it.lv) (hr8 : r < 8) :
    dF xs p 8 (if i < p + 1 then i else i + 1) r = nx (xs.take (p + 1) ++ xs.drop (p + 1 + 1)) i r := by
  have hle : (xs.take (p + 1)).length = p + 1 := by rw [List.length_take]; omega
  by_cases hi : i < p + 1
  · rw [if_pos hi] at hr ⊢
    have e : nx (xs.take (p + 1) ++ xs.drop (p + 1 + 1)) i r = match nxt ((xs.take (p + 1)).drop (i + 1)) r with | some b => some b | none => nxt (xs.drop (p + 1 + 1)) r := by
      unfold nx
      rw [List.drop_append_of_le_length (by omega), nxt_append]
      rfl
    rw [e]
    have hla := mid_la xs (p + 1) i r hi (by omega) hr h0
    have hsp := nx_split xs (p + 1) i r hi (by omega)
    unfold dF
    cases hm : nxt ((xs.take (p + 1)).drop (i + 1)) r with
    | some b =>
      rw [if_neg (fun h => by rw [hla.2 h.2.2] at hm; cases hm), hsp, hm]
    | none =>
      by_cases h1 : r < (xs.getD (p + 1) default).it.lv
      · rw [if_pos ⟨hr8, h1, hla.1 hm⟩]
        rfl
      · rw [if_neg (fun h => h1 h.2.1), hsp, hm]
        show nxt (xs.drop (p + 1)) r = nxt (xs.drop (p + 1 + 1)) r
        rw [drop_step xs (p + 1) hp, nxt, if_neg h1]
  · rw [if_neg hi] at hr ⊢
    unfold dF
    have hl : la xs (p + 1) r < p + 1 := (la_spec xs r h0 (p + 1) (by omega)).1
    rw [if_neg (by omega)]
    unfold nx
    congr 1
    have ed : (xs.take (p + 1)).drop (i + 1) = [] := List.drop_of_length_le (by omega)
    rw [List.drop_append, hle, ed, List.nil_append, List.drop_drop]
    congr 1
    omega
/-- Rows below r are turned: a node of lv rows stands behind p. -/
def pF (xs : List Nd) (q lv b r i r' : Nat) : Option Nat := if r' < r ∧ r' < lv ∧ i = la xs q r' then some b else nx xs i r'
def pG (xs : List Nd) (q lv r r' : Nat) : Option Nat := if r' < r ∧ r' < lv then nx xs (la xs q r') r' else none
theorem pF_zero (xs : List Nd) (q lv b i r' : Nat) : pF xs q lv b 0 i r' = nx xs i r' := by
  unfold pF
  rw [if_neg (by omega)]
theorem pF_no (xs : List Nd) (q lv b r i r' : Nat) (h : ¬ r < lv) : pF xs q lv b (r + 1) i r' = pF xs q lv b r i r' := by
  unfold pF
  by_cases h1 : r' < r
  · simp only [h1, show r' < r + 1 by omega]
  · rw [if_neg (show ¬ (r' < r ∧ _) from fun h => h1 h.1), if_neg]
    rintro ⟨h2, h3, -⟩
    obtain rfl : r' = r := by omega
    exact h h3
theorem pG_no (xs : List Nd) (q lv r r' : Nat) (h : ¬ r < lv) : pG xs q lv (r + 1) r' = pG xs q lv r r' := by
  unfold pG
  by_cases h1 : r' < r
  · simp only [h1, show r' < r + 1 by omega]
  · rw [if_neg (by omega), if_neg]
    rintro ⟨h2, h3⟩
    obtain rfl : r' = r := by omega
    exact h h3
theorem pF_yes (xs : List Nd) (q lv b r i r' : Nat) (h : r < lv) : upd (pF xs q lv b r) (la xs q r) r (some b) i r' = pF xs q lv b (r + 1) i r' := by
  unfold upd
  by_cases h1 : i = la xs q r ∧ r' = r
  · obtain ⟨rfl, rfl⟩ := h1
    rw [if_pos ⟨rfl, rfl⟩]
    unfold pF
    rw [if_pos ⟨by omega, h, rfl⟩]
  · rw [if_neg h1]
    unfold pF
    by_cases h2 : r' = r
    · subst h2
      rw [if_neg (by omega), if_neg]
      rintro ⟨-, -, h3⟩
      exact h1 ⟨h3, rfl⟩
    · by_cases h3 : r' < r
      · simp only [h3, show r' < r + 1 by omega]
      · rw [if_neg (by omega), if_neg (by omega)]
theorem pG_yes (xs : List Nd) (q lv r r' : Nat) (h : r < lv) : (if r' = r then nx xs (la xs q r) r else pG xs q lv r r') = pG xs q lv (r + 1) r' := by
  unfold pG
  by_cases h2 : r' = r
  · subst h2
    rw [if_pos rfl, if_pos ⟨by omega, h⟩]
  · rw [if_neg h2]
    by_cases h3 : r' < r
    · simp only [h3, show r' < r + 1 by omega]
    · rw [if_neg (by omega), if_neg (by omega)]
/-- All rows turned: the rows of the list with the node. -/
def pAll (xs : List Nd) (q lv b : Nat) (i r : Nat) : Option Nat := if i < q then pF xs q lv b 8 i r else if i = q then pG xs q lv 8 r else pF xs q lv b 8 (i - 1) r
theorem pAll_done (xs : List Nd) (q i r : Nat) (n : Nd) (hq0 : 0 < q) (hq : q ≤ xs.length) (h0 : r < (xs.getD 0 default).it.lv) (hr : r < ((xs.take q ++ n :: xs.drop q).getD i default).it.lv) (hr8 : r < 8) :
    pAll xs q n.it.lv n.b i r = nx (xs.take q ++ n :: xs.drop q) i r := by
  have hle : (xs.take q).length = q := by rw [List.length_take]; omega
  rw [in_getD xs n q i hq] at hr
  unfold pAll
  by_cases hi : i < q
  · rw [if_pos hi] at hr ⊢
    have e : nx (xs.take q ++ n :: xs.drop q) i r = match nxt ((xs.take q).drop (i + 1)) r with | some b => some b | none => nxt (n :: xs.drop q) r := by
      unfold nx
      rw [List.drop_append_of_le_length (by omega), nxt_append]
      rfl
    rw [e]
    have hla := mid_la xs q i r hi hq hr h0
    have hsp := nx_split xs q i r hi hq
    unfold pF
    cases hm : nxt ((xs.take q).drop (i + 1)) r with
    | some b =>
      rw [if_neg (fun h => by rw [hla.2 h.2.2] at hm; cases hm), hsp, hm]
    | none =>
      show _ = nxt (n :: xs.drop q) r
      rw [nxt]
      by_cases h1 : r < n.it.lv
      · rw [if_pos ⟨hr8, h1, hla.1 hm⟩, if_pos h1]
      · rw [if_neg (fun h => h1 h.2.1), if_neg h1, hsp, hm]
  · rw [if_neg hi] at hr ⊢
    by_cases e : i = q
    · subst e
      rw [if_pos rfl] at hr ⊢
      unfold pG
      rw [if_pos ⟨hr8, hr⟩, nx_la xs i r h0 hq0 hq]
      unfold nx
      have ed : (xs.take i).drop (i + 1) = [] := List.drop_of_length_le (by omega)
      rw [List.drop_append, hle, ed, List.nil_append, show i + 1 - i = 0 + 1 by omega, List.drop_succ_cons, List.drop_zero]
    · rw [if_neg e] at hr ⊢
      unfold pF
      have hl : la xs q r < q := (la_spec xs r h0 q hq0).1
      rw [if_neg (by omega)]
      unfold nx
      congr 1
      have ed : (xs.take q).drop (i + 1) = [] := List.drop_of_length_le (by omega)
      rw [List.drop_append, hle, ed, List.nil_append, show i + 1 - q = (i - q) + 1 by omega, List.drop_succ_cons, List.drop_drop]
      congr 1
      omega

/-! ### The nodes in memory -/
theorem sub_blks {l m : List Nd} (h : l.Sublist m) : (blks l).Sublist (blks m) := by
  induction h with
  | slnil => exact List.Sublist.refl _
  | cons a _ ih => exact ((ih.cons a.nb).cons a.b)
  | cons_cons a _ ih => exact ((ih.cons_cons a.nb).cons_cons a.b)
theorem blks_out (xs : List Nd) (q : Nat) : (blks (xs.take q ++ xs.drop (q + 1))).Sublist (blks xs) := by
  have h1 : (xs.take q ++ xs.drop (q + 1)).Sublist xs := by
    have h2 : (xs.take q ++ xs.drop (q + 1)).Sublist (xs.take q ++ xs.drop q) := by
      refine List.Sublist.append (List.Sublist.refl _) ?_
      rw [← List.drop_drop]
      exact List.drop_sublist _ _
    rwa [List.take_append_drop] at h2
  exact sub_blks h1
theorem blks_in (xs : List Nd) (n : Nd) (q : Nat) : (blks (xs.take q ++ n :: xs.drop q)).Perm (n.b :: n.nb :: blks xs) := by
  have h1 : (xs.take q ++ n :: xs.drop q).Perm (n :: xs) := by
    have h2 := List.perm_middle (a := n) (l₁ := xs.take q) (l₂ := xs.drop q)
    rwa [List.take_append_drop] at h2
  exact h1.flatMap_right _
section
variable {W : World} {L : Nat} {xs : List Nd} {f : Nat → Nat → Option Nat} {m : Int}
theorem SL_out (h : SL W L xs f m) (q : Nat) (hq0 : 0 < q) (hq : q < xs.length) : SL W L (xs.take q ++ xs.drop (q + 1)) (fun i => f (if i < q then i else i + 1)) m := by
  obtain ⟨h1, h2, h3, h4⟩ := h
  refine ⟨?_, by rw [out_len xs q hq]; omega, fun i hi => ?_, ?_⟩
  · rw [out_getD xs q 0 hq, if_pos hq0]
    exact h1
  · rw [out_len xs q hq] at hi
    rw [out_getD xs q i hq]
    exact h3 _ (by split <;> omega)
  · rw [List.nodup_cons] at h4 ⊢
    exact ⟨fun h => h4.1 ((blks_out xs q).subset h), h4.2.sublist (blks_out xs q)⟩
theorem SL_in (h : SL W L xs f m) (n : Nd) (g : Nat → Option Nat) (hn : NodeAt W n g) (hf1 : n.b ∉ L :: blks xs) (hf2 : n.nb ∉ L :: blks xs) (hne : n.b ≠ n.nb) (q : Nat) (hq0 : 0 < q) (hq : q ≤ xs.length) :
    SL W L (xs.take q ++ n :: xs.drop q) (fun i => if i < q then f i else if i = q then g else f (i - 1)) m := by
  obtain ⟨h1, h2, h3, h4⟩ := h
  refine ⟨?_, by rw [in_len xs n q hq]; omega, fun i hi => ?_, ?_⟩
  · rw [in_getD xs n q 0 hq, if_pos hq0]
    exact h1
  · rw [in_len xs n q hq] at hi
    rw [in_getD xs n q i hq]
    by_cases hi1 : i < q
    · simp only [if_pos hi1]
      exact h3 _ (by omega)
    · simp only [if_neg hi1]
      by_cases e : i = q
      · simp only [if_pos e]
        exact hn
      · simp only [if_neg e]
        exact h3 _ (by omega)
  · have hp : (L :: blks (xs.take q ++ n :: xs.drop q)).Perm (n.b :: n.nb :: L :: blks xs) :=
      ((blks_in xs n q).cons L).trans (((List.Perm.swap n.b L (n.nb :: blks xs))).trans ((List.Perm.swap n.nb L (blks xs)).cons n.b))
    refine hp.nodup_iff.2 ?_
    rw [List.nodup_cons, List.nodup_cons]
    exact ⟨fun h => (List.mem_cons.1 h).elim hne hf1, hf2, h4⟩
end
end Go.Proofs.Ytheoodbkjgfdfaa.A.M
/- A key is taken away. -/
namespace Go.Proofs.Ytheoodbkjgfdfaa.A.M
open Go.RowKit Go.Proofs.YtheoodbkjgfdfaaW.PrintWords Go.Proofs.YtheoodbkjgfdfaaW.PrintLast Go.Proofs.YtheoodbkjgfdfaaW.PrintMore
set_option linter.unusedVariables false
set_option linter.unusedSimpArgs false

theorem ahead_arr (xs : List Nd) (p : Nat) : ∃ cs : Array Value, aheadV xs p = .agg cs ∧ ∀ (r : Nat) (W : World), r < 8 → (Instr.index 95 (.agg cs) (.int .i64 (r : Int))).run Try.prog W = .ok (.pointer (some ⟨(xs.getD (la xs (p + 1) r) default).b, 0, none⟩)) W := by
  refine ⟨_, rfl, fun r W hr => ?_⟩
  rw [idx_arr _ r hr (by simp) W]
  congr 1
  simp [hr, pv]
/-- What of a node lies in cells. -/
theorem SL_cells {W : World} {L : Nat} {xs : List Nd} {f : Nat → Nat → Option Nat} {m : Int} (h : SL W L xs f m) (i : Nat) (hi : i < xs.length) :
    W.cell? ⟨(xs.getD i default).b, 2, none⟩ = some (.slice (some ⟨(xs.getD i default).nb, 0, none⟩) (xs.getD i default).it.lv (xs.getD i default).it.lv) ∧ (∀ r, r < (xs.getD i default).it.lv → W.cell? ⟨(xs.getD i default).nb, r, none⟩ = some (pv (f i r))) ∧ (∀ o, W.frozen? ⟨(xs.getD i default).nb, o, none⟩ = false) :=
  ⟨(node_cells (h.2.2.1 i hi)).2.2, fun r hr => node_row (h.2.2.1 i hi) r hr, fun o => plain_frozen (h.2.2.1 i hi).2 o⟩
theorem lv0 {W : World} {L : Nat} {xs : List Nd} (h : SK W L xs) : (xs.getD 0 default).it.lv = 8 := by rw [h.2.1]
theorem dropS_no {l : List It} {key : ByteArray} (h : isS l key = false) : dropS l key = l := by unfold dropS; rw [h]; rfl
theorem dropS_yes {l : List It} {key : ByteArray} (h : isS l key = true) : dropS l key = l.take (atS l key) ++ l.drop (atS l key + 1) := by unfold dropS; rw [h, if_pos rfl]
theorem tail_out (xs : List Nd) (p : Nat) (hp : p + 1 < xs.length) : ((xs.take (p + 1) ++ xs.drop (p + 1 + 1)).tail).map Nd.it = (xs.tail.map Nd.it).take p ++ (xs.tail.map Nd.it).drop (p + 1) := by
  cases xs with
  | nil => simp at hp
  | cons x xs => simp [List.map_take, List.map_drop]
/-- The list without a node. -/
theorem SK_out {W : World} {L : Nat} {xs : List Nd} {key : ByteArray} (hS : SK W L xs) {W1 : World} (hi : isS (xs.tail.map Nd.it) key = true) (h : SL W1 L xs (dF xs (atS (xs.tail.map Nd.it) key) 8) ((xs.length : Int) - 1 - 1)) :
    ∃ xs', SK W1 L xs' ∧ xs'.tail.map Nd.it = dropS (xs.tail.map Nd.it) key ∧ ∀ k ∈ blks xs', k ∈ blks xs := by
  have hlt := (isS_lt hi).1
  rw [tail_len] at hlt
  obtain ⟨p, hp⟩ : ∃ p, atS (xs.tail.map Nd.it) key = p := ⟨_, rfl⟩
  have hp1 : p + 1 < xs.length := by omega
  have ht := tail_out xs p hp1
  have hd := dropS_yes hi
  rw [hp] at h hd
  refine ⟨xs.take (p + 1) ++ xs.drop (p + 1 + 1), ⟨?_, ?_, ?_⟩, by rw [ht, hd], fun k hk => (blks_out xs (p + 1)).subset hk⟩
  · have h1 := SL_out h (p + 1) (by omega) hp1
    rw [out_len xs (p + 1) hp1, show (((xs.length - 1 : Nat) : Int) - 1) = (xs.length : Int) - 1 - 1 by omega]
    refine SL_congr h1 (fun i r hi hr => ?_)
    rw [out_len xs (p + 1) hp1] at hi
    rw [out_getD xs (p + 1) i hp1] at hr
    have hle := (sk_lv hS (if i < p + 1 then i else i + 1) (by split <;> omega)).2
    exact dF_done xs p i r hp1 (sk_lv hS (p + 1) hp1).2 (by rw [lv0 hS]; omega) hr (by omega)
  · rw [out_getD xs (p + 1) 0 hp1, if_pos (by omega)]
    exact hS.2.1
  · rw [ht, ← hd]
    exact srt_drop hS.2.2 key
theorem ch_a {W : World} {L : Nat} {xs : List Nd} {f : Nat → Nat → Option Nat} {m : Int} (h : SL W L xs f m) (i j r : Nat) (hi : i < xs.length) (hj : j < xs.length) (hne : i ≠ j) (hr : r < (xs.getD i default).it.lv) (hrj : r < (xs.getD j default).it.lv) :
    W.cell? ⟨(xs.getD i default).b, 2, none⟩ = some (.slice (some ⟨(xs.getD i default).nb, 0, none⟩) (xs.getD i default).it.lv (xs.getD i default).it.lv) ∧ W.cell? ⟨(xs.getD j default).b, 2, none⟩ = some (.slice (some ⟨(xs.getD j default).nb, 0, none⟩) (xs.getD j default).it.lv (xs.getD j default).it.lv) ∧
      W.cell? ⟨(xs.getD j default).nb, r, none⟩ = some (pv (f j r)) ∧ W.cell? ⟨(xs.getD i default).nb, r, none⟩ = some (pv (f i r)) ∧ W.frozen? ⟨(xs.getD i default).nb, r, none⟩ = false := by
  obtain ⟨a1, a2, a3⟩ := SL_cells h i hi
  obtain ⟨b1, b2, b3⟩ := SL_cells h j hj
  exact ⟨a1, b1, b2 r hrj, a2 r hr, a3 r⟩
set_option maxRecDepth 100000 in
set_option maxHeartbeats 4000000 in
theorem drop_calls (w : World) (L : Nat) (xs : List Nd) (key : ByteArray) (h : SK w L xs) (hmx : xs.length ≤ 100000) :
    Calls Try.prog 42 #[.pointer (some ⟨L, 0, none⟩), .string key] w fun e w' => e = .returned (.bool (isS (xs.tail.map Nd.it) key)) ∧ ∃ xs', SK w' L xs' ∧ xs'.tail.map Nd.it = dropS (xs.tail.map Nd.it) key ∧ Frm (L :: blks xs) w w' ∧ ∀ k ∈ blks xs', k ∈ blks xs := by
  have hf := find_calls w L xs key h
  have HS := Aside0.mk h
  cases hi : isS (xs.tail.map Nd.it) key with
  | false =>
    have e1 : findB xs key = none := by unfold findB; rw [hi]; rfl
    rw [e1] at hf
    have hf' : Calls Try.prog 51 #[.pointer (some ⟨L, 0, none⟩), .string key] w fun e w' => e = .returned (.pointer none) ∧ Below w.heap.size w w' := hf
    have HF := Aside0.mk hf'
    have HD := Aside0.mk (dropS_no hi)
    clear hf hf' e1 hi h
    go_enter Try.func42, Try.ntmps42
    go_wp2_with fail
    (with_reducible refine HF.out.mono ?_)
    rintro e w1 ⟨rfl, hb1⟩
    have HS1 : Aside0 (SK w1 L xs) := ⟨SL_below HS.out.1 hb1, HS.out.2⟩
    have HB1 := Aside0.mk hb1
    clear hb1
    go_wp2_with fail
    go_ret
    exact ⟨rfl, xs, HS1.out, HD.out.symm, Frm.of_below HB1.out, fun k hk => hk⟩
  | true =>
    have hlt := (isS_lt hi).1
    rw [tail_len] at hlt
    have HI := Aside0.mk hi
    have e1 : findB xs key = some (xs.getD (atS (xs.tail.map Nd.it) key + 1) default).b := by unfold findB; rw [hi, if_pos rfl]
    rw [e1] at hf
    obtain ⟨cs, e8, hix⟩ := ahead_arr xs (atS (xs.tail.map Nd.it) key)
    have HA := Aside0.mk (fun W (hW : SK W L xs) => ahead_calls W L xs key hW)
    rw [e8] at HA
    have HOut := Aside0.mk (fun W1 (hh : SL W1 L xs (dF xs (atS (xs.tail.map Nd.it) key) 8) ((xs.length : Int) - 1 - 1)) => SK_out h hi hh)
    obtain ⟨p, hp⟩ : ∃ p, atS (xs.tail.map Nd.it) key = p := ⟨_, rfl⟩
    rw [hp] at hf hix hlt HOut
    obtain ⟨bq, hbq⟩ : ∃ b, (xs.getD (p + 1) default).b = b := ⟨_, rfl⟩
    have HBQ := Aside0.mk hbq
    obtain ⟨lv, hlv⟩ : ∃ b, (xs.getD (p + 1) default).it.lv = b := ⟨_, rfl⟩
    have HLV := Aside0.mk hlv
    have hlv8 := (sk_lv h (p + 1) (by omega)).2
    rw [hlv] at hlv8
    rw [hbq] at hf
    have hf' : Calls Try.prog 51 #[.pointer (some ⟨L, 0, none⟩), .string key] w fun e w' => e = .returned (.pointer (some ⟨bq, 0, none⟩)) ∧ Below w.heap.size w w' := hf
    have HF := Aside0.mk hf'
    have HIX := Aside0.mk hix
    have HLA : Aside0 (∀ r, r < 8 → la xs (p + 1) r < p + 1 ∧ r < (xs.getD (la xs (p + 1) r) default).it.lv) := ⟨fun r hr => by
      have h9 := la_spec xs r (by rw [lv0 h]; exact hr) (p + 1) (by omega)
      exact ⟨h9.1, h9.2.1⟩⟩
    have HLEN : Aside0 (p + 1 < xs.length) := ⟨by omega⟩
    clear hf hf' e1 e8 hi h hp hbq hlv hix hlt
    go_enter Try.func42, Try.ntmps42
    go_wp2_with fail
    (with_reducible refine HF.out.mono ?_)
    rintro e w1 ⟨rfl, hb1⟩
    have HS1 : Aside0 (SK w1 L xs) := ⟨SL_below HS.out.1 hb1, HS.out.2⟩
    have HB1 := Aside0.mk hb1
    clear hb1
    go_wp2_with fail
    (with_reducible refine (HA.out w1 HS1.out).mono ?_)
    rintro e w2 ⟨rfl, hb2⟩
    have HS2 : Aside0 (SK w2 L xs) := ⟨SL_below HS1.out.1 hb2, HS1.out.2⟩
    have HB2 := Aside0.mk (below_step HB1.out hb2)
    clear hb2 HS1 HB1
    go_wp2_with fail
    go_loopw [6, 7, 16] (fun v6 v7 v16 w' => ∃ (r : Nat), v16 = .int .i64 r ∧ r ≤ 8 ∧ Aside0 (SL w' L xs (dF xs p r) ((xs.length : Int) - 1) ∧ Frm (L :: blks xs) w w')) (fun _ _ v16 _ => 8 - (intOf v16).toNat)
    case atStart => exact ⟨0, rfl, by omega, ⟨SL_congr HS2.out.1 (fun i r _ _ => (dF_zero xs p i r).symm), Frm.of_below HB2.out⟩⟩
    case round =>
      obtain ⟨r, rfl, hr8, HI2⟩ := hrel
      by_cases hrr : r < 8
      · have hx : ∀ W : World, (Instr.index 95 (.agg cs) (.int .i64 (r : Int))).run Try.prog W = .ok (.pointer (some ⟨(xs.getD (la xs (p + 1) r) default).b, 0, none⟩)) W := fun W => HIX.out r W hrr
        obtain ⟨la1, la2⟩ := HLA.out r hrr
        have hd : Aside0 (SL wr.drew L xs (dF xs p r) ((xs.length : Int) - 1) ∧ Frm (L :: blks xs) w wr.drew) := ⟨SL_below HI2.out.1 (below_drew1 (Below.refl _ _)), HI2.out.2.trans (Frm.of_below (below_drew1 (Below.refl _ _)))⟩
        have hcq := SL_cells HI2.out.1 (p + 1) HLEN.out
        obtain ⟨cq, -, -⟩ := hcq
        have hmem := (blks_at (show la xs (p + 1) r < xs.length by have := HLEN.out; omega)).2
        by_cases hq : r < lv
        · have hc := ch_a hd.out.1 (la xs (p + 1) r) (p + 1) r (by have := HLEN.out; omega) HLEN.out (by omega) la2 (by rw [HLV.out]; exact hq)
          obtain ⟨c1, c2, c3, c4, c5⟩ := hc
          have hst : SL (wr.drew.setCell ⟨(xs.getD (la xs (p + 1) r) default).nb, r, none⟩ (pv (dF xs p r (p + 1) r))) L xs (dF xs p (r + 1)) ((xs.length : Int) - 1) ∧ Frm (L :: blks xs) w (wr.drew.setCell ⟨(xs.getD (la xs (p + 1) r) default).nb, r, none⟩ (pv (dF xs p r (p + 1) r))) := by
            refine ⟨SL_congr (SL_set hd.out.1 (la xs (p + 1) r) r (by have := HLEN.out; omega) la2 (dF xs p r (p + 1) r)) (fun i r' _ _ => ?_), Frm.set hd.out.2 (List.mem_cons_of_mem _ hmem) _⟩
            have e9 : dF xs p r (p + 1) r = nx xs (p + 1) r := by unfold dF; rw [if_neg (by omega)]
            rw [e9]
            exact dF_yes xs p r i r' (by rw [HLV.out]; exact hq)
          have HST := Aside0.mk hst
          rw [HBQ.out, HLV.out] at cq c2
          obtain ⟨nbq, hnbq⟩ : ∃ b, (xs.getD (p + 1) default).nb = b := ⟨_, rfl⟩
          obtain ⟨ba, hba⟩ : ∃ b, (xs.getD (la xs (p + 1) r) default).b = b := ⟨_, rfl⟩
          obtain ⟨nba, hnba⟩ : ∃ b, (xs.getD (la xs (p + 1) r) default).nb = b := ⟨_, rfl⟩
          obtain ⟨lva, hlva⟩ : ∃ b, (xs.getD (la xs (p + 1) r) default).it.lv = b := ⟨_, rfl⟩
          obtain ⟨u, hu⟩ : ∃ u, pv (dF xs p r (p + 1) r) = .pointer u := ⟨_, rfl⟩
          obtain ⟨u4, hu4⟩ : ∃ u, pv (dF xs p r (la xs (p + 1) r) r) = .pointer u := ⟨_, rfl⟩
          rw [hnbq] at cq c2 c3
          rw [hu, hnba] at HST
          rw [hba, hnba, hlva] at c1
          rw [hu] at c3
          rw [hnba] at c4 c5
          rw [hu4] at c4
          rw [hba] at hx
          rw [hlva] at la2
          have j1 : (0 : Int) ≤ (r : Int) := by omega
          have j2 : (r : Int) < (lv : Int) := by omega
          have j3 : (r : Int) < (lva : Int) := by omega
          have j4 : (r : Int) < 8 := by omega
          have hd2 := Aside0.mk hd
          clear hst hd hnbq hba hnba hlva hu hu4 la1 hmem HI2
          go_wp2_with fail
          go_region
          go_wp2_with fail
          go_roundw
          case rel => exact ⟨r + 1, by push_cast; rfl, by omega, HST⟩
          case measure => simp [intOf]; omega
        · have hst : SL wr L xs (dF xs p (r + 1)) ((xs.length : Int) - 1) ∧ Frm (L :: blks xs) w wr := ⟨SL_congr HI2.out.1 (fun i r' _ _ => (dF_no xs p r i r' (by rw [HLV.out]; exact hq)).symm), HI2.out.2⟩
          have HST := Aside0.mk hst
          rw [HBQ.out, HLV.out] at cq
          have j1 : (0 : Int) ≤ (r : Int) := by omega
          have j2 : ¬ (r : Int) < (lv : Int) := by omega
          have j4 : (r : Int) < 8 := by omega
          clear hst hd hmem HI2 la1 la2
          go_wp2_with fail
          go_roundw
          case rel => exact ⟨r + 1, by push_cast; rfl, by omega, HST⟩
          case measure => simp [intOf]; omega
      · obtain rfl : r = 8 := by omega
        obtain ⟨w3, hw3⟩ : ∃ w3, wr.setCell ⟨L, 1, none⟩ (.int .i64 ((xs.length : Int) - 1 - 1)) = w3 := ⟨_, rfl⟩
        have hs3 := SL_many HI2.out.1 ((xs.length : Int) - 1 - 1)
        have hf3 := Frm.set (b := L) (o := 1) HI2.out.2 List.mem_cons_self (.int .i64 ((xs.length : Int) - 1 - 1))
        have c1 : wr.cell? ⟨L, 1, none⟩ = some (.int .i64 ((xs.length : Int) - 1)) := by rw [cell_of_row _ _ _ _ _ _ (SL_list HI2.out.1)]; rfl
        have c2 := plain_frozen (SL_list HI2.out.1) 1
        rw [hw3] at hs3 hf3
        have HS3 := Aside0.mk (show SL w3 L xs (dF xs p 8) ((xs.length : Int) - 1 - 1) ∧ Frm (L :: blks xs) w w3 from ⟨hs3, hf3⟩)
        clear hs3 hf3 HI2
        go_wp2_with fail
        go_ret
        obtain ⟨xs', k1, k2, k3⟩ := HOut.out _ HS3.out.1
        exact ⟨rfl, xs', k1, k2, HS3.out.2, k3⟩
end Go.Proofs.Ytheoodbkjgfdfaa.A.M
/- A key is put, or another thing at one. -/
namespace Go.Proofs.Ytheoodbkjgfdfaa.A.M
open Go.RowKit Go.Proofs.YtheoodbkjgfdfaaW.PrintWords Go.Proofs.YtheoodbkjgfdfaaW.PrintLast Go.Proofs.YtheoodbkjgfdfaaW.PrintMore
attribute [local go_sem] max2_int min2_int max_two min_two
set_option linter.unusedVariables false
set_option linter.unusedSimpArgs false

theorem putS_no {l : List It} {key : ByteArray} {lv : Int} {v : Sl} (h : isS l key = false) : putS l key lv v = l.take (atS l key) ++ ⟨key, clampL lv, v⟩ :: l.drop (atS l key) := by unfold putS; rw [h]; rfl
theorem putS_yes {l : List It} {key : ByteArray} {lv : Int} {v : Sl} (h : isS l key = true) : putS l key lv v = l.take (atS l key) ++ ⟨key, (l.getD (atS l key) default).lv, v⟩ :: l.drop (atS l key + 1) := by unfold putS; rw [h, if_pos rfl]
theorem tail_in (xs : List Nd) (n : Nd) (p : Nat) (hp : p + 1 ≤ xs.length) : ((xs.take (p + 1) ++ n :: xs.drop (p + 1)).tail).map Nd.it = (xs.tail.map Nd.it).take p ++ n.it :: (xs.tail.map Nd.it).drop p := by
  cases xs with
  | nil => simp at hp
  | cons x xs => simp [List.map_take, List.map_drop]
/-- The list with a node more. -/
theorem SK_in {W : World} {L : Nat} {xs : List Nd} {key : ByteArray} (hS : SK W L xs) {W1 : World} {lv : Nat} {v1 : Int} {v : Sl} (b nb : Nat) (hlv : clampL v1 = lv) (hi : isS (xs.tail.map Nd.it) key = false)
    (h : SL W1 L xs (pF xs (atS (xs.tail.map Nd.it) key + 1) lv b 8) (xs.length : Int)) (hn : NodeAt W1 ⟨⟨key, lv, v⟩, b, nb⟩ (pG xs (atS (xs.tail.map Nd.it) key + 1) lv 8)) (hf1 : b ∉ L :: blks xs) (hf2 : nb ∉ L :: blks xs) (hne : b ≠ nb) :
    ∃ xs', SK W1 L xs' ∧ xs'.tail.map Nd.it = putS (xs.tail.map Nd.it) key v1 v ∧ ∀ k ∈ blks xs', k ∈ blks xs ∨ k = b ∨ k = nb := by
  have hpl := sk_p hS key
  have hd := putS_no (lv := v1) (v := v) hi
  obtain ⟨p, hp⟩ : ∃ p, atS (xs.tail.map Nd.it) key = p := ⟨_, rfl⟩
  rw [hp] at h hn hd hpl
  rw [hlv] at hd
  have hp1 : p + 1 ≤ xs.length := by omega
  have ht := tail_in xs ⟨⟨key, lv, v⟩, b, nb⟩ p hp1
  have hs := srt_put hS.2.2 key v1 v
  rw [hd, ← ht] at hs
  have hSL := SL_in h ⟨⟨key, lv, v⟩, b, nb⟩ _ hn hf1 hf2 hne (p + 1) (by omega) hp1
  have e0 : ((xs.take (p + 1) ++ (⟨⟨key, lv, v⟩, b, nb⟩ : Nd) :: xs.drop (p + 1)).getD 0 default) = xs.getD 0 default := by rw [in_getD xs _ (p + 1) 0 hp1, if_pos (by omega)]
  refine ⟨xs.take (p + 1) ++ ⟨⟨key, lv, v⟩, b, nb⟩ :: xs.drop (p + 1), ⟨?_, by rw [e0]; exact hS.2.1, hs⟩, by rw [ht, hd], fun k hk => ?_⟩
  · rw [in_len xs _ (p + 1) hp1, show (((xs.length + 1 : Nat) : Int) - 1) = (xs.length : Int) by omega]
    refine SL_congr hSL (fun i r hi2 hr => ?_)
    rw [in_len xs _ (p + 1) hp1] at hi2
    have hr8 : r < 8 := by
      rw [in_getD xs _ (p + 1) i hp1] at hr
      have hc := clampL_range v1
      split at hr
      · have := (sk_lv hS i (by omega)).2; omega
      · split at hr
        · simp only at hr; omega
        · have := (sk_lv hS (i - 1) (by omega)).2; omega
    have h9 := pAll_done xs (p + 1) i r ⟨⟨key, lv, v⟩, b, nb⟩ (by omega) hp1 (by rw [lv0 hS]; exact hr8) hr hr8
    rw [← h9]
    unfold pAll
    simp only []
    split
    · rfl
    · split <;> rfl
  · have h9 := (blks_in xs ⟨⟨key, lv, v⟩, b, nb⟩ (p + 1)).subset hk
    simp only [List.mem_cons] at h9
    rcases h9 with h9 | h9 | h9
    · exact .inr (.inl h9)
    · exact .inr (.inr h9)
    · exact .inl h9
/-- The list with another thing at a key. -/
theorem SK_val {W : World} {L : Nat} {xs : List Nd} {key : ByteArray} (hS : SK W L xs) (lv : Int) (v : Sl) (hi : isS (xs.tail.map Nd.it) key = true) :
    ∃ xs', SK (W.setCell ⟨(xs.getD (atS (xs.tail.map Nd.it) key + 1) default).b, 1, none⟩ (.slice v.A v.n v.c)) L xs' ∧ xs'.tail.map Nd.it = putS (xs.tail.map Nd.it) key lv v ∧ ∀ k ∈ blks xs', k ∈ blks xs := by
  have hlt := (isS_lt hi).1
  have hkk := (isS_lt hi).2
  rw [tail_len] at hlt
  have hd := putS_yes (lv := lv) (v := v) hi
  have hs := srt_put hS.2.2 key lv v
  rw [← tail_at] at hd hkk
  obtain ⟨p, hp⟩ : ∃ p, atS (xs.tail.map Nd.it) key = p := ⟨_, rfl⟩
  rw [hp] at hd hlt hkk ⊢
  have hp1 : p + 1 < xs.length := by omega
  obtain ⟨⟨h1, h2, h3, h4⟩, h5, h6⟩ := hS
  obtain ⟨q, hq⟩ : ∃ q, xs.getD (p + 1) default = q := ⟨_, rfl⟩
  rw [hq] at hd hkk ⊢
  have hg : ∀ i, (xs.set (p + 1) ⟨⟨q.it.k, q.it.lv, v⟩, q.b, q.nb⟩).getD i default = if i = p + 1 then ⟨⟨q.it.k, q.it.lv, v⟩, q.b, q.nb⟩ else xs.getD i default := fun i => by
    rw [List.getD_eq_getElem?_getD, List.getElem?_set]
    by_cases e : p + 1 = i
    · subst e
      rw [if_pos rfl, if_pos rfl, if_pos hp1]
      rfl
    · rw [if_neg e, if_neg (fun h => e h.symm), List.getD_eq_getElem?_getD]
  have hlv : ∀ i, ((xs.set (p + 1) ⟨⟨q.it.k, q.it.lv, v⟩, q.b, q.nb⟩).getD i default).it.lv = (xs.getD i default).it.lv ∧ ((xs.set (p + 1) ⟨⟨q.it.k, q.it.lv, v⟩, q.b, q.nb⟩).getD i default).b = (xs.getD i default).b ∧ ((xs.set (p + 1) ⟨⟨q.it.k, q.it.lv, v⟩, q.b, q.nb⟩).getD i default).nb = (xs.getD i default).nb := fun i => by
    rw [hg i]
    split
    · rename_i e
      rw [e, hq]
      exact ⟨rfl, rfl, rfl⟩
    · exact ⟨rfl, rfl, rfl⟩
  have hb : blks (xs.set (p + 1) ⟨⟨q.it.k, q.it.lv, v⟩, q.b, q.nb⟩) = blks xs := by
    have hm : ∀ l : List Nd, blks l = (l.map fun n => [n.b, n.nb]).flatten := fun l => by unfold blks; rw [List.flatMap_def]
    rw [hm, hm, List.map_set]
    congr 1
    apply List.ext_getElem?
    intro j
    rw [List.getElem?_set]
    split
    · rename_i e
      subst e
      rw [List.length_map, if_pos hp1, List.getElem?_map, List.getElem?_eq_getElem hp1, ← getD_idx xs (p + 1) hp1, hq]
      rfl
    · rfl
  have hnx : ∀ i r, nx (xs.set (p + 1) ⟨⟨q.it.k, q.it.lv, v⟩, q.b, q.nb⟩) i r = nx xs i r := by
    have hn : ∀ (l m : List Nd) (r : Nat), l.map (fun n => (n.it.lv, n.b)) = m.map (fun n => (n.it.lv, n.b)) → nxt l r = nxt m r := by
      intro l
      induction l with
      | nil => intro m r h; cases m with
        | nil => rfl
        | cons a m => simp at h
      | cons a l ih => intro m r h; cases m with
        | nil => simp at h
        | cons c m =>
          simp only [List.map_cons, List.cons.injEq, Prod.mk.injEq] at h
          simp only [nxt]
          rw [h.1.1, h.1.2, ih m r h.2]
    intro i r
    unfold nx
    refine hn _ _ r ?_
    rw [List.map_drop, List.map_drop, List.map_set]
    congr 1
    apply List.ext_getElem?
    intro j
    rw [List.getElem?_set]
    split
    · rename_i e
      subst e
      rw [List.length_map, if_pos hp1, List.getElem?_map, List.getElem?_eq_getElem hp1, ← getD_idx xs (p + 1) hp1, hq]
      rfl
    · rfl
  have hqn : NodeAt W q (nx xs (p + 1)) := by have := h3 (p + 1) hp1; rw [hq] at this; exact this
  have hfar : ∀ k, k ≠ q.b → (W.setCell ⟨q.b, 1, none⟩ (.slice v.A v.n v.c)).heap[k]? = W.heap[k]? := fun k hk => Below.heap_setCell W _ _ k hk
  have hqm : q.b ∈ blks xs := by rw [← hq]; exact (blks_at hp1).1
  have ht : (xs.set (p + 1) ⟨⟨q.it.k, q.it.lv, v⟩, q.b, q.nb⟩).tail.map Nd.it = putS (xs.tail.map Nd.it) key lv v := by
    rw [hd]
    cases hxs : xs with
    | nil => rw [hxs] at hp1; simp at hp1
    | cons x l =>
      rw [hxs] at hp1
      have hpl : p < l.length := by simpa using hp1
      simp only [List.set_cons_succ, List.tail_cons, List.map_set]
      rw [List.set_eq_take_append_cons_drop, List.length_map, if_pos hpl, hkk]
  refine ⟨xs.set (p + 1) ⟨⟨q.it.k, q.it.lv, v⟩, q.b, q.nb⟩, ⟨⟨?_, by rw [List.length_set]; exact h2, fun i hi => ?_, by rw [hb]; exact h4⟩, ?_, by rw [ht]; exact hs⟩, ht, fun k hk => by rw [← hb]; exact hk⟩
  · rw [(hlv 0).2.1, List.length_set, hfar L (fun e => (List.nodup_cons.1 h4).1 (by rw [e]; exact hqm))]
    exact h1
  · rw [List.length_set] at hi
    have hap := blks_apart (List.nodup_cons.1 h4).2
    have e1 : NodeAt W (xs.getD i default) (nx (xs.set (p + 1) ⟨⟨q.it.k, q.it.lv, v⟩, q.b, q.nb⟩) i) := by
      rw [show nx (xs.set (p + 1) ⟨⟨q.it.k, q.it.lv, v⟩, q.b, q.nb⟩) i = nx xs i from funext fun r => hnx i r]
      exact h3 i hi
    rw [hg i]
    split
    · rename_i e
      subst e
      rw [hq] at e1
      refine ⟨?_, ?_⟩
      · show (W.setCell ⟨q.b, 1, none⟩ (.slice v.A v.n v.c)).heap[q.b]? = _
        rw [heap_set_row e1.1]
        rfl
      · show (W.setCell ⟨q.b, 1, none⟩ (.slice v.A v.n v.c)).heap[q.nb]? = _
        rw [hfar _ (fun e => by have := (hap (p + 1) (p + 1) hp1 hp1).1; rw [hq] at this; exact this e.symm)]
        exact e1.2
    · rename_i e
      refine ⟨?_, ?_⟩
      · rw [hfar _ (fun e2 => e ((hap i (p + 1) hi hp1).2.2 (by rw [hq]; exact e2)))]
        exact e1.1
      · rw [hfar _ (fun e2 => by have := (hap (p + 1) i hp1 hi).1; rw [hq] at this; exact this e2.symm)]
        exact e1.2
  · rw [hg 0, if_neg (by omega)]
    exact h5
/-- A round of the loop: both rows are turned. -/
theorem put_step {W : World} {L : Nat} {xs : List Nd} {f : Nat → Nat → Option Nat} {m : Int} {n : Nd} {g : Nat → Option Nat} (h : SL W L xs f m) (hn : NodeAt W n g) (hf1 : n.b ∉ L :: blks xs) (hf2 : n.nb ∉ L :: blks xs) (hne : n.b ≠ n.nb)
    (i r : Nat) (hi : i < xs.length) (hr : r < (xs.getD i default).it.lv) (hrn : r < n.it.lv) (o : Option Nat) :
    SL ((W.setCell ⟨n.nb, r, none⟩ (pv o)).setCell ⟨(xs.getD i default).nb, r, none⟩ (pv (some n.b))) L xs (upd f i r (some n.b)) m ∧ NodeAt ((W.setCell ⟨n.nb, r, none⟩ (pv o)).setCell ⟨(xs.getD i default).nb, r, none⟩ (pv (some n.b))) n (fun r' => if r' = r then o else g r') := by
  have h1 : SL (W.setCell ⟨n.nb, r, none⟩ (pv o)) L xs f m := SL_frm h (Frm.set (Frm.refl [n.nb] W) (by simp) _) (fun k hk e => hf2 (by rw [List.mem_singleton] at e; rw [← e]; exact hk))
  have hmem := (blks_at hi).2
  have hfar : ∀ k, k ≠ (xs.getD i default).nb → ((W.setCell ⟨n.nb, r, none⟩ (pv o)).setCell ⟨(xs.getD i default).nb, r, none⟩ (pv (some n.b))).heap[k]? = (W.setCell ⟨n.nb, r, none⟩ (pv o)).heap[k]? := fun k hk => Below.heap_setCell _ _ _ k hk
  refine ⟨SL_set h1 i r hi hr _, ?_, ?_⟩
  · rw [hfar _ (fun e => hf1 (List.mem_cons_of_mem _ (by rw [e]; exact hmem)))]
    exact (Below.heap_setCell W _ _ _ hne).trans hn.1
  · rw [hfar _ (fun e => hf2 (List.mem_cons_of_mem _ (by rw [e]; exact hmem)))]
    rw [heap_set_row hn.2, row_set _ _ _ _ hrn]
set_option maxRecDepth 100000 in
set_option maxHeartbeats 4000000 in
theorem put_calls (w : World) (L : Nat) (xs : List Nd) (key : ByteArray) (lv : Int) (v : Sl) (h : SK w L xs) (hmx : xs.length ≤ 100000) :
    Calls Try.prog 30 #[.pointer (some ⟨L, 0, none⟩), .string key, .int .i64 lv, .slice v.A v.n v.c] w fun e w' => e = .returned (.bool (!isS (xs.tail.map Nd.it) key)) ∧ ∃ xs', SK w' L xs' ∧ xs'.tail.map Nd.it = putS (xs.tail.map Nd.it) key lv v ∧ Frm (L :: blks xs) w w' ∧ ∀ k ∈ blks xs', k ∈ blks xs ∨ w.heap.size ≤ k := by
  have hf := find_calls w L xs key h
  have HS := Aside0.mk h
  cases hi : isS (xs.tail.map Nd.it) key with
  | true =>
    have hlt := (isS_lt hi).1
    rw [tail_len] at hlt
    have HV := Aside0.mk (fun W (hW : SK W L xs) => SK_val hW lv v hi)
    obtain ⟨p, hp⟩ : ∃ p, atS (xs.tail.map Nd.it) key = p := ⟨_, rfl⟩
    have e1 : findB xs key = some (xs.getD (p + 1) default).b := by unfold findB; rw [hi, if_pos rfl, hp]
    rw [hp] at HV hlt
    have hmem := (blks_at (show p + 1 < xs.length by omega)).1
    have HC : Aside0 (∀ W, SK W L xs → W.cell? ⟨(xs.getD (p + 1) default).b, 1, none⟩ = some (.slice (xs.getD (p + 1) default).it.v.A (xs.getD (p + 1) default).it.v.n (xs.getD (p + 1) default).it.v.c) ∧ W.frozen? ⟨(xs.getD (p + 1) default).b, 1, none⟩ = false) := ⟨fun W hW => ⟨(node_cells (SL_node hW.1 (p + 1) (by omega))).2.1, plain_frozen (SL_node hW.1 (p + 1) (by omega)).1 1⟩⟩
    obtain ⟨b, hb⟩ : ∃ b, (xs.getD (p + 1) default).b = b := ⟨_, rfl⟩
    rw [hb] at hmem HC HV e1
    obtain ⟨v0, hv0⟩ : ∃ b, (xs.getD (p + 1) default).it.v = b := ⟨_, rfl⟩
    rw [hv0] at HC
    rw [e1] at hf
    have hf' : Calls Try.prog 51 #[.pointer (some ⟨L, 0, none⟩), .string key] w fun e w' => e = .returned (.pointer (some ⟨b, 0, none⟩)) ∧ Below w.heap.size w w' := hf
    have HF := Aside0.mk hf'
    have HM := Aside0.mk hmem
    clear hf hf' e1 hi h hlt hmem hp hb hv0
    go_enter Try.func30, Try.ntmps30
    go_wp2_with fail
    (with_reducible refine HF.out.mono ?_)
    rintro e w1 ⟨rfl, hb1⟩
    have HS1 : Aside0 (SK w1 L xs) := ⟨SL_below HS.out.1 hb1, HS.out.2⟩
    have HB1 := Aside0.mk hb1
    obtain ⟨c1, c2⟩ := HC.out _ HS1.out
    clear hb1
    go_wp2_with fail
    go_ret
    obtain ⟨xs', k1, k2, k3⟩ := HV.out _ HS1.out
    exact ⟨rfl, xs', k1, k2, Frm.set (Frm.of_below HB1.out) (List.mem_cons_of_mem _ HM.out) _, fun k hk => .inl (k3 k hk)⟩
  | false =>
    have hpl := sk_p h key
    have e1 : findB xs key = none := by unfold findB; rw [hi]; rfl
    rw [e1] at hf
    have hf' : Calls Try.prog 51 #[.pointer (some ⟨L, 0, none⟩), .string key] w fun e w' => e = .returned (.pointer none) ∧ Below w.heap.size w w' := hf
    have HF := Aside0.mk hf'
    obtain ⟨cs, e8, hix⟩ := ahead_arr xs (atS (xs.tail.map Nd.it) key)
    have HA := Aside0.mk (fun W (hW : SK W L xs) => ahead_calls W L xs key hW)
    rw [e8] at HA
    obtain ⟨n, hn⟩ : ∃ n, clampL lv = n := ⟨_, rfl⟩
    have hcr := clampL_range lv
    rw [hn] at hcr
    have HOut := Aside0.mk (fun (W1 : World) (b nb : Nat) => SK_in (W1 := W1) h b nb (v := v) hn hi)
    obtain ⟨lm, hlm⟩ : ∃ lm : Int, (if lv < 1 then 1 else lv) = lm := ⟨_, rfl⟩
    have hmn : (if 8 < lm then 8 else lm) = (n : Int) := by
      rw [← hn, ← hlm]
      unfold clampL
      split <;> split <;> (try split) <;> omega
    obtain ⟨p, hp⟩ : ∃ p, atS (xs.tail.map Nd.it) key = p := ⟨_, rfl⟩
    rw [hp] at hix HOut hpl
    have HIX := Aside0.mk hix
    have HLA : Aside0 (∀ r, r < 8 → la xs (p + 1) r < p + 1 ∧ r < (xs.getD (la xs (p + 1) r) default).it.lv) := ⟨fun r hr => by
      have h9 := la_spec xs r (by rw [lv0 h]; exact hr) (p + 1) (by omega)
      exact ⟨h9.1, h9.2.1⟩⟩
    have HLEN : Aside0 (p < xs.length) := ⟨by omega⟩
    have hmk := mk_row n hcr.2
    have hn8 := hcr.2
    clear hf hf' e1 e8 hi h hp hix hpl hn hcr
    have HLM := Aside0.mk hlm
    have HMN := Aside0.mk hmn
    go_enter Try.func30, Try.ntmps30
    go_wp2_with fail
    (with_reducible refine HF.out.mono ?_)
    rintro e w1 ⟨rfl, hb1⟩
    have HS1 : Aside0 (SK w1 L xs) := ⟨SL_below HS.out.1 hb1, HS.out.2⟩
    have HB1 := Aside0.mk hb1
    clear hb1
    go_wp2_with fail
    clear hlm hmn hmk HMN HLM
    obtain ⟨W2, hW2⟩ : ∃ W2, (w1.alloc (rowBox n (fun _ => none))).alloc (nodeBox key v w1.heap.size n) = W2 := ⟨_, rfl⟩
    have hb2 : Below w1.heap.size w1 W2 := by rw [← hW2]; exact below_alloc (below_alloc (Below.refl _ _) _) _
    have HS2 : Aside0 (SK W2 L xs) := ⟨SL_below HS1.out.1 hb2, HS1.out.2⟩
    have HN2 : Aside0 (NodeAt W2 ⟨⟨key, n, v⟩, w1.heap.size + 1, w1.heap.size⟩ (fun _ => none)) := ⟨by
      have h1 := heap_alloc_new w1 (rowBox n (fun _ => none))
      have h2 := heap_alloc_new (w1.alloc (rowBox n (fun _ => none))) (nodeBox key v w1.heap.size n)
      rw [World.size_alloc] at h2
      rw [← hW2]
      refine ⟨h2, ?_⟩
      have hbb : Below (w1.alloc (rowBox n (fun _ => none))).heap.size (w1.alloc (rowBox n (fun _ => none))) ((w1.alloc (rowBox n (fun _ => none))).alloc (nodeBox key v w1.heap.size n)) := below_alloc (Below.refl _ _) _
      exact (hbb.block _ (Array.getElem?_eq_some_iff.1 h1).1).trans h1⟩
    have HB2 := Aside0.mk (below_step HB1.out hb2)
    have hg1 : w.heap.size ≤ w1.heap.size := HB1.out.size
    have hfr := SL_lt HS1.out.1
    have HFR : Aside0 (w1.heap.size + 1 ∉ L :: blks xs ∧ w1.heap.size ∉ L :: blks xs) := ⟨fun h9 => by have := hfr _ h9; omega, fun h9 => by have := hfr _ h9; omega⟩
    simp only [hW2]
    (with_reducible refine (HA.out W2 HS2.out).mono ?_)
    rintro e w3 ⟨rfl, hb3⟩
    obtain ⟨g, hg⟩ : ∃ g, w1.heap.size = g := ⟨_, rfl⟩
    rw [hg] at HN2 HFR hg1
    have keep3 : ∀ {k : Nat} {o : Obj}, W2.heap[k]? = some o → w3.heap[k]? = some o := fun hk => (hb3.block _ (Array.getElem?_eq_some_iff.1 hk).1).trans hk
    have HN3 : Aside0 (NodeAt w3 ⟨⟨key, n, v⟩, g + 1, g⟩ (fun _ => none)) := ⟨⟨keep3 HN2.out.1, keep3 HN2.out.2⟩⟩
    have HS3 : Aside0 (SK w3 L xs) := ⟨SL_below HS2.out.1 hb3, HS2.out.2⟩
    have HB3 := Aside0.mk (below_step HB2.out hb3)
    clear hb2 hb3 hfr HN2 HS2 HS1 HB1 HB2 keep3
    simp only [hg]
    clear hg hW2
    go_wp2_with fail
    go_loopw [11, 12, 34] (fun v11 v12 v34 w' => ∃ (r : Nat), v34 = .int .i64 r ∧ r ≤ 8 ∧ Aside0 (SL w' L xs (pF xs (p + 1) n (g + 1) r) ((xs.length : Int) - 1) ∧ NodeAt w' ⟨⟨key, n, v⟩, g + 1, g⟩ (pG xs (p + 1) n r) ∧ Frm ((g + 1) :: g :: L :: blks xs) w w')) (fun _ _ v34 _ => 8 - (intOf v34).toNat)
    case atStart =>
      refine ⟨0, rfl, by omega, ⟨SL_congr HS3.out.1 (fun i r _ _ => (pF_zero xs (p + 1) n (g + 1) i r).symm), ?_, Frm.of_below HB3.out⟩⟩
      have e9 : pG xs (p + 1) n 0 = fun _ => none := funext fun r => by unfold pG; rw [if_neg (by omega)]
      rw [e9]
      exact HN3.out
    case round =>
      obtain ⟨r, rfl, hr8, HI2⟩ := hrel
      by_cases hrr : r < 8
      · have hx : ∀ W : World, (Instr.index 95 (.agg cs) (.int .i64 (r : Int))).run Try.prog W = .ok (.pointer (some ⟨(xs.getD (la xs (p + 1) r) default).b, 0, none⟩)) W := fun W => HIX.out r W hrr
        obtain ⟨la1, la2⟩ := HLA.out r hrr
        by_cases hq : r < n
        · have hbd : Below wr.heap.size wr wr.drew := below_drew1 (Below.refl _ _)
          have hd : Aside0 (SL wr.drew L xs (pF xs (p + 1) n (g + 1) r) ((xs.length : Int) - 1) ∧ NodeAt wr.drew ⟨⟨key, n, v⟩, g + 1, g⟩ (pG xs (p + 1) n r) ∧ Frm ((g + 1) :: g :: L :: blks xs) w wr.drew) := ⟨SL_below HI2.out.1 hbd, ⟨(hbd.block _ (Array.getElem?_eq_some_iff.1 HI2.out.2.1.1).1).trans HI2.out.2.1.1, (hbd.block _ (Array.getElem?_eq_some_iff.1 HI2.out.2.1.2).1).trans HI2.out.2.1.2⟩, HI2.out.2.2.trans (Frm.of_below hbd)⟩
          have hmem := (blks_at (show la xs (p + 1) r < xs.length by have := HLEN.out; omega)).2
          obtain ⟨c1, c2, c3⟩ := SL_cells hd.out.1 (la xs (p + 1) r) (by have := HLEN.out; omega)
          have c4 := c2 r la2
          have c5 := c3 r
          obtain ⟨-, -, n1⟩ := node_cells hd.out.2.1
          have n2 := node_row hd.out.2.1 r hq
          have n3 := plain_frozen hd.out.2.1.2 r
          have e9 : pF xs (p + 1) n (g + 1) r (la xs (p + 1) r) r = nx xs (la xs (p + 1) r) r := by unfold pF; rw [if_neg (by omega)]
          rw [e9] at c4
          obtain ⟨s1, s2⟩ := put_step hd.out.1 hd.out.2.1 HFR.out.1 HFR.out.2 (by simp) (la xs (p + 1) r) r (by have := HLEN.out; omega) la2 hq (nx xs (la xs (p + 1) r) r)
          have s3 : Frm ((g + 1) :: g :: L :: blks xs) w ((wr.drew.setCell ⟨g, r, none⟩ (pv (nx xs (la xs (p + 1) r) r))).setCell ⟨(xs.getD (la xs (p + 1) r) default).nb, r, none⟩ (pv (some (g + 1)))) := Frm.set (Frm.set hd.out.2.2 (List.mem_cons_of_mem _ List.mem_cons_self) _) (List.mem_cons_of_mem _ (List.mem_cons_of_mem _ (List.mem_cons_of_mem _ hmem))) _
          have s1' := SL_congr s1 (g := pF xs (p + 1) n (g + 1) (r + 1)) (fun i r' _ _ => pF_yes xs (p + 1) n (g + 1) r i r' hq)
          have e10 : (fun r' => if r' = r then nx xs (la xs (p + 1) r) r else pG xs (p + 1) n r r') = pG xs (p + 1) n (r + 1) := funext fun r' => pG_yes xs (p + 1) n r r' hq
          rw [e10] at s2
          have hne : g ≠ (xs.getD (la xs (p + 1) r) default).nb := fun e => HFR.out.2 (List.mem_cons_of_mem _ (by rw [e]; exact hmem))
          have HST := Aside0.mk (show _ ∧ _ ∧ _ from ⟨s1', s2, s3⟩)
          simp only at n1 n2 n3
          obtain ⟨ba, hba⟩ : ∃ b, (xs.getD (la xs (p + 1) r) default).b = b := ⟨_, rfl⟩
          obtain ⟨nba, hnba⟩ : ∃ b, (xs.getD (la xs (p + 1) r) default).nb = b := ⟨_, rfl⟩
          obtain ⟨lva, hlva⟩ : ∃ b, (xs.getD (la xs (p + 1) r) default).it.lv = b := ⟨_, rfl⟩
          obtain ⟨u, hu⟩ : ∃ u, pv (nx xs (la xs (p + 1) r) r) = .pointer u := ⟨_, rfl⟩
          obtain ⟨u4, hu4⟩ : ∃ u, pv (pG xs (p + 1) n r r) = .pointer u := ⟨_, rfl⟩
          have hpb : pv (some (g + 1)) = .pointer (some ⟨g + 1, 0, none⟩) := rfl
          rw [hu, hnba, hpb] at HST
          rw [hba, hnba, hlva] at c1
          rw [hu, hnba] at c4
          rw [hnba] at c5 hne
          rw [hu4] at n2
          rw [hba] at hx
          rw [hlva] at la2
          have j1 : (0 : Int) ≤ (r : Int) := by omega
          have j2 : (r : Int) < (n : Int) := by omega
          have j3 : (r : Int) < (lva : Int) := by omega
          have j4 : (r : Int) < 8 := by omega
          have d4 : (wr.drew.setCell ⟨g, r, none⟩ (.pointer u)).cell? ⟨nba, r, none⟩ = some (.pointer u) := by
            rw [World.cell?_setCell_far _ _ _ _ hne]
            exact c4
          have d5 : (wr.drew.setCell ⟨g, r, none⟩ (.pointer u)).frozen? ⟨nba, r, none⟩ = false := by
            rw [World.frozen?_setCell]
            exact c5
          have HI3 := HI2.out.1
          have hd2 := Aside0.mk hd
          have c4w : wr.cell? ⟨nba, r, none⟩ = some (.pointer u) := by rw [← c4]; rfl
          have c5w : wr.frozen? ⟨nba, r, none⟩ = false := c5
          clear HI3
          clear s1 s2 s3 s1' hd hba hnba hlva hu hu4 la1 hmem HI2 c2 c3 e9 e10 hpb hbd
          go_wp2_with fail
          go_region
          go_wp2_with fail
          go_roundw
          case rel => exact ⟨r + 1, by push_cast; rfl, by omega, HST⟩
          case measure => simp [intOf]; omega
        · have hst : SL wr L xs (pF xs (p + 1) n (g + 1) (r + 1)) ((xs.length : Int) - 1) ∧ NodeAt wr ⟨⟨key, n, v⟩, g + 1, g⟩ (pG xs (p + 1) n (r + 1)) ∧ Frm ((g + 1) :: g :: L :: blks xs) w wr := by
            refine ⟨SL_congr HI2.out.1 (fun i r' _ _ => (pF_no xs (p + 1) n (g + 1) r i r' hq).symm), ?_, HI2.out.2.2⟩
            rw [show pG xs (p + 1) n (r + 1) = pG xs (p + 1) n r from funext fun r' => pG_no xs (p + 1) n r r' hq]
            exact HI2.out.2.1
          have HST := Aside0.mk hst
          have j1 : (0 : Int) ≤ (r : Int) := by omega
          have j2 : ¬ (r : Int) < (n : Int) := by omega
          have j4 : (r : Int) < 8 := by omega
          clear hst HI2 la1 la2
          go_wp2_with fail
          go_roundw
          case rel => exact ⟨r + 1, by push_cast; rfl, by omega, HST⟩
          case measure => simp [intOf]; omega
      · obtain rfl : r = 8 := by omega
        obtain ⟨w4, hw4⟩ : ∃ w4, wr.setCell ⟨L, 1, none⟩ (.int .i64 (xs.length : Int)) = w4 := ⟨_, rfl⟩
        have hs4 := SL_many HI2.out.1 (xs.length : Int)
        have hf4 := Frm.set (b := L) (o := 1) HI2.out.2.2 (by simp) (.int .i64 (xs.length : Int))
        have c1 : wr.cell? ⟨L, 1, none⟩ = some (.int .i64 ((xs.length : Int) - 1)) := by rw [cell_of_row _ _ _ _ _ _ (SL_list HI2.out.1)]; rfl
        have c2 := plain_frozen (SL_list HI2.out.1) 1
        have hL1 : g + 1 ≠ L := fun e => HFR.out.1 (by rw [e]; exact List.mem_cons_self)
        have hL2 : g ≠ L := fun e => HFR.out.2 (by rw [e]; exact List.mem_cons_self)
        have hn4 : NodeAt (wr.setCell ⟨L, 1, none⟩ (.int .i64 (xs.length : Int))) ⟨⟨key, n, v⟩, g + 1, g⟩ (pG xs (p + 1) n 8) := ⟨(Below.heap_setCell wr _ _ _ hL1).trans HI2.out.2.1.1, (Below.heap_setCell wr _ _ _ hL2).trans HI2.out.2.1.2⟩
        rw [hw4] at hs4 hf4 hn4
        have HS4 := Aside0.mk (show SL w4 L xs _ _ ∧ NodeAt w4 _ _ ∧ Frm _ w w4 from ⟨hs4, hn4, hf4⟩)
        clear hs4 hf4 hn4 HI2 hL1 hL2
        go_wp2_with fail
        go_ret
        obtain ⟨xs', k1, k2, k3⟩ := HOut.out _ _ _ HS4.out.1 HS4.out.2.1 HFR.out.1 HFR.out.2 (by simp)
        refine ⟨rfl, xs', k1, k2, HS4.out.2.2.mono (fun k hk hlt => ?_), fun k hk => ?_⟩
        · simp only [List.mem_cons] at hk ⊢
          rcases hk with rfl | rfl | hk
          · omega
          · omega
          · exact hk
        · rcases k3 k hk with h9 | h9 | h9
          · exact .inl h9
          · exact .inr (by omega)
          · exact .inr (by omega)
end Go.Proofs.Ytheoodbkjgfdfaa.A.M
/- The keys from one on, one by one: the iterator's contract. -/
namespace Go.Proofs.Ytheoodbkjgfdfaa.A.M
open Go Go.RowKit Go.Shelf Go.Proofs.YtheoodbkjgfdfaaW.PrintWords Go.Proofs.YtheoodbkjgfdfaaW.PrintLast Go.Proofs.YtheoodbkjgfdfaaW.PrintMore
attribute [local go_sem] Oper.semAt_some wide_fn wide_depth
set_option linter.unusedVariables false
set_option linter.unusedSimpArgs false

abbrev lpB (L : Nat) : Obj := .cells #[.pointer (some ⟨L, 0, none⟩)] 60
abbrev stB (s : ByteArray) : Obj := .cells #[.string s] 9
/-- From returns its iterator. -/
theorem from_calls (w : World) (L : Nat) (key : ByteArray) :
    Calls Try.prog 58 #[.pointer (some ⟨L, 0, none⟩), .string key] w fun e w' => e = .returned (.func (.func 67) #[] #[.pointer (some ⟨w.heap.size, 0, none⟩), .pointer (some ⟨w.heap.size + 1, 0, none⟩)]) ∧ (w.alloc (lpB L)).alloc (stB key) = w' := by
  go_enter Try.func58, Try.ntmps58
  go_wp2_with fail
  go_ret
  exact ⟨rfl, rfl⟩
theorem SL_keepB {W W1 : World} {L : Nat} {xs : List Nd} {f : Nat → Nat → Option Nat} {m : Int} (h : SL W L xs f m) (hk : ∀ k ∈ L :: blks xs, W1.heap[k]? = W.heap[k]?) : SL W1 L xs f m := by
  obtain ⟨h1, h2, h3, h4⟩ := h
  exact ⟨(hk _ List.mem_cons_self).trans h1, h2, fun i hi => ⟨(hk _ (List.mem_cons_of_mem _ (blks_at hi).1)).trans (h3 i hi).1, (hk _ (List.mem_cons_of_mem _ (blks_at hi).2)).trans (h3 i hi).2⟩, h4⟩
/-- What a round of the body keeps. -/
def KpF (S : List Nat) (A B : World) : Prop := A.heap.size ≤ B.heap.size ∧ ∀ k ∈ S, B.heap[k]? = A.heap[k]?
theorem KpF.trans {S : List Nat} {A B C : World} (h : KpF S A B) (k : KpF S B C) : KpF S A C := ⟨Nat.le_trans h.1 k.1, fun i hi => (k.2 i hi).trans (h.2 i hi)⟩
theorem KpF.of_below {S : List Nat} {A B : World} (h : Below A.heap.size A B) (hs : ∀ k ∈ S, k < A.heap.size) : KpF S A B := ⟨h.size, fun k hk => h.block k (hs k hk)⟩
/-- What is handed out. -/
def OkF (ll : List It) (pre : List It) (x : It) (_ : World) : Prop := (pre ++ [x]) <+: ll
theorem drop_it (l : List It) (j : Nat) (hj : j < l.length) : l.drop j = l.getD j default :: l.drop (j + 1) := by
  rw [List.drop_eq_getElem_cons hj, List.getD_eq_getElem?_getD, List.getElem?_eq_getElem hj]
  rfl
theorem two_one {e : Ending} {A B : Prop} (h : (e = .returned (.bool true) ∧ A) ∨ (e = .returned (.bool false) ∧ B)) : ∃ b, e = .returned (.bool b) ∧ (b = true → A) ∧ (b = false → B) := by
  rcases h with ⟨h1, h2⟩ | ⟨h1, h2⟩
  · exact ⟨true, h1, fun _ => h2, fun e => by cases e⟩
  · exact ⟨false, h1, fun e => (by cases e), fun _ => h2⟩
def pos (xs : List Nd) (j : Nat) : Option Nat := if j + 1 < xs.length then some (xs.getD (j + 1) default).b else none
set_option maxRecDepth 100000 in
set_option maxHeartbeats 4000000 in
theorem from_itr (w : World) (g L : Nat) (xs : List Nd) (key : ByteArray) (h : SK w L xs) (hg1 : w.heap[g]? = some (lpB L)) (hg2 : w.heap[g + 1]? = some (stB key)) :
    Itr Try.prog 67 #[.pointer (some ⟨g, 0, none⟩), .pointer (some ⟨g + 1, 0, none⟩)] (fun x : It => #[.string x.k, .slice x.v.A x.v.n x.v.c]) (fun X Y => Below X.heap.size X Y) (KpF (g :: (g + 1) :: L :: blks xs)) (OkF (fromS (xs.tail.map Nd.it) key)) (fun l => l = fromS (xs.tail.map Nd.it) key) (fun pre => pre <+: fromS (xs.tail.map Nd.it) key) w := by
  intro lp J Jx W hKp hsz hJ hJx hY h0
  have HSW : Aside0 (SK W L xs) := ⟨SL_keepB h.1 (fun k hk => hKp.2 k (List.mem_cons_of_mem _ (List.mem_cons_of_mem _ hk))), h.2⟩
  have hx1 := (hKp.2 g List.mem_cons_self).trans hg1
  have hx2 := (hKp.2 (g + 1) (by simp)).trans hg2
  have HJ := Aside0.mk hJ
  have HJx := Aside0.mk hJx
  have HY := Aside0.mk hY
  have H0 := Aside0.mk h0
  have hp := sk_p h key
  obtain ⟨d1, d2, d3, d4, d5, d6, d7, e8⟩ := ahead_form xs (atS (xs.tail.map Nd.it) key)
  rw [la0 h _ hp] at e8
  have HA := Aside0.mk (fun W (hW : SK W L xs) => (callsIn_wide (n := 0)).2 (ahead_calls W L xs key hW))
  rw [e8] at HA
  have hf : fromS (xs.tail.map Nd.it) key = (xs.tail.map Nd.it).drop (atS (xs.tail.map Nd.it) key) := rfl
  have HLV := Aside0.mk (fun i hi => (sk_lv h i hi).1)
  have HNX : Aside0 (∀ j, nx xs j 0 = pos xs j) := ⟨fun j => nx0 h j⟩
  obtain ⟨p, hpp⟩ : ∃ p, atS (xs.tail.map Nd.it) key = p := ⟨_, rfl⟩
  rw [hpp] at hf hp
  have HF := Aside0.mk hf
  obtain ⟨b, hb⟩ : ∃ b, (xs.getD (atS (xs.tail.map Nd.it) key) default).b = b := ⟨_, rfl⟩
  rw [hb] at HA
  rw [hpp] at hb
  have HB := Aside0.mk hb
  have HP := Aside0.mk hp
  obtain ⟨cx1, cf1⟩ := one_cell hx1
  obtain ⟨cx2, cf2⟩ := one_cell hx2
  have HGX := Aside0.mk (show W.heap[g]? = some (lpB L) ∧ W.heap[g + 1]? = some (stB key) from ⟨hx1, hx2⟩)
  have hix : ∀ W : World, (Instr.index 95 (.agg #[.pointer (some ⟨b, 0, none⟩), .pointer (some ⟨d1, 0, none⟩), .pointer (some ⟨d2, 0, none⟩), .pointer (some ⟨d3, 0, none⟩), .pointer (some ⟨d4, 0, none⟩), .pointer (some ⟨d5, 0, none⟩), .pointer (some ⟨d6, 0, none⟩), .pointer (some ⟨d7, 0, none⟩)]) (.int .i64 0)).run Try.prog W = .ok (.pointer (some ⟨b, 0, none⟩)) W := fun W => idx_arr _ 0 (by omega) rfl W
  clear hJ hJx hY h0 hKp hg1 hg2 hx1 hx2 e8 hf hp hpp hb h
  refine callsIn_of_wp Try.func67 rfl trivial ?_ rfl
  simp only [Try.ntmps67, List.size_toArray, List.length_cons, List.length_nil, Nat.reduceAdd, Nat.reduceSub, Array.replicate_succ, Array.replicate_zero, List.push_toArray, List.append_toArray, List.nil_append, List.cons_append]
  gi_wp2_with fail
  (with_reducible refine (HA.out W HSW.out).mono ?_)
  rintro e w1 ⟨rfl, hb1⟩
  have HS1 : Aside0 (SK w1 L xs) := ⟨SL_below HSW.out.1 hb1, HSW.out.2⟩
  have HB1 := Aside0.mk hb1
  have n2 := (node_cells (SL_node HS1.out.1 p HP.out)).2.2
  have n3 := node_row (SL_node HS1.out.1 p HP.out) 0 (by have := HLV.out p HP.out; omega)
  have hl := HLV.out p HP.out
  rw [HB.out] at n2
  have j1 : (0 : Int) < ((xs.getD p default).it.lv : Int) := by omega
  clear hb1
  have hst : ∃ u, pv (nx xs p 0) = u := ⟨_, rfl⟩
  obtain ⟨u0, hu0⟩ := hst
  rw [hu0] at n3
  have HU : Aside0 (u0 = pv (pos xs p)) := ⟨by rw [← hu0, HNX.out]⟩
  obtain ⟨nb, hnb⟩ : ∃ nb, (xs.getD p default).nb = nb := ⟨_, rfl⟩
  obtain ⟨lv, hlv⟩ : ∃ lv, (xs.getD p default).it.lv = lv := ⟨_, rfl⟩
  rw [hlv] at j1
  rw [hnb, hlv] at n2
  rw [hnb] at n3
  clear hnb hlv hl hu0
  gi_wp2
  gi_loopw [4] (fun v4 wr => ∃ (pre : List It) (j : Nat), v4 = pv (pos xs j) ∧ Aside0 (pre ++ (xs.tail.map Nd.it).drop j = fromS (xs.tail.map Nd.it) key ∧ j < xs.length ∧ SK wr L xs ∧ wr.heap[g]? = some (lpB L) ∧ wr.heap[g + 1]? = some (stB key) ∧ J pre wr)) (fun v4 _ => leftB xs v4)
  case atStart => exact ⟨[], p, HU.out, ⟨by rw [List.nil_append]; exact HF.out.symm, HP.out, HS1.out, blk_keep HGX.out.1 HB1.out, blk_keep HGX.out.2 HB1.out, HJ.out _ _ _ H0.out HB1.out⟩⟩
  case round =>
    obtain ⟨pre, j, rfl, HI⟩ := hrel
    by_cases hlt : j + 1 < xs.length
    · have e1 : pv (pos xs j) = .pointer (some ⟨(xs.getD (j + 1) default).b, 0, none⟩) := by unfold pos; rw [if_pos hlt]; rfl
      rw [e1]
      have hbd : Below wr.heap.size wr wr.drew := below_drew1 (Below.refl _ _)
      have HD : Aside0 (SK wr.drew L xs ∧ wr.drew.heap[g]? = some (lpB L) ∧ wr.drew.heap[g + 1]? = some (stB key) ∧ J pre wr.drew) := ⟨⟨SL_below HI.out.2.2.1.1 hbd, HI.out.2.2.1.2⟩, blk_keep HI.out.2.2.2.1 hbd, blk_keep HI.out.2.2.2.2.1 hbd, HJ.out _ _ _ HI.out.2.2.2.2.2 hbd⟩
      have hdr := drop_it (xs.tail.map Nd.it) j (by rw [tail_len]; omega)
      rw [← tail_at] at hdr
      have HE : Aside0 ((pre ++ [(xs.getD (j + 1) default).it]) ++ (xs.tail.map Nd.it).drop (j + 1) = fromS (xs.tail.map Nd.it) key) := ⟨by rw [← HI.out.1, hdr]; simp⟩
      have hy0 := HY.out pre (xs.getD (j + 1) default).it wr.drew HD.out.2.2.2 ⟨_, HE.out⟩
      obtain ⟨m0, m1, m2⟩ := node_cells (SL_node HD.out.1.1 (j + 1) hlt)
      have HC : Aside0 (∀ W, SK W L xs → W.cell? ⟨(xs.getD (j + 1) default).b, 2, none⟩ = some (.slice (some ⟨(xs.getD (j + 1) default).nb, 0, none⟩) (xs.getD (j + 1) default).it.lv (xs.getD (j + 1) default).it.lv) ∧ W.cell? ⟨(xs.getD (j + 1) default).nb, 0, none⟩ = some (pv (pos xs (j + 1)))) := ⟨fun W hW => ⟨(node_cells (SL_node hW.1 (j + 1) hlt)).2.2, by rw [← HNX.out]; exact node_row (SL_node hW.1 (j + 1) hlt) 0 (by have := HLV.out _ hlt; omega)⟩⟩
      have HPB := Aside0.mk (posB_at (List.nodup_cons.1 HD.out.1.1.2.2.2).2 (j + 1) hlt)
      have HND := Aside0.mk (List.nodup_cons.1 HD.out.1.1.2.2.2).2
      have hlv1 := HLV.out _ hlt
      obtain ⟨bj, hbj⟩ : ∃ b, (xs.getD (j + 1) default).b = b := ⟨_, rfl⟩
      obtain ⟨nbj, hnbj⟩ : ∃ b, (xs.getD (j + 1) default).nb = b := ⟨_, rfl⟩
      obtain ⟨x, hx⟩ : ∃ x, (xs.getD (j + 1) default).it = x := ⟨_, rfl⟩
      rw [hbj] at HC HPB m0 m1 m2
      rw [hnbj, hx] at HC
      rw [hnbj, hx] at m2
      rw [hx] at m0 m1 HE hy0 hlv1
      rw [hbj]
      have HX := Aside0.mk hx
      have j2 : (0 : Int) < (x.lv : Int) := by omega
      obtain ⟨fn, tmps, assign, body, hy, hR⟩ := hy0
      have HRD := Aside0.mk hR
      clear hR hx hbj hnbj hdr e1 hbd n2 n3 j1 cx1 cf1 cx2 cf2 m2
      gi_wp2
      gi_region_with ((with_reducible refine HRD.out.mono ?_); intro e W3 hq; obtain ⟨bo, rfl, hT, hFl⟩ := two_one hq; have HT := Aside0.mk hT; have HFl := Aside0.mk hFl; clear hT hFl hq)
      all_goals
        clear hy m0 m1
        cases bo with
        | true =>
          obtain ⟨hJ3, hk3⟩ := HT.out rfl
          have HS3 : Aside0 (SK W3 L xs ∧ W3.heap[g]? = some (lpB L) ∧ W3.heap[g + 1]? = some (stB key) ∧ J (pre ++ [x]) W3) := ⟨⟨SL_keepB HD.out.1.1 (fun k hk => hk3.2 k (List.mem_cons_of_mem _ (List.mem_cons_of_mem _ hk))), HD.out.1.2⟩, (hk3.2 g List.mem_cons_self).trans HD.out.2.1, (hk3.2 (g + 1) (by simp)).trans HD.out.2.2.1, hJ3⟩
          obtain ⟨m2, m3⟩ := HC.out _ HS3.out.1
          obtain ⟨u3, hu3⟩ : ∃ u, pv (pos xs (j + 1)) = u := ⟨_, rfl⟩
          rw [hu3] at m3
          have HU3 := Aside0.mk hu3
          clear hJ3 hk3 hu3
          gi_wp2
          go_roundw
          case rel => exact ⟨pre ++ [x], j + 1, HU3.out.symm, ⟨HE.out, hlt, HS3.out.1, HS3.out.2.1, HS3.out.2.2.1, HS3.out.2.2.2⟩⟩
          case measure =>
            have h8 := left_nx HND.out 0 (j + 1) hlt
            rw [HNX.out, HU3.out] at h8
            show leftB xs u3 < xs.length - posB xs bj
            rw [HPB.out]
            exact h8
        | false =>
          have HF3 := Aside0.mk (HFl.out rfl)
          gi_wp2
          refine bodyPost_ret (results_none rfl _ _ _) rfl ?_
          have h9 : (pre ++ [x]) <+: fromS (xs.tail.map Nd.it) key := ⟨_, HE.out⟩
          rw [List.map_tail] at h9
          exact ⟨⟨_, rfl⟩, .inr ⟨pre ++ [x], h9, HF3.out⟩⟩
    · have e1 : pv (pos xs j) = .pointer none := by unfold pos; rw [if_neg hlt]; rfl
      have HE : Aside0 (pre = fromS (xs.tail.map Nd.it) key) := ⟨by have h9 := HI.out.1; rw [List.drop_of_length_le (by rw [tail_len]; omega), List.append_nil] at h9; exact h9⟩
      rw [e1]
      gi_wp2
      go_end0
      exact ⟨⟨_, rfl⟩, .inl ⟨pre, HE.out, HI.out.2.2.2.2.2⟩⟩
end Go.Proofs.Ytheoodbkjgfdfaa.A.M
/- Are texts the same; the highest level. -/
namespace Go.Proofs.Ytheoodbkjgfdfaa.A.M
open Go.RowKit Go.Proofs.YtheoodbkjgfdfaaW.PrintWords Go.Proofs.YtheoodbkjgfdfaaW.PrintLast Go.Proofs.YtheoodbkjgfdfaaW.PrintMore
set_option linter.unusedVariables false
set_option linter.unusedSimpArgs false

theorem C_atStr {A : Option Addr} {n : Nat} {l : List ByteArray} {w : World} (h : Kd.string.C w A n l) (i : Nat) (hi : i < n) : ∃ ad, A = some ad ∧ w.cell? (ad.add i) = some (.string (l.getD i ByteArray.empty)) := by
  have hn := h.1
  subst hn
  obtain ⟨ad, e, hc⟩ := h.2.2 (by omega)
  obtain ⟨c, h1, h2, h3⟩ := hc i _ (List.getElem?_eq_getElem hi)
  have h2' : c = [Value.string l[i]] := h2
  subst h2'
  refine ⟨ad, e, ?_⟩
  have := h3 0 _ rfl
  simpa [Kd.string, Kd.scalar, List.getD_eq_getElem?_getD, hi] using this
theorem OStr_readn {w : World} {B : Nat} {v : Value} {l : List ByteArray} (h : OStr w B v l) (n : Nat) (hn : l.length = n) : ∃ A c, v = .slice A n c ∧ n ≤ c ∧ Kd.string.C w A n l := by
  subst hn
  exact Kd.R_reads h
set_option maxHeartbeats 2000000 in
theorem same_calls (A A2 : Option Addr) (n c n2 c2 : Nat) (X Y : List ByteArray) (w : World) (h1 : Kd.string.C w A n X) (h2 : Kd.string.C w A2 n2 Y) (hc : n ≤ c) (hc2 : n2 ≤ c2) (hn : n ≤ 100000) (hn2 : n2 ≤ 100000) :
    Calls Try.prog 35 #[.slice A n c, .slice A2 n2 c2] w fun e w' => e = .returned (.bool (decide (X = Y))) ∧ Below w.heap.size w w' := by
  have H1 := Aside0.mk h1
  have H2 := Aside0.mk h2
  have N1 := Aside0.mk h1.1
  have N2 := Aside0.mk h2.1
  clear h1 h2
  by_cases hne : n = n2
  · subst hne
    go_enter Try.func35, Try.ntmps35
    go_wp2_with fail
    go_loopw [5] (fun v5 w' => ∃ (i : Nat), i ≤ n ∧ v5 = .int .i64 i ∧ Aside0 (X.take i = Y.take i) ∧ Aside0 (Below w.heap.size w w')) (fun v5 _ => n - (intOf v5).toNat)
    case atStart => exact ⟨0, Nat.zero_le _, rfl, ⟨rfl⟩, ⟨Below.refl _ _⟩⟩
    case round =>
      obtain ⟨i, hin, rfl, HE, HB⟩ := hrel
      by_cases hlt : i < n
      · have HBD := Aside0.mk (below_drew1 HB.out)
        obtain ⟨ad, rfl, q0⟩ := C_atStr H1.out i hlt
        obtain ⟨ad2, rfl, q2⟩ := C_atStr H2.out i hlt
        have p0 := pw_cell_below HBD.out q0
        have p2 := pw_cell_below HBD.out q2
        obtain ⟨x, hx⟩ : ∃ x, X.getD i ByteArray.empty = x := ⟨_, rfl⟩
        obtain ⟨y, hy⟩ : ∃ x, Y.getD i ByteArray.empty = x := ⟨_, rfl⟩
        rw [hx] at p0
        rw [hy] at p2
        have eX : X.take (i + 1) = X.take i ++ [x] := by
          rw [List.take_succ_eq_append_getElem (by rw [N1.out]; exact hlt), ← hx, List.getD_eq_getElem?_getD, List.getElem?_eq_getElem (by rw [N1.out]; exact hlt)]
          rfl
        have eY : Y.take (i + 1) = Y.take i ++ [y] := by
          rw [List.take_succ_eq_append_getElem (by rw [N2.out]; exact hlt), ← hy, List.getD_eq_getElem?_getD, List.getElem?_eq_getElem (by rw [N2.out]; exact hlt)]
          rfl
        have j1 : (i : Int) < (n : Int) := by omega
        have j2 : (0 : Int) ≤ (i : Int) := by omega
        by_cases hxy : x = y
        · subst hxy
          have HN : Aside0 (X.take (i + 1) = Y.take (i + 1)) := ⟨by rw [eX, eY, HE.out]⟩
          clear q0 q2 hx hy eX eY
          go_wp2_with fail
          go_region
          all_goals go_wp2_with fail
          all_goals go_roundw
          all_goals first | exact ⟨i + 1, hlt, by push_cast; rfl, HN, HBD⟩ | (simp [intOf]; omega)
        · have hne2 : (x.toList == y.toList) = false := by rw [beq_eq_false_iff_ne]; exact fun e => hxy (toL_inj e)
          have HNE : Aside0 (X ≠ Y) := ⟨fun e => by
            rw [e] at hx
            exact hxy (hx.symm.trans hy)⟩
          clear q0 q2 hx hy eX eY
          go_wp2_with fail
          go_region
          all_goals go_wp2_with fail
          all_goals go_ret
          all_goals exact ⟨by rw [decide_eq_false HNE.out]; rfl, HBD.out⟩
      · have j1 : ¬ (i : Int) < (n : Int) := by omega
        have HEQ : Aside0 (X = Y) := ⟨by have h9 := HE.out; rwa [List.take_of_length_le (by have := N1.out; omega), List.take_of_length_le (by have := N2.out; omega)] at h9⟩
        go_wp2_with fail
        go_ret
        exact ⟨by rw [decide_eq_true HEQ.out]; rfl, HB.out⟩
  · have HNE : Aside0 (X ≠ Y) := ⟨fun e => hne (by rw [← N1.out, ← N2.out, e])⟩
    have j0 : ¬ (n : Int) = (n2 : Int) := by omega
    have j1 : ((n : Int) == (n2 : Int)) = false := by simpa using j0
    go_enter Try.func35, Try.ntmps35
    go_wp2_with fail
    go_ret
    exact ⟨by rw [decide_eq_false HNE.out]; rfl, Below.refl _ _⟩
theorem foldh (l : List It) : ∀ (a : Nat), (∀ p ∈ l, p.lv ≤ l.foldl (fun n p => if n < p.lv then p.lv else n) a) ∧ a ≤ l.foldl (fun n p => if n < p.lv then p.lv else n) a ∧ (l.foldl (fun n p => if n < p.lv then p.lv else n) a = a ∨ ∃ p ∈ l, p.lv = l.foldl (fun n p => if n < p.lv then p.lv else n) a) := by
  induction l with
  | nil => intro a; exact ⟨fun p h => (by cases h), Nat.le_refl _, .inl rfl⟩
  | cons q l ih =>
    intro a
    simp only [List.foldl_cons]
    obtain ⟨h1, h2, h3⟩ := ih (if a < q.lv then q.lv else a)
    refine ⟨fun p hp => ?_, ?_, ?_⟩
    · rcases List.mem_cons.1 hp with rfl | hp
      · refine Nat.le_trans ?_ h2
        split <;> omega
      · exact h1 p hp
    · refine Nat.le_trans ?_ h2
      split <;> omega
    · rcases h3 with h3 | ⟨p, hp, h3⟩
      · rw [h3]
        split
        · exact .inr ⟨q, List.mem_cons_self, rfl⟩
        · exact .inl rfl
      · exact .inr ⟨p, List.mem_cons_of_mem _ hp, h3⟩
theorem height_is (l : List It) (m : Nat) (h1 : ∀ p ∈ l, p.lv ≤ m) (h2 : m = 0 ∨ ∃ p ∈ l, m ≤ p.lv) : heightS l = m := by
  obtain ⟨a1, a2, a3⟩ := foldh l 0
  have e : heightS l = l.foldl (fun n p => if n < p.lv then p.lv else n) 0 := rfl
  rw [← e] at a1 a2 a3
  have hle : heightS l ≤ m := by
    rcases a3 with a3 | ⟨p, hp, a3⟩
    · omega
    · rw [← a3]; exact h1 p hp
  rcases h2 with h2 | ⟨p, hp, h2⟩
  · omega
  · have := a1 p hp
    omega
theorem nx_none {W : World} {L : Nat} {xs : List Nd} (h : SK W L xs) (r : Nat) : nx xs 0 r = none ↔ ∀ p ∈ xs.tail.map Nd.it, p.lv ≤ r := by
  unfold nx
  rw [show xs.drop (0 + 1) = xs.tail by simp, nxt_none]
  constructor
  · intro h1 p hp
    obtain ⟨n, hn, rfl⟩ := List.mem_map.1 hp
    have := h1 n hn
    omega
  · intro h1 n hn
    have := h1 n.it (List.mem_map_of_mem hn)
    omega
set_option maxHeartbeats 2000000 in
theorem height_calls (w : World) (L : Nat) (xs : List Nd) (h : SK w L xs) :
    Calls Try.prog 39 #[.pointer (some ⟨L, 0, none⟩)] w fun e w' => e = .returned (.int .i64 (heightS (xs.tail.map Nd.it) : Int)) ∧ w = w' := by
  have hl := SL_list h.1
  have hx0 : 0 < xs.length := h.1.2.1
  have c0 : w.cell? ⟨L, 0, none⟩ = some (.pointer (some ⟨(xs.getD 0 default).b, 0, none⟩)) := by rw [cell_of_row _ _ _ _ _ _ hl]; rfl
  obtain ⟨-, -, n2⟩ := node_cells (SL_node h.1 0 hx0)
  have HR : Aside0 (∀ r, r < 8 → w.cell? ⟨(xs.getD 0 default).nb, r, none⟩ = some (pv (nx xs 0 r))) := ⟨fun r hr => node_row (SL_node h.1 0 hx0) r (by rw [lv0 h]; exact hr)⟩
  have HN := Aside0.mk (fun r => nx_none h r)
  have H8 : Aside0 (∀ p ∈ xs.tail.map Nd.it, p.lv ≤ 8) := ⟨fun p hp => (h.2.2.2 p hp).2⟩
  rw [lv0 h] at n2
  obtain ⟨b0, hb0⟩ : ∃ b, (xs.getD 0 default).b = b := ⟨_, rfl⟩
  obtain ⟨nb0, hnb0⟩ : ∃ b, (xs.getD 0 default).nb = b := ⟨_, rfl⟩
  rw [hb0] at c0
  rw [hb0, hnb0] at n2
  rw [hnb0] at HR
  generalize xs.tail.map Nd.it = l at *
  clear h hl hx0 hb0 hnb0
  go_enter Try.func39, Try.ntmps39
  go_wp2_with fail
  go_loopw [3] (fun v3 w' => ∃ (m : Nat), m ≤ 8 ∧ v3 = .int .i64 m ∧ Aside0 (∀ p ∈ l, p.lv ≤ m) ∧ w = w') (fun v3 _ => (intOf v3).toNat)
  case atStart => exact ⟨8, by omega, rfl, H8, rfl⟩
  case round =>
    obtain ⟨m, hm8, rfl, HM, rfl⟩ := hrel
    cases m with
    | zero =>
      have H1 : Aside0 (heightS l = 0) := ⟨height_is l 0 HM.out (.inl rfl)⟩
      go_wp2_with fail
      go_ret
      exact ⟨by rw [H1.out]; rfl, rfl⟩
    | succ r =>
      have c3 := HR.out r (by omega)
      obtain ⟨z, hz⟩ : ∃ z : Int, ((r + 1 : Nat) : Int) = z := ⟨_, rfl⟩
      have j1 : (0 : Int) < z := by omega
      have j3 : z - 1 = (r : Int) := by omega
      have j4 : IntKind.i64.wrap (z - 1) = (r : Int) := by rw [IntWalk.i64_in _ (by omega)]; omega
      have j5 : (r : Int) < 8 := by omega
      have j6 : (0 : Int) ≤ (r : Int) := by omega
      rw [hz]
      have HZ := Aside0.mk hz
      clear hz
      cases hnx : nx xs 0 r with
      | none =>
        rw [hnx] at c3
        have c4 : w.cell? ⟨nb0, r, none⟩ = some (.pointer none) := c3
        have HM2 := Aside0.mk ((HN.out r).1 hnx)
        clear hnx c3
        go_wp2_with fail
        go_roundw
        case rel => exact ⟨r, by omega, rfl, HM2, trivial⟩
        case measure => simp [intOf]; omega
      | some b =>
        rw [hnx] at c3
        have c4 : w.cell? ⟨nb0, r, none⟩ = some (.pointer (some ⟨b, 0, none⟩)) := c3
        have H1 : Aside0 (heightS l = r + 1) := ⟨height_is l (r + 1) HM.out (.inr (by
          have h9 : ¬ ∀ p ∈ l, p.lv ≤ r := fun h9 => by rw [(HN.out r).2 h9] at hnx; cases hnx
          refine Classical.byContradiction fun h8 => h9 fun p hp => ?_
          rcases Nat.lt_or_ge r p.lv with h7 | h7
          · exact absurd ⟨p, hp, h7⟩ h8
          · exact h7))⟩
        clear hnx c3
        go_wp2_with fail
        go_ret
        exact ⟨by rw [H1.out, HZ.out]; rfl, rfl⟩
end Go.Proofs.Ytheoodbkjgfdfaa.A.M
