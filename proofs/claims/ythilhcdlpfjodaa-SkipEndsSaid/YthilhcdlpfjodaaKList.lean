/- Keys in order, by definition; nodes in order and what the next one of a row is. No program in sight. -/
import Derived.Test.YthilhcdlpfjodaaABase
namespace Go.Proofs.Ythilhcdlpfjodaa.A
open Go.RowKit
open Go.Op (bytesLess)
set_option linter.unusedVariables false
set_option linter.unusedSimpArgs false

/-! ### The order of texts -/
abbrev ltS (x y : ByteArray) : Bool := bytesLess x.toList y.toList
theorem kl_self : ∀ x : List UInt8, bytesLess x x = false
  | [] => rfl
  | a :: x => by simp [bytesLess, kl_self x]
theorem kl_trans : ∀ x y z : List UInt8, bytesLess x y = true → bytesLess y z = true → bytesLess x z = true
  | [], [], _, h, _ => by simp [bytesLess] at h
  | [], _ :: _, [], _, h => by simp [bytesLess] at h
  | [], _ :: _, _ :: _, _, _ => by simp [bytesLess]
  | _ :: _, [], _, h, _ => by simp [bytesLess] at h
  | _ :: _, _ :: _, [], _, h => by simp [bytesLess] at h
  | a :: x, b :: y, c :: z, h1, h2 => by
    simp only [bytesLess, Bool.or_eq_true, Bool.and_eq_true, decide_eq_true_eq, beq_iff_eq] at h1 h2 ⊢
    rcases h1 with h1 | ⟨rfl, h1⟩
    · rcases h2 with h2 | ⟨rfl, h2⟩
      · left
        rw [UInt8.lt_iff_toNat_lt] at *
        omega
      · exact .inl h1
    · rcases h2 with h2 | ⟨rfl, h2⟩
      · exact .inl h2
      · exact .inr ⟨rfl, kl_trans x y z h1 h2⟩
theorem kl_conn : ∀ x y : List UInt8, bytesLess x y = false → x ≠ y → bytesLess y x = true
  | [], [], _, h => absurd rfl h
  | [], _ :: _, h, _ => by simp [bytesLess] at h
  | _ :: _, [], _, _ => by simp [bytesLess]
  | a :: x, b :: y, h, hne => by
    simp only [bytesLess, Bool.or_eq_false_iff, Bool.and_eq_false_iff, decide_eq_false_iff_not, beq_eq_false_iff_ne, Bool.or_eq_true, Bool.and_eq_true, decide_eq_true_eq, beq_iff_eq] at h ⊢
    by_cases hab : a = b
    · subst hab
      right
      refine ⟨rfl, kl_conn x y ?_ (fun e => hne (by rw [e]))⟩
      rcases h.2 with h2 | h2
      · exact absurd rfl h2
      · exact h2
    · left
      have h1 := h.1
      rw [UInt8.lt_iff_toNat_lt] at *
      have : a.toNat ≠ b.toNat := fun e => hab (UInt8.toNat_inj.1 e)
      omega
theorem toL_inj {x y : ByteArray} (h : x.toList = y.toList) : x = y := by
  rw [ByteArray.toList_eq, ByteArray.toList_eq] at h
  apply ByteArray.ext
  exact Array.toList_inj.1 h
theorem ltS_self (x : ByteArray) : ltS x x = false := kl_self _
theorem ltS_trans {x y z : ByteArray} (h : ltS x y = true) (k : ltS y z = true) : ltS x z = true := kl_trans _ _ _ h k
theorem ltS_conn {x y : ByteArray} (h : ltS x y = false) (hne : x ≠ y) : ltS y x = true := kl_conn _ _ h (fun e => hne (toL_inj e))
theorem ltS_asym {x y : ByteArray} (h : ltS x y = true) : ltS y x = false := by
  cases h2 : ltS y x with
  | false => rfl
  | true => have := ltS_trans h h2; rw [ltS_self] at this; cases this

/-! ### Keys in a list, rising -/
structure It where
  k : ByteArray
  lv : Nat
  v : Int
instance : Inhabited It := ⟨⟨ByteArray.empty, 0, 0⟩⟩
/-- How many stand ahead of a key. -/
def atS : List It → ByteArray → Nat
  | [], _ => 0
  | p :: l, key => if ltS p.k key then atS l key + 1 else 0
def isS (l : List It) (key : ByteArray) : Bool := decide (atS l key < l.length) && ((l.getD (atS l key) default).k.toList == key.toList)
def clampL (x : Int) : Nat := if x < 1 then 1 else if 8 < x then 8 else x.toNat
def putS (l : List It) (key : ByteArray) (lv v : Int) : List It :=
  if isS l key then l.take (atS l key) ++ ⟨key, (l.getD (atS l key) default).lv, v⟩ :: l.drop (atS l key + 1) else l.take (atS l key) ++ ⟨key, clampL lv, v⟩ :: l.drop (atS l key)
def dropS (l : List It) (key : ByteArray) : List It := if isS l key then l.take (atS l key) ++ l.drop (atS l key + 1) else l
def rowS (l : List It) (lv : Int) : List ByteArray := if 1 ≤ lv ∧ lv ≤ 8 then (l.filter (fun p => decide (lv ≤ (p.lv : Int)))).map It.k else []
def heightS (l : List It) : Nat := l.foldl (fun n p => if n < p.lv then p.lv else n) 0
def fromS (l : List It) (key : ByteArray) : List It := l.drop (atS l key)
def floorS (l : List It) (key : ByteArray) : ByteArray × Bool := if isS l key then (key, true) else if atS l key = 0 then (ByteArray.empty, false) else ((l.getD (atS l key - 1) default).k, true)
/-- In order, their levels within bounds. -/
def Srt (l : List It) : Prop := l.Pairwise (fun a b => ltS a.k b.k = true) ∧ ∀ p ∈ l, 1 ≤ p.lv ∧ p.lv ≤ 8
theorem atS_le : ∀ (l : List It) (key : ByteArray), atS l key ≤ l.length
  | [], _ => Nat.le_refl _
  | p :: l, key => by
    unfold atS
    split
    · have := atS_le l key
      simp only [List.length_cons]
      omega
    · omega
theorem atS_lt : ∀ (l : List It) (key : ByteArray) (i : Nat), i < atS l key → ltS (l.getD i default).k key = true
  | [], _, i, h => by simp [atS] at h
  | p :: l, key, i, h => by
    unfold atS at h
    split at h
    · rename_i hp
      cases i with
      | zero => simpa using hp
      | succ i => simpa using atS_lt l key i (by omega)
    · omega
theorem atS_ge : ∀ (l : List It) (key : ByteArray), atS l key < l.length → ltS (l.getD (atS l key) default).k key = false
  | [], _, h => by simp at h
  | p :: l, key, h => by
    unfold atS at h ⊢
    split at h
    · rename_i hp
      rw [if_pos hp]
      simpa using atS_ge l key (by simpa using h)
    · rename_i hp
      rw [if_neg hp]
      simpa using hp
theorem getD_memI (l : List It) (i : Nat) (h : i < l.length) : l.getD i default ∈ l := by
  rw [List.getD_eq_getElem?_getD, List.getElem?_eq_getElem h]
  exact List.getElem_mem h
theorem srt_lt {l : List It} (h : Srt l) (i j : Nat) (hij : i < j) (hj : j < l.length) : ltS (l.getD i default).k (l.getD j default).k = true := by
  have h2 := List.pairwise_iff_getElem.1 h.1 i j (by omega) hj hij
  rw [List.getD_eq_getElem?_getD, List.getD_eq_getElem?_getD, List.getElem?_eq_getElem (by omega), List.getElem?_eq_getElem hj]
  exact h2
/-- Behind the place nothing is below the key. -/
theorem srt_ge {l : List It} (h : Srt l) (key : ByteArray) (j : Nat) (hj : atS l key ≤ j) (hl : j < l.length) : ltS (l.getD j default).k key = false := by
  rcases Nat.lt_or_ge (atS l key) j with h1 | h1
  · have h2 := srt_lt h _ j h1 hl
    have h3 := atS_ge l key (by omega)
    cases h4 : ltS (l.getD j default).k key with
    | false => rfl
    | true => rw [ltS_trans h2 h4] at h3; cases h3
  · have e : j = atS l key := by omega
    subst e
    exact atS_ge l key hl
theorem srt_iff {l : List It} (h : Srt l) (key : ByteArray) (j : Nat) (hl : j < l.length) : ltS (l.getD j default).k key = true ↔ j < atS l key := by
  constructor
  · intro h1
    rcases Nat.lt_or_ge j (atS l key) with h2 | h2
    · exact h2
    · rw [srt_ge h key j h2 hl] at h1; cases h1
  · exact fun h1 => atS_lt l key j h1
theorem clampL_range (x : Int) : 1 ≤ clampL x ∧ clampL x ≤ 8 := by unfold clampL; split <;> (try split) <;> omega
theorem take_lt {l : List It} {key : ByteArray} : ∀ p ∈ l.take (atS l key), ltS p.k key = true := by
  intro p hp
  obtain ⟨i, hi, rfl⟩ := List.mem_iff_getElem.1 hp
  have hi2 : i < atS l key := by
    rw [List.length_take] at hi
    omega
  have := atS_lt l key i hi2
  rw [List.getElem_take]
  rwa [List.getD_eq_getElem?_getD, List.getElem?_eq_getElem (by have := atS_le l key; omega)] at this
theorem drop_gt {l : List It} {key : ByteArray} (h : Srt l) (m : Nat) (hm : atS l key ≤ m) (hne : isS l key = false ∨ atS l key < m) : ∀ p ∈ l.drop m, ltS key p.k = true := by
  intro p hp
  obtain ⟨i, hi, rfl⟩ := List.mem_iff_getElem.1 hp
  rw [List.length_drop] at hi
  rw [List.getElem_drop]
  have hl : m + i < l.length := by omega
  have e : l.getD (m + i) default = l[m + i] := by rw [List.getD_eq_getElem?_getD, List.getElem?_eq_getElem hl]; rfl
  rw [← e]
  rcases Nat.lt_or_ge (atS l key) (m + i) with h1 | h1
  · have h2 := srt_lt h _ (m + i) h1 hl
    have h3 := atS_ge l key (by omega)
    by_cases he : (l.getD (atS l key) default).k = key
    · rwa [he] at h2
    · exact ltS_trans (ltS_conn h3 he) h2
  · have e2 : m + i = atS l key := by omega
    rw [e2]
    have h3 := atS_ge l key (by omega)
    refine ltS_conn h3 (fun he => ?_)
    rcases hne with h4 | h4
    · unfold isS at h4
      rw [he] at h4
      simp at h4
      omega
    · omega
theorem srt_put {l : List It} (h : Srt l) (key : ByteArray) (lv v : Int) : Srt (putS l key lv v) := by
  have key_mid : ∀ (n m : Nat), (1 ≤ n ∧ n ≤ 8) → atS l key ≤ m → (isS l key = false ∨ atS l key < m) → Srt (l.take (atS l key) ++ ⟨key, n, v⟩ :: l.drop m) := by
    intro n m hn hm hne
    have hlt := take_lt (l := l) (key := key)
    have hgt := drop_gt h m hm hne
    refine ⟨?_, ?_⟩
    · rw [List.pairwise_append, List.pairwise_cons]
      refine ⟨h.1.sublist (List.take_sublist _ _), ⟨fun p hp => hgt p hp, h.1.sublist (List.drop_sublist _ _)⟩, ?_⟩
      intro a ha b hb
      rcases List.mem_cons.1 hb with rfl | hb
      · exact hlt a ha
      · exact ltS_trans (hlt a ha) (hgt b hb)
    · intro p hp
      rcases List.mem_append.1 hp with hp | hp
      · exact h.2 p (List.mem_of_mem_take hp)
      · rcases List.mem_cons.1 hp with rfl | hp
        · exact hn
        · exact h.2 p (List.mem_of_mem_drop hp)
  unfold putS
  split
  · rename_i hi
    have hi' : atS l key < l.length := by
      unfold isS at hi
      simp at hi
      exact hi.1
    exact key_mid _ _ (h.2 _ (getD_memI l _ hi')) (by omega) (.inr (by omega))
  · rename_i hi
    exact key_mid _ _ (clampL_range lv) (Nat.le_refl _) (.inl (by simpa using hi))
theorem srt_drop {l : List It} (h : Srt l) (key : ByteArray) : Srt (dropS l key) := by
  unfold dropS
  split
  · have hs : (l.take (atS l key) ++ l.drop (atS l key + 1)).Sublist l := by
      have h1 : (l.take (atS l key) ++ l.drop (atS l key + 1)).Sublist (l.take (atS l key) ++ l.drop (atS l key)) := by
        refine List.Sublist.append (List.Sublist.refl _) ?_
        rw [← List.drop_drop]
        exact List.drop_sublist _ _
      rwa [List.take_append_drop] at h1
    exact ⟨h.1.sublist hs, fun p hp => h.2 p (hs.subset hp)⟩
  · exact h
theorem isS_iff {l : List It} (h : Srt l) (key : ByteArray) : isS l key = true ↔ ∃ p ∈ l, p.k = key := by
  unfold isS
  simp only [Bool.and_eq_true, decide_eq_true_eq, beq_iff_eq]
  constructor
  · rintro ⟨h1, h2⟩
    exact ⟨_, getD_memI l _ h1, toL_inj h2⟩
  · rintro ⟨p, hp, rfl⟩
    obtain ⟨i, hi, rfl⟩ := List.mem_iff_getElem.1 hp
    have e : l.getD i default = l[i] := by rw [List.getD_eq_getElem?_getD, List.getElem?_eq_getElem hi]; rfl
    have h1 : ¬ i < atS l (l[i]).k := by
      intro h2
      have := atS_lt l _ i h2
      rw [e, ltS_self] at this
      cases this
    have h2 : ¬ atS l (l[i]).k < i := by
      intro h2
      have h3 := srt_lt h _ i h2 hi
      have h4 := atS_ge l (l[i]).k (by omega)
      rw [e] at h3
      rw [h3] at h4
      cases h4
    have h3 : atS l (l[i]).k = i := by omega
    rw [h3]
    exact ⟨hi, by rw [e]⟩

/-! ### Nodes -/
structure Nd where
  it : It
  b : Nat
  nb : Nat
instance : Inhabited Nd := ⟨⟨default, 0, 0⟩⟩
/-- The block of the next node of a row. -/
def nxt : List Nd → Nat → Option Nat
  | [], _ => none
  | n :: l, r => if r < n.it.lv then some n.b else nxt l r
/-- The last node ahead of p that a row has. -/
def la (xs : List Nd) : Nat → Nat → Nat
  | 0, _ => 0
  | p + 1, r => if r < (xs.getD p default).it.lv then p else la xs p r
theorem nxt_append (l m : List Nd) (r : Nat) : nxt (l ++ m) r = match nxt l r with | some b => some b | none => nxt m r := by
  induction l with
  | nil => rfl
  | cons n l ih =>
    simp only [List.cons_append, nxt]
    split
    · rfl
    · exact ih
theorem nxt_none {l : List Nd} {r : Nat} : nxt l r = none ↔ ∀ n ∈ l, ¬ r < n.it.lv := by
  induction l with
  | nil => simp [nxt]
  | cons n l ih =>
    simp only [nxt]
    split
    · rename_i h
      exact ⟨fun e => (by cases e), fun hx => absurd h (hx n List.mem_cons_self)⟩
    · rename_i h
      rw [ih]
      exact ⟨fun hx k hk => (List.mem_cons.1 hk).elim (fun e => e ▸ h) (hx k), fun hx k hk => hx k (List.mem_cons_of_mem _ hk)⟩
/-- The next node of a row: where it stands. -/
theorem nxt_some (xs : List Nd) (r : Nat) : ∀ (d i : Nat), xs.length - i = d → i ≤ xs.length → (nxt (xs.drop i) r = none ∧ ∀ k, i ≤ k → k < xs.length → ¬ r < (xs.getD k default).it.lv) ∨
    ∃ j, i ≤ j ∧ j < xs.length ∧ nxt (xs.drop i) r = some (xs.getD j default).b ∧ r < (xs.getD j default).it.lv ∧ ∀ k, i ≤ k → k < j → ¬ r < (xs.getD k default).it.lv
  | 0, i, hd, hi => .inl ⟨by rw [List.drop_of_length_le (by omega)]; rfl, fun k h1 h2 => by omega⟩
  | d + 1, i, hd, hi => by
    have hlt : i < xs.length := by omega
    have e : xs.drop i = xs.getD i default :: xs.drop (i + 1) := by
      rw [List.drop_eq_getElem_cons hlt, List.getD_eq_getElem?_getD, List.getElem?_eq_getElem hlt]
      rfl
    rw [e]
    simp only [nxt]
    by_cases h : r < (xs.getD i default).it.lv
    · right
      exact ⟨i, Nat.le_refl _, hlt, by rw [if_pos h], h, fun k h1 h2 => by omega⟩
    · rw [if_neg h]
      rcases nxt_some xs r d (i + 1) (by omega) (by omega) with ⟨h1, h2⟩ | ⟨j, h1, h2, h3, h4, h5⟩
      · left
        refine ⟨h1, fun k hk1 hk2 => ?_⟩
        rcases Nat.lt_or_ge i k with h6 | h6
        · exact h2 k h6 hk2
        · obtain rfl : k = i := by omega
          exact h
      · right
        refine ⟨j, by omega, h2, h3, h4, fun k hk1 hk2 => ?_⟩
        rcases Nat.lt_or_ge i k with h6 | h6
        · exact h5 k h6 hk2
        · obtain rfl : k = i := by omega
          exact h
theorem la_is (xs : List Nd) (r : Nat) : ∀ (p i : Nat), i < p → r < (xs.getD i default).it.lv → (∀ k, i < k → k < p → ¬ r < (xs.getD k default).it.lv) → la xs p r = i
  | 0, i, h, _, _ => by omega
  | p + 1, i, h, h1, h2 => by
    unfold la
    split
    · rename_i hp
      rcases Nat.lt_or_ge i p with h3 | h3
      · exact absurd hp (h2 p h3 (by omega))
      · omega
    · rename_i hp
      have : i ≠ p := fun e => hp (by rw [← e]; exact h1)
      exact la_is xs r p i (by omega) h1 (fun k h3 h4 => h2 k h3 (by omega))
theorem la_spec (xs : List Nd) (r : Nat) (h0 : r < (xs.getD 0 default).it.lv) : ∀ p, 0 < p → la xs p r < p ∧ r < (xs.getD (la xs p r) default).it.lv ∧ ∀ k, la xs p r < k → k < p → ¬ r < (xs.getD k default).it.lv
  | 0, h => by omega
  | p + 1, _ => by
    unfold la
    split
    · rename_i hp
      exact ⟨by omega, hp, fun k h1 h2 => by omega⟩
    · rename_i hp
      cases p with
      | zero => exact absurd h0 hp
      | succ p =>
        obtain ⟨h1, h2, h3⟩ := la_spec xs r h0 (p + 1) (by omega)
        refine ⟨by omega, h2, fun k h4 h5 => ?_⟩
        rcases Nat.lt_or_ge k (p + 1) with h6 | h6
        · exact h3 k h4 h6
        · obtain rfl : k = p + 1 := by omega
          exact hp
end Go.Proofs.Ythilhcdlpfjodaa.A
