/- Keys in order, by definition; nodes in order and what the next one of a row is. No program in sight. -/
import Derived.Test.YtheoodbkjgfdfaaABase
import Derived.Deep.QuietTactic
import Derived.LaidEqlPtr
import Derived.Test.YtheoodbkjgfdfaaIHeld
namespace Go.Proofs.Ytheoodbkjgfdfaa.A.M
open Go.RowKit
open Go.Op (bytesLess)
set_option linter.unusedVariables false
set_option linter.unusedSimpArgs false

/-! ### The order of texts -/
abbrev ltS (x y : ByteArray) : Bool := bytesLess x.toList y.toList
theorem kl_self : ∀ x : List UInt8, bytesLess x x = false
  | [] => rfl
  | a :: x => by simp [bytesLess, kl_self x]
theorem kl_trans : ∀ x y z : List UInt8, bytesLess x y = true → bytesLess y z = true → bytesLess x z = true
  | [], [], _, h, _ => by simp [bytesLess] at h
  | [], _ :: _, [], _, h => by simp [bytesLess] at h
  | [], _ :: _, _ :: _, _, _ => by simp [bytesLess]
  | _ :: _, [], _, h, _ => by simp [bytesLess] at h
  | _ :: _, _ :: _, [], _, h => by simp [bytesLess] at h
  | a :: x, b :: y, c :: z, h1, h2 => by
    simp only [bytesLess, Bool.or_eq_true, Bool.and_eq_true, decide_eq_true_eq, beq_iff_eq] at h1 h2 ⊢
    rcases h1 with h1 | ⟨rfl, h1⟩
    · rcases h2 with h2 | ⟨rfl, h2⟩
      · left
        rw [UInt8.lt_iff_toNat_lt] at *
        omega
      · exact .inl h1
    · rcases h2 with h2 | ⟨rfl, h2⟩
      · exact .inl h2
      · exact .inr ⟨rfl, kl_trans x y z h1 h2⟩
theorem kl_conn : ∀ x y : List UInt8, bytesLess x y = false → x ≠ y → bytesLess y x = true
  | [], [], _, h => absurd rfl h
  | [], _ :: _, h, _ => by simp [bytesLess] at h
  | _ :: _, [], _, _ => by simp [bytesLess]
  | a :: x, b :: y, h, hne => by
    simp only [bytesLess, Bool.or_eq_false_iff, Bool.and_eq_false_iff, decide_eq_false_iff_not, beq_eq_false_iff_ne, Bool.or_eq_true, Bool.and_eq_true, decide_eq_true_eq, beq_iff_eq] at h ⊢
    by_cases hab : a = b
    · subst hab
      right
      refine ⟨rfl, kl_conn x y ?_ (fun e => hne (by rw [e]))⟩
      rcases h.2 with h2 | h2
      · exact absurd rfl h2
      · exact h2
    · left
      have h1 := h.1
      rw [UInt8.lt_iff_toNat_lt] at *
      have : a.toNat ≠ b.toNat := fun e => hab (UInt8.toNat_inj.1 e)
      omega
theorem toL_inj {x y : ByteArray} (h : x.toList = y.toList) : x = y := by
  rw [ByteArray.toList_eq, ByteArray.toList_eq] at h
  apply ByteArray.ext
  exact Array.toList_inj.1 h
theorem ltS_self (x : ByteArray) : ltS x x = false := kl_self _
theorem ltS_trans {x y z : ByteArray} (h : ltS x y = true) (k : ltS y z = true) : ltS x z = true := kl_trans _ _ _ h k
theorem ltS_conn {x y : ByteArray} (h : ltS x y = false) (hne : x ≠ y) : ltS y x = true := kl_conn _ _ h (fun e => hne (toL_inj e))
theorem ltS_asym {x y : ByteArray} (h : ltS x y = true) : ltS y x = false := by
  cases h2 : ltS y x with
  | false => rfl
  | true => have := ltS_trans h h2; rw [ltS_self] at this; cases this

/-- A slice, as it lies in a node. -/
structure Sl where
  A : Option Addr
  n : Nat
  c : Nat
abbrev Sl0 : Sl := ⟨none, 0, 0⟩
/-! ### Keys in a list, rising -/
structure It where
  k : ByteArray
  lv : Nat
  v : Sl
instance : Inhabited It := ⟨⟨ByteArray.empty, 0, Sl0⟩⟩
/-- How many stand ahead of a key. -/
def atS : List It → ByteArray → Nat
  | [], _ => 0
  | p :: l, key => if ltS p.k key then atS l key + 1 else 0
def isS (l : List It) (key : ByteArray) : Bool := decide (atS l key < l.length) && ((l.getD (atS l key) default).k.toList == key.toList)
def clampL (x : Int) : Nat := if x < 1 then 1 else if 8 < x then 8 else x.toNat
def putS (l : List It) (key : ByteArray) (lv : Int) (v : Sl) : List It :=
  if isS l key then l.take (atS l key) ++ ⟨key, (l.getD (atS l key) default).lv, v⟩ :: l.drop (atS l key + 1) else l.take (atS l key) ++ ⟨key, clampL lv, v⟩ :: l.drop (atS l key)
def dropS (l : List It) (key : ByteArray) : List It := if isS l key then l.take (atS l key) ++ l.drop (atS l key + 1) else l
def rowS (l : List It) (lv : Int) : List ByteArray := if 1 ≤ lv ∧ lv ≤ 8 then (l.filter (fun p => decide (lv ≤ (p.lv : Int)))).map It.k else []
def heightS (l : List It) : Nat := l.foldl (fun n p => if n < p.lv then p.lv else n) 0
def fromS (l : List It) (key : ByteArray) : List It := l.drop (atS l key)
def floorS (l : List It) (key : ByteArray) : ByteArray × Bool := if isS l key then (key, true) else if atS l key = 0 then (ByteArray.empty, false) else ((l.getD (atS l key - 1) default).k, true)
/-- In order, their levels within bounds. -/
def Srt (l : List It) : Prop := l.Pairwise (fun a b => ltS a.k b.k = true) ∧ ∀ p ∈ l, 1 ≤ p.lv ∧ p.lv ≤ 8
theorem atS_le : ∀ (l : List It) (key : ByteArray), atS l key ≤ l.length
  | [], _ => Nat.le_refl _
  | p :: l, key => by
    unfold atS
    split
    · have := atS_le l key
      simp only [List.length_cons]
      omega
    · omega
theorem atS_lt : ∀ (l : List It) (key : ByteArray) (i : Nat), i < atS l key → ltS (l.getD i default).k key = true
  | [], _, i, h => by simp [atS] at h
  | p :: l, key, i, h => by
    unfold atS at h
    split at h
    · rename_i hp
      cases i with
      | zero => simpa using hp
      | succ i => simpa using atS_lt l key i (by omega)
    · omega
theorem atS_ge : ∀ (l : List It) (key : ByteArray), atS l key < l.length → ltS (l.getD (atS l key) default).k key = false
  | [], _, h => by simp at h
  | p :: l, key, h => by
    unfold atS at h ⊢
    split at h
    · rename_i hp
      rw [if_pos hp]
      simpa using atS_ge l key (by simpa using h)
    · rename_i hp
      rw [if_neg hp]
      simpa using hp
theorem getD_memI (l : List It) (i : Nat) (h : i < l.length) : l.getD i default ∈ l := by
  rw [List.getD_eq_getElem?_getD, List.getElem?_eq_getElem h]
  exact List.getElem_mem h
theorem srt_lt {l : List It} (h : Srt l) (i j : Nat) (hij : i < j) (hj : j < l.length) : ltS (l.getD i default).k (l.getD j default).k = true := by
  have h2 := List.pairwise_iff_getElem.1 h.1 i j (by omega) hj hij
  rw [List.getD_eq_getElem?_getD, List.getD_eq_getElem?_getD, List.getElem?_eq_getElem (by omega), List.getElem?_eq_getElem hj]
  exact h2
/-- Behind the place nothing is below the key. -/
theorem srt_ge {l : List It} (h : Srt l) (key : ByteArray) (j : Nat) (hj : atS l key ≤ j) (hl : j < l.length) : ltS (l.getD j default).k key = false := by
  rcases Nat.lt_or_ge (atS l key) j with h1 | h1
  · have h2 := srt_lt h _ j h1 hl
    have h3 := atS_ge l key (by omega)
    cases h4 : ltS (l.getD j default).k key with
    | false => rfl
    | true => rw [ltS_trans h2 h4] at h3; cases h3
  · have e : j = atS l key := by omega
    subst e
    exact atS_ge l key hl
theorem srt_iff {l : List It} (h : Srt l) (key : ByteArray) (j : Nat) (hl : j < l.length) : ltS (l.getD j default).k key = true ↔ j < atS l key := by
  constructor
  · intro h1
    rcases Nat.lt_or_ge j (atS l key) with h2 | h2
    · exact h2
    · rw [srt_ge h key j h2 hl] at h1; cases h1
  · exact fun h1 => atS_lt l key j h1
theorem clampL_range (x : Int) : 1 ≤ clampL x ∧ clampL x ≤ 8 := by unfold clampL; split <;> (try split) <;> omega
theorem take_lt {l : List It} {key : ByteArray} : ∀ p ∈ l.take (atS l key), ltS p.k key = true := by
  intro p hp
  obtain ⟨i, hi, rfl⟩ := List.mem_iff_getElem.1 hp
  have hi2 : i < atS l key := by
    rw [List.length_take] at hi
    omega
  have := atS_lt l key i hi2
  rw [List.getElem_take]
  rwa [List.getD_eq_getElem?_getD, List.getElem?_eq_getElem (by have := atS_le l key; omega)] at this
theorem drop_gt {l : List It} {key : ByteArray} (h : Srt l) (m : Nat) (hm : atS l key ≤ m) (hne : isS l key = false ∨ atS l key < m) : ∀ p ∈ l.drop m, ltS key p.k = true := by
  intro p hp
  obtain ⟨i, hi, rfl⟩ := List.mem_iff_getElem.1 hp
  rw [List.length_drop] at hi
  rw [List.getElem_drop]
  have hl : m + i < l.length := by omega
  have e : l.getD (m + i) default = l[m + i] := by rw [List.getD_eq_getElem?_getD, List.getElem?_eq_getElem hl]; rfl
  rw [← e]
  rcases Nat.lt_or_ge (atS l key) (m + i) with h1 | h1
  · have h2 := srt_lt h _ (m + i) h1 hl
    have h3 := atS_ge l key (by omega)
    by_cases he : (l.getD (atS l key) default).k = key
    · rwa [he] at h2
    · exact ltS_trans (ltS_conn h3 he) h2
  · have e2 : m + i = atS l key := by omega
    rw [e2]
    have h3 := atS_ge l key (by omega)
    refine ltS_conn h3 (fun he => ?_)
    rcases hne with h4 | h4
    · unfold isS at h4
      rw [he] at h4
      simp at h4
      omega
    · omega
theorem srt_put {l : List It} (h : Srt l) (key : ByteArray) (lv : Int) (v : Sl) : Srt (putS l key lv v) := by
  have key_mid : ∀ (n m : Nat), (1 ≤ n ∧ n ≤ 8) → atS l key ≤ m → (isS l key = false ∨ atS l key < m) → Srt (l.take (atS l key) ++ ⟨key, n, v⟩ :: l.drop m) := by
    intro n m hn hm hne
    have hlt := take_lt (l := l) (key := key)
    have hgt := drop_gt h m hm hne
    refine ⟨?_, ?_⟩
    · rw [List.pairwise_append, List.pairwise_cons]
      refine ⟨h.1.sublist (List.take_sublist _ _), ⟨fun p hp => hgt p hp, h.1.sublist (List.drop_sublist _ _)⟩, ?_⟩
      intro a ha b hb
      rcases List.mem_cons.1 hb with rfl | hb
      · exact hlt a ha
      · exact ltS_trans (hlt a ha) (hgt b hb)
    · intro p hp
      rcases List.mem_append.1 hp with hp | hp
      · exact h.2 p (List.mem_of_mem_take hp)
      · rcases List.mem_cons.1 hp with rfl | hp
        · exact hn
        · exact h.2 p (List.mem_of_mem_drop hp)
  unfold putS
  split
  · rename_i hi
    have hi' : atS l key < l.length := by
      unfold isS at hi
      simp at hi
      exact hi.1
    exact key_mid _ _ (h.2 _ (getD_memI l _ hi')) (by omega) (.inr (by omega))
  · rename_i hi
    exact key_mid _ _ (clampL_range lv) (Nat.le_refl _) (.inl (by simpa using hi))
theorem srt_drop {l : List It} (h : Srt l) (key : ByteArray) : Srt (dropS l key) := by
  unfold dropS
  split
  · have hs : (l.take (atS l key) ++ l.drop (atS l key + 1)).Sublist l := by
      have h1 : (l.take (atS l key) ++ l.drop (atS l key + 1)).Sublist (l.take (atS l key) ++ l.drop (atS l key)) := by
        refine List.Sublist.append (List.Sublist.refl _) ?_
        rw [← List.drop_drop]
        exact List.drop_sublist _ _
      rwa [List.take_append_drop] at h1
    exact ⟨h.1.sublist hs, fun p hp => h.2 p (hs.subset hp)⟩
  · exact h
theorem isS_iff {l : List It} (h : Srt l) (key : ByteArray) : isS l key = true ↔ ∃ p ∈ l, p.k = key := by
  unfold isS
  simp only [Bool.and_eq_true, decide_eq_true_eq, beq_iff_eq]
  constructor
  · rintro ⟨h1, h2⟩
    exact ⟨_, getD_memI l _ h1, toL_inj h2⟩
  · rintro ⟨p, hp, rfl⟩
    obtain ⟨i, hi, rfl⟩ := List.mem_iff_getElem.1 hp
    have e : l.getD i default = l[i] := by rw [List.getD_eq_getElem?_getD, List.getElem?_eq_getElem hi]; rfl
    have h1 : ¬ i < atS l (l[i]).k := by
      intro h2
      have := atS_lt l _ i h2
      rw [e, ltS_self] at this
      cases this
    have h2 : ¬ atS l (l[i]).k < i := by
      intro h2
      have h3 := srt_lt h _ i h2 hi
      have h4 := atS_ge l (l[i]).k (by omega)
      rw [e] at h3
      rw [h3] at h4
      cases h4
    have h3 : atS l (l[i]).k = i := by omega
    rw [h3]
    exact ⟨hi, by rw [e]⟩

/-! ### Nodes -/
structure Nd where
  it : It
  b : Nat
  nb : Nat
instance : Inhabited Nd := ⟨⟨default, 0, 0⟩⟩
/-- The block of the next node of a row. -/
def nxt : List Nd → Nat → Option Nat
  | [], _ => none
  | n :: l, r => if r < n.it.lv then some n.b else nxt l r
/-- The last node ahead of p that a row has. -/
def la (xs : List Nd) : Nat → Nat → Nat
  | 0, _ => 0
  | p + 1, r => if r < (xs.getD p default).it.lv then p else la xs p r
theorem nxt_append (l m : List Nd) (r : Nat) : nxt (l ++ m) r = match nxt l r with | some b => some b | none => nxt m r := by
  induction l with
  | nil => rfl
  | cons n l ih =>
    simp only [List.cons_append, nxt]
    split
    · rfl
    · exact ih
theorem nxt_none {l : List Nd} {r : Nat} : nxt l r = none ↔ ∀ n ∈ l, ¬ r < n.it.lv := by
  induction l with
  | nil => simp [nxt]
  | cons n l ih =>
    simp only [nxt]
    split
    · rename_i h
      exact ⟨fun e => (by cases e), fun hx => absurd h (hx n List.mem_cons_self)⟩
    · rename_i h
      rw [ih]
      exact ⟨fun hx k hk => (List.mem_cons.1 hk).elim (fun e => e ▸ h) (hx k), fun hx k hk => hx k (List.mem_cons_of_mem _ hk)⟩
/-- The next node of a row: where it stands. -/
theorem nxt_some (xs : List Nd) (r : Nat) : ∀ (d i : Nat), xs.length - i = d → i ≤ xs.length → (nxt (xs.drop i) r = none ∧ ∀ k, i ≤ k → k < xs.length → ¬ r < (xs.getD k default).it.lv) ∨
    ∃ j, i ≤ j ∧ j < xs.length ∧ nxt (xs.drop i) r = some (xs.getD j default).b ∧ r < (xs.getD j default).it.lv ∧ ∀ k, i ≤ k → k < j → ¬ r < (xs.getD k default).it.lv
  | 0, i, hd, hi => .inl ⟨by rw [List.drop_of_length_le (by omega)]; rfl, fun k h1 h2 => by omega⟩
  | d + 1, i, hd, hi => by
    have hlt : i < xs.length := by omega
    have e : xs.drop i = xs.getD i default :: xs.drop (i + 1) := by
      rw [List.drop_eq_getElem_cons hlt, List.getD_eq_getElem?_getD, List.getElem?_eq_getElem hlt]
      rfl
    rw [e]
    simp only [nxt]
    by_cases h : r < (xs.getD i default).it.lv
    · right
      exact ⟨i, Nat.le_refl _, hlt, by rw [if_pos h], h, fun k h1 h2 => by omega⟩
    · rw [if_neg h]
      rcases nxt_some xs r d (i + 1) (by omega) (by omega) with ⟨h1, h2⟩ | ⟨j, h1, h2, h3, h4, h5⟩
      · left
        refine ⟨h1, fun k hk1 hk2 => ?_⟩
        rcases Nat.lt_or_ge i k with h6 | h6
        · exact h2 k h6 hk2
        · obtain rfl : k = i := by omega
          exact h
      · right
        refine ⟨j, by omega, h2, h3, h4, fun k hk1 hk2 => ?_⟩
        rcases Nat.lt_or_ge i k with h6 | h6
        · exact h5 k h6 hk2
        · obtain rfl : k = i := by omega
          exact h
theorem la_is (xs : List Nd) (r : Nat) : ∀ (p i : Nat), i < p → r < (xs.getD i default).it.lv → (∀ k, i < k → k < p → ¬ r < (xs.getD k default).it.lv) → la xs p r = i
  | 0, i, h, _, _ => by omega
  | p + 1, i, h, h1, h2 => by
    unfold la
    split
    · rename_i hp
      rcases Nat.lt_or_ge i p with h3 | h3
      · exact absurd hp (h2 p h3 (by omega))
      · omega
    · rename_i hp
      have : i ≠ p := fun e => hp (by rw [← e]; exact h1)
      exact la_is xs r p i (by omega) h1 (fun k h3 h4 => h2 k h3 (by omega))
theorem la_spec (xs : List Nd) (r : Nat) (h0 : r < (xs.getD 0 default).it.lv) : ∀ p, 0 < p → la xs p r < p ∧ r < (xs.getD (la xs p r) default).it.lv ∧ ∀ k, la xs p r < k → k < p → ¬ r < (xs.getD k default).it.lv
  | 0, h => by omega
  | p + 1, _ => by
    unfold la
    split
    · rename_i hp
      exact ⟨by omega, hp, fun k h1 h2 => by omega⟩
    · rename_i hp
      cases p with
      | zero => exact absurd h0 hp
      | succ p =>
        obtain ⟨h1, h2, h3⟩ := la_spec xs r h0 (p + 1) (by omega)
        refine ⟨by omega, h2, fun k h4 h5 => ?_⟩
        rcases Nat.lt_or_ge k (p + 1) with h6 | h6
        · exact h3 k h4 h6
        · obtain rfl : k = p + 1 := by omega
          exact hp
end Go.Proofs.Ytheoodbkjgfdfaa.A.M
/- A list of nodes in memory: what lies where; a step on it. -/
namespace Go.Proofs.Ytheoodbkjgfdfaa.A.M
open Go.RowKit Go.Proofs.YtheoodbkjgfdfaaW.PrintWords Go.Proofs.YtheoodbkjgfdfaaW.PrintLast Go.Proofs.YtheoodbkjgfdfaaW.PrintMore
set_option linter.unusedVariables false
set_option linter.unusedSimpArgs false

def pv (o : Option Nat) : Value := .pointer (o.map fun b => ⟨b, 0, none⟩)
abbrev nodeBox (k : ByteArray) (v : Sl) (nb lv : Nat) : Obj := .cells #[.string k, .slice v.A v.n v.c, .slice (some ⟨nb, 0, none⟩) lv lv] 83
abbrev rowBox (n : Nat) (f : Nat → Option Nat) : Obj := .cells ((List.range n).map fun r => pv (f r)).toArray 80
abbrev listBox (h : Nat) (m : Int) : Obj := .cells #[.pointer (some ⟨h, 0, none⟩), .int .i64 m] 85
theorem rowBox_congr {n : Nat} {f g : Nat → Option Nat} (h : ∀ r, r < n → f r = g r) : rowBox n f = rowBox n g := by
  have e : ((List.range n).map fun r => pv (f r)) = ((List.range n).map fun r => pv (g r)) := List.map_congr_left fun r hr => by rw [h r (List.mem_range.1 hr)]
  unfold rowBox
  rw [e]
def NodeAt (W : World) (n : Nd) (f : Nat → Option Nat) : Prop := W.heap[n.b]? = some (nodeBox n.it.k n.it.v n.nb n.it.lv) ∧ W.heap[n.nb]? = some (rowBox n.it.lv f)
def blks (xs : List Nd) : List Nat := xs.flatMap fun n => [n.b, n.nb]
/-- The nodes xs at L, the first one the head; f i r: the block that node i's row r leads to. -/
def SL (W : World) (L : Nat) (xs : List Nd) (f : Nat → Nat → Option Nat) (m : Int) : Prop :=
  W.heap[L]? = some (listBox (xs.getD 0 default).b m) ∧ 0 < xs.length ∧ (∀ i, i < xs.length → NodeAt W (xs.getD i default) (f i)) ∧ (L :: blks xs).Nodup
def nx (xs : List Nd) (i r : Nat) : Option Nat := nxt (xs.drop (i + 1)) r
/-- The head first, then the keys. -/
def Hdd (xs : List Nd) : Prop := (xs.getD 0 default).it = ⟨ByteArray.empty, 8, Sl0⟩ ∧ Srt (xs.tail.map Nd.it)
/-- A skip list of these nodes. -/
def SK (W : World) (L : Nat) (xs : List Nd) : Prop := SL W L xs (nx xs) ((xs.length : Int) - 1) ∧ Hdd xs
/-- What is none of some blocks lies as it lay. -/
structure Frm (S : List Nat) (A B : World) : Prop where
  os : B.os = A.os
  tape : B.tape = A.tape
  output : B.output = A.output
  size : A.heap.size ≤ B.heap.size
  block : ∀ k, k < A.heap.size → k ∉ S → B.heap[k]? = A.heap[k]?
theorem Frm.refl (S : List Nat) (A : World) : Frm S A A := ⟨rfl, rfl, rfl, Nat.le_refl _, fun _ _ _ => rfl⟩
theorem Frm.trans {S : List Nat} {A B C : World} (h : Frm S A B) (k : Frm S B C) : Frm S A C :=
  ⟨k.os.trans h.os, k.tape.trans h.tape, k.output.trans h.output, Nat.le_trans h.size k.size, fun i hi hs => (k.block i (Nat.lt_of_lt_of_le hi h.size) hs).trans (h.block i hi hs)⟩
theorem Frm.of_below {S : List Nat} {A B : World} (h : Below A.heap.size A B) : Frm S A B := ⟨h.os, h.tape, h.output, h.size, fun k hk _ => h.block k hk⟩
theorem Frm.mono {S T : List Nat} {A B : World} (h : Frm S A B) (hs : ∀ k ∈ S, k < A.heap.size → k ∈ T) : Frm T A B := ⟨h.os, h.tape, h.output, h.size, fun k hk hn => h.block k hk (fun e => hn (hs k e hk))⟩
theorem Frm.set {S : List Nat} {A B : World} (h : Frm S A B) {b o : Nat} (hb : b ∈ S) (v : Value) : Frm S A (B.setCell ⟨b, o, none⟩ v) :=
  ⟨h.os, h.tape, h.output, by have : (B.setCell ⟨b, o, none⟩ v).heap.size = B.heap.size := by simp [World.setCell]
                              rw [this]; exact h.size, fun k hk hn => (Below.heap_setCell B _ v k (fun e => hn (by rw [e]; exact hb))).trans (h.block k hk hn)⟩
theorem Frm.below {S : List Nat} {N : Nat} {w A B : World} (hN : Below N w A) (h : Frm S A B) (hs : ∀ k ∈ S, N ≤ k) (hw : N ≤ w.heap.size) : Below N w B :=
  ⟨h.os.trans hN.os, h.tape.trans hN.tape, h.output.trans hN.output, Nat.le_trans hN.size h.size, fun k hk => (h.block k (by have := hN.size; omega) (fun e => by have := hs k e; omega)).trans (hN.block k hk)⟩

theorem node_cells {W : World} {n : Nd} {f : Nat → Option Nat} (h : NodeAt W n f) :
    W.cell? ⟨n.b, 0, none⟩ = some (.string n.it.k) ∧ W.cell? ⟨n.b, 1, none⟩ = some (.slice n.it.v.A n.it.v.n n.it.v.c) ∧ W.cell? ⟨n.b, 2, none⟩ = some (.slice (some ⟨n.nb, 0, none⟩) n.it.lv n.it.lv) := by
  refine ⟨?_, ?_, ?_⟩ <;> (rw [cell_of_row _ _ _ _ _ _ h.1]; rfl)
theorem node_row {W : World} {n : Nd} {f : Nat → Option Nat} (h : NodeAt W n f) (r : Nat) (hr : r < n.it.lv) : W.cell? ⟨n.nb, r, none⟩ = some (pv (f r)) := by
  rw [cell_of_row _ _ _ _ _ _ h.2]
  simp [hr]
theorem plain_frozen {W : World} {b : Nat} {cs : Array Value} {t : TypeId} (h : W.heap[b]? = some (.cells cs t)) (o : Nat) : W.frozen? ⟨b, o, none⟩ = false := by
  simp [World.frozen?, h]
theorem blks_at {xs : List Nd} {i : Nat} (hi : i < xs.length) : (xs.getD i default).b ∈ blks xs ∧ (xs.getD i default).nb ∈ blks xs := by
  have h : xs.getD i default ∈ xs := by
    rw [List.getD_eq_getElem?_getD, List.getElem?_eq_getElem hi]
    exact List.getElem_mem hi
  exact ⟨List.mem_flatMap.2 ⟨_, h, by simp⟩, List.mem_flatMap.2 ⟨_, h, by simp⟩⟩
/-- The blocks of two nodes differ. -/
theorem blks_apart : ∀ {xs : List Nd}, (blks xs).Nodup → ∀ i j, i < xs.length → j < xs.length → (xs.getD i default).b ≠ (xs.getD j default).nb ∧ ((xs.getD i default).nb = (xs.getD j default).nb → i = j) ∧ ((xs.getD i default).b = (xs.getD j default).b → i = j)
  | [], _, i, j, hi, _ => by simp at hi
  | n :: xs, h, i, j, hi, hj => by
    have h' : (n.b :: n.nb :: blks xs).Nodup := h
    rw [List.nodup_cons, List.nodup_cons] at h'
    obtain ⟨h1, h2, h3⟩ := h'
    cases i with
    | zero =>
      cases j with
      | zero => exact ⟨fun e => h1 (by simp only [List.getD_cons_zero] at e; rw [e]; exact List.mem_cons_self), fun _ => rfl, fun _ => rfl⟩
      | succ j =>
        have hj' : j < xs.length := by simpa using hj
        obtain ⟨m1, m2⟩ := blks_at hj'
        simp only [List.getD_cons_zero, List.getD_cons_succ]
        exact ⟨fun e => h1 (List.mem_cons_of_mem _ (by rw [e]; exact m2)), fun e => absurd (by rw [e]; exact m2) h2, fun e => absurd (List.mem_cons_of_mem _ (by rw [e]; exact m1)) h1⟩
    | succ i =>
      have hi' : i < xs.length := by simpa using hi
      obtain ⟨n1, n2⟩ := blks_at hi'
      cases j with
      | zero =>
        simp only [List.getD_cons_zero, List.getD_cons_succ]
        exact ⟨fun e => h2 (by rw [← e]; exact n1), fun e => absurd (by rw [← e]; exact n2) h2, fun e => absurd (List.mem_cons_of_mem _ (by rw [← e]; exact n1)) h1⟩
      | succ j =>
        have hj' : j < xs.length := by simpa using hj
        simp only [List.getD_cons_succ]
        obtain ⟨a1, a2, a3⟩ := blks_apart h3 i j hi' hj'
        exact ⟨a1, fun e => by rw [a2 e], fun e => by rw [a3 e]⟩
section
variable {W : World} {L : Nat} {xs : List Nd} {f : Nat → Nat → Option Nat} {m : Int}
theorem SL_node (h : SL W L xs f m) (i : Nat) (hi : i < xs.length) : NodeAt W (xs.getD i default) (f i) := h.2.2.1 i hi
theorem SL_list (h : SL W L xs f m) : W.heap[L]? = some (listBox (xs.getD 0 default).b m) := h.1
theorem SL_below {W1 : World} (h : SL W L xs f m) (hb : Below W.heap.size W W1) : SL W1 L xs f m := by
  obtain ⟨h1, h2, h3, h4⟩ := h
  have keep : ∀ {k : Nat} {o : Obj}, W.heap[k]? = some o → W1.heap[k]? = some o := fun hk => (hb.block _ (Array.getElem?_eq_some_iff.1 hk).1).trans hk
  exact ⟨keep h1, h2, fun i hi => ⟨keep (h3 i hi).1, keep (h3 i hi).2⟩, h4⟩
theorem SL_lt (h : SL W L xs f m) : ∀ k ∈ L :: blks xs, k < W.heap.size := by
  intro k hk
  rcases List.mem_cons.1 hk with rfl | hk
  · exact (Array.getElem?_eq_some_iff.1 h.1).1
  · obtain ⟨n, hn, hk⟩ := List.mem_flatMap.1 hk
    obtain ⟨i, hi, rfl⟩ := List.mem_iff_getElem.1 hn
    have h3 := h.2.2.1 i hi
    have e : xs.getD i default = xs[i] := by rw [List.getD_eq_getElem?_getD, List.getElem?_eq_getElem hi]; rfl
    rw [e] at h3
    simp only [List.mem_cons, List.not_mem_nil, or_false] at hk
    rcases hk with rfl | rfl
    · exact (Array.getElem?_eq_some_iff.1 h3.1).1
    · exact (Array.getElem?_eq_some_iff.1 h3.2).1
theorem SL_frm {W1 : World} {S : List Nat} (h : SL W L xs f m) (hb : Frm S W W1) (hs : ∀ k ∈ L :: blks xs, k ∉ S) : SL W1 L xs f m := by
  have hlt := SL_lt h
  obtain ⟨h1, h2, h3, h4⟩ := h
  have keep : ∀ {k : Nat} {o : Obj}, k ∈ L :: blks xs → W.heap[k]? = some o → W1.heap[k]? = some o := fun hm hk => (hb.block _ (hlt _ hm) (hs _ hm)).trans hk
  exact ⟨keep List.mem_cons_self h1, h2, fun i hi => ⟨keep (List.mem_cons_of_mem _ (blks_at hi).1) (h3 i hi).1, keep (List.mem_cons_of_mem _ (blks_at hi).2) (h3 i hi).2⟩, h4⟩
theorem SL_congr {g : Nat → Nat → Option Nat} (h : SL W L xs f m) (hg : ∀ i r, i < xs.length → r < (xs.getD i default).it.lv → f i r = g i r) : SL W L xs g m := by
  obtain ⟨h1, h2, h3, h4⟩ := h
  refine ⟨h1, h2, fun i hi => ⟨(h3 i hi).1, ?_⟩, h4⟩
  rw [(h3 i hi).2, rowBox_congr fun r hr => hg i r hi hr]
def upd (f : Nat → Nat → Option Nat) (i r : Nat) (o : Option Nat) : Nat → Nat → Option Nat := fun i' r' => if i' = i ∧ r' = r then o else f i' r'
theorem row_set (n r : Nat) (f : Nat → Option Nat) (o : Option Nat) (hr : r < n) : (((List.range n).map fun r => pv (f r)).toArray.setIfInBounds r (pv o)) = ((List.range n).map fun r' => pv (if r' = r then o else f r')).toArray := by
  apply Array.ext'
  simp only [Array.toList_setIfInBounds]
  apply List.ext_getElem?
  intro j
  rw [List.getElem?_set]
  simp only [List.length_map, List.length_range, List.getElem?_map]
  by_cases hj : j < n
  · by_cases e : r = j
    · subst e
      simp [hr]
    · have e' : ¬ j = r := fun h => e h.symm
      simp [e, e', hj]
  · have e : ¬ r = j := by omega
    simp [e, List.getElem?_eq_none (show (List.range n).length ≤ j by simpa using hj)]
theorem heap_set_row {W : World} {b : Nat} {cs : Array Value} {t : TypeId} (h : W.heap[b]? = some (.cells cs t)) (o : Nat) (v : Value) : (W.setCell ⟨b, o, none⟩ v).heap[b]? = some (.cells (cs.setIfInBounds o v) t) := by
  have hl := (Array.getElem?_eq_some_iff.1 h).1
  have he := (Array.getElem?_eq_some_iff.1 h).2
  simp only [World.setCell]
  rw [Array.getElem?_eq_getElem (by simpa using hl)]
  simp [Array.getElem_modify, he]
theorem SL_set (h : SL W L xs f m) (i r : Nat) (hi : i < xs.length) (hr : r < (xs.getD i default).it.lv) (o : Option Nat) : SL (W.setCell ⟨(xs.getD i default).nb, r, none⟩ (pv o)) L xs (upd f i r o) m := by
  obtain ⟨h1, h2, h3, h4⟩ := h
  rw [List.nodup_cons] at h4
  have hfar : ∀ k, k ≠ (xs.getD i default).nb → (W.setCell ⟨(xs.getD i default).nb, r, none⟩ (pv o)).heap[k]? = W.heap[k]? := fun k hk => Below.heap_setCell W _ _ k hk
  refine ⟨(hfar _ (fun e => h4.1 (by rw [e]; exact (blks_at hi).2))).trans h1, h2, fun j hj => ?_, List.nodup_cons.2 h4⟩
  obtain ⟨a1, a2, a3⟩ := blks_apart h4.2 j i hj hi
  refine ⟨(hfar _ a1).trans (h3 j hj).1, ?_⟩
  by_cases e : j = i
  · subst e
    rw [heap_set_row (h3 j hj).2, row_set _ _ _ _ hr]
    refine congrArg some (rowBox_congr fun r' _ => ?_)
    unfold upd
    by_cases e2 : r' = r
    · simp [e2]
    · simp [e2]
  · rw [hfar _ (fun e2 => e (a2 e2)), (h3 j hj).2]
    refine congrArg some (rowBox_congr fun r' _ => ?_)
    unfold upd
    simp [e]
theorem SL_many (h : SL W L xs f m) (m' : Int) : SL (W.setCell ⟨L, 1, none⟩ (.int .i64 m')) L xs f m' := by
  obtain ⟨h1, h2, h3, h4⟩ := h
  have hn := (List.nodup_cons.1 h4).1
  have hfar : ∀ k, k ≠ L → (W.setCell ⟨L, 1, none⟩ (.int .i64 m')).heap[k]? = W.heap[k]? := fun k hk => Below.heap_setCell W _ _ k hk
  refine ⟨?_, h2, fun j hj => ⟨(hfar _ (fun e => hn (by rw [← e]; exact (blks_at hj).1))).trans (h3 j hj).1, (hfar _ (fun e => hn (by rw [← e]; exact (blks_at hj).2))).trans (h3 j hj).2⟩, h4⟩
  rw [heap_set_row h1]
  rfl
end
end Go.Proofs.Ytheoodbkjgfdfaa.A.M
/- A list without keys. -/
namespace Go.Proofs.Ytheoodbkjgfdfaa.A.M
open Go.RowKit Go.Proofs.YtheoodbkjgfdfaaW.PrintWords Go.Proofs.YtheoodbkjgfdfaaW.PrintLast Go.Proofs.YtheoodbkjgfdfaaW.PrintMore
set_option linter.unusedVariables false
set_option linter.unusedSimpArgs false

theorem infoNp : (Try.prog.info? 80).map (fun i => (i.zero, i.size, i.bytes)) = some (some (.pointer none), 1, 8) := by kernel_rfl
theorem made_ptr (n : Nat) (hn : n ≤ 8) : (Obj.cells (madeCells (Value.pointer none).cells n) 80) = rowBox n (fun _ => none) := by
  have e : madeCells (Value.pointer none).cells n = ((List.range n).map fun _ => pv none).toArray := by
    apply Array.ext'
    simp [madeCells, Value.cells, pv, Nat.mod_one]
  unfold rowBox
  rw [e]
/-- A row of n pointers made. -/
theorem mk_row (n : Nat) (hn : n ≤ 8) (W : World) : (Instr.makeSlice 81 (.int .i64 (n : Int)) (.int .i64 (n : Int))).run Try.prog W = .ok (.slice (some ⟨W.heap.size, 0, none⟩) n n) (W.alloc (rowBox n (fun _ => none))) := by
  obtain ⟨i, hi, hz, hs, hb⟩ := info_parts infoNp
  rw [run_makeSlice W 81 80 i (.pointer none) Try.underlying81 hi hz .i64 .i64 (n : Int) (n : Int) (by omega) (by omega) (by rw [hs]; omega) (by rw [hb]; omega) (by omega)]
  rw [hs, Nat.mul_one, Int.toNat_natCast, made_ptr n hn]
/-- The keys of a list, their levels, their things; its blocks from B on. -/
def SKI (W : World) (B L : Nat) (l : List It) : Prop := ∃ xs, SK W L xs ∧ xs.tail.map Nd.it = l ∧ ∀ k ∈ L :: blks xs, B ≤ k
theorem new_calls (w : World) :
    Calls Try.prog 25 #[] w fun e w' => ∃ L, e = .returned (.pointer (some ⟨L, 0, none⟩)) ∧ SKI w' w.heap.size L [] ∧ Below w.heap.size w w' := by
  have hmk := mk_row 8 (by omega)
  rw [show ((8 : Nat) : Int) = 8 from rfl] at hmk
  go_enter Try.func25, Try.ntmps25
  go_wp2_with fail
  go_ret
  have hD := World.size_alloc w (rowBox 8 (fun _ => none))
  refine ⟨_, rfl, ⟨[⟨⟨ByteArray.empty, 8, Sl0⟩, w.heap.size + 1, w.heap.size⟩], ⟨⟨?_, Nat.zero_lt_one, ?_, ?_⟩, rfl, List.Pairwise.nil, fun p hp => by cases hp⟩, rfl, ?_⟩, below_alloc (below_alloc (below_alloc (Below.refl _ _) _) _) _⟩
  · have h := heap_alloc_new ((w.alloc (rowBox 8 (fun _ => none))).alloc (nodeBox ByteArray.empty Sl0 w.heap.size 8)) (listBox (w.heap.size + 1) 0)
    simp only [World.size_alloc] at h
    exact h
  · intro i hi
    obtain rfl : i = 0 := by simpa using hi
    have h1 := heap_alloc_new w (rowBox 8 (fun _ => none))
    have h2 := heap_alloc_new (w.alloc (rowBox 8 (fun _ => none))) (nodeBox ByteArray.empty Sl0 w.heap.size 8)
    rw [World.size_alloc] at h2
    have k1 : ∀ {W W1 : World} {g : Nat} {o : Obj}, W.heap[g]? = some o → Below W.heap.size W W1 → W1.heap[g]? = some o := fun hk hb => (hb.block _ (Array.getElem?_eq_some_iff.1 hk).1).trans hk
    exact ⟨k1 h2 (below_alloc (Below.refl _ _) _), k1 (k1 h1 (below_alloc (Below.refl _ _) _)) (below_alloc (Below.refl _ _) _)⟩
  · simp [blks]; omega
  · intro k hk
    simp [blks] at hk
    omega
end Go.Proofs.Ytheoodbkjgfdfaa.A.M
/- A scope that is passed again and again by a jump to its label. -/
namespace Go
/-- A scope whose label is jumped back to. -/
theorem wp_scope_goto {P : Program} {Q : Exit → Act → World → Prop} {a : Act} {w : World} {rest : Code} (pre : Code → Code) (l : Nat) (J : Act → World → Prop) (μ : Act → World → Nat)
    (hf : findLabel (pre ((Code.label l).seq rest)) l = some (Code.skip.seq rest))
    (first : ∀ (X : Code) (Q1 : Exit → Act → World → Prop), (∀ a w, J a w → X.wp P Q1 a w) → (pre X).wp P Q1 a w)
    (pass : ∀ a w, J a w → rest.wp P (Exit.jump l (fun a' w' => J a' w' ∧ μ a' w' < μ a w) Q) a w) : (Code.scope (pre ((Code.label l).seq rest))).wp P Q a w := by
  refine wp_scope_jumps l J μ hf (first _ _ fun a1 w1 hJ => ?_) (fun a1 w1 hJ => wp_seq (wp_skip (pass a1 w1 hJ)))
  refine wp_seq (wp_label (Code.wp_mono ?_ (pass a1 w1 hJ)))
  intro e a2 w2 h
  cases e <;> first | exact h | exact ⟨h.1, h.2.1⟩
theorem wp_scope_goto2 {P : Program} {Q : Exit → Act → World → Prop} {a : Act} {w : World} {c0 c1 rest : Code} (l : Nat) (J : Act → World → Prop) (μ : Act → World → Nat)
    (hf : findLabel (c0.seq (c1.seq ((Code.label l).seq rest))) l = some (Code.skip.seq rest))
    (first : ∀ (X : Code) (Q1 : Exit → Act → World → Prop), (∀ a w, J a w → X.wp P Q1 a w) → (c0.seq (c1.seq X)).wp P Q1 a w)
    (pass : ∀ a w, J a w → rest.wp P (Exit.jump l (fun a' w' => J a' w' ∧ μ a' w' < μ a w) Q) a w) : (Code.scope (c0.seq (c1.seq ((Code.label l).seq rest)))).wp P Q a w :=
  wp_scope_goto (fun X => c0.seq (c1.seq X)) l J μ hf first pass
end Go
/- Of each row the last node ahead of a key. -/
namespace Go.Proofs.Ytheoodbkjgfdfaa.A.M
open Go.RowKit Go.Proofs.YtheoodbkjgfdfaaW.PrintWords Go.Proofs.YtheoodbkjgfdfaaW.PrintLast Go.Proofs.YtheoodbkjgfdfaaW.PrintMore
set_option linter.unusedVariables false
set_option linter.unusedSimpArgs false

abbrev arrBox (f : Nat → Option Nat) : Obj := .cells ((List.range 8).map fun r => pv (f r)).toArray 95
abbrev arr0 : Obj := .cells #[.pointer none, .pointer none, .pointer none, .pointer none, .pointer none, .pointer none, .pointer none, .pointer none] 95
theorem arr0_eq : arr0 = arrBox (fun _ => none) := rfl
def aheadV (xs : List Nd) (p : Nat) : Value := .agg ((List.range 8).map fun r => pv (some (xs.getD (la xs (p + 1) r) default).b)).toArray
theorem tail_at (xs : List Nd) (j : Nat) : (xs.getD (j + 1) default).it = (xs.tail.map Nd.it).getD j default := by
  rw [List.getD_eq_getElem?_getD, List.getD_eq_getElem?_getD, List.getElem?_map, List.getElem?_tail]
  cases xs[j + 1]? <;> rfl
theorem tail_len (xs : List Nd) : (xs.tail.map Nd.it).length = xs.length - 1 := by rw [List.length_map, List.length_tail]
/-- What a step along a row finds. -/
theorem ahead_step {W : World} {L : Nat} {xs : List Nd} (h : SK W L xs) (key : ByteArray) (i r : Nat) (hi : i < xs.length) (hip : i ≤ atS (xs.tail.map Nd.it) key) (hr : r < (xs.getD i default).it.lv) :
    (∃ j, i < j ∧ j < xs.length ∧ j ≤ atS (xs.tail.map Nd.it) key ∧ r < (xs.getD j default).it.lv ∧ nx xs i r = some (xs.getD j default).b ∧ Go.Op.bytesLess (xs.getD j default).it.k.toList key.toList = true) ∨
    (la xs (atS (xs.tail.map Nd.it) key + 1) r = i ∧ (nx xs i r = none ∨ ∃ j, j < xs.length ∧ nx xs i r = some (xs.getD j default).b ∧ Go.Op.bytesLess (xs.getD j default).it.k.toList key.toList = false)) := by
  obtain ⟨hs1, hs2⟩ := h.2
  have hpl := atS_le (xs.tail.map Nd.it) key
  rw [tail_len] at hpl
  have hx0 : 0 < xs.length := h.1.2.1
  rcases nxt_some xs r _ (i + 1) rfl (by omega) with ⟨h1, h2⟩ | ⟨j, h1, h2, h3, h4, h5⟩
  · refine .inr ⟨la_is xs r _ i (by omega) hr (fun k hk1 hk2 => h2 k hk1 (by omega)), .inl h1⟩
  · obtain ⟨j', rfl⟩ : ∃ j', j = j' + 1 := ⟨j - 1, by omega⟩
    have hiff := srt_iff hs2 key j' (by rw [tail_len]; omega)
    rw [← tail_at] at hiff
    cases hlt : Go.Op.bytesLess (xs.getD (j' + 1) default).it.k.toList key.toList with
    | true => exact .inl ⟨j' + 1, by omega, h2, by have := hiff.1 hlt; omega, h4, h3, hlt⟩
    | false =>
      refine .inr ⟨la_is xs r _ i (by omega) hr (fun k hk1 hk2 => h5 k hk1 ?_), .inr ⟨j' + 1, h2, h3, hlt⟩⟩
      have : ¬ j' < atS (xs.tail.map Nd.it) key := fun hc => by have h9 : Go.Op.bytesLess (xs.getD (j' + 1) default).it.k.toList key.toList = true := hiff.2 hc; rw [hlt] at h9; cases h9
      omega
/-- What is told of the rows from n on. -/
def outG (xs : List Nd) (p n : Nat) (r : Nat) : Option Nat := if n ≤ r then some (xs.getD (la xs (p + 1) r) default).b else none
theorem out_set {W : World} {g p r b : Nat} {xs : List Nd} (h : W.heap[g]? = some (arrBox (outG xs p (r + 1)))) (hr : r < 8) (hb : (xs.getD (la xs (p + 1) r) default).b = b) : (W.setCell ⟨g, r, none⟩ (.pointer (some ⟨b, 0, none⟩))).heap[g]? = some (arrBox (outG xs p r)) := by
  rw [show (Value.pointer (some ⟨b, 0, none⟩)) = pv (some b) from rfl, heap_set_row h, row_set 8 r (outG xs p (r + 1)) (some b) hr]
  have e : ((List.range 8).map fun r' => pv (if r' = r then some b else outG xs p (r + 1) r')) = ((List.range 8).map fun r' => pv (outG xs p r r')) := List.map_congr_left fun r' _ => by
    by_cases e : r' = r
    · subst e
      rw [if_pos rfl]
      unfold outG
      rw [if_pos (Nat.le_refl _), hb]
    · rw [if_neg e]
      unfold outG
      by_cases h2 : r ≤ r'
      · rw [if_pos h2, if_pos (by omega)]
      · rw [if_neg h2, if_neg (by omega)]
  rw [e]
theorem arr_cell {W : World} {g : Nat} {f : Nat → Option Nat} (h : W.heap[g]? = some (arrBox f)) (r : Nat) (hr : r < 8) : W.cell? ⟨g, r, none⟩ = some (pv (f r)) ∧ W.frozen? ⟨g, r, none⟩ = false := by
  refine ⟨?_, plain_frozen h r⟩
  rw [cell_of_row _ _ _ _ _ _ h]
  simp [hr]
theorem below_row {B g : Nat} {w0 W : World} (hb : Below B w0 W) (hg : B ≤ g) (cs : Array Value) : Below B w0 (W.setRow g cs) :=
  ⟨hb.os, hb.tape, hb.output, by rw [size_setRow]; exact hb.size, fun k hk => (setRow_other W g k cs (by omega)).trans (hb.block k hk)⟩
theorem infoArr : (Try.prog.info? 95).map (·.size) = some 8 := by kernel_rfl
/-- Where a node stands, by its block. -/
def posB : List Nd → Nat → Nat
  | [], _ => 0
  | n :: l, b => if n.b = b then 0 else posB l b + 1
theorem posB_is : ∀ (xs : List Nd) (b i : Nat), i < xs.length → (xs.getD i default).b = b → (∀ j, j < i → (xs.getD j default).b ≠ b) → posB xs b = i
  | [], _, i, h, _, _ => by simp at h
  | n :: xs, b, 0, _, h, _ => by
    rw [posB, if_pos (by simpa using h)]
  | n :: xs, b, i + 1, hi, h, hn => by
    have h0 := hn 0 (by omega)
    rw [posB, if_neg (by simpa using h0), posB_is xs b i (by simpa using hi) (by simpa using h) (fun j hj => by have := hn (j + 1) (by omega); simpa using this)]
theorem posB_at {xs : List Nd} (h : (blks xs).Nodup) (i : Nat) (hi : i < xs.length) : posB xs (xs.getD i default).b = i :=
  posB_is xs _ i hi rfl (fun j hj e => by have := (blks_apart h j i (by omega) hi).2.2 e; omega)
def ptrB : Value → Nat
  | .pointer (some a) => a.block
  | _ => 0
set_option maxRecDepth 100000 in
set_option maxHeartbeats 4000000 in
theorem ahead_calls (w : World) (L : Nat) (xs : List Nd) (key : ByteArray) (h : SK w L xs) :
    Calls Try.prog 55 #[.pointer (some ⟨L, 0, none⟩), .string key] w fun e w' => e = .returned (aheadV xs (atS (xs.tail.map Nd.it) key)) ∧ Below w.heap.size w w' := by
  have hl := SL_list h.1
  have hx0 : 0 < xs.length := h.1.2.1
  have c0 : w.cell? ⟨L, 0, none⟩ = some (.pointer (some ⟨(xs.getD 0 default).b, 0, none⟩)) := by rw [cell_of_row _ _ _ _ _ _ hl]; rfl
  have hlt : L < w.heap.size := (Array.getElem?_eq_some_iff.1 hl).1
  have hlv0 : (xs.getD 0 default).it.lv = 8 := by rw [h.2.1]
  have HS := Aside0.mk h
  obtain ⟨b0, hb0⟩ : ∃ b, (xs.getD 0 default).b = b := ⟨_, rfl⟩
  rw [hb0] at c0
  obtain ⟨g, hg⟩ : ∃ g, w.heap.size = g := ⟨_, rfl⟩
  obtain ⟨w2, hw2⟩ : ∃ w2, (w.alloc arr0).alloc arr0 = w2 := ⟨_, rfl⟩
  have hb2 : Below w.heap.size w w2 := by rw [← hw2]; exact below_alloc (below_alloc (Below.refl _ _) _) _
  have hg4 : w2.heap[g]? = some arr0 := by
    rw [← hw2, ← hg]
    exact ((below_alloc (Below.refl (w.alloc arr0).heap.size (w.alloc arr0)) arr0).block _ (by rw [World.size_alloc]; omega)).trans (heap_alloc_new w arr0)
  have hg5 : w2.heap[g + 1]? = some arr0 := by
    have h9 := heap_alloc_new (w.alloc arr0) arr0
    rw [World.size_alloc, hw2, hg] at h9
    exact h9
  have c2 := pw_cell_below hb2 c0
  have HB2 := Aside0.mk hb2
  have HG4 := Aside0.mk hg4
  have HG5 := Aside0.mk hg5
  clear hb2 hg4 hg5 c0
  obtain ⟨p, hp⟩ : ∃ p, atS (xs.tail.map Nd.it) key = p := ⟨_, rfl⟩
  have HP := Aside0.mk hp
  rw [hp]
  clear h hl hp
  go_enter Try.func55, Try.ntmps55
  go_wp2_with fail
  refine Go.wp_scope_goto2 0 (fun a' w' => ∃ (i r b : Nat) (u8 u9 u10 u11 u12 u13 u14 u15 u16 u17 u18 u19 u20 u21 u22 u23 u24 u25 u26 u27 u28 u29 u30 u31 u32 u33 u34 u35 u36 u37 u38 : Value), a' = { tmps := #[.pointer (some ⟨L, 0, none⟩), .string key, undef, undef, .pointer (some ⟨g, 0, none⟩), .pointer (some ⟨g + 1, 0, none⟩), .pointer (some ⟨b, 0, none⟩), .int .i64 r, u8, u9, u10, u11, u12, u13, u14, u15, u16, u17, u18, u19, u20, u21, u22, u23, u24, u25, u26, u27, u28, u29, u30, u31, u32, u33, u34, u35, u36, u37, u38], defers := [] } ∧ r < 8 ∧ Aside0 (i < xs.length ∧ i ≤ p ∧ r < (xs.getD i default).it.lv ∧ (xs.getD i default).b = b) ∧
      w'.heap[g]? = some (arrBox fun _ => none) ∧ w'.heap[g + 1]? = some (arrBox (outG xs p (r + 1))) ∧ Aside0 (Below w.heap.size w w')) (fun a' _ => (intOf (a'.tmps.getD 7 undef)).toNat * (xs.length + 1) + (xs.length - posB xs (ptrB (a'.tmps.getD 6 undef)))) ?hf ?first ?pass
  case hf => rfl
  case first =>
    intro X Q1 hX
    go_wp2
    refine hX _ _ ⟨0, 7, b0, _, _, _, _, _, _, _, _, _, _, _, _, _, _, _, _, _, _, _, _, _, _, _, _, _, _, _, _, _, _, _, rfl, by omega, ⟨hx0, Nat.zero_le _, by rw [hlv0]; omega, hb0⟩, HG4.out, ?_, HB2⟩
    rw [HG5.out]
    refine congrArg some (show arrBox (fun _ => none) = arrBox _ from ?_)
    unfold arrBox
    have e : ((List.range 8).map fun r => pv (none : Option Nat)) = ((List.range 8).map fun r' => pv (outG xs p (7 + 1) r')) := List.map_congr_left fun r hr => by unfold outG; rw [if_neg (by have := List.mem_range.1 hr; omega)]
    rw [e]
  case pass =>
    rintro a' w' ⟨i, r, b, u8, u9, u10, u11, u12, u13, u14, u15, u16, u17, u18, u19, u20, u21, u22, u23, u24, u25, u26, u27, u28, u29, u30, u31, u32, u33, u34, u35, u36, u37, u38, rfl, hr8, HI, hb4, hb5, HB⟩
    have HSK : Aside0 (SK w' L xs) := ⟨SL_below HS.out.1 HB.out, HS.out.2⟩
    obtain ⟨hi, hip, hri, hbi⟩ := HI.out
    have hn := SL_node HSK.out.1 i hi
    obtain ⟨-, -, n2⟩ := node_cells hn
    have hrow := node_row hn r hri
    have hst := ahead_step HSK.out key i r hi (by rw [HP.out]; exact hip) hri
    rw [HP.out] at hst
    obtain ⟨nb, hnb⟩ : ∃ nb, (xs.getD i default).nb = nb := ⟨_, rfl⟩
    obtain ⟨lv, hlv⟩ : ∃ lv, (xs.getD i default).it.lv = lv := ⟨_, rfl⟩
    rw [hbi, hnb, hlv] at n2
    rw [hnb] at hrow
    rw [hlv] at hri
    have HLV := Aside0.mk hlv
    have H4 := Aside0.mk hb4
    have H5 := Aside0.mk hb5
    have hpi := posB_at (List.nodup_cons.1 HSK.out.1.2.2.2).2 i hi
    rw [hbi] at hpi
    have HPI := Aside0.mk hpi
    have HBI := Aside0.mk hbi
    have j1 : (0 : Int) ≤ (r : Int) := by omega
    have j2 : (r : Int) < (lv : Int) := by omega
    have HII := Aside0.mk (show i < xs.length ∧ i ≤ p from ⟨hi, hip⟩)
    clear hb4 hb5 hpi hbi hnb hlv HI hn hi hip
    rcases hst with ⟨j, h1, h2, h3, h4, h5, h6⟩ | ⟨h1, h2⟩
    · rw [h5] at hrow
      obtain ⟨m0, -, -⟩ := node_cells (SL_node HSK.out.1 j h2)
      have hpj := posB_at (List.nodup_cons.1 HSK.out.1.2.2.2).2 j h2
      have HJ := Aside0.mk (show i < j ∧ j < xs.length ∧ j ≤ p ∧ r < (xs.getD j default).it.lv from ⟨h1, h2, h3, h4⟩)
      obtain ⟨bj, hbj⟩ : ∃ bj, (xs.getD j default).b = bj := ⟨_, rfl⟩
      obtain ⟨kj, hkj⟩ : ∃ kj, (xs.getD j default).it.k = kj := ⟨_, rfl⟩
      rw [hbj] at hrow m0 hpj
      rw [hkj] at m0 h6
      have hrow' : w'.cell? ⟨nb, r, none⟩ = some (.pointer (some ⟨bj, 0, none⟩)) := hrow
      have HPJ := Aside0.mk hpj
      have HBJ := Aside0.mk hbj
      clear hrow h1 h2 h3 h4 h5 hpj hbj hkj
      go_wp2_with fail
      go_step3
      refine ⟨rfl, ⟨j, r, bj, _, _, _, _, _, _, _, _, _, _, _, _, _, _, _, _, _, _, _, _, _, _, _, _, _, _, _, _, _, _, _, rfl, hr8, ⟨HJ.out.2.1, HJ.out.2.2.1, HJ.out.2.2.2, HBJ.out⟩, H4.out, H5.out, HB⟩, ?_⟩
      obtain ⟨q1, q2, q3, q4⟩ := HJ.out
      have e6 : posB xs (ptrB (.pointer (some ⟨bj, 0, none⟩))) = j := HPJ.out
      have e7 : posB xs (ptrB (.pointer (some ⟨b, 0, none⟩))) = i := HPI.out
      show (intOf (.int .i64 (r : Int))).toNat * (xs.length + 1) + (xs.length - posB xs (ptrB (.pointer (some ⟨bj, 0, none⟩)))) < (intOf (.int .i64 (r : Int))).toNat * (xs.length + 1) + (xs.length - posB xs (ptrB (.pointer (some ⟨b, 0, none⟩))))
      rw [e6, e7]
      exact Nat.add_lt_add_left (by omega) _
    · rcases h2 with h2 | ⟨j, h2, h3, h4⟩
      · rw [h2] at hrow
        have hrow' : w'.cell? ⟨nb, r, none⟩ = some (.pointer none) := hrow
        clear hrow h2
        obtain ⟨x5, f5⟩ := arr_cell H5.out r hr8
        have hwb : Below w.heap.size w (w'.setCell ⟨g + 1, r, none⟩ (.pointer (some ⟨b, 0, none⟩))) := below_set HB.out (by omega)
        have hs5 := out_set H5.out hr8 (show (xs.getD (la xs (p + 1) r) default).b = b by rw [h1]; exact HBI.out)
        have hs4 : (w'.setCell ⟨g + 1, r, none⟩ (.pointer (some ⟨b, 0, none⟩))).heap[g]? = some (arrBox fun _ => none) := (Below.heap_setCell w' _ _ _ (by show g ≠ g + 1; omega)).trans H4.out
        obtain ⟨W3, hW3⟩ : ∃ W3, w'.setCell ⟨g + 1, r, none⟩ (.pointer (some ⟨b, 0, none⟩)) = W3 := ⟨_, rfl⟩
        rw [hW3] at hwb hs5 hs4
        have HWB := Aside0.mk hwb
        have HS5 := Aside0.mk hs5
        have HS4 := Aside0.mk hs4
        clear hwb hs5 hs4 h1
        cases r with
        | zero =>
          go_wp2_with first
            | ((with_reducible refine gate_dst (N := 38) rfl ?_); refine wpList_load_row rfl 95 (.tmp 5) rfl (g + 1) rfl _ _ _ _ HS5.out Try.underlying95 rfl infoArr ?_)
            | (refine wpList_store_row rfl 95 (.tmp 4) (.tmp 38) rfl g _ rfl rfl _ _ HS4.out infoArr rfl (by simp [Value.oneCell', pv]) ?_)
          simp only [Exit.jump]
          refine bodyPost_ret (results_cell_row rfl _ _ g _ #[pv (outG xs p 0 0), pv (outG xs p 0 1), pv (outG xs p 0 2), pv (outG xs p 0 3), pv (outG xs p 0 4), pv (outG xs p 0 5), pv (outG xs p 0 6), pv (outG xs p 0 7)] _ _ rfl (setRow_heap W3 g _ _ _ _ HS4.out) Try.underlying95 rfl infoArr) rfl ?_
          refine ⟨?_, below_row HWB.out (by omega) _⟩
          unfold aheadV outG
          simp
          rfl
        | succ r' =>
          go_wp2_with fail
          go_step3
          refine ⟨rfl, ⟨i, r', b, _, _, _, _, _, _, _, _, _, _, _, _, _, _, _, _, _, _, _, _, _, _, _, _, _, _, _, _, _, _, _, rfl, by omega, ⟨HII.out.1, HII.out.2, by rw [HLV.out]; omega, HBI.out⟩, HS4.out, HS5.out, HWB⟩, ?_⟩
          show r' * (xs.length + 1) + (xs.length - posB xs b) < (r' + 1) * (xs.length + 1) + (xs.length - posB xs b)
          rw [Nat.succ_mul]
          generalize r' * (xs.length + 1) = X
          omega
      · rw [h3] at hrow
        obtain ⟨m0, -, -⟩ := node_cells (SL_node HSK.out.1 j h2)
        obtain ⟨bj, hbj⟩ : ∃ bj, (xs.getD j default).b = bj := ⟨_, rfl⟩
        obtain ⟨kj, hkj⟩ : ∃ kj, (xs.getD j default).it.k = kj := ⟨_, rfl⟩
        rw [hbj] at hrow m0
        rw [hkj] at m0 h4
        have hrow' : w'.cell? ⟨nb, r, none⟩ = some (.pointer (some ⟨bj, 0, none⟩)) := hrow
        clear hrow h2 h3 hbj hkj
        obtain ⟨x5, f5⟩ := arr_cell H5.out r hr8
        have hwb : Below w.heap.size w (w'.setCell ⟨g + 1, r, none⟩ (.pointer (some ⟨b, 0, none⟩))) := below_set HB.out (by omega)
        have hs5 := out_set H5.out hr8 (show (xs.getD (la xs (p + 1) r) default).b = b by rw [h1]; exact HBI.out)
        have hs4 : (w'.setCell ⟨g + 1, r, none⟩ (.pointer (some ⟨b, 0, none⟩))).heap[g]? = some (arrBox fun _ => none) := (Below.heap_setCell w' _ _ _ (by show g ≠ g + 1; omega)).trans H4.out
        obtain ⟨W3, hW3⟩ : ∃ W3, w'.setCell ⟨g + 1, r, none⟩ (.pointer (some ⟨b, 0, none⟩)) = W3 := ⟨_, rfl⟩
        rw [hW3] at hwb hs5 hs4
        have HWB := Aside0.mk hwb
        have HS5 := Aside0.mk hs5
        have HS4 := Aside0.mk hs4
        clear hwb hs5 hs4 h1
        cases r with
        | zero =>
          go_wp2_with first
            | ((with_reducible refine gate_dst (N := 38) rfl ?_); refine wpList_load_row rfl 95 (.tmp 5) rfl (g + 1) rfl _ _ _ _ HS5.out Try.underlying95 rfl infoArr ?_)
            | (refine wpList_store_row rfl 95 (.tmp 4) (.tmp 38) rfl g _ rfl rfl _ _ HS4.out infoArr rfl (by simp [Value.oneCell', pv]) ?_)
          simp only [Exit.jump]
          refine bodyPost_ret (results_cell_row rfl _ _ g _ #[pv (outG xs p 0 0), pv (outG xs p 0 1), pv (outG xs p 0 2), pv (outG xs p 0 3), pv (outG xs p 0 4), pv (outG xs p 0 5), pv (outG xs p 0 6), pv (outG xs p 0 7)] _ _ rfl (setRow_heap W3 g _ _ _ _ HS4.out) Try.underlying95 rfl infoArr) rfl ?_
          refine ⟨?_, below_row HWB.out (by omega) _⟩
          unfold aheadV outG
          simp
          rfl
        | succ r' =>
          go_wp2_with fail
          go_step3
          refine ⟨rfl, ⟨i, r', b, _, _, _, _, _, _, _, _, _, _, _, _, _, _, _, _, _, _, _, _, _, _, _, _, _, _, _, _, _, _, _, rfl, by omega, ⟨HII.out.1, HII.out.2, by rw [HLV.out]; omega, HBI.out⟩, HS4.out, HS5.out, HWB⟩, ?_⟩
          show r' * (xs.length + 1) + (xs.length - posB xs b) < (r' + 1) * (xs.length + 1) + (xs.length - posB xs b)
          rw [Nat.succ_mul]
          generalize r' * (xs.length + 1) = X
          omega
end Go.Proofs.Ytheoodbkjgfdfaa.A.M
/- A key's node. -/
namespace Go.Proofs.Ytheoodbkjgfdfaa.A.M
open Go.RowKit Go.Proofs.YtheoodbkjgfdfaaW.PrintWords Go.Proofs.YtheoodbkjgfdfaaW.PrintLast Go.Proofs.YtheoodbkjgfdfaaW.PrintMore
set_option linter.unusedVariables false
set_option linter.unusedSimpArgs false

theorem idx_arr (cs : Array Value) (r : Nat) (hr : r < 8) (hs : cs.size = 8) (W : World) : (Instr.index 95 (.agg cs) (.int .i64 (r : Int))).run Try.prog W = .ok (cs.getD r undef) W := by
  obtain ⟨i, hi, hz, hss, hb⟩ := info_parts infoNp
  have h : Try.prog.underlying 95 = some (.array 8 80) := Try.underlying95
  have h0 : (0 : Int) ≤ (r : Int) ∧ (r : Int) < 8 := by omega
  simp [Instr.index, run_underlying h, asIntOf, go_sem, h0, hi, hss, sizeOf, typeInfo, hr, hs]
theorem sk_lv {W : World} {L : Nat} {xs : List Nd} (h : SK W L xs) (i : Nat) (hi : i < xs.length) : 1 ≤ (xs.getD i default).it.lv ∧ (xs.getD i default).it.lv ≤ 8 := by
  cases i with
  | zero => rw [h.2.1]; exact ⟨by decide, by decide⟩
  | succ j =>
    rw [tail_at]
    exact h.2.2.2 _ (getD_memI _ j (by rw [tail_len]; omega))
theorem sk_p {W : World} {L : Nat} {xs : List Nd} (h : SK W L xs) (key : ByteArray) : atS (xs.tail.map Nd.it) key < xs.length := by
  have h1 := atS_le (xs.tail.map Nd.it) key
  rw [tail_len] at h1
  have := h.1.2.1
  omega
theorem la0 {W : World} {L : Nat} {xs : List Nd} (h : SK W L xs) (p : Nat) (hp : p < xs.length) : la xs (p + 1) 0 = p := by
  rw [la, if_pos (show 0 < (xs.getD p default).it.lv by have := (sk_lv h p hp).1; omega)]
theorem nx0 {W : World} {L : Nat} {xs : List Nd} (h : SK W L xs) (p : Nat) : nx xs p 0 = if p + 1 < xs.length then some (xs.getD (p + 1) default).b else none := by
  unfold nx
  split
  · rename_i hp
    have e : xs.drop (p + 1) = xs.getD (p + 1) default :: xs.drop (p + 1 + 1) := by
      rw [List.drop_eq_getElem_cons hp, List.getD_eq_getElem?_getD, List.getElem?_eq_getElem hp]
      rfl
    rw [e, nxt, if_pos (show 0 < (xs.getD (p + 1) default).it.lv by have := (sk_lv h _ hp).1; omega)]
  · rw [List.drop_of_length_le (by omega)]
    rfl
/-- A key's node, if it is there. -/
def findB (xs : List Nd) (key : ByteArray) : Option Nat := if isS (xs.tail.map Nd.it) key then some (xs.getD (atS (xs.tail.map Nd.it) key + 1) default).b else none
theorem ahead_form (xs : List Nd) (p : Nat) : ∃ d1 d2 d3 d4 d5 d6 d7 : Nat, aheadV xs p = .agg #[.pointer (some ⟨(xs.getD (la xs (p + 1) 0) default).b, 0, none⟩), .pointer (some ⟨d1, 0, none⟩), .pointer (some ⟨d2, 0, none⟩), .pointer (some ⟨d3, 0, none⟩), .pointer (some ⟨d4, 0, none⟩), .pointer (some ⟨d5, 0, none⟩), .pointer (some ⟨d6, 0, none⟩), .pointer (some ⟨d7, 0, none⟩)] := ⟨_, _, _, _, _, _, _, rfl⟩
set_option maxRecDepth 100000 in
set_option maxHeartbeats 2000000 in
theorem find_calls (w : World) (L : Nat) (xs : List Nd) (key : ByteArray) (h : SK w L xs) :
    Calls Try.prog 51 #[.pointer (some ⟨L, 0, none⟩), .string key] w fun e w' => e = .returned (pv (findB xs key)) ∧ Below w.heap.size w w' := by
  have HA := Aside0.mk (ahead_calls w L xs key h)
  have hp := sk_p h key
  have hl0 := la0 h _ hp
  have hn0 := nx0 h (atS (xs.tail.map Nd.it) key)
  have hlv := sk_lv h _ hp
  have HS := Aside0.mk h
  obtain ⟨d1, d2, d3, d4, d5, d6, d7, e8⟩ := ahead_form xs (atS (xs.tail.map Nd.it) key)
  rw [e8, hl0] at HA
  have hF : findB xs key = if isS (xs.tail.map Nd.it) key then some (xs.getD (atS (xs.tail.map Nd.it) key + 1) default).b else none := rfl
  have hI : isS (xs.tail.map Nd.it) key = (decide (atS (xs.tail.map Nd.it) key < xs.length - 1) && ((xs.getD (atS (xs.tail.map Nd.it) key + 1) default).it.k.toList == key.toList)) := by
    unfold isS
    rw [tail_len, tail_at]
  obtain ⟨p, hpp⟩ : ∃ p, atS (xs.tail.map Nd.it) key = p := ⟨_, rfl⟩
  rw [hpp] at HA hp hn0 hlv hF hI
  obtain ⟨b, hb⟩ : ∃ b, (xs.getD p default).b = b := ⟨_, rfl⟩
  obtain ⟨nb, hnb⟩ : ∃ nb, (xs.getD p default).nb = nb := ⟨_, rfl⟩
  obtain ⟨lv, hlvv⟩ : ∃ lv, (xs.getD p default).it.lv = lv := ⟨_, rfl⟩
  rw [hb] at HA
  rw [hlvv] at hlv
  have hlv1 := hlv.1
  have HF := Aside0.mk hF
  have HI := Aside0.mk hI
  have HQ := Aside0.mk (show p < xs.length ∧ (xs.getD p default).b = b ∧ (xs.getD p default).nb = nb ∧ (xs.getD p default).it.lv = lv ∧ nx xs p 0 = if p + 1 < xs.length then some (xs.getD (p + 1) default).b else none from ⟨hp, hb, hnb, hlvv, hn0⟩)
  clear e8 hl0 h hn0 hF hI hpp hb hnb hlvv hlv hp
  have hix : ∀ W : World, (Instr.index 95 (.agg #[.pointer (some ⟨b, 0, none⟩), .pointer (some ⟨d1, 0, none⟩), .pointer (some ⟨d2, 0, none⟩), .pointer (some ⟨d3, 0, none⟩), .pointer (some ⟨d4, 0, none⟩), .pointer (some ⟨d5, 0, none⟩), .pointer (some ⟨d6, 0, none⟩), .pointer (some ⟨d7, 0, none⟩)]) (.int .i64 0)).run Try.prog W = .ok (.pointer (some ⟨b, 0, none⟩)) W := fun W => idx_arr _ 0 (by omega) rfl W
  go_enter Try.func51, Try.ntmps51
  go_wp2_with fail
  (with_reducible refine HA.out.mono ?_)
  rintro e w1 ⟨rfl, hb1⟩
  have HB1 := Aside0.mk hb1
  have HS1 : Aside0 (SK w1 L xs) := ⟨SL_below HS.out.1 hb1, HS.out.2⟩
  obtain ⟨q1, q2, q3, q4, q5⟩ := HQ.out
  have hn := SL_node HS1.out.1 p q1
  obtain ⟨-, -, n2⟩ := node_cells hn
  have hrow := node_row hn 0 (by omega)
  rw [q2, q3, q4] at n2
  rw [q3, q5] at hrow
  have j1 : (0 : Int) < (lv : Int) := by omega
  clear hb1 hn q1 q2 q3 q4 q5 HA
  by_cases hlast : p + 1 < xs.length
  · rw [if_pos hlast] at hrow
    obtain ⟨m0, -, -⟩ := node_cells (SL_node HS1.out.1 (p + 1) hlast)
    obtain ⟨bj, hbj⟩ : ∃ bj, (xs.getD (p + 1) default).b = bj := ⟨_, rfl⟩
    obtain ⟨kj, hkj⟩ : ∃ kj, (xs.getD (p + 1) default).it.k = kj := ⟨_, rfl⟩
    have hI := HI.out
    have hF := HF.out
    rw [hbj] at hrow m0 hF
    rw [hkj] at m0 hI
    have hrow' : w1.cell? ⟨nb, 0, none⟩ = some (.pointer (some ⟨bj, 0, none⟩)) := hrow
    by_cases he : kj = key
    · subst he
      rw [decide_eq_true (by omega), show (kj.toList == kj.toList) = true by simp] at hI
      rw [hI] at hF
      have HF2 := Aside0.mk hF
      clear hrow hbj hkj hI hF HF HI
      go_wp2_with fail
      go_ret
      exact ⟨by rw [HF2.out]; rfl, HB1.out⟩
    · rw [show (kj.toList == key.toList) = false by rw [beq_eq_false_iff_ne]; exact fun e => he (toL_inj e), Bool.and_false] at hI
      rw [hI] at hF
      have HF2 := Aside0.mk hF
      have hne : (kj.toList == key.toList) = false := by rw [beq_eq_false_iff_ne]; exact fun e => he (toL_inj e)
      clear hrow hbj hkj hI hF HF HI
      go_wp2_with fail
      go_ret
      exact ⟨by rw [HF2.out]; rfl, HB1.out⟩
  · rw [if_neg hlast] at hrow
    have hI := HI.out
    have hF := HF.out
    rw [decide_eq_false (by omega), Bool.false_and] at hI
    rw [hI] at hF
    have HF2 := Aside0.mk hF
    have hrow' : w1.cell? ⟨nb, 0, none⟩ = some (.pointer none) := hrow
    clear hrow hI hF HF HI
    go_wp2_with fail
    go_ret
    exact ⟨by rw [HF2.out]; rfl, HB1.out⟩
end Go.Proofs.Ytheoodbkjgfdfaa.A.M
/- A key's thing; how many keys; the last key up to one. -/
namespace Go.Proofs.Ytheoodbkjgfdfaa.A.M
open Go.RowKit Go.Proofs.YtheoodbkjgfdfaaW.PrintWords Go.Proofs.YtheoodbkjgfdfaaW.PrintLast Go.Proofs.YtheoodbkjgfdfaaW.PrintMore
set_option linter.unusedVariables false
set_option linter.unusedSimpArgs false

/-- A key's thing, by definition. -/
def getS (l : List It) (key : ByteArray) : Sl × Bool := if isS l key then ((l.getD (atS l key) default).v, true) else (Sl0, false)
theorem isS_lt {l : List It} {key : ByteArray} (h : isS l key = true) : atS l key < l.length ∧ (l.getD (atS l key) default).k = key := by
  unfold isS at h
  simp only [Bool.and_eq_true, decide_eq_true_eq, beq_iff_eq] at h
  exact ⟨h.1, toL_inj h.2⟩
set_option maxHeartbeats 1000000 in
theorem get_calls (w : World) (L : Nat) (xs : List Nd) (key : ByteArray) (h : SK w L xs) :
    Calls Try.prog 27 #[.pointer (some ⟨L, 0, none⟩), .string key] w fun e w' => e = .returned (.tuple #[.slice (getS (xs.tail.map Nd.it) key).1.A (getS (xs.tail.map Nd.it) key).1.n (getS (xs.tail.map Nd.it) key).1.c, .bool (getS (xs.tail.map Nd.it) key).2]) ∧ Below w.heap.size w w' := by
  have hf := find_calls w L xs key h
  have HS := Aside0.mk h
  clear h
  cases hi : isS (xs.tail.map Nd.it) key with
  | false =>
    have e1 : findB xs key = none := by unfold findB; rw [hi]; rfl
    have e2 : getS (xs.tail.map Nd.it) key = (Sl0, false) := by unfold getS; rw [hi]; rfl
    rw [e1] at hf
    rw [e2]
    have hf' : Calls Try.prog 51 #[.pointer (some ⟨L, 0, none⟩), .string key] w fun e w' => e = .returned (.pointer none) ∧ Below w.heap.size w w' := hf
    have HF := Aside0.mk hf'
    clear hf hf' e1 e2 hi
    go_enter Try.func27, Try.ntmps27
    go_wp2_with fail
    (with_reducible refine HF.out.mono ?_)
    rintro e w1 ⟨rfl, hb1⟩
    have HB1 := Aside0.mk hb1
    clear hb1
    go_wp2_with fail
    go_ret2
    exact ⟨rfl, HB1.out⟩
  | true =>
    obtain ⟨h1, h2⟩ := isS_lt hi
    rw [tail_len] at h1
    obtain ⟨b, hb⟩ : ∃ b, (xs.getD (atS (xs.tail.map Nd.it) key + 1) default).b = b := ⟨_, rfl⟩
    obtain ⟨v, hv⟩ : ∃ v, (xs.getD (atS (xs.tail.map Nd.it) key + 1) default).it.v = v := ⟨_, rfl⟩
    have e1 : findB xs key = some b := by unfold findB; rw [hi, if_pos rfl, hb]
    have e2 : getS (xs.tail.map Nd.it) key = (v, true) := by unfold getS; rw [hi, if_pos rfl, ← tail_at, hv]
    rw [e1] at hf
    rw [e2]
    have hf' : Calls Try.prog 51 #[.pointer (some ⟨L, 0, none⟩), .string key] w fun e w' => e = .returned (.pointer (some ⟨b, 0, none⟩)) ∧ Below w.heap.size w w' := hf
    have HF := Aside0.mk hf'
    have HN : Aside0 (∀ W, SK W L xs → W.cell? ⟨b, 1, none⟩ = some (.slice v.A v.n v.c)) := ⟨fun W hW => by
      obtain ⟨-, m1, -⟩ := node_cells (SL_node hW.1 (atS (xs.tail.map Nd.it) key + 1) (by omega))
      rw [hb, hv] at m1
      exact m1⟩
    clear hf hf' e1 e2 hi h1 h2 hb hv
    go_enter Try.func27, Try.ntmps27
    go_wp2_with fail
    (with_reducible refine HF.out.mono ?_)
    rintro e w1 ⟨rfl, hb1⟩
    have HB1 := Aside0.mk hb1
    have m1 := HN.out w1 ⟨SL_below HS.out.1 hb1, HS.out.2⟩
    clear hb1
    go_wp2_with fail
    go_ret2
    exact ⟨rfl, HB1.out⟩
end Go.Proofs.Ytheoodbkjgfdfaa.A.M
/- The keys of a level. -/
namespace Go.Proofs.Ytheoodbkjgfdfaa.A.M
open Go.RowKit Go.Proofs.YtheoodbkjgfdfaaW.PrintWords Go.Proofs.YtheoodbkjgfdfaaW.PrintLast Go.Proofs.YtheoodbkjgfdfaaW.PrintMore
set_option linter.unusedVariables false
set_option linter.unusedSimpArgs false

/-- The keys of nodes that have a row. -/
def keysR (l : List Nd) (r : Nat) : List ByteArray := (l.filter fun n => decide (r < n.it.lv)).map fun n => n.it.k
theorem keysR_append (l m : List Nd) (r : Nat) : keysR (l ++ m) r = keysR l r ++ keysR m r := by simp [keysR]
theorem keysR_none {l : List Nd} {r : Nat} (h : ∀ n ∈ l, ¬ r < n.it.lv) : keysR l r = [] := by
  unfold keysR
  rw [List.filter_eq_nil_iff.2 (fun n hn => by simpa using h n hn)]
  rfl
theorem getD_idx (xs : List Nd) (i : Nat) (hi : i < xs.length) : xs.getD i default = xs[i] := by rw [List.getD_eq_getElem?_getD, List.getElem?_eq_getElem hi]; rfl
/-- The next node of a row, and the keys that are left. -/
theorem row_next (xs : List Nd) (r i : Nat) (hi : i < xs.length) :
    (nx xs i r = none ∧ keysR (xs.drop (i + 1)) r = []) ∨ ∃ j, i < j ∧ j < xs.length ∧ nx xs i r = some (xs.getD j default).b ∧ r < (xs.getD j default).it.lv ∧ keysR (xs.drop (i + 1)) r = (xs.getD j default).it.k :: keysR (xs.drop (j + 1)) r := by
  rcases nxt_some xs r _ (i + 1) rfl (by omega) with ⟨h1, h2⟩ | ⟨j, h1, h2, h3, h4, h5⟩
  · refine .inl ⟨h1, keysR_none fun n hn => ?_⟩
    obtain ⟨k, hk, rfl⟩ := List.mem_iff_getElem.1 hn
    rw [List.length_drop] at hk
    rw [List.getElem_drop, ← getD_idx xs (i + 1 + k) (by omega)]
    exact h2 _ (by omega) (by omega)
  · refine .inr ⟨j, by omega, h2, h3, h4, ?_⟩
    have e : xs.drop (i + 1) = (xs.drop (i + 1)).take (j - (i + 1)) ++ (xs.getD j default :: xs.drop (j + 1)) := by
      have e2 : xs.getD j default :: xs.drop (j + 1) = xs.drop j := by rw [List.drop_eq_getElem_cons h2, getD_idx xs j h2]
      rw [e2]
      have e3 : xs.drop j = (xs.drop (i + 1)).drop (j - (i + 1)) := by rw [List.drop_drop, show i + 1 + (j - (i + 1)) = j by omega]
      rw [e3, List.take_append_drop]
    rw [e, keysR_append, keysR_none (l := (xs.drop (i + 1)).take (j - (i + 1))) (fun n hn => ?_), List.nil_append]
    · unfold keysR
      rw [List.filter_cons_of_pos (by simpa using h4)]
      rfl
    · obtain ⟨k, hk, rfl⟩ := List.mem_iff_getElem.1 hn
      rw [List.length_take, List.length_drop] at hk
      rw [List.getElem_take, List.getElem_drop, ← getD_idx xs (i + 1 + k) (by omega)]
      exact h5 _ (by omega) (by omega)
theorem keysR_row (xs : List Nd) (r : Nat) (hr : r < 8) : keysR xs.tail r = rowS (xs.tail.map Nd.it) ((r : Int) + 1) := by
  unfold rowS keysR
  rw [if_pos (by omega), List.filter_map, List.map_map]
  congr 1
  apply List.filter_congr
  intro n _
  simp only [Function.comp]
  exact decide_eq_decide.2 (by omega)
abbrev OStr (w : World) (B : Nat) (v : Value) (l : List ByteArray) : Prop := OR Kd.string 9 w B v l
theorem infoStr : (Try.prog.info? 9).map (fun i => (i.zero, i.size, i.bytes)) = some (some (.string ByteArray.empty), 1, 16) := by kernel_rfl
section
variable {ops : Array Oper} {rest : List Oper} {o : Oper} {a : Act} {Q : Exit → Act → World → Prop} {W : World} {B : Nat}
theorem app_key {s x : Operand} (hgd : o.guard = none) (ho : o.op = .call { callee := .builtin .append, args := #[s, x], argTypes := #[43, 43] }) {v : Value} {xs : List ByteArray} {k : ByteArray}
    (hs : a.eval s = v) (hx : a.eval x = .slice (some ⟨W.heap.size, 0, none⟩) 1 1) (HO : OStr W B v xs) (hB : B ≤ W.heap.size) (hl : xs.length ≤ 1000000)
    (h : ∀ v1 w1, OStr w1 B v1 (xs ++ [k]) → Below B W w1 → W.grownBy w1 v.ownBlock → wpList Try.prog ops Q rest (a.put o.dst v1) w1) : wpList Try.prog ops Q (o :: rest) a (W.alloc (.cells #[.string k] 9)) :=
  app_one Kd.string 43 9 (.string ByteArray.empty) 16 Try.underlying43 infoStr rfl (by decide) (by decide) hgd ho hs hx (fun okp => rfl) HO hB (by omega) h
end
/-- How many nodes are left from a pointer on. -/
def leftB (xs : List Nd) : Value → Nat
  | .pointer (some a) => xs.length - posB xs a.block
  | _ => 0
theorem left_nx {xs : List Nd} (h : (blks xs).Nodup) (r j : Nat) (hj : j < xs.length) : leftB xs (pv (nx xs j r)) < xs.length - j := by
  rcases row_next xs r j hj with ⟨h1, -⟩ | ⟨k, h1, h2, h3, -, -⟩
  · rw [h1]
    show 0 < _
    omega
  · rw [h3]
    show xs.length - posB xs (xs.getD k default).b < _
    rw [posB_at h k h2]
    omega
set_option maxRecDepth 100000 in
set_option maxHeartbeats 2000000 in
theorem row_calls (w : World) (L : Nat) (xs : List Nd) (level : Int) (h : SK w L xs) (hmx : xs.length ≤ 100000) (hl0 : -9223372036854775808 ≤ level) (hl1 : level ≤ 9223372036854775807) :
    Calls Try.prog 40 #[.pointer (some ⟨L, 0, none⟩), .int .i64 level] w fun e w' => ∃ v, e = .returned v ∧ OStr w' w.heap.size v (rowS (xs.tail.map Nd.it) level) ∧ Below w.heap.size w w' := by
  by_cases hb1 : level < 1
  · have e1 : rowS (xs.tail.map Nd.it) level = [] := by unfold rowS; rw [if_neg (by omega)]
    rw [e1]
    clear e1 h
    go_enter Try.func40, Try.ntmps40
    go_wp2
    go_ret
    exact ⟨_, rfl, Kd.R_nil _ _ _ _ _, Below.refl _ _⟩
  by_cases hb8 : 8 < level
  · have e1 : rowS (xs.tail.map Nd.it) level = [] := by unfold rowS; rw [if_neg (by omega)]
    rw [e1]
    clear e1 h
    go_enter Try.func40, Try.ntmps40
    go_wp2
    go_ret
    exact ⟨_, rfl, Kd.R_nil _ _ _ _ _, Below.refl _ _⟩
  obtain ⟨r, hr⟩ : ∃ r : Nat, level = (r : Int) + 1 := ⟨(level - 1).toNat, by omega⟩
  subst hr
  have hr8 : r < 8 := by omega
  have hkr := keysR_row xs r hr8
  rw [← hkr]
  have HS := Aside0.mk h
  have hx0 := h.1.2.1
  have hlv0 : (xs.getD 0 default).it.lv = 8 := by rw [h.2.1]
  obtain ⟨b0, hb0⟩ : ∃ b, (xs.getD 0 default).b = b := ⟨_, rfl⟩
  obtain ⟨nb0, hnb0⟩ : ∃ b, (xs.getD 0 default).nb = b := ⟨_, rfl⟩
  have c0 : w.cell? ⟨L, 0, none⟩ = some (.pointer (some ⟨b0, 0, none⟩)) := by rw [cell_of_row _ _ _ _ _ _ (SL_list h.1), ← hb0]; rfl
  obtain ⟨-, -, n2⟩ := node_cells (SL_node h.1 0 hx0)
  have hrow := node_row (SL_node h.1 0 hx0) r (by rw [hlv0]; exact hr8)
  rw [hb0, hnb0, hlv0] at n2
  rw [hnb0] at hrow
  have j1 : ¬ (r : Int) + 1 < 1 := by omega
  have j2 : ¬ (8 : Int) < (r : Int) + 1 := by omega
  have j3 : (0 : Int) ≤ (r : Int) := by omega
  have j4 : (r : Int) < 8 := by omega
  have j5 : IntKind.i64.wrap (r : Int) = (r : Int) := IntWalk.i64_in _ (by omega)
  obtain ⟨u0, hu0⟩ : ∃ u, pv (nx xs 0 r) = u := ⟨_, rfl⟩
  have hrow' : w.cell? ⟨nb0, r, none⟩ = some u0 := by rw [← hu0]; exact hrow
  have HU := Aside0.mk hu0
  have HT : Aside0 (xs.tail = xs.drop 1) := ⟨by simp⟩
  clear h hkr hb0 hnb0 hrow hu0 hb1 hb8 hlv0
  go_enter Try.func40, Try.ntmps40
  go_wp2_with fail
  clear c0 n2 hrow'
  go_loopw [5, 6] (fun v5 v6 w' => ∃ (i : Nat) (X : List ByteArray), v6 = pv (nx xs i r) ∧ Aside0 (i < xs.length ∧ X.length ≤ i ∧ X ++ keysR (xs.drop (i + 1)) r = keysR xs.tail r) ∧ Aside0 (OStr w' w.heap.size v5 X) ∧ Aside0 (Below w.heap.size w w')) (fun _ v6 _ => leftB xs v6)
  case atStart => exact ⟨0, [], HU.out.symm, ⟨hx0, Nat.le_refl _, by rw [HT.out]; rfl⟩, ⟨Kd.R_nil _ _ _ _ _⟩, ⟨Below.refl _ _⟩⟩
  case round =>
    obtain ⟨i, X, rfl, HI, HO, HB⟩ := hrel
    have HS1 : Aside0 (SK wr L xs) := ⟨SL_below HS.out.1 HB.out, HS.out.2⟩
    have hst := row_next xs r i HI.out.1
    rcases hst with ⟨h1, h2⟩ | ⟨j, h1, h2, h3, h4, h5⟩
    · rw [h1]
      have HX : Aside0 (X = keysR xs.tail r) := ⟨by have h9 := HI.out.2.2; rw [h2, List.append_nil] at h9; exact h9⟩
      have hpn : pv none = .pointer none := rfl
      clear h1 h2 HI
      go_wp2_with fail
      go_ret
      exact ⟨_, rfl, by rw [← HX.out]; exact HO.out, HB.out⟩
    · rw [h3]
      obtain ⟨bj, hbj⟩ : ∃ b, (xs.getD j default).b = b := ⟨_, rfl⟩
      obtain ⟨nbj, hnbj⟩ : ∃ b, (xs.getD j default).nb = b := ⟨_, rfl⟩
      obtain ⟨kj, hkj⟩ : ∃ b, (xs.getD j default).it.k = b := ⟨_, rfl⟩
      obtain ⟨lv, hlv⟩ : ∃ b, (xs.getD j default).it.lv = b := ⟨_, rfl⟩
      have HC : Aside0 (∀ W, SK W L xs → W.cell? ⟨bj, 0, none⟩ = some (.string kj) ∧ W.cell? ⟨bj, 2, none⟩ = some (.slice (some ⟨nbj, 0, none⟩) lv lv) ∧ W.cell? ⟨nbj, r, none⟩ = some (pv (nx xs j r))) := ⟨fun W hW => by
        obtain ⟨m0, -, m2⟩ := node_cells (SL_node hW.1 j h2)
        have m3 := node_row (SL_node hW.1 j h2) r h4
        rw [hbj] at m0 m2
        rw [hkj] at m0
        rw [hnbj, hlv] at m2
        rw [hnbj] at m3
        exact ⟨m0, m2, m3⟩⟩
      rw [hbj]
      rw [hkj] at h5
      rw [hlv] at h4
      have hpp : pv (some bj) = .pointer (some ⟨bj, 0, none⟩) := rfl
      rw [hpp]
      obtain ⟨p0, p2, p3⟩ := HC.out _ HS1.out
      have hpj := posB_at (List.nodup_cons.1 HS1.out.1.2.2.2).2 j h2
      rw [hbj] at hpj
      have HPJ := Aside0.mk hpj
      have HJ := Aside0.mk (show i < j ∧ j < xs.length ∧ X.length ≤ i ∧ (X ++ [kj]) ++ keysR (xs.drop (j + 1)) r = keysR xs.tail r from ⟨h1, h2, HI.out.2.1, by rw [← HI.out.2.2, h5]; simp⟩)
      have j6 : (r : Int) < (lv : Int) := by omega
      obtain ⟨uj, huj⟩ : ∃ u, pv (nx xs j r) = u := ⟨_, rfl⟩
      rw [huj] at HC p3
      have HUJ := Aside0.mk huj
      clear h1 h2 h3 h5 hbj hnbj hkj hlv HI hpj huj
      go_wp2_with ((with_reducible refine gate_dst (N := 40) rfl ?_); refine app_key rfl rfl rfl rfl HO.out HB.out.size (by have := HJ.out; omega) ?_; intro v7 w7 hO7 hb7 _; have HO7 := Aside0.mk hO7; have HB7 := Aside0.mk (HB.out.trans hb7); obtain ⟨q0, q2, q3⟩ := HC.out w7 ⟨SL_below HS.out.1 HB7.out, HS.out.2⟩; clear hO7 hb7)
      go_roundw
      case rel => exact ⟨j, X ++ [kj], HUJ.out.symm, ⟨HJ.out.2.1, by rw [List.length_append]; have := HJ.out; show X.length + 1 ≤ j; omega, HJ.out.2.2.2⟩, HO7, HB7⟩
      case measure =>
        have h9 := left_nx (List.nodup_cons.1 HS.out.1.2.2.2).2 r j HJ.out.2.1
        rw [HUJ.out] at h9
        have h8 : leftB xs (.pointer (some ⟨bj, 0, none⟩)) = xs.length - j := by show xs.length - posB xs bj = _; rw [HPJ.out]
        rw [h8]
        exact h9
end Go.Proofs.Ytheoodbkjgfdfaa.A.M
