/- A list of nodes in memory: what lies where; a step on it. -/
import Derived.Test.YthilhcdlpfjodaaKList
namespace Go.Proofs.Ythilhcdlpfjodaa.A
open Go.RowKit Go.Proofs.YthilhcdlpfjodaaW.PrintWords Go.Proofs.YthilhcdlpfjodaaW.PrintLast Go.Proofs.YthilhcdlpfjodaaW.PrintMore
set_option linter.unusedVariables false
set_option linter.unusedSimpArgs false

def pv (o : Option Nat) : Value := .pointer (o.map fun b => ⟨b, 0, none⟩)
abbrev nodeBox (k : ByteArray) (v : Int) (nb lv : Nat) : Obj := .cells #[.string k, .int .i64 v, .slice (some ⟨nb, 0, none⟩) lv lv] 53
abbrev rowBox (n : Nat) (f : Nat → Option Nat) : Obj := .cells ((List.range n).map fun r => pv (f r)).toArray 50
abbrev listBox (h : Nat) (m : Int) : Obj := .cells #[.pointer (some ⟨h, 0, none⟩), .int .i64 m] 55
theorem rowBox_congr {n : Nat} {f g : Nat → Option Nat} (h : ∀ r, r < n → f r = g r) : rowBox n f = rowBox n g := by
  have e : ((List.range n).map fun r => pv (f r)) = ((List.range n).map fun r => pv (g r)) := List.map_congr_left fun r hr => by rw [h r (List.mem_range.1 hr)]
  unfold rowBox
  rw [e]
def NodeAt (W : World) (n : Nd) (f : Nat → Option Nat) : Prop := W.heap[n.b]? = some (nodeBox n.it.k n.it.v n.nb n.it.lv) ∧ W.heap[n.nb]? = some (rowBox n.it.lv f)
def blks (xs : List Nd) : List Nat := xs.flatMap fun n => [n.b, n.nb]
/-- The nodes xs at L, the first one the head; f i r: the block that node i's row r leads to. -/
def SL (W : World) (L : Nat) (xs : List Nd) (f : Nat → Nat → Option Nat) (m : Int) : Prop :=
  W.heap[L]? = some (listBox (xs.getD 0 default).b m) ∧ 0 < xs.length ∧ (∀ i, i < xs.length → NodeAt W (xs.getD i default) (f i)) ∧ (L :: blks xs).Nodup
def nx (xs : List Nd) (i r : Nat) : Option Nat := nxt (xs.drop (i + 1)) r
/-- The head first, then the keys. -/
def Hdd (xs : List Nd) : Prop := (xs.getD 0 default).it = ⟨ByteArray.empty, 8, 0⟩ ∧ Srt (xs.tail.map Nd.it)
/-- A skip list of these nodes. -/
def SK (W : World) (L : Nat) (xs : List Nd) : Prop := SL W L xs (nx xs) ((xs.length : Int) - 1) ∧ Hdd xs
/-- What is none of some blocks lies as it lay. -/
structure Frm (S : List Nat) (A B : World) : Prop where
  os : B.os = A.os
  tape : B.tape = A.tape
  output : B.output = A.output
  size : A.heap.size ≤ B.heap.size
  block : ∀ k, k < A.heap.size → k ∉ S → B.heap[k]? = A.heap[k]?
theorem Frm.refl (S : List Nat) (A : World) : Frm S A A := ⟨rfl, rfl, rfl, Nat.le_refl _, fun _ _ _ => rfl⟩
theorem Frm.trans {S : List Nat} {A B C : World} (h : Frm S A B) (k : Frm S B C) : Frm S A C :=
  ⟨k.os.trans h.os, k.tape.trans h.tape, k.output.trans h.output, Nat.le_trans h.size k.size, fun i hi hs => (k.block i (Nat.lt_of_lt_of_le hi h.size) hs).trans (h.block i hi hs)⟩
theorem Frm.of_below {S : List Nat} {A B : World} (h : Below A.heap.size A B) : Frm S A B := ⟨h.os, h.tape, h.output, h.size, fun k hk _ => h.block k hk⟩
theorem Frm.mono {S T : List Nat} {A B : World} (h : Frm S A B) (hs : ∀ k ∈ S, k < A.heap.size → k ∈ T) : Frm T A B := ⟨h.os, h.tape, h.output, h.size, fun k hk hn => h.block k hk (fun e => hn (hs k e hk))⟩
theorem Frm.set {S : List Nat} {A B : World} (h : Frm S A B) {b o : Nat} (hb : b ∈ S) (v : Value) : Frm S A (B.setCell ⟨b, o, none⟩ v) :=
  ⟨h.os, h.tape, h.output, by have : (B.setCell ⟨b, o, none⟩ v).heap.size = B.heap.size := by simp [World.setCell]
                              rw [this]; exact h.size, fun k hk hn => (Below.heap_setCell B _ v k (fun e => hn (by rw [e]; exact hb))).trans (h.block k hk hn)⟩
theorem Frm.below {S : List Nat} {N : Nat} {w A B : World} (hN : Below N w A) (h : Frm S A B) (hs : ∀ k ∈ S, N ≤ k) (hw : N ≤ w.heap.size) : Below N w B :=
  ⟨h.os.trans hN.os, h.tape.trans hN.tape, h.output.trans hN.output, Nat.le_trans hN.size h.size, fun k hk => (h.block k (by have := hN.size; omega) (fun e => by have := hs k e; omega)).trans (hN.block k hk)⟩

theorem node_cells {W : World} {n : Nd} {f : Nat → Option Nat} (h : NodeAt W n f) :
    W.cell? ⟨n.b, 0, none⟩ = some (.string n.it.k) ∧ W.cell? ⟨n.b, 1, none⟩ = some (.int .i64 n.it.v) ∧ W.cell? ⟨n.b, 2, none⟩ = some (.slice (some ⟨n.nb, 0, none⟩) n.it.lv n.it.lv) := by
  refine ⟨?_, ?_, ?_⟩ <;> (rw [cell_of_row _ _ _ _ _ _ h.1]; rfl)
theorem node_row {W : World} {n : Nd} {f : Nat → Option Nat} (h : NodeAt W n f) (r : Nat) (hr : r < n.it.lv) : W.cell? ⟨n.nb, r, none⟩ = some (pv (f r)) := by
  rw [cell_of_row _ _ _ _ _ _ h.2]
  simp [hr]
theorem plain_frozen {W : World} {b : Nat} {cs : Array Value} {t : TypeId} (h : W.heap[b]? = some (.cells cs t)) (o : Nat) : W.frozen? ⟨b, o, none⟩ = false := by
  simp [World.frozen?, h]
theorem blks_at {xs : List Nd} {i : Nat} (hi : i < xs.length) : (xs.getD i default).b ∈ blks xs ∧ (xs.getD i default).nb ∈ blks xs := by
  have h : xs.getD i default ∈ xs := by
    rw [List.getD_eq_getElem?_getD, List.getElem?_eq_getElem hi]
    exact List.getElem_mem hi
  exact ⟨List.mem_flatMap.2 ⟨_, h, by simp⟩, List.mem_flatMap.2 ⟨_, h, by simp⟩⟩
/-- The blocks of two nodes differ. -/
theorem blks_apart : ∀ {xs : List Nd}, (blks xs).Nodup → ∀ i j, i < xs.length → j < xs.length → (xs.getD i default).b ≠ (xs.getD j default).nb ∧ ((xs.getD i default).nb = (xs.getD j default).nb → i = j) ∧ ((xs.getD i default).b = (xs.getD j default).b → i = j)
  | [], _, i, j, hi, _ => by simp at hi
  | n :: xs, h, i, j, hi, hj => by
    have h' : (n.b :: n.nb :: blks xs).Nodup := h
    rw [List.nodup_cons, List.nodup_cons] at h'
    obtain ⟨h1, h2, h3⟩ := h'
    cases i with
    | zero =>
      cases j with
      | zero => exact ⟨fun e => h1 (by simp only [List.getD_cons_zero] at e; rw [e]; exact List.mem_cons_self), fun _ => rfl, fun _ => rfl⟩
      | succ j =>
        have hj' : j < xs.length := by simpa using hj
        obtain ⟨m1, m2⟩ := blks_at hj'
        simp only [List.getD_cons_zero, List.getD_cons_succ]
        exact ⟨fun e => h1 (List.mem_cons_of_mem _ (by rw [e]; exact m2)), fun e => absurd (by rw [e]; exact m2) h2, fun e => absurd (List.mem_cons_of_mem _ (by rw [e]; exact m1)) h1⟩
    | succ i =>
      have hi' : i < xs.length := by simpa using hi
      obtain ⟨n1, n2⟩ := blks_at hi'
      cases j with
      | zero =>
        simp only [List.getD_cons_zero, List.getD_cons_succ]
        exact ⟨fun e => h2 (by rw [← e]; exact n1), fun e => absurd (by rw [← e]; exact n2) h2, fun e => absurd (List.mem_cons_of_mem _ (by rw [← e]; exact n1)) h1⟩
      | succ j =>
        have hj' : j < xs.length := by simpa using hj
        simp only [List.getD_cons_succ]
        obtain ⟨a1, a2, a3⟩ := blks_apart h3 i j hi' hj'
        exact ⟨a1, fun e => by rw [a2 e], fun e => by rw [a3 e]⟩
section
variable {W : World} {L : Nat} {xs : List Nd} {f : Nat → Nat → Option Nat} {m : Int}
theorem SL_node (h : SL W L xs f m) (i : Nat) (hi : i < xs.length) : NodeAt W (xs.getD i default) (f i) := h.2.2.1 i hi
theorem SL_list (h : SL W L xs f m) : W.heap[L]? = some (listBox (xs.getD 0 default).b m) := h.1
theorem SL_below {W1 : World} (h : SL W L xs f m) (hb : Below W.heap.size W W1) : SL W1 L xs f m := by
  obtain ⟨h1, h2, h3, h4⟩ := h
  have keep : ∀ {k : Nat} {o : Obj}, W.heap[k]? = some o → W1.heap[k]? = some o := fun hk => (hb.block _ (Array.getElem?_eq_some_iff.1 hk).1).trans hk
  exact ⟨keep h1, h2, fun i hi => ⟨keep (h3 i hi).1, keep (h3 i hi).2⟩, h4⟩
theorem SL_lt (h : SL W L xs f m) : ∀ k ∈ L :: blks xs, k < W.heap.size := by
  intro k hk
  rcases List.mem_cons.1 hk with rfl | hk
  · exact (Array.getElem?_eq_some_iff.1 h.1).1
  · obtain ⟨n, hn, hk⟩ := List.mem_flatMap.1 hk
    obtain ⟨i, hi, rfl⟩ := List.mem_iff_getElem.1 hn
    have h3 := h.2.2.1 i hi
    have e : xs.getD i default = xs[i] := by rw [List.getD_eq_getElem?_getD, List.getElem?_eq_getElem hi]; rfl
    rw [e] at h3
    simp only [List.mem_cons, List.not_mem_nil, or_false] at hk
    rcases hk with rfl | rfl
    · exact (Array.getElem?_eq_some_iff.1 h3.1).1
    · exact (Array.getElem?_eq_some_iff.1 h3.2).1
theorem SL_frm {W1 : World} {S : List Nat} (h : SL W L xs f m) (hb : Frm S W W1) (hs : ∀ k ∈ L :: blks xs, k ∉ S) : SL W1 L xs f m := by
  have hlt := SL_lt h
  obtain ⟨h1, h2, h3, h4⟩ := h
  have keep : ∀ {k : Nat} {o : Obj}, k ∈ L :: blks xs → W.heap[k]? = some o → W1.heap[k]? = some o := fun hm hk => (hb.block _ (hlt _ hm) (hs _ hm)).trans hk
  exact ⟨keep List.mem_cons_self h1, h2, fun i hi => ⟨keep (List.mem_cons_of_mem _ (blks_at hi).1) (h3 i hi).1, keep (List.mem_cons_of_mem _ (blks_at hi).2) (h3 i hi).2⟩, h4⟩
theorem SL_congr {g : Nat → Nat → Option Nat} (h : SL W L xs f m) (hg : ∀ i r, i < xs.length → r < (xs.getD i default).it.lv → f i r = g i r) : SL W L xs g m := by
  obtain ⟨h1, h2, h3, h4⟩ := h
  refine ⟨h1, h2, fun i hi => ⟨(h3 i hi).1, ?_⟩, h4⟩
  rw [(h3 i hi).2, rowBox_congr fun r hr => hg i r hi hr]
def upd (f : Nat → Nat → Option Nat) (i r : Nat) (o : Option Nat) : Nat → Nat → Option Nat := fun i' r' => if i' = i ∧ r' = r then o else f i' r'
theorem row_set (n r : Nat) (f : Nat → Option Nat) (o : Option Nat) (hr : r < n) : (((List.range n).map fun r => pv (f r)).toArray.setIfInBounds r (pv o)) = ((List.range n).map fun r' => pv (if r' = r then o else f r')).toArray := by
  apply Array.ext'
  simp only [Array.toList_setIfInBounds]
  apply List.ext_getElem?
  intro j
  rw [List.getElem?_set]
  simp only [List.length_map, List.length_range, List.getElem?_map]
  by_cases hj : j < n
  · by_cases e : r = j
    · subst e
      simp [hr]
    · have e' : ¬ j = r := fun h => e h.symm
      simp [e, e', hj]
  · have e : ¬ r = j := by omega
    simp [e, List.getElem?_eq_none (show (List.range n).length ≤ j by simpa using hj)]
theorem heap_set_row {W : World} {b : Nat} {cs : Array Value} {t : TypeId} (h : W.heap[b]? = some (.cells cs t)) (o : Nat) (v : Value) : (W.setCell ⟨b, o, none⟩ v).heap[b]? = some (.cells (cs.setIfInBounds o v) t) := by
  have hl := (Array.getElem?_eq_some_iff.1 h).1
  have he := (Array.getElem?_eq_some_iff.1 h).2
  simp only [World.setCell]
  rw [Array.getElem?_eq_getElem (by simpa using hl)]
  simp [Array.getElem_modify, he]
theorem SL_set (h : SL W L xs f m) (i r : Nat) (hi : i < xs.length) (hr : r < (xs.getD i default).it.lv) (o : Option Nat) : SL (W.setCell ⟨(xs.getD i default).nb, r, none⟩ (pv o)) L xs (upd f i r o) m := by
  obtain ⟨h1, h2, h3, h4⟩ := h
  rw [List.nodup_cons] at h4
  have hfar : ∀ k, k ≠ (xs.getD i default).nb → (W.setCell ⟨(xs.getD i default).nb, r, none⟩ (pv o)).heap[k]? = W.heap[k]? := fun k hk => Below.heap_setCell W _ _ k hk
  refine ⟨(hfar _ (fun e => h4.1 (by rw [e]; exact (blks_at hi).2))).trans h1, h2, fun j hj => ?_, List.nodup_cons.2 h4⟩
  obtain ⟨a1, a2, a3⟩ := blks_apart h4.2 j i hj hi
  refine ⟨(hfar _ a1).trans (h3 j hj).1, ?_⟩
  by_cases e : j = i
  · subst e
    rw [heap_set_row (h3 j hj).2, row_set _ _ _ _ hr]
    refine congrArg some (rowBox_congr fun r' _ => ?_)
    unfold upd
    by_cases e2 : r' = r
    · simp [e2]
    · simp [e2]
  · rw [hfar _ (fun e2 => e (a2 e2)), (h3 j hj).2]
    refine congrArg some (rowBox_congr fun r' _ => ?_)
    unfold upd
    simp [e]
theorem SL_many (h : SL W L xs f m) (m' : Int) : SL (W.setCell ⟨L, 1, none⟩ (.int .i64 m')) L xs f m' := by
  obtain ⟨h1, h2, h3, h4⟩ := h
  have hn := (List.nodup_cons.1 h4).1
  have hfar : ∀ k, k ≠ L → (W.setCell ⟨L, 1, none⟩ (.int .i64 m')).heap[k]? = W.heap[k]? := fun k hk => Below.heap_setCell W _ _ k hk
  refine ⟨?_, h2, fun j hj => ⟨(hfar _ (fun e => hn (by rw [← e]; exact (blks_at hj).1))).trans (h3 j hj).1, (hfar _ (fun e => hn (by rw [← e]; exact (blks_at hj).2))).trans (h3 j hj).2⟩, h4⟩
  rw [heap_set_row h1]
  rfl
end
end Go.Proofs.Ythilhcdlpfjodaa.A
