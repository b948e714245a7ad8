/- An index in memory: its skip list, each key's row of versions. -/
import Derived.Test.YtheoodbkjgfdfaaNSort
import Derived.Test.YtheoodbkjgfdfaaNIndex
import Derived.Test.YtheoodbkjgfdfaaNKeep
namespace Go.Proofs.Ytheoodbkjgfdfaa.A
open R
open Go.RowKit Go.Proofs.YtheoodbkjgfdfaaW.PrintWords Go.Proofs.YtheoodbkjgfdfaaW.PrintLast Go.Proofs.YtheoodbkjgfdfaaW.PrintMore
set_option linter.unusedVariables false
set_option linter.unusedSimpArgs false

/-- A skip list's items: a put, a drop. -/
theorem put_mem {l : List M.It} {key : ByteArray} {lv : Int} {v : M.Sl} (h : M.Srt l) {p : M.It} (hp : p ∈ M.putS l key lv v) : (p.k = key ∧ p.v = v) ∨ (p ∈ l ∧ p.k ≠ key) := by
  have hlt := M.take_lt (l := l) (key := key)
  have mid : ∀ (n m : Nat), M.atS l key ≤ m → (M.isS l key = false ∨ M.atS l key < m) → p ∈ l.take (M.atS l key) ++ (⟨key, n, v⟩ : M.It) :: l.drop m → (p.k = key ∧ p.v = v) ∨ (p ∈ l ∧ p.k ≠ key) := by
    intro n m hm hne hp
    have hgt := M.drop_gt h m hm hne
    rcases List.mem_append.1 hp with hp | hp
    · exact .inr ⟨List.mem_of_mem_take hp, fun e => by have := hlt p hp; rw [e, M.ltS_self] at this; cases this⟩
    · rcases List.mem_cons.1 hp with rfl | hp
      · exact .inl ⟨rfl, rfl⟩
      · exact .inr ⟨List.mem_of_mem_drop hp, fun e => by have := hgt p hp; rw [e, M.ltS_self] at this; cases this⟩
  unfold M.putS at hp
  split at hp
  · exact mid _ _ (by omega) (.inr (by omega)) hp
  · rename_i hi
    exact mid _ _ (Nat.le_refl _) (.inl (by simpa using hi)) hp
theorem at_split {l : List M.It} {i : Nat} {q : M.It} (hq : q ∈ l) : q ∈ l.take i ∨ q = l.getD i default ∨ q ∈ l.drop (i + 1) := by
  rw [← List.take_append_drop i l] at hq
  rcases List.mem_append.1 hq with h | h
  · exact .inl h
  · right
    cases hd : l.drop i with
    | nil => rw [hd] at h; cases h
    | cons x m =>
      rw [hd] at h
      have hx : l.getD i default = x := by
        have h1 := congrArg (fun z => z[0]?) hd
        simp only [List.getElem?_drop, Nat.add_zero, List.getElem?_cons_zero] at h1
        rw [List.getD_eq_getElem?_getD, h1]
        rfl
      have hm : l.drop (i + 1) = m := by
        rw [← List.drop_drop, hd]
        rfl
      rcases List.mem_cons.1 h with rfl | h
      · exact .inl hx.symm
      · exact .inr (by rw [hm]; exact h)
theorem put_has {l : List M.It} (key : ByteArray) (lv : Int) (v : M.Sl) : (∃ p ∈ M.putS l key lv v, p.k = key) ∧ ∀ q ∈ l, ∃ p ∈ M.putS l key lv v, p.k = q.k := by
  unfold M.putS
  split
  · rename_i hi
    have hk : (l.getD (M.atS l key) default).k = key := (M.isS_lt hi).2
    refine ⟨⟨_, List.mem_append_right _ List.mem_cons_self, rfl⟩, fun q hq => ?_⟩
    rcases at_split (i := M.atS l key) hq with h | h | h
    · exact ⟨q, List.mem_append_left _ h, rfl⟩
    · exact ⟨_, List.mem_append_right _ List.mem_cons_self, by rw [h, hk]⟩
    · exact ⟨q, List.mem_append_right _ (List.mem_cons_of_mem _ h), rfl⟩
  · refine ⟨⟨_, List.mem_append_right _ List.mem_cons_self, rfl⟩, fun q hq => ?_⟩
    rw [← List.take_append_drop (M.atS l key) l] at hq
    rcases List.mem_append.1 hq with h | h
    · exact ⟨q, List.mem_append_left _ h, rfl⟩
    · exact ⟨q, List.mem_append_right _ (List.mem_cons_of_mem _ h), rfl⟩
theorem drop_mem {l : List M.It} {key : ByteArray} (h : M.Srt l) (p : M.It) : p ∈ M.dropS l key ↔ p ∈ l ∧ p.k ≠ key := by
  have hlt := M.take_lt (l := l) (key := key)
  unfold M.dropS
  split
  · rename_i hi
    have hk : (l.getD (M.atS l key) default).k = key := (M.isS_lt hi).2
    have hgt := M.drop_gt (key := key) h (M.atS l key + 1) (by omega) (.inr (by omega))
    constructor
    · intro hp
      rcases List.mem_append.1 hp with hp | hp
      · exact ⟨List.mem_of_mem_take hp, fun e => by have := hlt p hp; rw [e, M.ltS_self] at this; cases this⟩
      · exact ⟨List.mem_of_mem_drop hp, fun e => by have := hgt p hp; rw [e, M.ltS_self] at this; cases this⟩
    · rintro ⟨hp, hne⟩
      rcases at_split (i := M.atS l key) hp with h1 | h1 | h1
      · exact List.mem_append_left _ h1
      · exact absurd (by rw [h1, hk]) hne
      · exact List.mem_append_right _ h1
  · rename_i hi
    refine ⟨fun hp => ⟨hp, fun e => hi ((M.isS_iff h key).2 ⟨p, hp, e⟩)⟩, fun hp => hp.1⟩

/-- The types of an index's own blocks. -/
def ixT (q : TypeId) : Prop := q = 63 ∨ q = 85 ∨ q = 83 ∨ q = 80
/-- What is none of an index's own blocks lies as it lay. -/
structure IFr (A B : World) : Prop where
  os : B.os = A.os
  tape : B.tape = A.tape
  output : B.output = A.output
  size : A.heap.size ≤ B.heap.size
  block : ∀ k, k < A.heap.size → (∀ cs q fr, A.heap[k]? = some (.cells cs q fr) → ¬ ixT q) → B.heap[k]? = A.heap[k]?
theorem IFr.refl (A : World) : IFr A A := ⟨rfl, rfl, rfl, Nat.le_refl _, fun _ _ _ => rfl⟩
theorem IFr.trans {A B C : World} (h : IFr A B) (k : IFr B C) : IFr A C :=
  ⟨k.os.trans h.os, k.tape.trans h.tape, k.output.trans h.output, Nat.le_trans h.size k.size, fun i hi hn => by
    have e := h.block i hi hn
    exact (k.block i (Nat.lt_of_lt_of_le hi h.size) (fun cs q fr hc => hn cs q fr (by rw [← e]; exact hc))).trans e⟩
theorem IFr.of_below {A B : World} (h : Below A.heap.size A B) : IFr A B := ⟨h.os, h.tape, h.output, h.size, fun k hk _ => h.block k hk⟩
theorem SL_types {W : World} {L : Nat} {xs : List M.Nd} {f : Nat → Nat → Option Nat} {m : Int} (h : M.SL W L xs f m) : ∀ k ∈ L :: M.blks xs, ∃ cs q, W.heap[k]? = some (.cells cs q) ∧ ixT q := by
  intro k hk
  rcases List.mem_cons.1 hk with rfl | hk
  · exact ⟨_, _, h.1, .inr (.inl rfl)⟩
  · obtain ⟨n, hn, hk⟩ := List.mem_flatMap.1 hk
    obtain ⟨i, hi, rfl⟩ := List.mem_iff_getElem.1 hn
    have h3 := h.2.2.1 i hi
    rw [M.getD_idx xs i hi] at h3
    simp only [List.mem_cons, List.not_mem_nil, or_false] at hk
    rcases hk with rfl | rfl
    · exact ⟨_, _, h3.1, .inr (.inr (.inl rfl))⟩
    · exact ⟨_, _, h3.2, .inr (.inr (.inr rfl))⟩
theorem IFr.of_frm {A B : World} {L X : Nat} {xs : List M.Nd} {f : Nat → Nat → Option Nat} {m m' : Int} (h : M.SL A L xs f m) (hX : A.heap[X]? = some (ixB L m')) (hf : M.Frm (X :: L :: M.blks xs) A B) : IFr A B :=
  ⟨hf.os, hf.tape, hf.output, hf.size, fun k hk hn => hf.block k hk (fun hc => by
    rcases List.mem_cons.1 hc with rfl | hc
    · exact hn _ _ _ hX (.inl rfl)
    · obtain ⟨cs, q, h1, h2⟩ := SL_types h k hc
      exact hn _ _ _ h1 h2)⟩
/-- A row whose types are others stays. -/
theorem OR_ifr {α : Type} {d : Kd α} {e : Nat} {W W1 : World} {B : Nat} {v : Value} {l : List α} (h : OR d e W B v l) (hb : IFr W W1) (ht : ∀ q ∈ e :: d.E, ¬ ixT q) : OR d e W1 B v l := by
  refine Kd.R_mono (Kd.R_move (Kd.R_bound h) ?_) (fun _ _ => trivial)
  rintro k ⟨-, h1, h2, q, hq, cells, hc⟩
  refine hb.block k h2 (fun cs q' fr hc' => ?_)
  rw [hc] at hc'
  injection hc' with hc'
  injection hc' with _ e2
  rw [← e2]
  exact ht q hq
theorem OVr_ifr {W W1 : World} {B : Nat} {v : Value} {l : List Vr} (h : OVr W B v l) (hb : IFr W W1) : OVr W1 B v l :=
  OR_ifr h hb (fun q hq => by
    have : q = 35 := by simpa [KVr, Kd.iso, Kd.pair, Kd.string, Kd.int, Kd.scalar, Kd.bool] using hq
    subst this
    unfold ixT
    decide)
theorem OStr_ifr {W W1 : World} {B : Nat} {v : Value} {l : List ByteArray} (h : M.OStr W B v l) (hb : IFr W W1) : M.OStr W1 B v l :=
  OR_ifr h hb (fun q hq => by
    have : q = 9 := by simpa [Kd.string, Kd.scalar] using hq
    subst this
    unfold ixT
    decide)
abbrev slv (s : M.Sl) : Value := .slice s.A s.n s.c
/-- Each key's row of versions. -/
def IRs (W : World) (B : Nat) (its : List M.It) (l : List Vr) : Prop :=
  SrtV l ∧ (∀ p ∈ its, OVr W B (slv p.v) (ofV l p.k) ∧ ofV l p.k ≠ []) ∧ ∀ v ∈ l, ∃ p ∈ its, p.k = v.k
/-- An index at X: its items, its versions in order. -/
def IXi (W : World) (B X : Nat) (m : Int) (its : List M.It) (l : List Vr) : Prop :=
  ∃ L xs, W.heap[X]? = some (ixB L m) ∧ B ≤ X ∧ M.SK W L xs ∧ xs.tail.map M.Nd.it = its ∧ (∀ k ∈ L :: M.blks xs, B ≤ k) ∧ IRs W B its l
theorem IRs_below {W W1 : World} {B : Nat} {its : List M.It} {l : List Vr} (h : IRs W B its l) (hb : Below W.heap.size W W1) : IRs W1 B its l :=
  ⟨h.1, fun p hp => ⟨Kd.R_below (h.2.1 p hp).1 hb, (h.2.1 p hp).2⟩, h.2.2⟩
theorem IRs_ifr {W W1 : World} {B : Nat} {its : List M.It} {l : List Vr} (h : IRs W B its l) (hb : IFr W W1) : IRs W1 B its l :=
  ⟨h.1, fun p hp => ⟨OVr_ifr (h.2.1 p hp).1 hb, (h.2.1 p hp).2⟩, h.2.2⟩
theorem IXi_below {W W1 : World} {B X : Nat} {m : Int} {its : List M.It} {l : List Vr} (h : IXi W B X m its l) (hb : Below W.heap.size W W1) : IXi W1 B X m its l := by
  obtain ⟨L, xs, h1, h2, h3, h4, h5, h6⟩ := h
  exact ⟨L, xs, box_keep h1 hb, h2, ⟨M.SL_below h3.1 hb, h3.2⟩, h4, h5, IRs_below h6 hb⟩
theorem IXi_lower {W : World} {B B' X : Nat} {m : Int} {its : List M.It} {l : List Vr} (h : IXi W B X m its l) (hb : B' ≤ B) : IXi W B' X m its l := by
  obtain ⟨L, xs, h1, h2, h3, h4, h5, h6⟩ := h
  exact ⟨L, xs, h1, Nat.le_trans hb h2, h3, h4, fun k hk => Nat.le_trans hb (h5 k hk), h6.1, fun p hp => ⟨Kd.R_lower (h6.2.1 p hp).1 hb, (h6.2.1 p hp).2⟩, h6.2.2⟩
theorem sk_srt {W : World} {L : Nat} {xs : List M.Nd} (h : M.SK W L xs) : M.Srt (xs.tail.map M.Nd.it) := h.2.2
theorem its_keys {W : World} {B X : Nat} {m : Int} {its : List M.It} {l : List Vr} (h : IXi W B X m its l) : SrtV l ∧ SrtK (its.map M.It.k) ∧ (∀ p ∈ l, p.k ∈ its.map M.It.k) ∧ (∀ k ∈ its.map M.It.k, ofV l k ≠ []) := by
  obtain ⟨L, xs, h1, h2, h3, h4, h5, h6⟩ := h
  have hs := (sk_srt h3).1
  rw [h4] at hs
  refine ⟨h6.1, ?_, fun p hp => ?_, fun k hk => ?_⟩
  · unfold SrtK
    rw [List.pairwise_map]
    exact hs
  · obtain ⟨q, hq, e⟩ := h6.2.2 p hp
    exact List.mem_map.2 ⟨q, hq, e⟩
  · obtain ⟨q, hq, rfl⟩ := List.mem_map.1 hk
    exact (h6.2.1 q hq).2
theorem flat_len (f : ByteArray → List Vr) : ∀ ks : List ByteArray, (∀ k ∈ ks, f k ≠ []) → ks.length ≤ (ks.flatMap f).length
  | [], _ => Nat.zero_le _
  | k :: ks, h => by
    have h1 := flat_len f ks (fun k hk => h k (List.mem_cons_of_mem _ hk))
    have h2 := List.length_pos_iff.2 (h k List.mem_cons_self)
    rw [List.flatMap_cons, List.length_append, List.length_cons]
    omega
theorem its_len {W : World} {B X : Nat} {m : Int} {its : List M.It} {l : List Vr} (h : IXi W B X m its l) : its.length ≤ l.length := by
  obtain ⟨h1, h2, h3, h4⟩ := its_keys h
  have := flat_len (ofV l) _ h4
  rw [flatV _ l h1 h2 h3, List.length_map] at this
  exact this
/-- What Get tells of a key reads the key's versions. -/
theorem get_row {W : World} {B X : Nat} {m : Int} {its : List M.It} {l : List Vr} (h : IXi W B X m its l) (key : ByteArray) : ∃ A n c b, M.getS its key = (⟨A, n, c⟩, b) ∧ OVr W B (.slice A n c) (ofV l key) := by
  have hk := its_keys h
  obtain ⟨L, xs, h1, h2, h3, h4, h5, h6⟩ := h
  have hs := sk_srt h3
  rw [h4] at hs
  unfold M.getS
  cases hi : M.isS its key with
  | true =>
    obtain ⟨a1, a2⟩ := M.isS_lt hi
    have := (h6.2.1 _ (M.getD_memI its _ a1)).1
    rw [a2] at this
    exact ⟨_, _, _, _, rfl, this⟩
  | false =>
    refine ⟨none, 0, 0, false, rfl, ?_⟩
    have e : ofV l key = [] := by
      unfold ofV
      rw [List.filter_eq_nil_iff]
      intro p hp hc
      obtain ⟨q, hq, e⟩ := h6.2.2 p hp
      have := (M.isS_iff hs key).2 ⟨q, hq, e.trans (keq.1 hc)⟩
      rw [hi] at this
      cases this
    rw [e]
    exact OVr_nil _ _
end Go.Proofs.Ytheoodbkjgfdfaa.A
