/- An index while some of its versions are let stay: what is kept between two rounds. -/
import Derived.Test.YtheoodbkjgfdfaaNLives
namespace Go.Proofs.Ytheoodbkjgfdfaa.A
open R
open Go.RowKit Go.Proofs.YtheoodbkjgfdfaaW.PrintWords Go.Proofs.YtheoodbkjgfdfaaW.PrintLast Go.Proofs.YtheoodbkjgfdfaaW.PrintMore
set_option linter.unusedVariables false
set_option linter.unusedSimpArgs false

/-- Is a key among these? -/
def memK (ks : List ByteArray) (k : ByteArray) : Bool := ks.any (fun x => x.toList == k.toList)
theorem memK_iff {ks : List ByteArray} {k : ByteArray} : memK ks k = true ↔ k ∈ ks := by
  unfold memK
  rw [List.any_eq_true]
  constructor
  · rintro ⟨x, hx, e⟩
    rw [← keq.1 e]
    exact hx
  · intro h
    exact ⟨k, h, keq.2 rfl⟩
/-- What is there when the first i keys are done. -/
def clV (l : List Vr) (ks : List ByteArray) (e : Int) (i : Nat) : List Vr := l.filter (fun p => memK (ks.drop i) p.k || decide (p.ep ≤ e))
theorem clV_zero {l : List Vr} {ks : List ByteArray} (h : ∀ p ∈ l, p.k ∈ ks) (e : Int) : clV l ks e 0 = l := by
  unfold clV
  rw [List.filter_eq_self]
  intro p hp
  rw [List.drop_zero, memK_iff.2 (h p hp)]
  rfl
theorem clV_end {l : List Vr} {ks : List ByteArray} (e : Int) (i : Nat) (h : ks.length ≤ i) : clV l ks e i = stayV l e := by
  unfold clV stayV
  rw [List.drop_of_length_le h]
  rfl
theorem clV_srt {l : List Vr} (h : SrtV l) (ks : List ByteArray) (e : Int) (i : Nat) : SrtV (clV l ks e i) := List.Pairwise.sublist List.filter_sublist h
theorem key_out {ks : List ByteArray} (h : SrtK ks) (i : Nat) (hi : i < ks.length) : ks.getD i ByteArray.empty ∉ ks.drop (i + 1) := by
  intro hm
  have hd : ks.drop i = ks.getD i ByteArray.empty :: ks.drop (i + 1) := by
    rw [List.drop_eq_getElem_cons hi, List.getD_eq_getElem?_getD, List.getElem?_eq_getElem hi]
    rfl
  have hs : SrtK (ks.drop i) := List.Pairwise.sublist (List.drop_sublist _ _) h
  rw [hd] at hs
  have := List.rel_of_pairwise_cons hs hm
  rw [M.ltS_self] at this
  cases this
theorem key_in {ks : List ByteArray} (i : Nat) (hi : i < ks.length) (key : ByteArray) : key ∈ ks.drop i ↔ key = ks.getD i ByteArray.empty ∨ key ∈ ks.drop (i + 1) := by
  have hd : ks.drop i = ks.getD i ByteArray.empty :: ks.drop (i + 1) := by
    rw [List.drop_eq_getElem_cons hi, List.getD_eq_getElem?_getD, List.getElem?_eq_getElem hi]
    rfl
  rw [hd, List.mem_cons]
theorem clV_at {l : List Vr} {ks : List ByteArray} (e : Int) (i : Nat) (hi : i < ks.length) : ofV (clV l ks e i) (ks.getD i ByteArray.empty) = ofV l (ks.getD i ByteArray.empty) := by
  unfold ofV clV
  rw [List.filter_filter]
  refine List.filter_congr fun p _ => ?_
  by_cases hk : p.k = ks.getD i ByteArray.empty
  · rw [keq.2 hk, memK_iff.2 ((key_in i hi _).2 (.inl hk))]
    rfl
  · have : (p.k.toList == (ks.getD i ByteArray.empty).toList) = false := by
      cases hb : (p.k.toList == (ks.getD i ByteArray.empty).toList) with
      | false => rfl
      | true => exact absurd (keq.1 hb) hk
    rw [this]
    rfl
theorem clV_next {l : List Vr} {ks : List ByteArray} (hs : SrtK ks) (e : Int) (i : Nat) (hi : i < ks.length) :
    ofV (clV l ks e (i + 1)) (ks.getD i ByteArray.empty) = stayV (ofV l (ks.getD i ByteArray.empty)) e ∧ (∀ key, key ≠ ks.getD i ByteArray.empty → ofV (clV l ks e (i + 1)) key = ofV (clV l ks e i) key) ∧ ∀ v ∈ clV l ks e (i + 1), v ∈ clV l ks e i := by
  refine ⟨?_, fun key hk => ?_, fun v hv => ?_⟩
  · unfold ofV clV stayV
    rw [List.filter_filter, List.filter_filter]
    refine List.filter_congr fun p _ => ?_
    by_cases hk : p.k = ks.getD i ByteArray.empty
    · have hm : memK (ks.drop (i + 1)) p.k = false := by
        cases hb : memK (ks.drop (i + 1)) p.k with
        | false => rfl
        | true => exact absurd (memK_iff.1 hb) (by rw [hk]; exact key_out hs i hi)
      rw [keq.2 hk, hm, Bool.false_or, Bool.true_and, Bool.and_true]
    · have : (p.k.toList == (ks.getD i ByteArray.empty).toList) = false := by
        cases hb : (p.k.toList == (ks.getD i ByteArray.empty).toList) with
        | false => rfl
        | true => exact absurd (keq.1 hb) hk
      rw [this, Bool.false_and, Bool.and_false]
  · unfold ofV clV
    rw [List.filter_filter, List.filter_filter]
    refine List.filter_congr fun p _ => ?_
    by_cases hp : p.k = key
    · have hm : memK (ks.drop (i + 1)) p.k = memK (ks.drop i) p.k := by
        rw [Bool.eq_iff_iff, memK_iff, memK_iff, key_in i hi]
        constructor
        · exact fun h => .inr h
        · rintro (h | h)
          · exact absurd (hp.symm.trans h) hk
          · exact h
      rw [hm]
    · have : (p.k.toList == key.toList) = false := by
        cases hb : (p.k.toList == key.toList) with
        | false => rfl
        | true => exact absurd (keq.1 hb) hp
      rw [this]
      rfl
  · unfold clV at hv ⊢
    obtain ⟨h1, h2⟩ := List.mem_filter.1 hv
    refine List.mem_filter.2 ⟨h1, ?_⟩
    rw [Bool.or_eq_true] at h2 ⊢
    rcases h2 with h2 | h2
    · exact .inl (memK_iff.2 ((key_in i hi _).2 (.inr (memK_iff.1 h2))))
    · exact .inr h2
/-- A row lies apart from the rows of the keys. -/
def Sep (its : List M.It) (v : Value) : Prop := ∀ p ∈ its, Apt (slv p.v) v
theorem Sep.next {W : World} {B : Nat} {its : List M.It} {l : List Vr} {v v1 : Value} (h : Sep its v) (hI : IRs W B its l) (h1 : v1.ownBlock = v.ownBlock ∨ ∃ b, v1.ownBlock = some b ∧ W.heap.size ≤ b) : Sep its v1 := fun p hp => ((h p hp).swap.next (hI.2.1 p hp).1 h1).swap
theorem Sep_nil (its : List M.It) : Sep its (.slice none 0 0) := fun p hp b hb hc => by simp [Value.ownBlock] at hc
theorem own_ver {W : World} {B : Nat} {v : Value} {xs : List Vr} (h : OVr W B v xs) (k : Nat) (hk : v.ownBlock = some k) : ∃ cells, W.heap[k]? = some (.cells cells 35 (0, 0)) := by
  obtain ⟨_, inner, ho, _⟩ := h
  exact own_typed ho k hk
theorem own_ix {W : World} {B : Nat} {v : Value} {xs : List Vr} (h : OVr W B v xs) {k : Nat} (hk : ∃ cs q, W.heap[k]? = some (.cells cs q) ∧ ixT q) : some k ≠ v.ownBlock := fun e => by
  obtain ⟨cells, hc⟩ := own_ver h k e.symm
  obtain ⟨cs, q, h1, h2⟩ := hk
  rw [hc] at h1
  injection h1 with h1
  injection h1 with _ e2
  rw [← e2] at h2
  revert h2
  unfold ixT
  decide
theorem IXi_app {W w1 : World} {B B' X : Nat} {m : Int} {its : List M.It} {l xs : List Vr} {v : Value} (h : IXi W B X m its l) (hv : OVr W B' v xs) (hs : Sep its v) (hg : W.grownBy w1 v.ownBlock) : IXi w1 B X m its l := by
  obtain ⟨L, nds, h1, h2, h3, h4, h5, h6⟩ := h
  refine ⟨L, nds, (hg.block X (box_lt h1) (own_ix hv ⟨_, _, h1, .inl rfl⟩)).trans h1, h2, ⟨M.SL_keepB h3.1 (fun k hk => hg.block k (M.SL_lt h3.1 k hk) (own_ix hv (SL_types h3.1 k hk))), h3.2⟩, h4, h5, h6.1, fun p hp => ⟨OVr_grown (h6.2.1 p hp).1 hg (hs p hp).swap.ne, (h6.2.1 p hp).2⟩, h6.2.2⟩
theorem IFr.grown {w A B : World} {row : Option Nat} (h : IFr w A) (hg : A.grownBy B row) (hr : ∀ k, row = some k → w.heap.size ≤ k) : IFr w B :=
  ⟨hg.os.trans h.os, hg.tape.trans h.tape, hg.output.trans h.output, Nat.le_trans h.size hg.size, fun k hk hn => (hg.block k (Nat.lt_of_lt_of_le hk h.size) (fun e => by have := hr k e.symm; omega)).trans (h.block k hk hn)⟩
theorem own_ge {W : World} {B : Nat} {v : Value} {xs : List Vr} (h : OVr W B v xs) (k : Nat) (hk : v.ownBlock = some k) : B ≤ k := by
  obtain ⟨_, inner, ho, _⟩ := h
  exact own_base ho k hk
/-- What is kept: the index at X, the row told (v), the keys' row (kv), nothing else of w's written. -/
def KpI (w : World) (B X : Nat) (m : Int) (cl : List Vr) (kv : Value) (ks : List ByteArray) (v : Value) (lo : List Vr) (W : World) : Prop :=
  ∃ its, IXi W B X m its cl ∧ OVr W w.heap.size v lo ∧ Sep its v ∧ M.OStr W w.heap.size kv ks ∧ IFr w W ∧ Below B w W
/-- .. and a row of what stays (u), of one key. -/
def KpJ (its : List M.It) (w : World) (B X : Nat) (m : Int) (cl : List Vr) (kv : Value) (ks : List ByteArray) (v : Value) (lo : List Vr) (u : Value) (ls : List Vr) (W : World) : Prop :=
  IXi W B X m its cl ∧ OVr W w.heap.size v lo ∧ Sep its v ∧ M.OStr W w.heap.size kv ks ∧ IFr w W ∧ Below B w W ∧ OVr W w.heap.size u ls ∧ Sep its u ∧ Apt u v
section
variable {w W W1 : World} {B X : Nat} {m : Int} {its : List M.It} {cl lo ls : List Vr} {kv v u : Value} {ks : List ByteArray}
theorem KpI_below (h : KpI w B X m cl kv ks v lo W) (hb : Below W.heap.size W W1) : KpI w B X m cl kv ks v lo W1 := by
  obtain ⟨its, h1, h2, h3, h4, h5, h6⟩ := h
  exact ⟨its, IXi_below h1 hb, Kd.R_below h2 hb, h3, Kd.R_below h4 hb, h5.trans (IFr.of_below hb), h6.trans (hb.mono (by obtain ⟨L, xs, a1, a2, _⟩ := h1; exact Nat.le_trans a2 (Nat.le_of_lt (box_lt a1))))⟩
theorem KpJ_below (h : KpJ its w B X m cl kv ks v lo u ls W) (hb : Below W.heap.size W W1) : KpJ its w B X m cl kv ks v lo u ls W1 := by
  obtain ⟨h1, h2, h3, h4, h5, h6, h7, h8, h9⟩ := h
  exact ⟨IXi_below h1 hb, Kd.R_below h2 hb, h3, Kd.R_below h4 hb, h5.trans (IFr.of_below hb), h6.trans (hb.mono (by obtain ⟨L, xs, a1, a2, _⟩ := h1; exact Nat.le_trans a2 (Nat.le_of_lt (box_lt a1)))), Kd.R_below h7 hb, h8, h9⟩
theorem KpJ_start (h : KpI w B X m cl kv ks v lo W) : ∃ its, KpJ its w B X m cl kv ks v lo (.slice none 0 0) [] W := by
  obtain ⟨its, h1, h2, h3, h4, h5, h6⟩ := h
  exact ⟨its, h1, h2, h3, h4, h5, h6, OVr_nil _ _, Sep_nil _, fun b hb => by simp [Value.ownBlock] at hb⟩
theorem OStr_grown {B' : Nat} {xs : List Vr} (h : M.OStr W B kv ks) (hv : OVr W B' v xs) (hg : W.grownBy W1 v.ownBlock) : M.OStr W1 B kv ks := O.OR_grown h hg (O.own_ne_type hv h (by decide))
/-- One more that stays. -/
theorem KpJ_stay {u1 : Value} {p : Vr} (h : KpJ its w B X m cl kv ks v lo u ls W) (hBw : B ≤ w.heap.size) (h1 : OVr W1 w.heap.size u1 (ls ++ [p])) (hg : W.grownBy W1 u.ownBlock) (ha : u1.ownBlock = u.ownBlock ∨ ∃ b, u1.ownBlock = some b ∧ W.heap.size ≤ b) : KpJ its w B X m cl kv ks v lo u1 (ls ++ [p]) W1 := by
  obtain ⟨a1, a2, a3, a4, a5, a6, a7, a8, a9⟩ := h
  have hge := own_ge a7
  have hI := a1
  obtain ⟨L, xs, b1, b2, b3, b4, b5, b6⟩ := hI
  exact ⟨IXi_app a1 a7 a8 hg, OVr_grown a2 hg a9.ne, a3, OStr_grown a4 a7 hg, a5.grown hg hge, a6.grown hg (Nat.le_trans hBw a5.size) (fun k e => Nat.le_trans hBw (hge k e)), h1, a8.next b6 ha, a9.next a2 ha⟩
/-- One more that goes. -/
theorem KpJ_gone {v1 : Value} {p : Vr} (h : KpJ its w B X m cl kv ks v lo u ls W) (hBw : B ≤ w.heap.size) (h1 : OVr W1 w.heap.size v1 (lo ++ [p])) (hg : W.grownBy W1 v.ownBlock) (ha : v1.ownBlock = v.ownBlock ∨ ∃ b, v1.ownBlock = some b ∧ W.heap.size ≤ b) : KpJ its w B X m cl kv ks v1 (lo ++ [p]) u ls W1 := by
  obtain ⟨a1, a2, a3, a4, a5, a6, a7, a8, a9⟩ := h
  have hge := own_ge a2
  have hI := a1
  obtain ⟨L, xs, b1, b2, b3, b4, b5, b6⟩ := hI
  exact ⟨IXi_app a1 a2 a3 hg, h1, a3.next b6 ha, OStr_grown a4 a2 hg, a5.grown hg hge, a6.grown hg (Nat.le_trans hBw a5.size) (fun k e => Nat.le_trans hBw (hge k e)), OVr_grown a7 hg a9.swap.ne, a8, (a9.swap.next a7 ha).swap⟩
end
/-- A key's row put anew, one that is not empty. -/
theorem IXi_reput {w6 w7 : World} {B X L : Nat} {m : Int} {its : List M.It} {cl cl' : List Vr} {xs xs' : List M.Nd} {k : ByteArray} {lv : Int} {s : M.Sl} (hX : w6.heap[X]? = some (ixB L m)) (hBX : B ≤ X) (hS : M.SK w6 L xs) (hits : xs.tail.map M.Nd.it = its) (hbl : ∀ q ∈ L :: M.blks xs, B ≤ q) (hrs : IRs w6 B its cl)
    (hs' : SrtV cl') (hk : ofV cl' k ≠ []) (hoth : ∀ key, key ≠ k → ofV cl' key = ofV cl key) (hsub : ∀ v ∈ cl', v ∈ cl) (hO : OVr w6 B (slv s) (ofV cl' k)) (hS7 : M.SK w7 L xs') (hp7 : xs'.tail.map M.Nd.it = M.putS its k lv s) (hf7 : M.Frm (L :: M.blks xs) w6 w7) (hk7 : ∀ q ∈ M.blks xs', q ∈ M.blks xs ∨ w6.heap.size ≤ q) :
    IXi w7 B X m (M.putS its k lv s) cl' := by
  have hXo := X_out hS.1 hX
  have hfr : IFr w6 w7 := IFr.of_frm hS.1 hX (hf7.mono (fun k hk _ => List.mem_cons_of_mem _ hk))
  have hs := sk_srt hS
  rw [hits] at hs
  have hBw : B ≤ w6.heap.size := Nat.le_trans hBX (Nat.le_of_lt (box_lt hX))
  refine ⟨L, xs', (hf7.block X (box_lt hX) hXo).trans hX, hBX, hS7, hp7, fun q hq => ?_, hs', fun p hp => ?_, fun v hv => ?_⟩
  · rcases List.mem_cons.1 hq with rfl | hq
    · exact hbl _ List.mem_cons_self
    · rcases hk7 q hq with h1 | h1
      · exact hbl q (List.mem_cons_of_mem _ h1)
      · omega
  · rcases put_mem hs hp with ⟨e1, e2⟩ | ⟨e1, e2⟩
    · rw [e1, e2]
      exact ⟨OVr_ifr hO hfr, hk⟩
    · rw [hoth _ e2]
      exact ⟨OVr_ifr (hrs.2.1 p e1).1 hfr, (hrs.2.1 p e1).2⟩
  · obtain ⟨p, hp, e1⟩ := hrs.2.2 v (hsub v hv)
    obtain ⟨p', hp', e2⟩ := (put_has (l := its) k lv s).2 p hp
    exact ⟨p', hp', e2.trans e1⟩
/-- .. and one that is empty: the key is dropped. -/
theorem IXi_redrop {w6 w7 w8 : World} {B X L : Nat} {m : Int} {its : List M.It} {cl cl' : List Vr} {xs xs' xs'' : List M.Nd} {k : ByteArray} {lv : Int} {s : M.Sl} (hX : w6.heap[X]? = some (ixB L m)) (hBX : B ≤ X) (hS : M.SK w6 L xs) (hits : xs.tail.map M.Nd.it = its) (hbl : ∀ q ∈ L :: M.blks xs, B ≤ q) (hrs : IRs w6 B its cl)
    (hs' : SrtV cl') (hk : ofV cl' k = []) (hoth : ∀ key, key ≠ k → ofV cl' key = ofV cl key) (hsub : ∀ v ∈ cl', v ∈ cl) (hS7 : M.SK w7 L xs') (hp7 : xs'.tail.map M.Nd.it = M.putS its k lv s) (hf7 : M.Frm (L :: M.blks xs) w6 w7) (hk7 : ∀ q ∈ M.blks xs', q ∈ M.blks xs ∨ w6.heap.size ≤ q)
    (hS8 : M.SK w8 L xs'') (hp8 : xs''.tail.map M.Nd.it = M.dropS (xs'.tail.map M.Nd.it) k) (hf8 : M.Frm (L :: M.blks xs') w7 w8) (hk8 : ∀ q ∈ M.blks xs'', q ∈ M.blks xs') :
    IXi w8 B X m (M.dropS (M.putS its k lv s) k) cl' ∧ ∀ p ∈ M.dropS (M.putS its k lv s) k, p ∈ its := by
  have hXo := X_out hS.1 hX
  have hX7 : w7.heap[X]? = some (ixB L m) := (hf7.block X (box_lt hX) hXo).trans hX
  have hXo7 := X_out hS7.1 hX7
  have hfr7 : IFr w6 w7 := IFr.of_frm hS.1 hX (hf7.mono (fun k hk _ => List.mem_cons_of_mem _ hk))
  have hfr8 : IFr w7 w8 := IFr.of_frm hS7.1 hX7 (hf8.mono (fun k hk _ => List.mem_cons_of_mem _ hk))
  have hfr := hfr7.trans hfr8
  have hs := sk_srt hS
  rw [hits] at hs
  have hs7 := sk_srt hS7
  rw [hp7] at hs7 hp8
  have hBw : B ≤ w6.heap.size := Nat.le_trans hBX (Nat.le_of_lt (box_lt hX))
  have hmem : ∀ p ∈ M.dropS (M.putS its k lv s) k, p ∈ its ∧ p.k ≠ k := fun p hp => by
    obtain ⟨h1, h2⟩ := (drop_mem hs7 p).1 hp
    rcases put_mem hs h1 with ⟨e1, e2⟩ | h3
    · exact absurd e1 h2
    · exact h3
  refine ⟨⟨L, xs'', (hf8.block X (box_lt hX7) hXo7).trans hX7, hBX, hS8, hp8, fun q hq => ?_, hs', fun p hp => ?_, fun v hv => ?_⟩, fun p hp => (hmem p hp).1⟩
  · rcases List.mem_cons.1 hq with rfl | hq
    · exact hbl _ List.mem_cons_self
    · rcases hk7 q (hk8 q hq) with h1 | h1
      · exact hbl q (List.mem_cons_of_mem _ h1)
      · omega
  · obtain ⟨e1, e2⟩ := hmem p hp
    rw [hoth _ e2]
    exact ⟨OVr_ifr (hrs.2.1 p e1).1 hfr, (hrs.2.1 p e1).2⟩
  · have hvk : v.k ≠ k := fun e => by
      have : v ∈ ofV cl' k := ofV_mem.2 ⟨hv, e⟩
      rw [hk] at this
      cases this
    obtain ⟨p, hp, e1⟩ := hrs.2.2 v (hsub v hv)
    obtain ⟨p', hp', e2⟩ := (put_has (l := its) k lv s).2 p hp
    exact ⟨p', (drop_mem hs7 p').2 ⟨hp', by rw [e2, e1]; exact hvk⟩, e2.trans e1⟩
theorem set_back {k : ByteArray} {its : List M.It} {lv : Int} {s : M.Sl} (hs : M.Srt its) {v : Value} (h : Sep its v) (hu : Apt (slv s) v) : Sep (M.putS its k lv s) v := fun p hp => by
  rcases put_mem hs hp with ⟨e1, e2⟩ | ⟨e1, e2⟩
  · rw [e2]
    exact hu
  · exact h p e1
theorem get_row' {W : World} {B X : Nat} {m : Int} {its : List M.It} {l : List Vr} (h : IXi W B X m its l) (key : ByteArray) {A : Option Addr} {n c : Nat} {b : Bool} (hg : M.getS its key = (⟨A, n, c⟩, b)) : OVr W B (.slice A n c) (ofV l key) := by
  obtain ⟨A', n', c', b', h1, h2⟩ := get_row h key
  rw [hg] at h1
  injection h1 with h1 _
  injection h1 with e1 e2 e3
  subst e1 e2 e3
  exact h2
theorem IXi_many {W : World} {B X : Nat} {m : Int} {its : List M.It} {l : List Vr} (h : IXi W B X m its l) (m' : Int) : IXi (W.setCell ⟨X, 1, none⟩ (.int .i64 m')) B X m' its l ∧ IFr W (W.setCell ⟨X, 1, none⟩ (.int .i64 m')) ∧ Below B W (W.setCell ⟨X, 1, none⟩ (.int .i64 m')) := by
  obtain ⟨L, xs, h1, h2, h3, h4, h5, h6⟩ := h
  have hf : M.Frm [X] W (W.setCell ⟨X, 1, none⟩ (.int .i64 m')) := M.Frm.set (M.Frm.refl _ _) (by simp) _
  have hfr : IFr W (W.setCell ⟨X, 1, none⟩ (.int .i64 m')) := IFr.of_frm h3.1 h1 (hf.mono (fun k hk _ => by rw [List.mem_singleton.1 hk]; exact List.mem_cons_self))
  refine ⟨⟨L, xs, ?_, h2, ⟨M.SL_frm h3.1 hf (fun k hk hc => X_out h3.1 h1 (by rw [← List.mem_singleton.1 hc]; exact hk)), h3.2⟩, h4, h5, IRs_ifr h6 hfr⟩, hfr, ?_⟩
  · rw [M.heap_set_row h1]
    rfl
  · exact (Below.refl B W).setCell (p := ⟨X, 1, none⟩) h2 _
theorem KpI_put {w w6 w7 : World} {B X L : Nat} {m : Int} {its : List M.It} {cl cl' lo : List Vr} {kv v : Value} {ks : List ByteArray} {xs xs' : List M.Nd} {k : ByteArray} {lv : Int} {s : M.Sl} (hX : w6.heap[X]? = some (ixB L m)) (hBX : B ≤ X) (hS : M.SK w6 L xs) (hits : xs.tail.map M.Nd.it = its) (hbl : ∀ q ∈ L :: M.blks xs, B ≤ q) (hrs : IRs w6 B its cl)
    (hv : OVr w6 w.heap.size v lo) (hsep : Sep its v) (hkv : M.OStr w6 w.heap.size kv ks) (hif : IFr w w6) (hbel : Below B w w6) (hBw : B ≤ w.heap.size) (hap : Apt (slv s) v)
    (hs' : SrtV cl') (hk : ofV cl' k ≠ []) (hoth : ∀ key, key ≠ k → ofV cl' key = ofV cl key) (hsub : ∀ v ∈ cl', v ∈ cl) (hO : OVr w6 w.heap.size (slv s) (ofV cl' k)) (hS7 : M.SK w7 L xs') (hp7 : xs'.tail.map M.Nd.it = M.putS its k lv s) (hf7 : M.Frm (L :: M.blks xs) w6 w7) (hk7 : ∀ q ∈ M.blks xs', q ∈ M.blks xs ∨ w6.heap.size ≤ q) :
    KpI w B X m cl' kv ks v lo w7 := by
  have hfr : IFr w6 w7 := IFr.of_frm hS.1 hX (hf7.mono (fun k hk _ => List.mem_cons_of_mem _ hk))
  have hs := sk_srt hS
  rw [hits] at hs
  exact ⟨_, IXi_reput hX hBX hS hits hbl hrs hs' hk hoth hsub (Kd.R_lower hO hBw) hS7 hp7 hf7 hk7, OVr_ifr hv hfr, set_back hs hsep hap, OStr_ifr hkv hfr, hif.trans hfr, M.Frm.below hbel hf7 hbl hBw⟩
theorem KpI_drop {w w6 w7 w8 : World} {B X L : Nat} {m : Int} {its : List M.It} {cl cl' lo : List Vr} {kv v : Value} {ks : List ByteArray} {xs xs' xs'' : List M.Nd} {k : ByteArray} {lv : Int} {s : M.Sl} (hX : w6.heap[X]? = some (ixB L m)) (hBX : B ≤ X) (hS : M.SK w6 L xs) (hits : xs.tail.map M.Nd.it = its) (hbl : ∀ q ∈ L :: M.blks xs, B ≤ q) (hrs : IRs w6 B its cl)
    (hv : OVr w6 w.heap.size v lo) (hsep : Sep its v) (hkv : M.OStr w6 w.heap.size kv ks) (hif : IFr w w6) (hbel : Below B w w6) (hBw : B ≤ w.heap.size)
    (hs' : SrtV cl') (hk : ofV cl' k = []) (hoth : ∀ key, key ≠ k → ofV cl' key = ofV cl key) (hsub : ∀ v ∈ cl', v ∈ cl) (hS7 : M.SK w7 L xs') (hp7 : xs'.tail.map M.Nd.it = M.putS its k lv s) (hf7 : M.Frm (L :: M.blks xs) w6 w7) (hk7 : ∀ q ∈ M.blks xs', q ∈ M.blks xs ∨ w6.heap.size ≤ q)
    (hS8 : M.SK w8 L xs'') (hp8 : xs''.tail.map M.Nd.it = M.dropS (xs'.tail.map M.Nd.it) k) (hf8 : M.Frm (L :: M.blks xs') w7 w8) (hk8 : ∀ q ∈ M.blks xs'', q ∈ M.blks xs') :
    KpI w B X m cl' kv ks v lo w8 := by
  have hX7 : w7.heap[X]? = some (ixB L m) := (hf7.block X (box_lt hX) (X_out hS.1 hX)).trans hX
  have hfr := (IFr.of_frm hS.1 hX (hf7.mono (fun k hk _ => List.mem_cons_of_mem _ hk))).trans (IFr.of_frm hS7.1 hX7 (hf8.mono (fun k hk _ => List.mem_cons_of_mem _ hk)))
  obtain ⟨h1, h2⟩ := IXi_redrop hX hBX hS hits hbl hrs hs' hk hoth hsub hS7 hp7 hf7 hk7 hS8 hp8 hf8 hk8
  refine ⟨_, h1, OVr_ifr hv hfr, fun p hp => hsep p (h2 p hp), OStr_ifr hkv hfr, hif.trans hfr, ?_⟩
  refine M.Frm.below (M.Frm.below hbel hf7 hbl hBw) hf8 (fun q hq => ?_) hBw
  rcases List.mem_cons.1 hq with rfl | hq
  · exact hbl _ List.mem_cons_self
  · rcases hk7 q hq with h1 | h1
    · exact hbl q (List.mem_cons_of_mem _ h1)
    · have := hif.size
      omega
theorem stay_gone (l : List Vr) (e : Int) : (stayV l e).length + (goneV l e).length = l.length := by
  unfold stayV goneV
  induction l with
  | nil => rfl
  | cons p l ih =>
    by_cases h : p.ep ≤ e
    · rw [List.filter_cons_of_pos (by simpa using h), List.filter_cons_of_neg (by simpa using h), List.length_cons, List.length_cons]
      omega
    · rw [List.filter_cons_of_neg (by simpa using h), List.filter_cons_of_pos (by simpa using h), List.length_cons, List.length_cons]
      omega
end Go.Proofs.Ytheoodbkjgfdfaa.A
