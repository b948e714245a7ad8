/- Versions in order, key by key: plain laws. -/
import Derived.Test.YtheoodbkjgfdfaaNKeys
namespace Go.Proofs.Ytheoodbkjgfdfaa.A
open R
open Go.RowKit Go.Proofs.YtheoodbkjgfdfaaW.PrintWords Go.Proofs.YtheoodbkjgfdfaaW.PrintLast Go.Proofs.YtheoodbkjgfdfaaW.PrintMore
open Go.Op (bytesLess)
set_option linter.unusedVariables false
set_option linter.unusedSimpArgs false

/-- Rising. -/
def SrtV (l : List Vr) : Prop := l.Pairwise (fun a b => cmpV a b < 0)
theorem cmpV_lt {a b c : Vr} (h1 : cmpV a b < 0) (h2 : cmpV b c < 0) : cmpV a c < 0 := by
  have h := cmpV_trans a b c (by omega) (by omega)
  have h3 := cmpV_swap a c
  have h4 := cmpV_swap b c
  rcases Int.lt_or_eq_of_le h with h | h
  · exact h
  · have := cmpV_trans c a b (by omega) (by omega)
    omega
theorem cmpV_le {a b c : Vr} (h1 : cmpV a b < 0) (h2 : cmpV b c ≤ 0) : cmpV a c < 0 := by
  have h := cmpV_trans a b c (by omega) (by omega)
  have h3 := cmpV_swap a c
  have h4 := cmpV_swap b c
  have h5 := cmpV_swap a b
  rcases Int.lt_or_eq_of_le h with h | h
  · exact h
  · have := cmpV_trans b c a h2 (by omega)
    omega
theorem cmpV_key {a b : Vr} (h : cmpV a b < 0) : M.ltS a.k b.k = true ∨ a.k = b.k := by
  unfold cmpV at h
  simp only [firstL] at h
  by_cases h0 : O.cmpS a.k b.k = 0
  · exact .inr ((cmpS_iff a.k b.k).2.1 h0)
  · rw [if_neg h0] at h
    unfold O.cmpS at h
    split at h
    · rename_i h1
      exact .inl h1
    · split at h <;> omega
theorem cmpV_of_key {a b : Vr} (h : M.ltS a.k b.k = true) : cmpV a b < 0 := by
  have h' : bytesLess a.k.toList b.k.toList = true := h
  have h1 : O.cmpS a.k b.k = -1 := by
    unfold O.cmpS
    rw [if_pos h']
  unfold cmpV
  simp only [firstL]
  rw [h1]
  simp
/-- Those ahead of a version's place, and those from there on. -/
def aV (l : List Vr) (v : Vr) : List Vr := l.takeWhile (fun p => decide (cmpV p v < 0))
def bV (l : List Vr) (v : Vr) : List Vr := l.dropWhile (fun p => decide (cmpV p v < 0))
def hadV (l : List Vr) (v : Vr) : Bool := l.any (fun p => decide (cmpV p v = 0))
/-- P13.1: the row behind an Add, and its answer. -/
def addV (l : List Vr) (v : Vr) : List Vr × Int := if mayV v = false then (l, 1) else if hadV l v = true then (l, 9) else (aV l v ++ v :: bV l v, 0)
theorem ab_is (l : List Vr) (v : Vr) : aV l v ++ bV l v = l := List.takeWhile_append_dropWhile
theorem aV_lt (l : List Vr) (v : Vr) : ∀ p ∈ aV l v, cmpV p v < 0 := fun p hp => by
  have := List.all_takeWhile (l := l) (p := fun p => decide (cmpV p v < 0))
  rw [List.all_eq_true] at this
  exact of_decide_eq_true (this p hp)
theorem bV_ge : ∀ (l : List Vr) (v : Vr), SrtV l → ∀ p ∈ bV l v, 0 ≤ cmpV p v
  | [], v, _, p, hp => by cases hp
  | q :: l, v, h, p, hp => by
    unfold bV at hp
    rw [List.dropWhile_cons] at hp
    split at hp
    · exact bV_ge l v (List.Pairwise.tail h) p hp
    · rename_i hq
      have hq' : 0 ≤ cmpV q v := by simpa using hq
      rcases List.mem_cons.1 hp with rfl | hp
      · exact hq'
      · have h1 := List.rel_of_pairwise_cons h hp
        refine Classical.byContradiction fun hn => ?_
        have := cmpV_lt h1 (show cmpV p v < 0 by omega)
        omega
theorem aV_len (l : List Vr) (v : Vr) : (aV l v).length ≤ l.length := by
  have h := congrArg List.length (ab_is l v)
  rw [List.length_append] at h
  omega
theorem getD_l {a b : List Vr} {j : Nat} (hj : j < a.length) : (a ++ b).getD j default ∈ a := by
  rw [List.getD_eq_getElem?_getD, List.getElem?_append_left hj, List.getElem?_eq_getElem hj]
  exact List.getElem_mem hj
theorem getD_r {a b : List Vr} {j : Nat} (hj : a.length ≤ j) (hl : j < (a ++ b).length) : (a ++ b).getD j default ∈ b := by
  rw [List.length_append] at hl
  rw [List.getD_eq_getElem?_getD, List.getElem?_append_right hj, List.getElem?_eq_getElem (show j - a.length < b.length by omega)]
  exact List.getElem_mem _
theorem getD_m (a m : List Vr) (q : Vr) : (a ++ q :: m).getD a.length default = q := by
  rw [List.getD_eq_getElem?_getD, List.getElem?_append_right (Nat.le_refl _), Nat.sub_self]
  rfl
theorem aV_lo (l : List Vr) (v : Vr) (j : Nat) (hj : j < (aV l v).length) : cmpV (l.getD j default) v < 0 := by
  have h := getD_l (b := bV l v) hj
  rw [ab_is] at h
  exact aV_lt l v _ h
theorem bV_at (l : List Vr) (v : Vr) (j : Nat) (hj : (aV l v).length ≤ j) (hl : j < l.length) : l.getD j default ∈ bV l v := by
  have h := getD_r (b := bV l v) hj (by rw [ab_is]; exact hl)
  rw [ab_is] at h
  exact h
theorem aV_hi (l : List Vr) (v : Vr) (h : SrtV l) (j : Nat) (hj : (aV l v).length ≤ j) (hl : j < l.length) : 0 ≤ cmpV (l.getD j default) v := bV_ge l v h _ (bV_at l v j hj hl)
theorem take_aV (l : List Vr) (v : Vr) : l.take (aV l v).length = aV l v := by
  conv => lhs; rw [← ab_is l v]
  rw [ab_is]
  have h := List.take_left (l₁ := aV l v) (l₂ := bV l v)
  rw [ab_is] at h
  exact h
theorem drop_aV (l : List Vr) (v : Vr) : l.drop (aV l v).length = bV l v := by
  have h := List.drop_left (l₁ := aV l v) (l₂ := bV l v)
  rw [ab_is] at h
  exact h
/-- What is there lies at its place. -/
theorem had_at {l : List Vr} {v : Vr} (h : SrtV l) : hadV l v = true ↔ (aV l v).length < l.length ∧ cmpV (l.getD (aV l v).length default) v = 0 := by
  constructor
  · intro hh
    obtain ⟨p, hp, h0⟩ := List.any_eq_true.1 hh
    have h0' : cmpV p v = 0 := of_decide_eq_true h0
    have hpb : p ∈ bV l v := by
      have hp' := hp
      rw [← ab_is l v] at hp'
      rcases List.mem_append.1 hp' with h1 | h1
      · have := aV_lt l v p h1
        omega
      · exact h1
    have hlen := congrArg List.length (ab_is l v)
    rw [List.length_append] at hlen
    have hpos := List.length_pos_of_mem hpb
    have hi : (aV l v).length < l.length := by omega
    refine ⟨hi, ?_⟩
    have hge := aV_hi l v h _ (Nat.le_refl _) hi
    have hs : SrtV (bV l v) := List.Pairwise.sublist (List.dropWhile_sublist _) h
    have hm := ab_is l v
    cases hb : bV l v with
    | nil => rw [hb] at hpb; cases hpb
    | cons q m =>
      rw [hb] at hs hpb hm
      have e := getD_m (aV l v) m q
      rw [hm] at e
      rw [e] at hge ⊢
      rcases List.mem_cons.1 hpb with rfl | hpm
      · exact h0'
      · have h1 := cmpV_le (List.rel_of_pairwise_cons hs hpm) (show cmpV p v ≤ 0 by omega)
        omega
  · rintro ⟨hi, h0⟩
    exact List.any_eq_true.2 ⟨_, by rw [List.getD_eq_getElem?_getD, List.getElem?_eq_getElem hi]; exact List.getElem_mem hi, decide_eq_true h0⟩
theorem had_hi {l : List Vr} {v : Vr} (h : SrtV l) (hn : hadV l v = false) (j : Nat) (hj : (aV l v).length ≤ j) (hl : j < l.length) : 0 < cmpV (l.getD j default) v := by
  have h1 := aV_hi l v h j hj hl
  have h2 : ¬ cmpV (l.getD j default) v = 0 := fun e => by
    have : hadV l v = true := List.any_eq_true.2 ⟨_, by rw [List.getD_eq_getElem?_getD, List.getElem?_eq_getElem hl]; exact List.getElem_mem hl, decide_eq_true e⟩
    rw [hn] at this
    cases this
  omega
theorem srt_add {l : List Vr} {v : Vr} (h : SrtV l) : SrtV (addV l v).1 := by
  unfold addV
  split
  · exact h
  · split
    · exact h
    · rename_i hn
      have hn' : hadV l v = false := by simpa using hn
      have hs := h
      unfold SrtV at hs ⊢
      rw [← ab_is l v, List.pairwise_append] at hs
      obtain ⟨h1, h2, h3⟩ := hs
      have hb : ∀ p ∈ bV l v, cmpV v p < 0 := fun p hp => by
        have h4 := bV_ge l v h p hp
        have h5 : ¬ cmpV p v = 0 := fun e => by
          have : hadV l v = true := List.any_eq_true.2 ⟨p, by rw [← ab_is l v]; exact List.mem_append_right _ hp, decide_eq_true e⟩
          rw [hn'] at this
          cases this
        have h6 := cmpV_swap p v
        omega
      rw [List.pairwise_append]
      refine ⟨h1, List.pairwise_cons.2 ⟨hb, h2⟩, fun p hp q hq => ?_⟩
      rcases List.mem_cons.1 hq with rfl | hq
      · exact aV_lt l _ p hp
      · exact h3 p hp q hq
theorem add_len (l : List Vr) (v : Vr) : (addV l v).1.length = l.length + (if (addV l v).2 = 0 then 1 else 0) := by
  unfold addV
  split
  · simp
  · split
    · simp
    · have h := congrArg List.length (ab_is l v)
      rw [List.length_append] at h
      simp only [List.length_append, List.length_cons, if_true]
      omega
/-- Of one key. -/
theorem keq {x y : ByteArray} : (x.toList == y.toList) = true ↔ x = y := by
  rw [beq_iff_eq]
  exact ⟨fun h => M.toL_inj h, fun h => by rw [h]⟩
theorem ofV_mem {l : List Vr} {key : ByteArray} {p : Vr} : p ∈ ofV l key ↔ p ∈ l ∧ p.k = key := by
  unfold ofV
  rw [List.mem_filter, keq]
theorem srt_of {l : List Vr} (h : SrtV l) (key : ByteArray) : SrtV (ofV l key) := List.Pairwise.sublist (List.filter_sublist) h
theorem tw_app {α : Type} {p : α → Bool} : ∀ (a b : List α), (∀ x ∈ a, p x = true) → (∀ x ∈ b, p x = false) → (a ++ b).takeWhile p = a ∧ (a ++ b).dropWhile p = b
  | [], b, _, h2 => by
    cases b with
    | nil => exact ⟨rfl, rfl⟩
    | cons x b => simp [List.takeWhile_cons, List.dropWhile_cons, h2 x List.mem_cons_self]
  | x :: a, b, h1, h2 => by
    obtain ⟨i1, i2⟩ := tw_app a b (fun y hy => h1 y (List.mem_cons_of_mem _ hy)) h2
    simp [List.takeWhile_cons, List.dropWhile_cons, h1 x List.mem_cons_self, i1, i2]
theorem ofV_ab {l : List Vr} (h : SrtV l) (v : Vr) (key : ByteArray) : aV (ofV l key) v = ofV (aV l v) key ∧ bV (ofV l key) v = ofV (bV l v) key := by
  have e : ofV l key = ofV (aV l v) key ++ ofV (bV l v) key := by
    unfold ofV
    rw [← List.filter_append, ab_is]
  unfold aV bV
  rw [e]
  refine tw_app _ _ (fun x hx => decide_eq_true (aV_lt l v x (ofV_mem.1 hx).1)) (fun x hx => decide_eq_false ?_)
  have := bV_ge l v h x (ofV_mem.1 hx).1
  omega
theorem had_of (l : List Vr) (v : Vr) : hadV (ofV l v.k) v = hadV l v := by
  rw [Bool.eq_iff_iff]
  unfold hadV
  rw [List.any_eq_true, List.any_eq_true]
  constructor
  · rintro ⟨p, hp, h⟩
    exact ⟨p, (ofV_mem.1 hp).1, h⟩
  · rintro ⟨p, hp, h⟩
    exact ⟨p, ofV_mem.2 ⟨hp, ((cmpV_zero p v).1 (of_decide_eq_true h)).1⟩, h⟩
/-- What an Add makes of the rows of the keys. -/
theorem ofV_add {l : List Vr} {v : Vr} (h : SrtV l) (hm : mayV v = true) (hn : hadV l v = false) : (addV l v) = (aV l v ++ v :: bV l v, 0) ∧ ofV (addV l v).1 v.k = aV (ofV l v.k) v ++ v :: bV (ofV l v.k) v ∧ ∀ key, key ≠ v.k → ofV (addV l v).1 key = ofV l key := by
  have e : addV l v = (aV l v ++ v :: bV l v, 0) := by
    unfold addV
    rw [if_neg (by simp [hm]), if_neg (by simp [hn])]
  obtain ⟨h1, h2⟩ := ofV_ab h v v.k
  refine ⟨e, ?_, fun key hk => ?_⟩
  · rw [e, h1, h2]
    show List.filter _ (aV l v ++ v :: bV l v) = _
    rw [List.filter_append, List.filter_cons, if_pos (keq.2 rfl)]
    rfl
  · rw [e]
    show List.filter _ (aV l v ++ v :: bV l v) = _
    rw [List.filter_append, List.filter_cons, if_neg (fun hc => hk (keq.1 hc).symm), ← List.filter_append, ab_is]
    rfl
/-- All rows, key by key. -/
def SrtK (ks : List ByteArray) : Prop := ks.Pairwise (fun a b => M.ltS a b = true)
theorem of_rest (l : List Vr) (k : ByteArray) (h : SrtV l) (hk : ∀ p ∈ l, p.k = k ∨ M.ltS k p.k = true) : ofV l k ++ l.filter (fun p => !(p.k.toList == k.toList)) = l := by
  induction l with
  | nil => rfl
  | cons q l ih =>
    have ih := ih (List.Pairwise.tail h) (fun p hp => hk p (List.mem_cons_of_mem _ hp))
    rcases hk q List.mem_cons_self with e | hlt
    · have e1 : (q.k.toList == k.toList) = true := keq.2 e
      unfold ofV at ih ⊢
      rw [List.filter_cons, List.filter_cons, if_pos e1, if_neg (by simp [e1]), List.cons_append, ih]
    · have hall : ∀ p ∈ q :: l, M.ltS k p.k = true := by
        intro p hp
        rcases List.mem_cons.1 hp with rfl | hp
        · exact hlt
        · rcases cmpV_key (List.rel_of_pairwise_cons h hp) with h1 | h1
          · exact M.ltS_trans hlt h1
          · rw [← h1]; exact hlt
      have hne : ∀ p ∈ q :: l, ¬ p.k = k := fun p hp e => by
        have := hall p hp
        rw [e, M.ltS_self] at this
        cases this
      have e1 : ofV (q :: l) k = [] := by
        unfold ofV
        rw [List.filter_eq_nil_iff]
        exact fun p hp hc => hne p hp (keq.1 hc)
      have e2 : (q :: l).filter (fun p => !(p.k.toList == k.toList)) = q :: l := by
        rw [List.filter_eq_self]
        intro p hp
        have := fun hc => hne p hp (keq.1 hc)
        simpa using this
      rw [e1, e2]
      rfl
theorem flatV : ∀ (ks : List ByteArray) (l : List Vr), SrtV l → SrtK ks → (∀ p ∈ l, p.k ∈ ks) → ks.flatMap (ofV l) = l
  | [], l, _, _, h3 => by
    cases l with
    | nil => rfl
    | cons p l => exact absurd (h3 p List.mem_cons_self) (by simp)
  | k :: ks, l, h1, h2, h3 => by
    have hk := List.pairwise_cons.1 h2
    have hr := of_rest l k h1 (fun p hp => by
      rcases List.mem_cons.1 (h3 p hp) with e | e
      · exact .inl e
      · exact .inr (hk.1 _ e))
    have ih := flatV ks (l.filter (fun p => !(p.k.toList == k.toList))) (List.Pairwise.sublist List.filter_sublist h1) hk.2 (fun p hp => by
      obtain ⟨a1, a2⟩ := List.mem_filter.1 hp
      rcases List.mem_cons.1 (h3 p a1) with e | e
      · rw [keq.2 e] at a2
        cases a2
      · exact e)
    have e : ks.flatMap (ofV l) = ks.flatMap (ofV (l.filter (fun p => !(p.k.toList == k.toList)))) := by
      rw [List.flatMap_def, List.flatMap_def]
      congr 1
      refine List.map_congr_left fun k' hk' => ?_
      unfold ofV
      rw [List.filter_filter]
      refine List.filter_congr fun p _ => ?_
      by_cases e : p.k = k'
      · have : ¬ p.k = k := fun e2 => by
          have := hk.1 k' hk'
          rw [← e, e2, M.ltS_self] at this
          cases this
        have h5 : ¬ (p.k.toList == k.toList) = true := fun hc => this (keq.1 hc)
        rw [keq.2 e]
        simpa using h5
      · have h5 : ¬ (p.k.toList == k'.toList) = true := fun hc => e (keq.1 hc)
        simp only [Bool.not_eq_true] at h5
        rw [h5]
        rfl
    rw [List.flatMap_cons, e, ih, hr]
theorem addK_new {o : List ByteArray} {k : ByteArray} (h : ∀ x ∈ o, x ≠ k) : addK o k = o ++ [k] := by
  unfold addK
  rw [if_pos]
  rcases Nat.eq_zero_or_pos o.length with h0 | h0
  · exact .inl h0
  · refine .inr fun e => ?_
    have h1 : o.getD (o.length - 1) ByteArray.empty ∈ o := by
      rw [List.getD_eq_getElem?_getD, List.getElem?_eq_getElem (by omega)]
      exact List.getElem_mem _
    exact h _ h1 (M.toL_inj e)
theorem addK_old (o : List ByteArray) (k : ByteArray) : addK (o ++ [k]) k = o ++ [k] := by
  unfold addK
  rw [if_neg]
  rintro (h | h)
  · simp at h
  · refine h ?_
    simp [List.getD_eq_getElem?_getD]
theorem fold_same (k : ByteArray) : ∀ (m : List Vr) (o : List ByteArray), (∀ p ∈ m, p.k = k) → m.foldl (fun o p => addK o p.k) (o ++ [k]) = o ++ [k]
  | [], o, _ => rfl
  | p :: m, o, h => by
    rw [List.foldl_cons, h p List.mem_cons_self, addK_old]
    exact fold_same k m o (fun q hq => h q (List.mem_cons_of_mem _ hq))
theorem fold_keys (l : List Vr) : ∀ (ks : List ByteArray) (o : List ByteArray), (∀ k ∈ ks, ofV l k ≠ []) → ks.Pairwise (fun a b => a ≠ b) → (∀ k ∈ ks, ∀ x ∈ o, x ≠ k) → (ks.flatMap (ofV l)).foldl (fun o p => addK o p.k) o = o ++ ks
  | [], o, _, _, _ => by simp
  | k :: ks, o, h1, h2, h3 => by
    have hk := List.pairwise_cons.1 h2
    have e : (ofV l k).foldl (fun o p => addK o p.k) o = o ++ [k] := by
      have hall : ∀ p ∈ ofV l k, p.k = k := fun p hp => (ofV_mem.1 hp).2
      cases hb : ofV l k with
      | nil => exact absurd hb (h1 k List.mem_cons_self)
      | cons p m =>
        rw [hb] at hall
        rw [List.foldl_cons, hall p List.mem_cons_self, addK_new (h3 k List.mem_cons_self)]
        exact fold_same k m o (fun q hq => hall q (List.mem_cons_of_mem _ hq))
    rw [List.flatMap_cons, List.foldl_append, e, fold_keys l ks (o ++ [k]) (fun k' hk' => h1 k' (List.mem_cons_of_mem _ hk')) hk.2 ?_]
    · simp
    · intro k' hk' x hx
      rcases List.mem_append.1 hx with hx | hx
      · exact h3 k' (List.mem_cons_of_mem _ hk') x hx
      · rw [List.mem_singleton.1 hx]
        exact hk.1 k' hk'
theorem keysV_is {l : List Vr} {ks : List ByteArray} (h : SrtV l) (hs : SrtK ks) (h1 : ∀ p ∈ l, p.k ∈ ks) (h2 : ∀ k ∈ ks, ofV l k ≠ []) : keysV l = ks := by
  have h3 := fold_keys l ks [] h2 (hs.imp (fun hab e => by rw [e, M.ltS_self] at hab; cases hab)) (fun _ _ x hx => by cases hx)
  rw [flatV ks l h hs h1, List.nil_append] at h3
  exact h3
theorem range_flat {l : List Vr} {ks : List ByteArray} (h : SrtV l) (hs : SrtK ks) (h1 : ∀ p ∈ l, p.k ∈ ks) (fr til : ByteArray) : rangeV l fr til = (ks.filter (fun k => !bytesLess k.toList fr.toList && bytesLess k.toList til.toList)).flatMap (ofV l) := by
  have e : rangeV l fr til = rangeV (ks.flatMap (ofV l)) fr til := by rw [flatV ks l h hs h1]
  rw [e]
  clear e hs h1
  induction ks with
  | nil => rfl
  | cons k ks ih =>
    unfold rangeV at ih ⊢
    rw [List.flatMap_cons, List.filter_append, ih, List.filter_cons]
    by_cases hb : (!bytesLess k.toList fr.toList && bytesLess k.toList til.toList) = true
    · rw [if_pos hb, List.flatMap_cons]
      congr 1
      rw [List.filter_eq_self]
      intro p hp
      rw [(ofV_mem.1 hp).2]
      exact hb
    · rw [if_neg hb, List.filter_eq_nil_iff.2, List.nil_append]
      intro p hp
      rw [(ofV_mem.1 hp).2]
      exact hb
end Go.Proofs.Ytheoodbkjgfdfaa.A
