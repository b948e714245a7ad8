/- GPlain -/
import Derived.Test.YtmfnbkghfmeekaaZCFour
import Derived.Test.YtmfnbkghfmeekaaZFThree
import Derived.Test.YtmfnbkghfmeekaaZFFour
import Derived.Test.YtmfnbkghfmeekaaZRFour
namespace Go.Proofs.Ytmfnbkghfmeekaa.A
open Go.RowKit Go.Proofs.YtmfnbkghfmeekaaW.PrintWords Go.Proofs.YtmfnbkghfmeekaaW.PrintLast Go.Proofs.YtmfnbkghfmeekaaW.PrintMore
open R C
open Go.Op (bytesLess)
set_option linter.unusedVariables false
set_option linter.unusedSimpArgs false
def SrtV (l : List Vr) : Prop := l.Pairwise (fun a b => cmpV a b < 0)
def IsR (l : List Vr) : Prop := (∀ p ∈ l, mayV p = true) ∧ SrtV l
theorem cmpV_lt {a b c : Vr} (h1 : cmpV a b < 0) (h2 : cmpV b c < 0) : cmpV a c < 0 := by
  have h := cmpV_trans a b c (by omega) (by omega)
  have h3 := cmpV_swap a c
  have h4 := cmpV_swap b c
  rcases Int.lt_or_eq_of_le h with h | h
  · exact h
  · have := cmpV_trans c a b (by omega) (by omega)
    omega
theorem getD_in (l : List Vr) (i : Nat) (h : i < l.length) : l.getD i default = l[i] := by rw [List.getD_eq_getElem?_getD, List.getElem?_eq_getElem h]; rfl
theorem less_lt (a b : Vr) : lessV a b = true ↔ cmpV a b < 0 := by
  rw [less_cmp, decide_eq_true_eq]
  have := cmpV_range a b
  omega
theorem okN_iff (l : List Vr) : okN l l.length = true ↔ IsR l := by
  have e : okN l l.length = true ↔ ∀ i, i < l.length → stepOk l i = true := by
    unfold okN
    rw [List.all_eq_true]
    exact ⟨fun h i hi => h i (List.mem_range.2 hi), fun h i hi => h i (List.mem_range.1 hi)⟩
  rw [e]
  constructor
  · intro h
    have hm : ∀ i, (hi : i < l.length) → mayV l[i] = true := fun i hi => by
      have h1 := h i hi
      unfold stepOk at h1
      rw [Bool.and_eq_true, getD_in l i hi] at h1
      exact h1.1
    have hs : ∀ i, (hi : i + 1 < l.length) → cmpV (l[i]'(by omega)) l[i + 1] < 0 := fun i hi => by
      have h1 := h (i + 1) hi
      unfold stepOk at h1
      rw [Bool.and_eq_true, Bool.or_eq_true] at h1
      rcases h1.2 with h2 | h2
      · simp at h2
      · rw [show i + 1 - 1 = i by omega, getD_in l i (by omega), getD_in l (i + 1) hi] at h2
        exact (less_lt _ _).1 h2
    refine ⟨fun p hp => ?_, List.pairwise_iff_getElem.2 ?_⟩
    · obtain ⟨i, hi, rfl⟩ := List.mem_iff_getElem.1 hp
      exact hm i hi
    · intro i j hi hj hij
      induction j with
      | zero => omega
      | succ j ih =>
        rcases Nat.lt_or_ge i j with h1 | h1
        · exact cmpV_lt (ih (by omega) h1) (hs j hj)
        · obtain rfl : i = j := by omega
          exact hs i hj
  · rintro ⟨h1, h2⟩ i hi
    unfold stepOk
    rw [Bool.and_eq_true, Bool.or_eq_true, getD_in l i hi]
    refine ⟨h1 _ (List.getElem_mem hi), ?_⟩
    rcases Nat.eq_zero_or_pos i with h0 | h0
    · exact .inl (decide_eq_true h0)
    · refine .inr ((less_lt _ _).2 ?_)
      rw [getD_in l (i - 1) (by omega)]
      exact List.pairwise_iff_getElem.1 h2 (i - 1) i (by omega) hi (by omega)
theorem IsR_sub {l m : List Vr} (h : IsR l) (hs : m.Sublist l) : IsR m := ⟨fun p hp => h.1 p (hs.subset hp), List.Pairwise.sublist hs h.2⟩
theorem chk_all : ∀ (f : Nat) (l : List Vr), l.length ≤ f → (chk (f + 1) l).flatten = l ∧ ∀ c ∈ chk (f + 1) l, 1 ≤ c.length ∧ c.length ≤ 8 ∧ c.Sublist l
  | 0, l, h => by
    have h0 : l.length = 0 := by omega
    rw [chk_no h0]
    exact ⟨(List.eq_nil_of_length_eq_zero h0).symm, fun c hc => by cases hc⟩
  | f + 1, l, h => by
    by_cases h0 : l.length = 0
    · rw [chk_no h0]
      exact ⟨(List.eq_nil_of_length_eq_zero h0).symm, fun c hc => by cases hc⟩
    · obtain ⟨i1, i2⟩ := chk_all f (l.drop 8) (by rw [List.length_drop]; omega)
      rw [chk_yes h0]
      refine ⟨by rw [List.flatten_cons, i1, List.take_append_drop], fun c hc => ?_⟩
      rcases List.mem_cons.1 hc with rfl | hc
      · rw [List.length_take]
        exact ⟨by omega, by omega, List.take_sublist _ _⟩
      · obtain ⟨a1, a2, a3⟩ := i2 c hc
        exact ⟨a1, a2, a3.trans (List.drop_sublist _ _)⟩
abbrev pcs (l : List Vr) : List (List Vr) := chk (l.length + 1) l
theorem pcs_flat (l : List Vr) : (pcs l).flatten = l := (chk_all l.length l (Nat.le_refl _)).1
theorem pcs_may {l : List Vr} (h : IsR l) : ∀ c ∈ pcs l, mayBl c = true := fun c hc => by
  obtain ⟨a1, a2, a3⟩ := (chk_all l.length l (Nat.le_refl _)).2 c hc
  unfold mayBl
  rw [Bool.and_eq_true]
  exact ⟨(okN_iff c).2 (IsR_sub h a3), decide_eq_true ⟨a1, a2⟩⟩
theorem flat_count : ∀ cs : List (List Vr), (∀ c ∈ cs, 1 ≤ c.length) → cs.length ≤ cs.flatten.length
  | [], _ => Nat.zero_le _
  | c :: cs, h => by
    have h1 := flat_count cs (fun d hd => h d (List.mem_cons_of_mem _ hd))
    have h2 := h c List.mem_cons_self
    rw [List.flatten_cons, List.length_append, List.length_cons]
    omega
theorem pcs_len (l : List Vr) : (pcs l).length ≤ l.length := by
  have h := flat_count (pcs l) (fun c hc => ((chk_all l.length l (Nat.le_refl _)).2 c hc).1)
  rwa [pcs_flat] at h
abbrev frB (c : List Vr) : List Int := F.frame (blockB c)
def bldB (cs : List (List Vr)) : List Int := cs.flatMap frB
def keyB (cs : List (List Vr)) : List Int := cs.flatMap (fun c => V.vtext (c.getD 0 default).k)
def fenB (cs : List (List Vr)) : List Int := V.vput cs.length ++ keyB cs
def footB (l : List Vr) (cs : List (List Vr)) : List Int := [(l.length : Int), (cs.length : Int), ((bldB cs).length : Int)].flatMap V.vput
def runB (l : List Vr) : List Int := bldB (pcs l) ++ (F.frame (fenB (pcs l)) ++ F.frame (footB l (pcs l)))
def bldE (l : List Vr) : Int := if okN l l.length then 0 else 1
def bldR (l : List Vr) : List Int := if okN l l.length then runB l else []
theorem bldB_len {cs : List (List Vr)} (h : ∀ c ∈ cs, mayBl c = true) : (bldB cs).length ≤ 4008 * cs.length := by
  induction cs with
  | nil => exact Nat.zero_le _
  | cons c cs ih =>
    have h1 := ih (fun d hd => h d (List.mem_cons_of_mem _ hd))
    have h2 := blockB_len c (h c List.mem_cons_self)
    have h3 : (frB c).length = (blockB c).length + 8 := F.frame_len _
    unfold bldB at h1 ⊢
    rw [List.flatMap_cons, List.length_append, List.length_cons]
    omega
theorem mayV_key {p : Vr} (h : mayV p = true) : p.k.size ≤ 92 := key_size (by
  unfold mayV at h
  simp only [Bool.and_eq_true, decide_eq_true_eq] at h
  exact h.1.1.1.1)
theorem may_head {c : List Vr} (h : mayBl c = true) : (c.getD 0 default).k.size ≤ 92 := by
  obtain ⟨h1, h2, h3⟩ := mayBl_all h
  exact mayV_key (h1 _ (by rw [getD_in c 0 (by omega)]; exact List.getElem_mem _))
theorem keyB_len {cs : List (List Vr)} (h : ∀ c ∈ cs, mayBl c = true) : (keyB cs).length ≤ 102 * cs.length := by
  induction cs with
  | nil => exact Nat.zero_le _
  | cons c cs ih =>
    have h1 := ih (fun d hd => h d (List.mem_cons_of_mem _ hd))
    have h2 := may_head (h c List.mem_cons_self)
    have h3 := V.vput_le ((c.getD 0 default).k.size : Int) (by omega)
    have h4 := V.vtext_len (c.getD 0 default).k
    unfold keyB at h1 ⊢
    rw [List.flatMap_cons, List.length_append, List.length_cons]
    omega
theorem tkL {α : Type} [Inhabited α] (l : List α) (k : Nat) (hk : k < l.length) : l.take (k + 1) = l.take k ++ [l.getD k default] := by
  rw [List.take_succ_eq_append_getElem hk, List.getD_eq_getElem?_getD, List.getElem?_eq_getElem hk]
  rfl
def Apt (v u : Value) : Prop := ∀ b, v.ownBlock = some b → u.ownBlock ≠ some b
theorem Apt.swap {v u : Value} (h : Apt v u) : Apt u v := fun b h1 h2 => h b h2 h1
theorem Apt.ne {v u : Value} (h : Apt v u) : u.ownBlock = none ∨ u.ownBlock ≠ v.ownBlock := by
  cases hu : u.ownBlock with
  | none => exact .inl rfl
  | some b => exact .inr (fun e => h b e.symm hu)
theorem Apt.nextB {W : World} {B : Nat} {v v1 u : Value} {ys : List Int} (h : Apt v u) (hu : OB W B u ys) (h1 : v1.ownBlock = v.ownBlock ∨ ∃ b, v1.ownBlock = some b ∧ W.heap.size ≤ b) : Apt v1 u := by
  intro b hb hb2
  rcases h1 with h1 | ⟨c, h1, h2⟩
  · exact h b (h1.symm.trans hb) hb2
  · obtain ⟨_, inner, ho, _⟩ := hu
    rw [h1] at hb
    injection hb with hb
    subst hb
    have := own_lt ho c hb2
    omega
theorem Apt.newer {W W1 : World} {B B1 : Nat} {v u : Value} {xs ys : List Int} (hv : OB W B v xs) (hu : OB W1 B1 u ys) (hB : W.heap.size ≤ B1) : Apt v u := by
  intro b hb hb2
  obtain ⟨_, inner, ho, _⟩ := hv
  obtain ⟨_, inner2, ho2, _⟩ := hu
  have h1 := own_lt ho b hb
  have h2 := own_base ho2 b hb2
  omega
theorem Apt_nil (u : Value) : Apt (.slice none 0 0) u := fun b h => by simp [Value.ownBlock] at h
theorem lit_S2 {W : World} {e te : Nat} {A A2 : Option Addr} {n n2 c c2 : Nat} {x y : List Int} (h : U8.C W A n x) (hc : n ≤ c) (h2 : U8.C W A2 n2 y) (hc2 : n2 ≤ c2) : (Kd.slice e U8).C (W.alloc (.cells #[.slice A n c, .slice A2 n2 c2] te)) (some ⟨W.heap.size, 0, none⟩) 2 [x, y] := by
  have hn := h.1
  have hn2 := h2.1
  subst hn hn2
  refine ⟨rfl, by simp, fun _ => ⟨_, rfl, fun j p hj => ?_⟩⟩
  rcases j with _ | _ | j
  · have hp : x = p := by simpa using hj
    subst hp
    refine ⟨[.slice A x.length c], rfl, ⟨A, c, rfl, hc, Kd.C_alloc h _⟩, fun i u hu => ?_⟩
    have hi : i = 0 := by
      have := (List.getElem?_eq_some_iff.1 hu).1
      simpa using this
    subst hi
    have hu' : u = .slice A x.length c := by simpa using hu.symm
    subst hu'
    rw [add_plain, cell_of_row _ _ _ #[.slice A x.length c, .slice A2 y.length c2] te (0, 0) (heap_alloc_new W _)]
    rfl
  · have hp : y = p := by simpa using hj
    subst hp
    refine ⟨[.slice A2 y.length c2], rfl, ⟨A2, c2, rfl, hc2, Kd.C_alloc h2 _⟩, fun i u hu => ?_⟩
    have hi : i = 0 := by
      have := (List.getElem?_eq_some_iff.1 hu).1
      simpa using this
    subst hi
    have hu' : u = .slice A2 y.length c2 := by simpa using hu.symm
    subst hu'
    rw [add_plain, cell_of_row _ _ _ #[.slice A x.length c, .slice A2 y.length c2] te (0, 0) (heap_alloc_new W _)]
    rfl
  · simp at hj
end Go.Proofs.Ytmfnbkghfmeekaa.A
