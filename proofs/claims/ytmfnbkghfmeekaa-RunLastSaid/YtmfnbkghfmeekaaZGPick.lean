/- GPick -/
import Derived.Test.YtmfnbkghfmeekaaZGSomeP
namespace Go.Proofs.Ytmfnbkghfmeekaa.A
open Go.RowKit Go.Proofs.YtmfnbkghfmeekaaW.PrintWords Go.Proofs.YtmfnbkghfmeekaaW.PrintLast Go.Proofs.YtmfnbkghfmeekaaW.PrintMore
open R C
open Go.Op (bytesLess)
set_option linter.unusedVariables false
set_option linter.unusedSimpArgs false
abbrev ltB (x y : ByteArray) : Bool := bytesLess x.toList y.toList
theorem ltB_self (x : ByteArray) : ltB x x = false := O.bl_self _
theorem ltB_trans {x y z : ByteArray} (h : ltB x y = true) (k : ltB y z = true) : ltB x z = true := bl_trans _ _ _ h k
theorem toL_inj {x y : ByteArray} (h : x.toList = y.toList) : x = y := Classical.byContradiction fun hn => str_ne hn h
theorem ltB_asym {x y : ByteArray} (h : ltB x y = true) : ltB y x = false := by
  cases hb : ltB y x with
  | false => rfl
  | true =>
    have h1 := ltB_trans h hb
    rw [ltB_self] at h1
    cases h1
theorem ltB_conn {x y : ByteArray} (h : ltB x y = false) (hne : x ≠ y) : ltB y x = true := by
  rcases O.bl_tri x.toList y.toList with ⟨h1, _, _⟩ | h1 | ⟨_, h1, _⟩
  · have h2 : ltB x y = true := h1
    rw [h] at h2
    cases h2
  · exact absurd (toL_inj h1) hne
  · exact h1
theorem ltB_le {x y z : ByteArray} (h : ltB y x = false) (k : ltB y z = true) : ltB x z = true := by
  by_cases e : y = x
  · rw [← e]; exact k
  · exact ltB_trans (ltB_conn h e) k
theorem leB_trans {x y z : ByteArray} (h : ltB y x = false) (k : ltB z y = false) : ltB z x = false := by
  cases hb : ltB z x with
  | false => rfl
  | true =>
    rw [ltB_le k hb] at h
    cases h
theorem keq {x y : ByteArray} : (x.toList == y.toList) = true ↔ x = y := by
  rw [beq_iff_eq]
  exact ⟨fun h => toL_inj h, fun h => by rw [h]⟩
theorem key_le {a b : Vr} (h : cmpV a b < 0) : ltB b.k a.k = false := by
  unfold cmpV at h
  simp only [firstL] at h
  have h1 : O.cmpS a.k b.k ≤ 0 := by
    by_cases h0 : O.cmpS a.k b.k = 0
    · omega
    · rw [if_neg h0] at h; omega
  have := (cmpS_iff a.k b.k).1.1 h1
  simpa using this
def SrtKey (l : List Vr) : Prop := l.Pairwise (fun a b => ltB b.k a.k = false)
theorem srt_key {l : List Vr} (h : SrtV l) : SrtKey l := h.imp key_le
def MonoB (ov : ByteArray → Bool) : Prop := ∀ a b, ov a = true → ltB b a = false → ov b = true
theorem tw_filter {ov : ByteArray → Bool} (hov : MonoB ov) : ∀ l : List Vr, SrtKey l → l.takeWhile (fun p => !ov p.k) = l.filter (fun p => !ov p.k)
  | [], _ => rfl
  | q :: l, h => by
    cases hq : ov q.k with
    | false => rw [List.takeWhile_cons_of_pos (by rw [hq]; rfl), List.filter_cons_of_pos (by rw [hq]; rfl), tw_filter hov l (List.Pairwise.tail h)]
    | true =>
      rw [List.takeWhile_cons_of_neg (by rw [hq]; simp), List.filter_cons_of_neg (by rw [hq]; simp)]
      refine (List.filter_eq_nil_iff.2 fun p hp => ?_).symm
      rw [hov _ _ hq (List.rel_of_pairwise_cons h hp)]
      simp
theorem pickS_is {ov : ByteArray → Bool} (hov : MonoB ov) (f : Vr → Bool) {l : List Vr} (h : SrtKey l) : pickS ov f l = l.filter (fun p => f p && !ov p.k) := by
  unfold pickS
  rw [tw_filter hov l h, List.filter_filter]
theorem head_in {c : List Vr} (h : 1 ≤ c.length) : c.getD 0 default ∈ c := by
  rw [getD_in c 0 (by omega)]
  exact List.getElem_mem _
theorem drop_keep {cs : List (List Vr)} {key : ByteArray} {i0 : Nat} (hs : SrtKey cs.flatten) (hne : ∀ c ∈ cs, 1 ≤ c.length) (hi : i0 ≤ cs.length)
    (hlo : ∀ j, j < i0 → ltB ((cs.map (fun c => (c.getD 0 default).k)).getD j ByteArray.empty) key = true) (is : Vr → Bool) (g : Vr → Bool) :
    (cs.drop (i0 - 1)).flatten.filter (fun p => keepS key is p && g p) = cs.flatten.filter (fun p => keepS key is p && g p) := by
  cases i0 with
  | zero => rfl
  | succ s =>
    rw [show s + 1 - 1 = s by omega]
    have hsl : s < cs.length := hi
    have e : cs = cs.take s ++ cs[s] :: cs.drop (s + 1) := by rw [← List.drop_eq_getElem_cons hsl, List.take_append_drop]
    have hd : cs.drop s = cs[s] :: cs.drop (s + 1) := List.drop_eq_getElem_cons hsl
    have hk := hlo s (Nat.lt_succ_self s)
    rw [List.getD_eq_getElem?_getD, List.getElem?_map, List.getElem?_eq_getElem hsl] at hk
    simp only [Option.map_some, Option.getD_some] at hk
    have hin := head_in (hne cs[s] (List.getElem_mem hsl))
    have ef : cs.flatten = (cs.take s).flatten ++ (cs.drop s).flatten := by rw [← List.flatten_append, List.take_append_drop]
    rw [ef, List.filter_append]
    have hz : (cs.take s).flatten.filter (fun p => keepS key is p && g p) = [] := by
      refine List.filter_eq_nil_iff.2 fun p hp => ?_
      have h1 := hs
      unfold SrtKey at h1
      rw [ef, List.pairwise_append] at h1
      have h2 := h1.2.2 p hp (cs[s].getD 0 default) (by rw [hd, List.flatten_cons]; exact List.mem_append_left _ hin)
      rw [keep_lt (ltB_le h2 hk)]
      simp
    rw [hz, List.nil_append]
theorem place_ex (key : ByteArray) : ∀ ks : List ByteArray, ks.Pairwise (fun a b => ltB b a = false) → ∃ i, i ≤ ks.length ∧ (∀ j, j < i → ltB (ks.getD j ByteArray.empty) key = true) ∧ (∀ j, i ≤ j → j < ks.length → ltB (ks.getD j ByteArray.empty) key = false)
  | [], _ => ⟨0, Nat.le_refl _, fun j hj => absurd hj (by omega), fun j _ hj => absurd hj (by simp)⟩
  | k :: ks, h => by
    obtain ⟨i, h1, h2, h3⟩ := place_ex key ks (List.Pairwise.tail h)
    cases hk : ltB k key with
    | true =>
      refine ⟨i + 1, by rw [List.length_cons]; omega, fun j hj => ?_, fun j hj hl => ?_⟩
      · cases j with
        | zero => exact hk
        | succ j => exact h2 j (by omega)
      · cases j with
        | zero => omega
        | succ j =>
          rw [List.length_cons] at hl
          exact h3 j (by omega) (by omega)
    | false =>
      refine ⟨0, Nat.zero_le _, fun j hj => absurd hj (by omega), fun j _ hl => ?_⟩
      cases j with
      | zero => exact hk
      | succ j =>
        rw [List.length_cons] at hl
        have hj : j < ks.length := by omega
        have h4 : ltB (ks[j]) k = false := List.rel_of_pairwise_cons h (List.getElem_mem hj)
        have e : (k :: ks).getD (j + 1) ByteArray.empty = ks[j] := by rw [List.getD_eq_getElem?_getD, List.getElem?_cons_succ, List.getElem?_eq_getElem hj]; rfl
        rw [e]
        exact leB_trans hk h4
theorem heads_srt : ∀ cs : List (List Vr), SrtKey cs.flatten → (∀ c ∈ cs, 1 ≤ c.length) → (cs.map (fun c => (c.getD 0 default).k)).Pairwise (fun a b => ltB b a = false)
  | [], _, _ => List.Pairwise.nil
  | c :: cs, hs, hne => by
    unfold SrtKey at hs
    rw [List.flatten_cons, List.pairwise_append] at hs
    refine List.pairwise_cons.2 ⟨fun k hk => ?_, heads_srt cs hs.2.1 (fun d hd => hne d (List.mem_cons_of_mem _ hd))⟩
    obtain ⟨d, hd, rfl⟩ := List.mem_map.1 hk
    exact hs.2.2 _ (head_in (hne c List.mem_cons_self)) _ (List.mem_flatten.2 ⟨d, hd, head_in (hne d (List.mem_cons_of_mem _ hd))⟩)
def ofR (l : List Vr) (key : ByteArray) : List Vr := l.filter (fun p => p.k.toList == key.toList)
def rangeR (l : List Vr) (fr til : ByteArray) : List Vr := l.filter (fun p => !bytesLess p.k.toList fr.toList && bytesLess p.k.toList til.toList)
def isL (br ep : Int) (p : Vr) : Bool := decide (p.br = br) && decide (p.ep ≤ ep)
def lastsR (l : List Vr) (key : ByteArray) (br ep : Int) : List Vr := l.filter (fun p => (p.k.toList == key.toList) && isL br ep p)
def gtB (k2 k : ByteArray) : Bool := !bytesLess k.toList k2.toList && !(k.toList == k2.toList)
theorem gt_mono (k2 : ByteArray) : MonoB (gtB k2) := fun a b h1 h2 => by
  unfold gtB at h1 ⊢
  simp only [Bool.and_eq_true, Bool.not_eq_true', Bool.not_eq_true] at h1 ⊢
  obtain ⟨h3, h4⟩ := h1
  have hne : a ≠ k2 := fun e => by rw [keq.2 e] at h4; cases h4
  have h5 : ltB k2 a = true := ltB_conn h3 hne
  have h6 : ltB k2 b = true := by
    by_cases e : b = a
    · rw [e]; exact h5
    · exact ltB_trans h5 (ltB_conn h2 e)
  refine ⟨ltB_asym h6, ?_⟩
  cases hb : (b.toList == k2.toList) with
  | false => rfl
  | true =>
    rw [keq.1 hb, ltB_self] at h6
    cases h6
theorem ge_mono (k2 : ByteArray) : MonoB (fun k => !bytesLess k.toList k2.toList) := fun a b h1 h2 => by
  simp only [Bool.not_eq_true'] at h1 ⊢
  exact leB_trans h1 h2
theorem of_pick (key k : ByteArray) (b : Bool) : ((!bytesLess k.toList key.toList && b) && !gtB key k) = ((k.toList == key.toList) && b) := by
  unfold gtB
  rcases O.bl_tri k.toList key.toList with ⟨h1, _, h3⟩ | h1 | ⟨h0, h1, h3⟩
  · rw [h1, show (k.toList == key.toList) = false by simpa using h3]; cases b <;> rfl
  · rw [h1, O.bl_self]; simp
  · rw [h0, show (k.toList == key.toList) = false by simpa using h3]; cases b <;> rfl
theorem pick_of {cs : List (List Vr)} {key : ByteArray} {i0 : Nat} (hs : SrtV cs.flatten) (hne : ∀ c ∈ cs, 1 ≤ c.length) (hi : i0 ≤ cs.length) (hlo : ∀ j, j < i0 → ltB ((cs.map (fun c => (c.getD 0 default).k)).getD j ByteArray.empty) key = true) (is : Vr → Bool) :
    pickS (fun k => !bytesLess k.toList key.toList && !(k.toList == key.toList)) (keepS key is) (cs.drop (i0 - 1)).flatten = cs.flatten.filter (fun p => (p.k.toList == key.toList) && is p) := by
  have hk : SrtKey (cs.drop (i0 - 1)).flatten := List.Pairwise.sublist (by
    conv => rhs; rw [← List.take_append_drop (i0 - 1) cs]
    rw [List.flatten_append]
    exact List.sublist_append_right _ _) (srt_key hs)
  have h1 := pickS_is (gt_mono key) (keepS key is) hk
  have h2 := drop_keep (srt_key hs) hne hi hlo is (fun p => !gtB key p.k)
  refine h1.trans (h2.trans (List.filter_congr fun p _ => ?_))
  unfold keepS
  exact of_pick key p.k (is p)
theorem pick_range {cs : List (List Vr)} {key til : ByteArray} {i0 : Nat} (hs : SrtV cs.flatten) (hne : ∀ c ∈ cs, 1 ≤ c.length) (hi : i0 ≤ cs.length) (hlo : ∀ j, j < i0 → ltB ((cs.map (fun c => (c.getD 0 default).k)).getD j ByteArray.empty) key = true) :
    pickS (fun k => !bytesLess k.toList til.toList) (keepS key (fun _ => true)) (cs.drop (i0 - 1)).flatten = rangeR cs.flatten key til := by
  have hk : SrtKey (cs.drop (i0 - 1)).flatten := List.Pairwise.sublist (by
    conv => rhs; rw [← List.take_append_drop (i0 - 1) cs]
    rw [List.flatten_append]
    exact List.sublist_append_right _ _) (srt_key hs)
  have h1 := pickS_is (ge_mono til) (keepS key (fun _ => true)) hk
  have h2 := drop_keep (srt_key hs) hne hi hlo (fun _ => true) (fun p => !!bytesLess p.k.toList til.toList)
  refine h1.trans (h2.trans (List.filter_congr fun p _ => ?_))
  unfold keepS
  simp
theorem lt_nil (x : List UInt8) : bytesLess x (⟨#[]⟩ : ByteArray).toList = false := by
  rw [show (⟨#[]⟩ : ByteArray).toList = [] from ByteArray.toList_eq _]
  cases x <;> rfl
theorem pick_all {cs : List (List Vr)} : pickS (fun _ => false) (keepS ⟨#[]⟩ (fun _ => true)) (cs.drop (0 - 1)).flatten = cs.flatten := by
  rw [pickS_all (fun _ _ => rfl)]
  rw [show cs.drop (0 - 1) = cs from rfl]
  refine List.filter_eq_self.2 fun p _ => ?_
  unfold keepS
  rw [lt_nil]
  rfl
end Go.Proofs.Ytmfnbkghfmeekaa.A
