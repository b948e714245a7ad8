/- GLastP -/
import Derived.Test.YtmfnbkghfmeekaaZGDoc
namespace Go.Proofs.Ytmfnbkghfmeekaa.A
open Go.RowKit Go.Proofs.YtmfnbkghfmeekaaW.PrintWords Go.Proofs.YtmfnbkghfmeekaaW.PrintLast Go.Proofs.YtmfnbkghfmeekaaW.PrintMore
open R C
open Go.Op (bytesLess)
set_option linter.unusedVariables false
set_option linter.unusedSimpArgs false
theorem lastV_in {L : List Vr} (h : L ≠ []) : lastV L ∈ L := by
  have h1 : 0 < L.length := List.length_pos_iff.2 h
  unfold lastV
  rw [List.getD_eq_getElem?_getD, List.getElem?_eq_getElem (by omega)]
  exact List.getElem_mem _
theorem last_up {L : List Vr} (hs : SrtV L) {p : Vr} (hp : p ∈ L) : p = lastV L ∨ cmpV p (lastV L) < 0 := by
  obtain ⟨i, hi, rfl⟩ := List.mem_iff_getElem.1 hp
  have e : lastV L = L[L.length - 1]'(by omega) := by
    unfold lastV
    rw [List.getD_eq_getElem?_getD, List.getElem?_eq_getElem (by omega)]
    rfl
  rcases Nat.lt_or_ge i (L.length - 1) with h | h
  · right
    rw [e]
    exact List.pairwise_iff_getElem.1 hs i (L.length - 1) hi (by omega) h
  · left
    rw [e]
    congr 1
    omega
theorem cmp_up {p v : Vr} (hk : p.k = v.k) (hb : p.br = v.br) (h : p = v ∨ cmpV p v < 0) : p.ep < v.ep ∨ (p.ep = v.ep ∧ p.sq ≤ v.sq) := by
  rcases h with rfl | h
  · exact .inr ⟨rfl, Int.le_refl _⟩
  · unfold cmpV at h
    rw [hk, hb, O.cmpS_self] at h
    simp only [firstL, O.cmpI] at h
    repeat' split at h
    all_goals omega
def isJ (br ep : Int) (p : Vr) : Bool := decide (p.br = br) && decide (p.ep ≤ ep)
theorem lasts_of (Z : List Vr) (key : ByteArray) (br ep : Int) : lastsR Z key br ep = (ofR Z key).filter (isJ br ep) := by
  unfold ofR
  rw [List.filter_filter]
  exact List.filter_congr fun p _ => Bool.and_comm _ _
theorem lasts_mem {Z : List Vr} {key : ByteArray} {br ep : Int} {p : Vr} (hp : p ∈ ofR Z key) (h : isJ br ep p = true) : p ∈ lastsR Z key br ep := by
  rw [lasts_of]
  exact List.mem_filter.2 ⟨hp, h⟩
theorem of_key {Z : List Vr} {key : ByteArray} {p : Vr} (hp : p ∈ ofR Z key) : p.k = key := keq.1 (List.mem_filter.1 hp).2
theorem last_best {Z : List Vr} (hZ : SrtV Z) {key : ByteArray} {br ep : Int} {p : Vr} (hp : p ∈ ofR Z key) (h : isJ br ep p = true) : lastsR Z key br ep ≠ [] ∧ (p.ep < (lastV (lastsR Z key br ep)).ep ∨ (p.ep = (lastV (lastsR Z key br ep)).ep ∧ p.sq ≤ (lastV (lastsR Z key br ep)).sq)) := by
  have h1 := lasts_mem hp h
  have h2 : lastsR Z key br ep ≠ [] := List.ne_nil_of_mem h1
  refine ⟨h2, ?_⟩
  have h3 := lastV_in h2
  have hs : SrtV (lastsR Z key br ep) := List.Pairwise.sublist List.filter_sublist hZ
  rw [lasts_of] at h3
  obtain ⟨h4, h5⟩ := List.mem_filter.1 h3
  rw [← lasts_of] at h4 h5
  refine cmp_up ((of_key hp).trans (of_key h4).symm) ?_ (last_up hs h1)
  unfold isJ at h h5
  simp only [Bool.and_eq_true, decide_eq_true_eq] at h h5
  rw [h.1, h5.1]
theorem last_more {Z : List Vr} (hZ : SrtV Z) {key : ByteArray} {br ep m : Int} (h : lastsR Z key br ep ≠ []) (hm : ep ≤ m) : lastsR Z key br m ≠ [] ∧ (lastV (lastsR Z key br ep)).ep ≤ (lastV (lastsR Z key br m)).ep := by
  have h3 := lastV_in h
  rw [lasts_of] at h3
  obtain ⟨h4, h5⟩ := List.mem_filter.1 h3
  rw [← lasts_of] at h4 h5
  have h6 : isJ br m (lastV (lastsR Z key br ep)) = true := by
    unfold isJ at h5 ⊢
    simp only [Bool.and_eq_true, decide_eq_true_eq] at h5 ⊢
    exact ⟨h5.1, by omega⟩
  obtain ⟨h7, h8⟩ := last_best hZ h4 h6
  exact ⟨h7, by omega⟩
theorem any_take (f : Vr → Bool) (l : List Vr) (k : Nat) (hk : k < l.length) : (l.take (k + 1)).any f = ((l.take k).any f || f (l.getD k default)) := by
  rw [tkL l k hk, List.any_append, List.any_cons, List.any_nil, Bool.or_false]
theorem lasts_any (Z : List Vr) (key : ByteArray) (br ep : Int) : decide (lastsR Z key br ep ≠ []) = (ofR Z key).any (isJ br ep) := by
  rw [lasts_of, Bool.eq_iff_iff, decide_eq_true_eq, List.any_eq_true]
  constructor
  · intro h
    obtain ⟨p, hp⟩ := List.exists_mem_of_ne_nil _ h
    obtain ⟨h1, h2⟩ := List.mem_filter.1 hp
    exact ⟨p, h1, h2⟩
  · rintro ⟨p, h1, h2⟩
    exact List.ne_nil_of_mem (List.mem_filter.2 ⟨h1, h2⟩)
end Go.Proofs.Ytmfnbkghfmeekaa.A
