/- GParts -/
import Derived.Test.YtmfnbkghfmeekaaZGDoc
namespace Go.Proofs.Ytmfnbkghfmeekaa.A
open Go.RowKit Go.Proofs.YtmfnbkghfmeekaaW.PrintWords Go.Proofs.YtmfnbkghfmeekaaW.PrintLast Go.Proofs.YtmfnbkghfmeekaaW.PrintMore
open R C
open Go.Op (bytesLess)
set_option linter.unusedVariables false
set_option linter.unusedSimpArgs false
theorem toL_strs (x : Int) (l : List Int) : (strOfNums (x :: l)).toList = UInt8.ofNat x.toNat :: (strOfNums l).toList := by
  rw [toL_data, toL_data, strOfNums_data, strOfNums_data, List.map_cons]
theorem key_ff {k : ByteArray} (h : (O.splitK k).2.2 = 0) : bytesLess k.toList (⟨#[255]⟩ : ByteArray).toList = true := by
  unfold O.splitK at h
  split at h
  · split at h
    · rename_i p q _
      split at h
      · rename_i h2
        obtain ⟨_, _, h3, h4⟩ := h2
        rw [← h4]
        unfold O.keyStr
        rw [if_pos h3]
        have e : O.writeL (O.keyParts p.n q.s) = 1 :: (O.num8 (p.n + 9223372036854775808) ++ O.wpart ⟨true, 0, q.s⟩) := by
          unfold O.writeL O.keyParts
          rw [List.flatMap_cons, List.flatMap_cons, List.flatMap_nil, List.append_nil]
          rfl
        rw [e, toL_strs, toL_data ⟨#[255]⟩]
        rfl
      · simp at h
    · simp at h
  · rename_i h1
    exact absurd h h1
theorem may_ff {p : Vr} (h : mayV p = true) : bytesLess p.k.toList (⟨#[255]⟩ : ByteArray).toList = true := key_ff ((mayV_iff p).1 h).1
theorem filt_two {a b : Vr → Bool} {key : ByteArray} (ha : ∀ p, a p = true → ltB p.k key = true) : ∀ l : List Vr, (∀ p ∈ l, b p = true → ltB p.k key = false) → SrtKey l → l.filter a ++ l.filter b = l.filter (fun p => a p || b p)
  | [], _, _ => rfl
  | q :: l, hb, h => by
    have ih := filt_two ha l (fun p hp => hb p (List.mem_cons_of_mem _ hp)) (List.Pairwise.tail h)
    cases h1 : a q with
    | true =>
      have h2 : b q = false := by
        cases h3 : b q with
        | false => rfl
        | true =>
          have h4 := hb q List.mem_cons_self h3
          rw [ha q h1] at h4
          cases h4
      rw [List.filter_cons_of_pos h1, List.filter_cons_of_neg (by rw [h2]; simp), List.filter_cons_of_pos (by rw [h1]; rfl), List.cons_append, ih]
    | false =>
      cases h2 : b q with
      | false => rw [List.filter_cons_of_neg (by rw [h1]; simp), List.filter_cons_of_neg (by rw [h2]; simp), List.filter_cons_of_neg (by rw [h1, h2]; simp), ih]
      | true =>
        have h3 : ltB q.k key = false := hb q List.mem_cons_self h2
        have h4 : l.filter a = [] := List.filter_eq_nil_iff.2 fun p hp hap => by
          have h5 : ltB p.k q.k = false := List.rel_of_pairwise_cons h hp
          have h6 := ltB_le (x := q.k) h5 (ha p hap)
          rw [h3] at h6
          cases h6
        rw [List.filter_cons_of_neg (by rw [h1]; simp), List.filter_cons_of_pos h2, List.filter_cons_of_pos (by rw [h1, h2]; rfl), ← ih, h4]
        rfl
theorem halves (Z : List Vr) (hZ : IsR Z) (key : ByteArray) : rangeR Z ⟨#[]⟩ key ++ rangeR Z key ⟨#[255]⟩ = Z := by
  have h1 : rangeR Z ⟨#[]⟩ key = Z.filter (fun p => bytesLess p.k.toList key.toList) := List.filter_congr fun p _ => by rw [lt_nil]; rfl
  have h2 : rangeR Z key ⟨#[255]⟩ = Z.filter (fun p => !bytesLess p.k.toList key.toList) := List.filter_congr fun p hp => by rw [may_ff (hZ.1 p hp), Bool.and_true]
  rw [h1, h2, filt_two (key := key) (fun p h => h) Z (fun p _ h => by simpa using h) (srt_key hZ.2)]
  exact List.filter_eq_self.2 fun p _ => by simp
def grpL (Z : List Vr) (k : Nat) : List Vr := Z.filter (fun p => (Z.take k).any (fun q => q.k.toList == p.k.toList))
theorem grp_zero (Z : List Vr) : grpL Z 0 = [] := List.filter_eq_nil_iff.2 fun p _ => by simp
theorem grp_all (Z : List Vr) (k : Nat) (hk : Z.length ≤ k) : grpL Z k = Z := List.filter_eq_self.2 fun p hp => by
  rw [List.take_of_length_le hk]
  exact List.any_eq_true.2 ⟨p, hp, keq.2 rfl⟩
theorem grp_any (Z : List Vr) (k : Nat) (hk : k < Z.length) (p : Vr) : (Z.take (k + 1)).any (fun q => q.k.toList == p.k.toList) = ((Z.take k).any (fun q => q.k.toList == p.k.toList) || ((Z.getD k default).k.toList == p.k.toList)) := by
  rw [tkL Z k hk, List.any_append, List.any_cons, List.any_nil, Bool.or_false]
theorem grp_old (Z : List Vr) (k : Nat) (hk : k + 1 < Z.length) (h : ((Z.getD (k + 1) default).k.toList == (Z.getD k default).k.toList) = true) : grpL Z (k + 2) = grpL Z (k + 1) := List.filter_congr fun p _ => by
  rw [grp_any Z (k + 1) hk p, keq.1 h, grp_any Z k (by omega) p, Bool.or_assoc, Bool.or_self]
theorem take_le (Z : List Vr) (hs : SrtKey Z) (k : Nat) (hk : k < Z.length) : ∀ q ∈ Z.take (k + 1), ltB (Z.getD k default).k q.k = false := fun q hq => by
  have e : Z.getD k default = Z[k] := by rw [List.getD_eq_getElem?_getD, List.getElem?_eq_getElem hk]; rfl
  rw [e]
  obtain ⟨i, hi, rfl⟩ := List.mem_iff_getElem.1 hq
  rw [List.length_take] at hi
  rw [List.getElem_take]
  rcases Nat.lt_or_ge i k with h1 | h1
  · exact List.pairwise_iff_getElem.1 hs i k (by omega) hk h1
  · obtain rfl : i = k := by omega
    exact ltB_self _
theorem grp_new (Z : List Vr) (hs : SrtKey Z) (k : Nat) (hk : k < Z.length) (h : k = 0 ∨ ((Z.getD k default).k.toList == (Z.getD (k - 1) default).k.toList) = false) : grpL Z (k + 1) = grpL Z k ++ ofR Z (Z.getD k default).k := by
  have hlt : ∀ p : Vr, (Z.take k).any (fun q => q.k.toList == p.k.toList) = true → ltB p.k (Z.getD k default).k = true := fun p hp => by
    obtain ⟨q, hq, he⟩ := List.any_eq_true.1 hp
    rw [← keq.1 he]
    rcases Nat.eq_zero_or_pos k with h0 | h0
    · rw [h0] at hq; simp at hq
    · obtain ⟨i, rfl⟩ : ∃ i, k = i + 1 := ⟨k - 1, by omega⟩
      have h1 := take_le Z hs i (by omega) q hq
      rcases h with h | h
      · omega
      · rw [show i + 1 - 1 = i by omega] at h
        have h2 := take_le Z hs (i + 1) hk (Z.getD i default) (by rw [tkL Z (i + 1) hk, tkL Z i (by omega)]; simp)
        have h3 : ltB (Z.getD i default).k (Z.getD (i + 1) default).k = true := by
          refine ltB_conn h2 (fun e => ?_)
          rw [keq.2 e] at h
          cases h
        exact ltB_le h1 h3
  unfold ofR
  have h1 := filt_two (a := fun p => (Z.take k).any (fun q => q.k.toList == p.k.toList)) (b := fun p => p.k.toList == (Z.getD k default).k.toList) hlt Z (fun p _ h => by rw [keq.1 h]; exact ltB_self _) hs
  unfold grpL
  rw [h1]
  refine List.filter_congr fun p _ => ?_
  rw [grp_any Z k hk p]
  congr 1
  rw [Bool.eq_iff_iff, beq_iff_eq, beq_iff_eq]
  exact eq_comm
end Go.Proofs.Ytmfnbkghfmeekaa.A
