/- What was written is read: the plain law; are two tuples the same. -/
import Derived.Test.YtmkabbfglijckaaOARefWrite
namespace Go.Proofs.Ytmkabbfglijckaa.A.O
open Go.RowKit Go.Proofs.YtmkabbfglijckaaW.PrintWords Go.Proofs.YtmkabbfglijckaaW.PrintLast Go.Proofs.YtmkabbfglijckaaW.PrintMore
set_option linter.unusedVariables false
set_option linter.unusedSimpArgs false

/-- What is read of a part. -/
def norm (p : Pt) : Pt := if p.t then ⟨true, 0, p.s⟩ else ⟨false, p.n, { data := #[] }⟩
theorem words_text : ∀ (xs X acc : List Int), wordsL (xs.flatMap wtextB ++ ([0, 1] ++ X)) acc = (acc ++ xs, X, 0)
  | [], X, acc => by
    show wordsL (0 :: 1 :: X) acc = _
    rw [wordsL_cons, if_pos rfl]
    simp
  | b :: xs, X, acc => by
    have ih := words_text xs X (acc ++ [b])
    rw [List.flatMap_cons, List.append_assoc]
    by_cases hb : b = 0
    · subst hb
      show wordsL (0 :: 255 :: (xs.flatMap wtextB ++ ([0, 1] ++ X))) acc = _
      rw [wordsL_cons, if_pos rfl]
      show (if (255 : Int) = 255 then wordsL (xs.flatMap wtextB ++ ([0, 1] ++ X)) (acc ++ [0]) else _) = _
      rw [if_pos rfl, ih]
      simp
    · have e : wtextB b = [b] := by unfold wtextB; rw [if_neg hb]
      rw [e]
      show wordsL (b :: (xs.flatMap wtextB ++ ([0, 1] ++ X))) acc = _
      rw [wordsL_cons, if_neg hb, ih]
      simp
theorem valK_num : ∀ (k : Nat) (u : Int), 0 ≤ u → u < 256 ^ k → valK (numK k u) = u
  | 0, u, h0, h1 => by
    have : (256 : Int) ^ 0 = 1 := rfl
    have hu : u = 0 := by omega
    rw [hu]
    rfl
  | k + 1, u, h0, h1 => by
    rw [Int.pow_succ] at h1
    have ih := valK_num k (u / 256) (by omega) (by generalize (256 : Int) ^ k = m at *; omega)
    rw [numK, valK_snoc, ih]
    omega
theorem str_bytes (s : ByteArray) : strOfNums (bytesOf s) = s := by
  have e : (bytesOf s).map (fun n => UInt8.ofNat n.toNat) = s.data.toList := by
    unfold bytesOf
    rw [List.map_map]
    refine (List.map_congr_left (g := id) fun x hx => ?_).trans (List.map_id _)
    show UInt8.ofNat ((x.toNat : Int)).toNat = x
    rw [Int.toNat_natCast]
    exact UInt8.ofNat_toNat
  unfold strOfNums
  rw [e]
theorem read_part (f : Nat) (p : Pt) (X : List Int) (acc : List Pt) (hp : p.ok) : readL (f + 1) (wpart p ++ X) acc = readL f X (acc ++ [norm p]) := by
  obtain ⟨pt, pn, ps⟩ := p
  cases pt with
  | true =>
    have e : wtext ps ++ X = (bytesOf ps).flatMap wtextB ++ ([0, 1] ++ X) := by unfold wtext; rw [List.append_assoc]
    have hw := words_text (bytesOf ps) X []
    rw [← e, List.nil_append] at hw
    have h1 : errW (wtext ps ++ X) = 0 := by unfold errW; rw [hw]
    have h2 : restW (wtext ps ++ X) = X := by unfold restW; rw [hw]
    have h3 : wordsP (wtext ps ++ X) = ⟨true, 0, ps⟩ := by
      unfold wordsP
      rw [if_pos h1, hw, str_bytes]
    show readL (f + 1) (2 :: (wtext ps ++ X)) acc = _
    rw [readL, if_neg (by omega), if_pos rfl, if_pos h1, h2, h3]
    rfl
  | false =>
    have g0 : -9223372036854775808 ≤ pn := hp.1.1
    have g1 : pn ≤ 9223372036854775807 := hp.1.2
    have p8 : (256 : Int) ^ 8 = 18446744073709551616 := by decide
    have hv := valK_num 8 (pn + 9223372036854775808) (by omega) (by rw [p8]; omega)
    rw [← num8_K] at hv
    have hl := num8_len (pn + 9223372036854775808)
    have h2 : (num8 (pn + 9223372036854775808) ++ X).drop 8 = X := by rw [List.drop_append_of_le_length (by omega), List.drop_of_length_le (by omega), List.nil_append]
    have h3 : wordP (num8 (pn + 9223372036854775808) ++ X) = ⟨false, pn, { data := #[] }⟩ := by
      unfold wordP
      rw [List.take_append_of_le_length (by omega), List.take_of_length_le (by omega), hv]
      have : pn + 9223372036854775808 - 9223372036854775808 = pn := by omega
      rw [this]
    show readL (f + 1) (1 :: (num8 (pn + 9223372036854775808) ++ X)) acc = _
    rw [readL, if_pos rfl, if_neg (by rw [List.length_append]; omega), h2, h3]
    rfl
theorem read_write : ∀ (l : List Pt) (f : Nat) (acc : List Pt), l.length < f → (∀ p ∈ l, p.ok) → readL f (writeL l) acc = (acc ++ l.map norm, 0)
  | [], f, acc, hf, _ => by
    obtain ⟨f, rfl⟩ : ∃ g, f = g + 1 := ⟨f - 1, by simp at hf; omega⟩
    show readL (f + 1) [] acc = _
    rw [readL]
    simp
  | p :: l, f, acc, hf, h => by
    rw [List.length_cons] at hf
    obtain ⟨f, rfl⟩ : ∃ g, f = g + 1 := ⟨f - 1, by omega⟩
    have ih := read_write l f (acc ++ [norm p]) (by omega) (fun q hq => h q (by simp [hq]))
    unfold writeL at ih ⊢
    rw [List.flatMap_cons, read_part f p _ _ (h p (by simp)), ih]
    simp
theorem writeL_ge (l : List Pt) : l.length ≤ (writeL l).length := by
  unfold writeL
  induction l with
  | nil => simp
  | cons p l ih =>
    obtain ⟨c, r, e⟩ := wpart_cons p
    rw [List.flatMap_cons, List.length_append, List.length_cons, e, List.length_cons]
    omega
theorem readB_write (l : List Pt) (h : ∀ p ∈ l, p.ok) : readB (writeL l) = (l.map norm, 0) := by
  unfold readB
  rw [read_write l _ [] (by have := writeL_ge l; omega) h]
  rfl
theorem cmpS_self (x : ByteArray) : cmpS x x = 0 := by unfold cmpS; simp [bl_self]
theorem cmpP_norm (p : Pt) : cmpP (norm p) p = 0 := by
  obtain ⟨pt, pn, ps⟩ := p
  cases pt with
  | true => exact cmpS_self ps
  | false =>
    show cmpI pn pn = 0
    unfold cmpI
    rw [if_neg (by omega), if_pos rfl]
theorem cmp_norm : ∀ l : List Pt, cmpL (l.map norm) l = 0
  | [] => rfl
  | p :: l => by
    show (if cmpP (norm p) p = 0 then cmpL (l.map norm) l else cmpP (norm p) p) = 0
    rw [if_pos (cmpP_norm p)]
    exact cmp_norm l
theorem cmpP_self (p : Pt) : cmpP p p = 0 := by
  obtain ⟨pt, pn, ps⟩ := p
  cases pt with
  | true => exact cmpS_self ps
  | false =>
    show cmpI pn pn = 0
    unfold cmpI
    rw [if_neg (by omega), if_pos rfl]
theorem cmpL_self : ∀ l : List Pt, cmpL l l = 0
  | [] => rfl
  | p :: l => by
    show (if cmpP p p = 0 then cmpL l l else cmpP p p) = 0
    rw [if_pos (cmpP_self p)]
    exact cmpL_self l

end Go.Proofs.Ytmkabbfglijckaa.A.O
