/- Whole numbers as words of floating point: sums, products by 0 and 1, order, and back. No program in sight. -/
import Derived.Test.YthmkpgemilmikaaABase
namespace Go.Proofs.Ythmkpgemilmikaa.PF
open Ieee
set_option linter.unusedVariables false
set_option linter.unusedSimpArgs false
theorem log2_mul_pow (k p : Nat) (hk : 0 < k) : (k * 2 ^ p).log2 = k.log2 + p := by
  induction p with
  | zero => simp
  | succ p ih =>
    rw [Nat.pow_succ, ← Nat.mul_assoc, Nat.mul_comm, Nat.log2_two_mul (by have := Nat.mul_pos hk (Nat.two_pow_pos p); omega), ih]
    omega
theorem lg_le (k : Nat) (hk : 0 < k) : 2 ^ k.log2 ≤ k := Nat.log2_self_le (by omega)
theorem lg_lt (k : Nat) (hk : 0 < k) : k < 2 ^ (k.log2 + 1) := Nat.lt_log2_self
theorem lg53 (k : Nat) (hk : 0 < k) (h : k < 2 ^ 53) : k.log2 ≤ 52 := by
  have h1 := lg_le k hk
  have h2 : 2 ^ k.log2 < 2 ^ 53 := Nat.lt_of_le_of_lt h1 h
  have := (Nat.pow_lt_pow_iff_right (by decide : 1 < 2)).1 h2
  omega
/-- The significand of a number, and its rung. -/
def sig (k : Nat) : Nat := k * 2 ^ (52 - k.log2)
theorem sig_ge (k : Nat) (hk : 0 < k) (h : k < 2 ^ 53) : 2 ^ 52 ≤ sig k ∧ sig k < 2 ^ 53 := by
  have hl := lg53 k hk h
  have h1 := lg_le k hk
  have h2 := lg_lt k hk
  unfold sig
  constructor
  · calc 2 ^ 52 = 2 ^ k.log2 * 2 ^ (52 - k.log2) := by rw [← Nat.pow_add]; congr 1; omega
      _ ≤ _ := Nat.mul_le_mul_right _ h1
  · calc k * 2 ^ (52 - k.log2) < 2 ^ (k.log2 + 1) * 2 ^ (52 - k.log2) := Nat.mul_lt_mul_of_pos_right h2 (Nat.two_pow_pos _)
      _ = 2 ^ 53 := by rw [← Nat.pow_add]; congr 1; omega
def rung (k : Nat) : Nat := (k.log2 + 1022) * 2 ^ 52 + sig k
theorem cut_exact (neg : Bool) (q d : Nat) (hq : 0 < q) : Toward.even.cut neg (q * 2 ^ d) d = q := by
  have hd : min d ((q * 2 ^ d).log2 + 2) = d := by
    rw [log2_mul_pow q d hq]
    omega
  unfold Toward.cut
  simp only [hd, Nat.one_shiftLeft]
  have h1 : q * 2 ^ d / 2 ^ d = q := Nat.mul_div_cancel _ (Nat.two_pow_pos _)
  have h2 : q * 2 ^ d % 2 ^ d = 0 := Nat.mul_mod_left _ _
  rw [h1, h2]
  have h3 : 0 < 2 ^ d := Nat.two_pow_pos d
  have h4 : ¬ (2 ^ d < 2 * 0) := by omega
  have h5 : (2 ^ d == 2 * 0) = false := by rw [beq_eq_false_iff_ne]; omega
  simp [h4, h5]
theorem leastPlace_d : double.leastPlace = -1074 := by decide
theorem nearest_is (neg : Bool) (k p : Nat) (hk : 0 < k) (h : k < 2 ^ 53) : double.nearest neg (k * 2 ^ p) (-(p : Int)) = double.word neg (rung k) := by
  have hl := lg53 k hk h
  have hs := sig_ge k hk h
  have hkp : k * 2 ^ p ≠ 0 := by have := Nat.mul_pos hk (Nat.two_pow_pos p); omega
  unfold Format.nearest
  rw [if_neg hkp, log2_mul_pow k p hk]
  have e1 : max (-(p : Int) + ((k.log2 + p : Nat) : Int) - (double.fractionBits : Int)) double.leastPlace = (k.log2 : Int) - 52 := by
    rw [leastPlace_d]
    show max (-(p : Int) + ((k.log2 + p : Nat) : Int) - ((52 : Nat) : Int)) (-1074) = _
    omega
  simp only [e1]
  have e2 : Toward.even.cut neg ((k * 2 ^ p) <<< (-(p : Int) - ((k.log2 : Int) - 52)).toNat) ((k.log2 : Int) - 52 - -(p : Int)).toNat = sig k := by
    by_cases hp : k.log2 + p ≤ 52
    · have a1 : (-(p : Int) - ((k.log2 : Int) - 52)).toNat = 52 - k.log2 - p := by omega
      have a2 : ((k.log2 : Int) - 52 - -(p : Int)).toNat = 0 := by omega
      rw [a1, a2, Nat.shiftLeft_eq]
      have a3 : k * 2 ^ p * 2 ^ (52 - k.log2 - p) = sig k * 2 ^ 0 := by
        unfold sig
        rw [Nat.mul_assoc, ← Nat.pow_add, Nat.pow_zero, Nat.mul_one]
        congr 2
        omega
      rw [a3]
      exact cut_exact neg _ 0 (by omega)
    · have a1 : (-(p : Int) - ((k.log2 : Int) - 52)).toNat = 0 := by omega
      have a2 : ((k.log2 : Int) - 52 - -(p : Int)).toNat = k.log2 + p - 52 := by omega
      rw [a1, a2, Nat.shiftLeft_eq, Nat.pow_zero, Nat.mul_one]
      have a3 : k * 2 ^ p = sig k * 2 ^ (k.log2 + p - 52) := by
        unfold sig
        rw [Nat.mul_assoc, ← Nat.pow_add]
        congr 2
        omega
      rw [a3]
      exact cut_exact neg _ _ (by omega)
  rw [e2, leastPlace_d]
  have e3 : ((k.log2 : Int) - 52 - -1074).toNat = k.log2 + 1022 := by omega
  rw [e3]
  have e4 : min ((k.log2 + 1022) * double.binade + sig k) double.infRung = rung k := by
    have b1 : double.binade = 2 ^ 52 := by decide
    have b2 : double.infRung = 2047 * 2 ^ 52 := by decide
    rw [b1, b2]
    unfold rung
    rw [Nat.min_eq_left]
    have := hs.2
    omega
  rw [e4]
/-- The word of a whole number. -/
def enc (neg : Bool) (k : Nat) : Nat := if k = 0 then double.word neg 0 else double.word neg (rung k)
theorem rung_parts (k : Nat) (hk : 0 < k) (h : k < 2 ^ 53) : rung k < 2 ^ 63 ∧ rung k / 2 ^ 52 = k.log2 + 1023 ∧ rung k % 2 ^ 52 = sig k - 2 ^ 52 := by
  have hl := lg53 k hk h
  have hs := sig_ge k hk h
  unfold rung
  refine ⟨by omega, by omega, by omega⟩
theorem word_parts (neg : Bool) (r : Nat) (hr : r < 2 ^ 63) : (double.word neg r / double.signWeight % 2 == 1) = neg ∧ double.word neg r % double.signWeight = r := by
  have hw : double.signWeight = 2 ^ 63 := by decide
  unfold Format.word
  rw [hw]
  cases neg with
  | true =>
    rw [if_pos rfl]
    have h1 : (2 ^ 63 + r) / 2 ^ 63 = 1 := by omega
    rw [h1]
    exact ⟨rfl, by omega⟩
  | false =>
    rw [if_neg (by simp)]
    have h1 : r / 2 ^ 63 = 0 := by omega
    rw [h1]
    exact ⟨rfl, by omega⟩
theorem read_enc (neg : Bool) (k : Nat) (hk : 0 < k) (h : k < 2 ^ 53) : double.read (enc neg k) = .number neg (sig k) ((k.log2 : Int) - 52) := by
  obtain ⟨r1, r2, r3⟩ := rung_parts k hk h
  obtain ⟨w1, w2⟩ := word_parts neg (rung k) r1
  have hl := lg53 k hk h
  have hs := sig_ge k hk h
  unfold enc
  rw [if_neg (by omega)]
  unfold Format.read
  simp only [w1, w2]
  have b1 : double.binade = 2 ^ 52 := by decide
  have b2 : double.infRung = 2047 * 2 ^ 52 := by decide
  have hge : ¬ rung k < 2 ^ 52 := by unfold rung; omega
  have hlt : rung k < 2047 * 2 ^ 52 := by unfold rung; omega
  rw [b1, b2, if_neg hge, if_pos hlt, r2, r3, leastPlace_d]
  have c1 : 2 ^ 52 + (sig k - 2 ^ 52) = sig k := by omega
  have c2 : (-1074 : Int) + ((k.log2 + 1023 - 1 : Nat) : Int) = (k.log2 : Int) - 52 := by omega
  rw [c1, c2]
theorem read_zero (neg : Bool) : double.read (enc neg 0) = .number neg 0 (-1074) := by
  obtain ⟨w1, w2⟩ := word_parts neg 0 (by decide)
  unfold enc
  rw [if_pos rfl]
  unfold Format.read
  simp only [w1, w2]
  rw [if_pos (by decide), leastPlace_d]
def mg (k : Nat) : Nat := if k = 0 then 0 else sig k
def pl (k : Nat) : Int := if k = 0 then -1074 else (k.log2 : Int) - 52
theorem read_all (neg : Bool) (k : Nat) (h : k < 2 ^ 53) : double.read (enc neg k) = .number neg (mg k) (pl k) := by
  unfold mg pl
  by_cases hk : k = 0
  · subst hk
    rw [if_pos rfl, if_pos rfl]
    exact read_zero neg
  · rw [if_neg hk, if_neg hk]
    exact read_enc neg k (by omega) h
theorem pl_le (k : Nat) (h : k < 2 ^ 53) : pl k ≤ 0 ∧ -1074 ≤ pl k := by
  unfold pl
  split
  · omega
  · have := lg53 k (by omega) h
    omega
theorem mg_shift (k : Nat) (h : k < 2 ^ 53) (base : Int) (hb : base ≤ pl k) : mg k <<< (pl k - base).toNat = k * 2 ^ (-base).toNat := by
  rw [Nat.shiftLeft_eq]
  unfold mg pl at *
  by_cases hk : k = 0
  · subst hk
    simp
  · rw [if_neg hk] at *
    rw [if_neg hk]
    have := lg53 k (by omega) h
    unfold sig
    rw [Nat.mul_assoc, ← Nat.pow_add]
    congr 2
    omega
def val (neg : Bool) (k : Nat) : Int := if neg then -(k : Int) else (k : Int)
theorem signed_is (neg : Bool) (k : Nat) (h : k < 2 ^ 53) (base : Int) (hb : base ≤ pl k) : signed neg (mg k) (pl k - base).toNat = val neg k * ((2 ^ (-base).toNat : Nat) : Int) := by
  unfold signed val
  rw [mg_shift k h base hb]
  cases neg with
  | true => rw [if_pos rfl, if_pos rfl, Int.natCast_mul, Int.neg_mul]
  | false => rw [if_neg (by simp), if_neg (by simp), Int.natCast_mul]
/-- A number is written as the word of the whole number that it is. -/
theorem write_is (neg : Bool) (k p : Nat) (h : k < 2 ^ 53) : double.write (.number neg (k * 2 ^ p) (-(p : Int))) = enc neg k := by
  show double.nearest neg (k * 2 ^ p) (-(p : Int)) = _
  by_cases hk : k = 0
  · subst hk
    unfold Format.nearest enc
    simp
  · rw [nearest_is neg k p (by omega) h]
    unfold enc
    rw [if_neg hk]
theorem sum_is (s t : Bool) (a b : Nat) (ha : a < 2 ^ 52) (hb : b < 2 ^ 52) : ((Datum.number s (mg a) (pl a)).sum (.number t (mg b) (pl b))).map double.write =
    some (enc (if val s a + val t b = 0 then s && t else decide (val s a + val t b < 0)) (val s a + val t b).natAbs) := by
  have ha3 : a < 2 ^ 53 := by omega
  have hb3 : b < 2 ^ 53 := by omega
  obtain ⟨base, hbase⟩ : ∃ base, min (pl a) (pl b) = base := ⟨_, rfl⟩
  have h1 : base ≤ pl a := by omega
  have h2 : base ≤ pl b := by omega
  have h3 := pl_le a ha3
  have h4 := pl_le b hb3
  simp only [Datum.sum, hbase, signed_is s a ha3 base h1, signed_is t b hb3 base h2, Option.map_some]
  obtain ⟨p, hp⟩ : ∃ p, (-base).toNat = p := ⟨_, rfl⟩
  have hbp : base = -(p : Int) := by omega
  rw [hp, ← Int.add_mul, hbp]
  obtain ⟨v, hv⟩ : ∃ v, val s a + val t b = v := ⟨_, rfl⟩
  have hvb : v.natAbs < 2 ^ 53 := by
    rw [← hv]
    unfold val
    split <;> split <;> omega
  rw [hv, Int.natAbs_mul, Int.natAbs_natCast]
  have hpos : (0 : Int) < ((2 ^ p : Nat) : Int) := by
    have := Nat.two_pow_pos p
    omega
  have e1 : (v * ((2 ^ p : Nat) : Int) = 0) ↔ v = 0 := by
    constructor
    · intro h
      rcases Int.mul_eq_zero.1 h with h | h
      · exact h
      · omega
    · intro h
      rw [h, Int.zero_mul]
  have e2 : (v * ((2 ^ p : Nat) : Int) < 0) ↔ v < 0 := by
    constructor
    · intro h
      rcases Int.lt_or_le v 0 with h1 | h1
      · exact h1
      · have := Int.mul_nonneg h1 (Int.le_of_lt hpos)
        omega
    · intro h
      exact Int.mul_neg_of_neg_of_pos h hpos
  rw [write_is _ _ p hvb]
  congr 2
  by_cases hv0 : v = 0
  · rw [if_pos hv0, if_pos (e1.2 hv0)]
  · rw [if_neg hv0, if_neg (fun h => hv0 (e1.1 h))]
    exact decide_eq_decide.2 e2
theorem add_enc (s t : Bool) (a b : Nat) (ha : a < 2 ^ 52) (hb : b < 2 ^ 52) : double.add (enc s a) (enc t b) = some (enc (if val s a + val t b = 0 then s && t else decide (val s a + val t b < 0)) (val s a + val t b).natAbs) := by
  unfold Format.add
  rw [read_all s a (by omega), read_all t b (by omega)]
  exact sum_is s t a b ha hb
theorem sub_enc (s t : Bool) (a b : Nat) (ha : a < 2 ^ 52) (hb : b < 2 ^ 52) : double.sub (enc s a) (enc t b) = some (enc (if val s a + val (!t) b = 0 then s && !t else decide (val s a + val (!t) b < 0)) (val s a + val (!t) b).natAbs) := by
  unfold Format.sub
  rw [read_all s a (by omega), read_all t b (by omega)]
  exact sum_is s (!t) a b ha hb
/-- One number less another one that is not more. -/
theorem sub_nn (a b : Nat) (ha : a < 2 ^ 52) (hb : b ≤ a) : double.sub (enc false a) (enc false b) = some (enc false (a - b)) := by
  rw [sub_enc false false a b ha (by omega)]
  have e : val false a + val (!false) b = ((a - b : Nat) : Int) := by
    show (a : Int) + -(b : Int) = _
    omega
  rw [e, Int.natAbs_natCast]
  congr 2
  split
  · rfl
  · exact decide_eq_false (by omega)
theorem mul_zero_enc (s t : Bool) (k : Nat) (h : k < 2 ^ 53) : double.mul (enc s 0) (enc t k) = some (enc (s ^^ t) 0) := by
  unfold Format.mul
  rw [read_all s 0 (by decide), read_all t k h]
  show some (double.write (.number (s ^^ t) (mg 0 * mg k) (pl 0 + pl k))) = _
  have e : mg 0 * mg k = 0 := by unfold mg; simp
  rw [e]
  show some (double.nearest (s ^^ t) 0 _) = _
  unfold Format.nearest enc
  simp
theorem mul_one_enc (s t : Bool) (k : Nat) (h : k < 2 ^ 53) : double.mul (enc s 1) (enc t k) = some (enc (s ^^ t) k) := by
  unfold Format.mul
  rw [read_all s 1 (by decide), read_all t k h]
  show some (double.write (.number (s ^^ t) (mg 1 * mg k) (pl 1 + pl k))) = _
  by_cases hk : k = 0
  · subst hk
    have e : mg 1 * mg 0 = 0 := by unfold mg; simp
    rw [e]
    show some (double.nearest (s ^^ t) 0 _) = _
    unfold Format.nearest enc
    simp
  · have hl := lg53 k (by omega) h
    have e1 : mg 1 = 2 ^ 52 := by decide
    have e2 : mg k = k * 2 ^ (52 - k.log2) := by unfold mg sig; rw [if_neg hk]
    have e3 : pl 1 = -52 := by decide
    have e4 : pl k = (k.log2 : Int) - 52 := by unfold pl; rw [if_neg hk]
    have e5 : 2 ^ 52 * (k * 2 ^ (52 - k.log2)) = k * 2 ^ (104 - k.log2) := by
      rw [Nat.mul_comm, Nat.mul_assoc, ← Nat.pow_add]
      congr 2
      omega
    have e6 : (-52 : Int) + ((k.log2 : Int) - 52) = -((104 - k.log2 : Nat) : Int) := by omega
    rw [e1, e2, e3, e4, e5, e6, write_is _ _ _ h]
theorem compare_mul (a b : Int) (p : Nat) : compare (a * ((2 ^ p : Nat) : Int)) (b * ((2 ^ p : Nat) : Int)) = compare a b := by
  have hpos : (0 : Int) < ((2 ^ p : Nat) : Int) := by
    have := Nat.two_pow_pos p
    omega
  simp only [compare, compareOfLessAndEq]
  have h1 : (a * ((2 ^ p : Nat) : Int) < b * ((2 ^ p : Nat) : Int)) ↔ a < b := ⟨fun h => Int.lt_of_mul_lt_mul_right h (Int.le_of_lt hpos), fun h => Int.mul_lt_mul_of_pos_right h hpos⟩
  have h2 : (a * ((2 ^ p : Nat) : Int) = b * ((2 ^ p : Nat) : Int)) ↔ a = b := ⟨fun h => Int.eq_of_mul_eq_mul_right (by omega) h, fun h => by rw [h]⟩
  simp only [h1, h2]
theorem order_enc (s t : Bool) (a b : Nat) (ha : a < 2 ^ 53) (hb : b < 2 ^ 53) : double.order (enc s a) (enc t b) = some (compare (val s a) (val t b)) := by
  unfold Format.order
  rw [read_all s a ha, read_all t b hb]
  obtain ⟨base, hbase⟩ : ∃ base, min (pl a) (pl b) = base := ⟨_, rfl⟩
  have h1 : base ≤ pl a := by omega
  have h2 : base ≤ pl b := by omega
  simp only [Datum.order, hbase, signed_is s a ha base h1, signed_is t b hb base h2, compare_mul]
theorem cut_zero (neg : Bool) (q d : Nat) (hq : 0 < q) : Toward.zero.cut neg (q * 2 ^ d) d = q := by
  have hd : min d ((q * 2 ^ d).log2 + 2) = d := by
    rw [log2_mul_pow q d hq]
    omega
  unfold Toward.cut
  simp only [hd, Nat.one_shiftLeft]
  have h1 : q * 2 ^ d / 2 ^ d = q := Nat.mul_div_cancel _ (Nat.two_pow_pos _)
  rw [h1]
  simp
theorem toInt_enc (k : Nat) (h : k < 2 ^ 53) : (double.read (enc false k)).toInt .zero = some (k : Int) := by
  rw [read_all false k h]
  unfold Datum.toInt Datum.integral
  have h1 := pl_le k h
  have e0 : (pl k).toNat = 0 := by omega
  simp only [e0, Nat.shiftLeft_zero]
  by_cases hk : k = 0
  · subst hk
    decide
  · have hl := lg53 k (by omega) h
    have e2 : mg k = k * 2 ^ (52 - k.log2) := by unfold mg sig; rw [if_neg hk]
    have e4 : (-pl k).toNat = 52 - k.log2 := by unfold pl; rw [if_neg hk]; omega
    rw [e2, e4, cut_zero false k _ (by omega)]
    simp [signed]
theorem neg_enc (k : Nat) : double.word true (if k = 0 then 0 else rung k) = enc true k := by
  unfold enc
  split <;> rfl
theorem enc_wf (k : Nat) (h : k < 2 ^ 53) : enc false k < 2 ^ 63 := by
  unfold enc
  split
  · decide
  · exact (rung_parts k (by omega) h).1
theorem nearest_int (k : Nat) (h : k < 2 ^ 53) : double.write (.number false k 0) = enc false k := by
  have h1 := write_is false k 0 h
  simpa using h1
theorem neg_read (s : Bool) (k : Nat) (h : k < 2 ^ 53) : double.write (double.read (enc s k)).opposite = enc (!s) k := by
  rw [read_all s k h]
  show double.write (.number (!s) (mg k) (pl k)) = _
  have h1 := pl_le k h
  have e : mg k = mg k <<< (pl k - pl k).toNat := by simp
  rw [e, mg_shift k h (pl k) (Int.le_refl _), show pl k = -(((-pl k).toNat : Nat) : Int) by omega]
  have e2 : (- -(((-pl k).toNat : Nat) : Int)).toNat = (-pl k).toNat := by omega
  rw [e2]
  exact write_is _ _ _ h
theorem xor63 (x : Nat) (h : x < 2 ^ 63) : x ^^^ 2 ^ 63 = 2 ^ 63 + x := by
  have e := Nat.two_pow_add_eq_or_of_lt h 1
  rw [Nat.mul_one] at e
  rw [e]
  apply Nat.eq_of_testBit_eq
  intro i
  rw [Nat.testBit_xor, Nat.testBit_or, Nat.testBit_two_pow]
  by_cases hi : 63 = i
  · subst hi
    rw [Nat.testBit_lt_two_pow h]
    simp
  · simp [hi]
theorem enc_true (k : Nat) (h : k < 2 ^ 53) : enc false k ^^^ 2 ^ 63 = enc true k := by
  rw [xor63 _ (enc_wf k h)]
  unfold enc Format.word
  have hw : double.signWeight = 2 ^ 63 := by decide
  split <;> simp [hw]
end Go.Proofs.Ythmkpgemilmikaa.PF
