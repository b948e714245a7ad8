/- Rectangles of whole numbers, and their words; a point, a number, a point turned; Mul64. -/
import Derived.Test.YthmkpgemilmikaaPFloat
import Derived.Test.YthmkpgemilmikaaSOne
import Derived.Laws.ComplexArith
import Derived.Lib.Mul64
import Derived.Laws.Bits64b
namespace Go.Proofs.Ythmkpgemilmikaa.A
open Go.RowKit Go.Proofs.YthmkpgemilmikaaW.PrintWords Go.Proofs.YthmkpgemilmikaaW.PrintLast Go.Proofs.YthmkpgemilmikaaW.PrintMore
open Go.Proofs.Ythmkpgemilmikaa.PF (enc)
set_option linter.unusedVariables false
set_option linter.unusedSimpArgs false

/-- The word of a whole number. -/
def E (k : Nat) : Nat := enc false k
abbrev cx (a b : Nat) : Value := .complex .f64 (E a) (E b)
structure Rc where
  e0 : Nat
  e1 : Nat
  t0 : Nat
  t1 : Nat
instance : Inhabited Rc := ⟨⟨0, 0, 0, 0⟩⟩
def big : Nat := 1099511627776
/-- Within the bounds, its sides not the wrong way. -/
def Rc.ok (r : Rc) : Prop := r.e0 ≤ r.e1 ∧ r.e1 ≤ 1099511627776 ∧ r.t0 ≤ r.t1 ∧ r.t1 ≤ 1099511627776
abbrev rv (r : Rc) : Value := .agg #[cx r.e0 r.t0, cx r.e1 r.t1]
abbrev rB4 (a b c d : Nat) : Obj := .cells #[cx a c, cx b d] 29
abbrev rBox (r : Rc) : Obj := rB4 r.e0 r.e1 r.t0 r.t1
theorem run_store_cx {P : Program} {w : World} {a : Addr} {k : FloatKind} {x y : Nat} {m : Mode} : (store a (.complex k x y) m).run P w = stored P w a (.complex k x y) m := run_store P w a _ m rfl
theorem E0 : E 0 = 0 := by decide
theorem cx0 : cx 0 0 = .complex .f64 0 0 := by rw [cx, E0]
theorem rv0 : rv ⟨0, 0, 0, 0⟩ = .agg #[.complex .f64 0 0, .complex .f64 0 0] := by rw [rv, cx0]
theorem format_d : FloatKind.f64.format = Ieee.double := rfl
/-- float64(n). -/
theorem conv_E (a : Nat) (h : a ≤ 4503599627370495) (W : World) : (convert 3 50 (.int .i64 (a : Int))).run Try.prog W = .ok (.float .f64 (E a)) W := by
  rw [run_convert_int_float W 3 50 .i64 .f64 (a : Int) (by rw [Try.underlying3]; rfl) Try.underlying50]
  have e : floatOfInt .f64 (a : Int) = E a := by
    show Ieee.double.write (.number (decide ((a : Int) < 0)) (a : Int).natAbs 0) = _
    rw [Int.natAbs_natCast, decide_eq_false (by omega)]
    exact PF.nearest_int a (by omega)
  rw [e]
/-- int(f) and uint64(f). -/
theorem toInt_E (a : Nat) (h : a ≤ 4503599627370495) (k : IntKind) (hk : k = .i64 ∨ k = .u64) : floatToIntVal .f64 (E a) k = some (a : Int) := by
  unfold floatToIntVal
  rw [show FloatKind.f64.decode (E a) = Ieee.double.read (enc false a) from rfl, PF.toInt_enc a (by omega)]
  simp only
  rw [if_pos]
  rcases hk with rfl | rfl
  · exact ⟨by show (-9223372036854775808 : Int) ≤ _; omega, by show _ ≤ (9223372036854775807 : Int); omega⟩
  · exact ⟨by show (0 : Int) ≤ _; omega, by show _ ≤ (18446744073709551615 : Int); omega⟩
theorem back_E (a : Nat) (h : a ≤ 4503599627370495) (W : World) : (convert 50 3 (.float .f64 (E a))).run Try.prog W = .ok (.int .i64 (a : Int)) W :=
  run_convert_float_int W 50 3 .f64 .i64 (E a) a (by rw [Try.underlying50]; rfl) Try.underlying3 (toInt_E a h .i64 (.inl rfl))
theorem backU_E (a : Nat) (h : a ≤ 4503599627370495) (W : World) : (convert 50 51 (.float .f64 (E a))).run Try.prog W = .ok (.int .u64 (a : Int)) W :=
  run_convert_float_int W 50 51 .f64 .u64 (E a) a (by rw [Try.underlying50]; rfl) Try.underlying51 (toInt_E a h .u64 (.inr rfl))
/-- The order of words is the numbers'. -/
theorem ord_E (a b : Nat) (ha : a ≤ 4503599627370495) (hb : b ≤ 4503599627370495) : FloatKind.f64.format.order (E a) (E b) = some (compare (a : Int) (b : Int)) := by
  have h := PF.order_enc false false a b (by omega) (by omega)
  exact h
theorem cmp_lt {a b : Int} (h : a < b) : compare a b = .lt := by simp only [compare, compareOfLessAndEq]; rw [if_pos h]
theorem cmp_eq (a : Int) : compare a a = .eq := by simp only [compare, compareOfLessAndEq]; rw [if_neg (by omega)]; rfl
theorem cmp_gt {a b : Int} (h : b < a) : compare a b = .gt := by simp only [compare, compareOfLessAndEq]; rw [if_neg (by omega), if_neg (by omega)]
theorem lss_E (a b : Nat) (ha : a ≤ 4503599627370495) (hb : b ≤ 4503599627370495) : (FloatKind.f64.format.order (E a) (E b) == some .lt) = decide (a < b) := by
  rw [ord_E a b ha hb]
  rcases Nat.lt_trichotomy a b with h | h | h
  · rw [cmp_lt (by omega), decide_eq_true h]; rfl
  · rw [h, cmp_eq, decide_eq_false (by omega)]; rfl
  · rw [cmp_gt (by omega), decide_eq_false (by omega)]; rfl
theorem eql_E (a b : Nat) (ha : a ≤ 4503599627370495) (hb : b ≤ 4503599627370495) : (FloatKind.f64.format.order (E a) (E b) == some .eq) = decide (a = b) := by
  rw [ord_E a b ha hb]
  rcases Nat.lt_trichotomy a b with h | h | h
  · rw [cmp_lt (by omega), decide_eq_false (by omega)]; rfl
  · rw [h, cmp_eq, decide_eq_true rfl]; rfl
  · rw [cmp_gt (by omega), decide_eq_false (by omega)]; rfl
theorem geq_E (a b : Nat) (ha : a ≤ 4503599627370495) (hb : b ≤ 4503599627370495) : (FloatKind.f64.format.order (E a) (E b) == some .gt || FloatKind.f64.format.order (E a) (E b) == some .eq) = decide (b ≤ a) := by
  rw [ord_E a b ha hb]
  rcases Nat.lt_trichotomy a b with h | h | h
  · rw [cmp_lt (by omega), decide_eq_false (by omega)]; rfl
  · rw [h, cmp_eq, decide_eq_true (by omega)]; rfl
  · rw [cmp_gt (by omega), decide_eq_true (by omega)]; rfl
theorem max_E (ats : Array TypeId) (ty : TypeId) (a b : Nat) (ha : a ≤ 4503599627370495) (hb : b ≤ 4503599627370495) (W : World) : (Builtin.max_ ats ty #[.float .f64 (E a), .float .f64 (E b)]).run Try.prog W = .ok (.float .f64 (E (max a b))) W := by
  rw [max_two]
  simp only [Builtin.max2, ord_E a b ha hb]
  rcases Nat.lt_trichotomy a b with h | h | h
  · rw [cmp_lt (by omega), Nat.max_eq_right (by omega)]; rfl
  · subst h
    rw [cmp_eq, Nat.max_self, ite_self]; rfl
  · rw [cmp_gt (by omega), Nat.max_eq_left (by omega)]; rfl
theorem min_E (ats : Array TypeId) (ty : TypeId) (a b : Nat) (ha : a ≤ 4503599627370495) (hb : b ≤ 4503599627370495) (W : World) : (Builtin.min_ ats ty #[.float .f64 (E a), .float .f64 (E b)]).run Try.prog W = .ok (.float .f64 (E (min a b))) W := by
  rw [min_two]
  simp only [Builtin.min2, ord_E a b ha hb]
  rcases Nat.lt_trichotomy a b with h | h | h
  · rw [cmp_lt (by omega), Nat.min_eq_left (by omega)]; rfl
  · subst h
    rw [cmp_eq, Nat.min_self, ite_self]; rfl
  · rw [cmp_gt (by omega), Nat.min_eq_right (by omega)]; rfl
/-- One point less another one that is not ahead of it. -/
theorem sub_cx (a b c d : Nat) (ha : a ≤ 1099511627776) (hb : b ≤ 1099511627776) (hc : c ≤ a) (hd : d ≤ b) (W : World) : (binOp .sub 27 (cx a b) (cx c d)).run Try.prog W = .ok (cx (a - c) (b - d)) W := by
  refine run_complex_sum W .sub (.inr rfl) 27 .f64 (E a) (E b) (E c) (E d) _ _ ?_
  unfold cSumBits floatBits
  rw [format_d]
  have h1 : Ieee.double.sub (E a) (E c) = some (E (a - c)) := PF.sub_nn a c (by omega) hc
  have h2 : Ieee.double.sub (E b) (E d) = some (E (b - d)) := PF.sub_nn b d (by omega) hd
  simp only [h1, h2, Option.bind_some]
/-- 1i times a point whose second part is turned. -/
theorem mul_cx (a b : Nat) (ha : a ≤ 1099511627776) (hb : b ≤ 1099511627776) (W : World) : (binOp .mul 27 (.complex .f64 0 4607182418800017408) (.complex .f64 (E a) (enc true b))).run Try.prog W = .ok (cx b a) W := by
  refine run_complex_mul W 27 _ _ _ _ _ _ ?_
  have e0 : (0 : Nat) = enc false 0 := by decide
  have e1 : (4607182418800017408 : Nat) = enc false 1 := by decide
  unfold cMulBits floatBits
  rw [format_d, e1]
  conv => lhs; rw [e0]
  have h1 : Ieee.double.mul (enc false 0) (E a) = some (enc false 0) := PF.mul_zero_enc false false a (by omega)
  have h2 : Ieee.double.mul (enc false 1) (enc true b) = some (enc true b) := PF.mul_one_enc false true b (by omega)
  have h3 : Ieee.double.sub (enc false 0) (enc true b) = some (enc false b) := by
    rw [PF.sub_enc false true 0 b (by omega) (by omega)]
    have e : PF.val false 0 + PF.val (!true) b = (b : Int) := by show ((0 : Nat) : Int) + (b : Int) = _; omega
    rw [e, Int.natAbs_natCast]
    congr 2
    split
    · rfl
    · exact decide_eq_false (by omega)
  have h4 : Ieee.double.mul (enc false 0) (enc true b) = some (enc true 0) := PF.mul_zero_enc false true b (by omega)
  have h5 : Ieee.double.mul (enc false 1) (E a) = some (enc false a) := PF.mul_one_enc false false a (by omega)
  have h6 : Ieee.double.add (enc true 0) (enc false a) = some (enc false a) := by
    rw [PF.add_enc true false 0 a (by omega) (by omega)]
    have e : PF.val true 0 + PF.val false a = (a : Int) := by show -((0 : Nat) : Int) + (a : Int) = _; omega
    rw [e, Int.natAbs_natCast]
    congr 2
    split
    · rfl
    · exact decide_eq_false (by omega)
  simp only [h1, h2, h3, h4, h5, h6, Option.bind_some]
  rfl
theorem neg_E (b : Nat) (hb : b ≤ 1099511627776) (W : World) : (Op.unary .neg (.float .f64 (E b))).run Try.prog W = .ok (.float .f64 (enc true b)) W := by
  have e : Op.negFloat .f64 (E b) = enc true b := PF.enc_true b (by omega)
  simp [Op.unary, e]
section
variable (w : World)
theorem at_calls (a b : Nat) (ha : a ≤ 4503599627370495) (hb : b ≤ 4503599627370495) : Calls Try.prog 29 #[.int .i64 (a : Int), .int .i64 (b : Int)] w fun e w' => e = .returned (cx a b) ∧ w' = w := by
  have h1 := conv_E a ha
  have h2 := conv_E b hb
  go_enter Try.func29, Try.ntmps29
  go_wp2
  go_ret
  exact ⟨rfl, rfl⟩
theorem whole_calls (a : Nat) (ha : a ≤ 4503599627370495) : Calls Try.prog 30 #[.float .f64 (E a)] w fun e w' => e = .returned (.int .i64 (a : Int)) ∧ w' = w := by
  have h1 := back_E a ha
  go_enter Try.func30, Try.ntmps30
  go_wp2
  go_ret
  exact ⟨rfl, rfl⟩
theorem turned_calls (a b : Nat) (ha : a ≤ 1099511627776) (hb : b ≤ 1099511627776) : Calls Try.prog 26 #[cx a b] w fun e w' => e = .returned (cx b a) ∧ w' = w := by
  have h1 := neg_E b hb
  have h2 := mul_cx a b ha hb
  go_enter Try.func26, Try.ntmps26
  go_wp2
  go_ret
  exact ⟨rfl, rfl⟩
end
end Go.Proofs.Ythmkpgemilmikaa.A
