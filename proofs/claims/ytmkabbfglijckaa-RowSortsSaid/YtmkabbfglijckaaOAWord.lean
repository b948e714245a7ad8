/- A number read of bytes: the program's. -/
import Derived.Test.YtmkabbfglijckaaOAWords
namespace Go.Proofs.Ytmkabbfglijckaa.A.O
open Go.RowKit Go.Proofs.YtmkabbfglijckaaW.PrintWords Go.Proofs.YtmkabbfglijckaaW.PrintLast Go.Proofs.YtmkabbfglijckaaW.PrintMore
set_option linter.unusedVariables false
set_option linter.unusedSimpArgs false

/-- A number of its bytes, the highest first. -/
def valK (l : List Int) : Int := l.foldl (fun a x => 256 * a + x) 0
theorem valK_snoc (l : List Int) (x : Int) : valK (l ++ [x]) = 256 * valK l + x := by simp [valK, List.foldl_append]
theorem fold_bound : ∀ (l : List Int) (a : Int), 0 ≤ a → (∀ x ∈ l, 0 ≤ x ∧ x ≤ 255) → 0 ≤ l.foldl (fun a x => 256 * a + x) a ∧ l.foldl (fun a x => 256 * a + x) a < (a + 1) * 256 ^ l.length
  | [], a, h0, _ => by simp; omega
  | x :: l, a, h0, h => by
    have hx := h x (by simp)
    have ih := fold_bound l (256 * a + x) (by omega) (fun y hy => h y (by simp [hy]))
    refine ⟨ih.1, Int.lt_of_lt_of_le ih.2 ?_⟩
    rw [List.length_cons, Int.pow_succ, Int.mul_comm (256 ^ l.length) 256, ← Int.mul_assoc]
    refine Int.mul_le_mul_of_nonneg_right (by omega) ?_
    exact Int.le_of_lt (Int.pow_pos (by decide))
theorem valK_bound (l : List Int) (h : ∀ x ∈ l, 0 ≤ x ∧ x ≤ 255) : 0 ≤ valK l ∧ valK l < 256 ^ l.length := by
  have := fold_bound l 0 (by omega) h
  simpa [valK] using this
theorem valK_take (b : List Int) (k : Nat) (h : k < b.length) : valK (b.take (k + 1)) = 256 * valK (b.take k) + b.getD k 0 := by
  rw [List.take_succ_eq_append_getElem h, valK_snoc]
  simp [List.getD_eq_getElem?_getD, h]
theorem valK_lt (b : List Int) (hb : ∀ x ∈ b, 0 ≤ x ∧ x ≤ 255) (k : Nat) (h : k < 8) : 0 ≤ valK (b.take k) ∧ valK (b.take k) < 72057594037927936 := by
  have h1 := valK_bound (b.take k) (fun x hx => hb x (List.mem_of_mem_take hx))
  refine ⟨h1.1, Int.lt_of_lt_of_le h1.2 ?_⟩
  have hl : (b.take k).length ≤ 7 := by rw [List.length_take]; omega
  generalize (b.take k).length = m at *
  rcases (by omega : m = 0 ∨ m = 1 ∨ m = 2 ∨ m = 3 ∨ m = 4 ∨ m = 5 ∨ m = 6 ∨ m = 7) with rfl | rfl | rfl | rfl | rfl | rfl | rfl | rfl <;> decide
theorem or_step (u x : Int) (h0 : 0 ≤ u) (h1 : u < 72057594037927936) (hx : 0 ≤ x ∧ x ≤ 255) : bits .or .u64 (u * 256) x = 256 * u + x := by
  obtain ⟨m, rfl⟩ := Int.eq_ofNat_of_zero_le h0
  obtain ⟨y, rfl⟩ := Int.eq_ofNat_of_zero_le hx.1
  have h2 := u64_or_nat (m * 256) y (by omega) (by omega)
  have h3 := Nat.two_pow_add_eq_or_of_lt (i := 8) (b := y) (by omega) m
  rw [show ((m : Int) * 256) = ((m * 256 : Nat) : Int) by omega, h2]
  have h4 : m * 256 ||| y = 256 * m + y := by
    rw [Nat.mul_comm m 256]
    exact h3.symm
  rw [h4]
  omega
theorem xor_back (u : Int) (h0 : 0 ≤ u) (h1 : u < 18446744073709551616) : IntKind.i64.wrap (bits .xor .u64 u 9223372036854775808) = u - 9223372036854775808 := by
  obtain ⟨m, rfl⟩ := Int.eq_ofNat_of_zero_le h0
  have h2 := u64_xor_nat m 9223372036854775808 (by omega) (by omega)
  rw [show (9223372036854775808 : Int) = ((9223372036854775808 : Nat) : Int) from rfl, h2]
  have e : (9223372036854775808 : Nat) = 2 ^ 63 := rfl
  by_cases h : m < 2 ^ 63
  · rw [e, top_lt m h, IntKind.wrap_i64]
    omega
  · obtain ⟨k, rfl⟩ : ∃ k, m = 2 ^ 63 + k := ⟨m - 2 ^ 63, by omega⟩
    have hk : k < 2 ^ 63 := by omega
    rw [e, ← top_lt k hk, Nat.xor_assoc, Nat.xor_self, Nat.xor_zero, IntKind.wrap_i64, top_lt k hk]
    omega
def wordP (b : List Int) : Pt := ⟨false, valK (b.take 8) - 9223372036854775808, { data := #[] }⟩

set_option maxRecDepth 100000 in
set_option maxHeartbeats 2000000 in
theorem word_short (A : Option Addr) (n c : Nat) (w : World) (hn : n < 8) :
    Calls Try.prog 58 #[.slice A n c] w fun e w' => e = .returned (.tuple #[.agg #[.bool false, .int .i64 0, .string { data := #[] }], .slice none 0 0, .int .i64 3]) ∧ Below w.heap.size w w' := by
  have h1 : (n : Int) < 8 := by omega
  go_enter Try.func58, Try.ntmps58
  go_wp2
  exact bodyPost_ret (v := .tuple #[.agg #[.bool false, .int .i64 0, .string { data := #[] }], .slice none 0 0, .int .i64 3]) (by simp [results, Try.results58, go_sem, *]) rfl ⟨rfl, below_alloc (Below.refl w.heap.size w) _⟩
set_option maxRecDepth 100000 in
set_option maxHeartbeats 2000000 in
theorem word_calls (A : Option Addr) (n c : Nat) (b : List Int) (w : World) (hr : U8.C w A n b) (hc : n ≤ c) (hb : ∀ x ∈ b, 0 ≤ x ∧ x ≤ 255) (hn : 8 ≤ n) (hn2 : n ≤ 1000000) :
    Calls Try.prog 58 #[.slice A n c] w fun e w' => ∃ A' c', e = .returned (.tuple #[(wordP b).val, .slice A' (b.drop 8).length c', .int .i64 0]) ∧ (b.drop 8).length ≤ c' ∧ (∀ W : World, U8.C W A n b → U8.C W A' (b.drop 8).length (b.drop 8)) ∧ Below w.heap.size w w' := by
  have hnl : n = b.length := hr.1.symm
  have HN := Aside0.mk hnl
  have HR := Aside0.mk hr
  have HBY := Aside0.mk hb
  clear hnl hr hb
  have h8 : ¬ (n : Int) < 8 := by omega
  have h8' : (8 : Int) ≤ (n : Int) := by omega
  go_enter Try.func58, Try.ntmps58
  go_wp2
  go_loop [5, 15] (fun v5 v15 => ∃ k : Nat, k ≤ 8 ∧ v15 = .int .i64 k ∧ v5 = .int .u64 (valK (b.take k))) (fun _ v15 => 8 - (intOf v15).toNat)
  case atStart => exact ⟨0, Nat.zero_le _, rfl, by simp [valK]⟩
  case round =>
    obtain ⟨k, hk, rfl, rfl⟩ := hrel
    by_cases hlt : k < 8
    · obtain ⟨ad, rfl, hcell0⟩ := C_atN HR.out k (by omega)
      have hcell := pw_cell_below (below_alloc (Below.refl _ _) (.cells #[.bool false, .int .i64 0, .string { data := #[] }] 78)) hcell0
      have hvl := valK_lt b HBY.out k hlt
      have hvt := valK_take b k (by rw [← HN.out]; omega)
      have hx := byte_of HBY.out k
      have hst := or_step (valK (b.take k)) (b.getD k 0) hvl.1 hvl.2 hx
      generalize valK (b.take k) = u at *
      generalize b.getD k 0 = x at *
      obtain ⟨hu0, hu1⟩ := hvl
      have HVT := Aside0.mk hvt
      have HST := Aside0.mk hst
      have i1 : (k : Int) < 8 := by omega
      have i2 : (0 : Int) ≤ (k : Int) := by omega
      clear hcell0 hvt hst
      go_wp2_with fail
      go_round
      case rel =>
        refine ⟨k + 1, by omega, rfl, ?_⟩
        rw [HST.out, HVT.out]
      case measure => simp [intOf]; omega
    · obtain rfl : k = 8 := by omega
      have hvl := valK_bound (b.take 8) (fun x hx => HBY.out x (List.mem_of_mem_take hx))
      have hl8 : (b.take 8).length = 8 := by rw [List.length_take, ← HN.out]; omega
      have hp8 : (256 : Int) ^ 8 = 18446744073709551616 := by decide
      rw [hl8, hp8] at hvl
      have hxb := xor_back (valK (b.take 8)) hvl.1 hvl.2
      obtain ⟨A2, c2, hrun, hC2, hl2⟩ := cutfN A n c b 8 HN.out.symm (by omega) (by omega) hc
      simp only [show (8 : Int).toNat = 8 from rfl] at hrun hC2 hl2
      obtain ⟨m, hm⟩ : ∃ m, (b.drop 8).length = m := ⟨_, rfl⟩
      rw [hm] at hl2
      simp only [hm] at hrun
      have HM := Aside0.mk hm
      have HC2 := Aside0.mk hC2
      obtain ⟨u, hu⟩ : ∃ u, valK (b.take 8) = u := ⟨_, rfl⟩
      rw [hu] at hxb ⊢
      have HU := Aside0.mk hu
      clear hC2 hm hvl hl8 hp8 hu
      go_wp2_with fail
      go_region
      go_wp2
      refine bodyPost_ret (v := .tuple #[.agg #[.bool false, .int .i64 (u - 9223372036854775808), .string { data := #[] }], .slice A2 m c2, .int .i64 0]) (by simp [results, Try.results58, go_sem, *]) rfl ?_
      have hb3 : Below w.heap.size w _ := (below_alloc (Below.refl w.heap.size w) (.cells #[.bool false, .int .i64 (u - 9223372036854775808), .string { data := #[] }] 78)).drew
      refine ⟨A2, c2, ?_, ?_, ?_, hb3⟩
      · rw [wordP, HU.out, HM.out]
      · rw [HM.out]; exact hl2
      · exact HC2.out

end Go.Proofs.Ytmkabbfglijckaa.A.O
