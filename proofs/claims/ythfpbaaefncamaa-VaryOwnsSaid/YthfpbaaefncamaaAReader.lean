/- The program's reader: what it holds; numbers, texts that are read. -/
import Derived.Test.YthfpbaaefncamaaANumber
import Derived.Lib.Zigzag
namespace Go.Proofs.Ythfpbaaefncamaa.A
open Go.RowKit Go.Proofs.YthfpbaaefncamaaW.PrintWords Go.Proofs.YthfpbaaefncamaaW.PrintLast Go.Proofs.YthfpbaaefncamaaW.PrintMore
set_option linter.unusedVariables false
set_option linter.unusedSimpArgs false

/-- A reader that was made when w2 was: what it holds. -/
def RD (w2 W : World) (bs : List Int) (e : Int) : Prop := ∃ A c, W.heap[w2.heap.size]? = some (rdr A bs.length c e) ∧ bs.length ≤ c ∧ U8.C w2 A bs.length bs ∧ Below w2.heap.size w2 W
theorem RD_below {w2 W W' : World} {bs : List Int} {e : Int} (h : RD w2 W bs e) (hb : Below W.heap.size W W') : RD w2 W' bs e := by
  obtain ⟨A, c, h1, h2, h3, h4⟩ := h
  exact ⟨A, c, (hb.block _ (Array.getElem?_eq_some_iff.1 h1).1).trans h1, h2, h3, below_step h4 hb⟩
theorem numG_nat : ∀ (N q i : Nat) (m : Int) (X : List Int), q ≤ N → 0 ≤ m → m + (q : Int) * 128 ^ i < 4611686018427387904 → (q = 0 → i = 0) → i ≤ 8 → numG i m (vnat q ++ X) = (m + (q : Int) * 128 ^ i, X, 0)
  | N, q, i, m, X, hN, hm, hlt, h0, hi => by
    have hp : (0 : Int) < 128 ^ i := Int.pow_pos (by decide)
    by_cases hs : q < 128
    · rw [vnat_small hs]
      show numG i m ((q : Int) :: X) = _
      rw [numG, if_neg (by omega), if_neg (by omega), Int.emod_eq_of_lt (by omega) (by omega), if_neg (by
        rintro (h | ⟨h1, h2⟩)
        · omega
        · have := h0 (by omega)
          omega)]
    · rw [vnat_big hs]
      show numG i m (((q % 128 + 128 : Nat) : Int) :: (vnat (q / 128) ++ X)) = _
      rw [numG, if_neg (by omega), if_pos (by omega)]
      have e1 : ((q % 128 + 128 : Nat) : Int) % 128 = ((q % 128 : Nat) : Int) := by omega
      have e2 : m + ((q % 128 : Nat) : Int) * 128 ^ i + ((q / 128 : Nat) : Int) * 128 ^ (i + 1) = m + (q : Int) * 128 ^ i := by
        rw [Int.pow_succ]
        generalize (128 : Int) ^ i = p at *
        have e3 : (q : Int) = ((q % 128 : Nat) : Int) + 128 * ((q / 128 : Nat) : Int) := by omega
        rw [e3, Int.add_mul, Int.mul_comm p 128, ← Int.mul_assoc, Int.mul_comm ((q / 128 : Nat) : Int) 128]
        have e4 : ((q % 128 : Nat) : Int) + 128 * ((q / 128 : Nat) : Int) = (q : Int) := by omega
        omega
      have hi8 : i + 1 ≤ 8 := by
        rcases (by omega : i ≤ 7 ∨ i = 8) with h | h
        · omega
        · subst h
          have p8 : (128 : Int) ^ 8 = 72057594037927936 := by decide
          rw [p8] at hlt
          omega
      have hnn : 0 ≤ ((q % 128 : Nat) : Int) * 128 ^ i := Int.mul_nonneg (by omega) (by omega)
      rw [e1]
      cases N with
      | zero => omega
      | succ N =>
        rw [numG_nat N (q / 128) (i + 1) _ X (by omega) (by omega) (by rw [e2]; exact hlt) (by omega) hi8, e2]
/-- A number that was put is read. -/
theorem numG_put (a : Int) (X : List Int) (h0 : 0 ≤ a) (h1 : a < 4611686018427387904) : numG 0 0 (vput a ++ X) = (a, X, 0) := by
  have h := numG_nat a.toNat a.toNat 0 0 X (Nat.le_refl _) (Int.le_refl _) (by rw [Int.pow_zero]; omega) (fun _ => rfl) (by omega)
  rw [Int.pow_zero] at h
  have e : (0 : Int) + (a.toNat : Int) * 1 = a := by omega
  rw [e] at h
  exact h
/-- The next number. -/
theorem num_calls (w2 W : World) (bs X : List Int) (a : Int) (h : RD w2 W bs 0) (hb : ∀ x ∈ bs, 0 ≤ x ∧ x ≤ 255) (hn : numG 0 0 bs = (a, X, 0)) :
    Calls Try.prog 15 #[.pointer (some ⟨w2.heap.size, 0, none⟩)] W fun e w' => e = .returned (.int .i64 a) ∧ RD w2 w' X 0 ∧ W.heap.size ≤ w'.heap.size := by
  obtain ⟨A, c, h1, h2, h3, h4⟩ := h
  have H4 := Aside0.mk h4
  have H3 := Aside0.mk h3
  refine (number_calls w2.heap.size W A bs.length c bs h1 (Kd.C_below h3 h4) h2 hb).mono ?_
  rw [hn]
  rintro e w' ⟨A', c', rfl, g1, g2, g3, g4⟩
  have hlt : w2.heap.size < W.heap.size := (Array.getElem?_eq_some_iff.1 h1).1
  exact ⟨rfl, ⟨A', c', g1, g2, g3 w2 h3, h4.grown g4 (by omega) (fun k e => by cases e; exact Nat.le_refl _)⟩, g4.size⟩
set_option maxRecDepth 100000 in
/-- A reader of bytes. -/
theorem read_calls (A : Option Addr) (n c : Nat) (bs : List Int) (w : World) (hr : U8.C w A n bs) (hc : n ≤ c) (hl : n ≤ 100000) :
    Calls Try.prog 14 #[.slice A n c] w fun e w' => ∃ w2 : World, e = .returned (.pointer (some ⟨w2.heap.size, 0, none⟩)) ∧ RD w2 w' bs 0 ∧ Below w.heap.size w w2 := by
  have HR := Aside0.mk hr
  have hn := hr.1
  have HN := Aside0.mk hn
  clear hr hn
  go_enter Try.func14, Try.ntmps14
  go_wp2_with fail
  (with_reducible refine (cloneN_calls _ _ _ bs _ HR.out hc (by omega)).mono ?_)
  rintro e w2 ⟨v2, rfl, HO2, hb2⟩
  obtain ⟨A2, c2, rfl, hc2, HC2⟩ := OB_readn HO2 n HN.out
  have HB2 := Aside0.mk hb2
  have HC := Aside0.mk HC2
  clear HO2 HC2 hb2
  go_wp2
  go_ret
  refine ⟨w2, rfl, ⟨A2, c2, ?_, ?_, ?_, below_alloc (Below.refl _ _) _⟩, HB2.out⟩
  · rw [HN.out]; exact heap_alloc_new w2 _
  · rw [HN.out]; exact hc2
  · rw [HN.out]; exact HC.out
set_option maxRecDepth 100000 in
theorem rest_calls (w2 W : World) (bs : List Int) (h : RD w2 W bs 0) :
    Calls Try.prog 20 #[.pointer (some ⟨w2.heap.size, 0, none⟩)] W fun e w' => e = .returned (.int .i64 bs.length) ∧ W = w' := by
  obtain ⟨A, c, h1, h2, h3, h4⟩ := h
  obtain ⟨b0, b1⟩ := rdr_cells h1
  clear h1 h3 h4
  generalize w2.heap.size = g at *
  go_enter Try.func20, Try.ntmps20
  go_wp2
  go_ret
  exact ⟨rfl, rfl⟩
set_option maxRecDepth 100000 in
theorem err_calls (w2 W : World) (bs : List Int) (h : RD w2 W bs 0) :
    Calls Try.prog 21 #[.pointer (some ⟨w2.heap.size, 0, none⟩)] W fun e w' => e = .returned (.int .i64 0) ∧ W = w' := by
  obtain ⟨A, c, h1, h2, h3, h4⟩ := h
  obtain ⟨b0, b1⟩ := rdr_cells h1
  clear h1 h3 h4
  generalize w2.heap.size = g at *
  go_enter Try.func21, Try.ntmps21
  go_wp2
  go_ret
  exact ⟨rfl, rfl⟩
theorem xor_ones (x : Nat) (hx : x < 9223372036854775808) : bits .xor .i64 (x : Int) (-1) = -(x : Int) - 1 := by
  have hc : bits .xor .i64 (x : Int) (-1) = bits .xor .i64 (-1) (x : Int) := by
    simp only [bits]
    rw [BitVec.xor_comm]
  rw [hc]
  exact Lib.i64_not x hx
theorem xor_none (x : Int) (h0 : 0 ≤ x) (h1 : x < 9223372036854775808) : bits .xor .i64 x 0 = x := by
  obtain ⟨m, rfl⟩ := Int.eq_ofNat_of_zero_le h0
  have e : (BitVec.ofInt 64 (m : Int) ^^^ BitVec.ofInt 64 0).toNat = m := by
    rw [show BitVec.ofInt 64 0 = 0#64 from rfl, BitVec.xor_zero, BitVec.ofInt_natCast, BitVec.toNat_ofNat]
    omega
  show IntKind.i64.wrap ((BitVec.ofInt 64 (m : Int) ^^^ BitVec.ofInt 64 0).toNat : Int) = _
  rw [e, IntKind.wrap_i64]
  omega
theorem and1 (n : Int) (h0 : 0 ≤ n) (h1 : n < 9223372036854775808) : bits .and .i64 n 1 = n % 2 := by
  obtain ⟨m, rfl⟩ := Int.eq_ofNat_of_zero_le h0
  have e : (BitVec.ofInt 64 (m : Int) &&& BitVec.ofInt 64 1).toNat = m % 2 := by
    rw [BitVec.toNat_and, BitVec.ofInt_natCast, BitVec.toNat_ofNat, show (BitVec.ofInt 64 1).toNat = 1 from rfl, Nat.and_one_is_mod]
    omega
  show IntKind.i64.wrap ((BitVec.ofInt 64 (m : Int) &&& BitVec.ofInt 64 1).toNat : Int) = _
  rw [e, IntKind.wrap_i64]
  omega
/-- A number turned back. -/
def back (n : Int) : Int := if n % 2 = 0 then n / 2 else -(n / 2) - 1
set_option maxRecDepth 100000 in
theorem back_calls (n : Int) (w : World) (h0 : 0 ≤ n) (h1 : n < 9223372036854775808) :
    Calls Try.prog 25 #[.int .i64 n] w fun e w' => e = .returned (.int .i64 (back n)) ∧ w = w' := by
  have h2 : ¬ n < 0 := by omega
  obtain ⟨m, hm⟩ : ∃ m : Nat, n / 2 = (m : Int) := ⟨(n / 2).toNat, by omega⟩
  have hx1 := xor_ones m (by omega)
  have hx0 := xor_none (n / 2) (by omega) (by omega)
  rw [← hm] at hx1
  have hand := and1 n h0 h1
  have HX1 := Aside0.mk hx1
  have HX0 := Aside0.mk hx0
  clear hm hx1 hx0
  go_enter Try.func25, Try.ntmps25
  rcases (by omega : n % 2 = 0 ∨ n % 2 = 1) with hp | hp
  · rw [hp] at hand
    have HP := Aside0.mk hp
    clear hp
    go_wp2
    go_ret
    refine ⟨?_, rfl⟩
    show Ending.returned (.int .i64 (bits .xor .i64 (n / 2) 0)) = _
    rw [HX0.out]
    unfold back
    rw [if_pos HP.out]
  · rw [hp] at hand
    have HP := Aside0.mk hp
    clear hp
    go_wp2
    go_ret
    refine ⟨?_, rfl⟩
    show Ending.returned (.int .i64 (bits .xor .i64 (n / 2) (-1))) = _
    rw [HX1.out]
    unfold back
    rw [if_neg (by have := HP.out; omega)]

set_option maxRecDepth 100000 in
/-- The next number, turned back. -/
theorem turned_calls (w2 W : World) (bs X : List Int) (a : Int) (h : RD w2 W bs 0) (hb : ∀ x ∈ bs, 0 ≤ x ∧ x ≤ 255) (hn : numG 0 0 bs = (a, X, 0)) (h0 : 0 ≤ a) (h1 : a < 9223372036854775808) :
    Calls Try.prog 19 #[.pointer (some ⟨w2.heap.size, 0, none⟩)] W fun e w' => e = .returned (.int .i64 (back a)) ∧ RD w2 w' X 0 := by
  have H := Aside0.mk h
  have HB := Aside0.mk hb
  have HN := Aside0.mk hn
  clear h hb hn
  go_enter Try.func19, Try.ntmps19
  go_wp2_with fail
  (with_reducible refine (num_calls w2 W bs X a H.out HB.out HN.out).mono ?_)
  rintro e w1 ⟨rfl, hR, _⟩
  have HR := Aside0.mk hR
  clear hR
  go_wp2_with fail
  (with_reducible refine (back_calls _ _ h0 h1).mono ?_)
  rintro e w3 ⟨rfl, rfl⟩
  go_wp2_with fail
  go_ret
  exact ⟨rfl, HR.out⟩
set_option maxRecDepth 100000 in
set_option maxHeartbeats 2000000 in
/-- The next text. -/
theorem rtext_calls (w2 W : World) (bs X : List Int) (k most : Int) (h : RD w2 W bs 0) (hb : ∀ x ∈ bs, 0 ≤ x ∧ x ≤ 255) (hn : numG 0 0 bs = (k, X, 0)) (h0 : 0 ≤ k) (h1 : k ≤ most) (h2 : k ≤ X.length) :
    Calls Try.prog 18 #[.pointer (some ⟨w2.heap.size, 0, none⟩), .int .i64 most] W fun e w' => e = .returned (.string (strOfNums (X.take k.toNat))) ∧ RD w2 w' (X.drop k.toNat) 0 := by
  have H := Aside0.mk h
  have HB := Aside0.mk hb
  have HN := Aside0.mk hn
  clear h hb hn
  go_enter Try.func18, Try.ntmps18
  go_wp2_with fail
  (with_reducible refine (num_calls w2 W bs X k H.out HB.out HN.out).mono ?_)
  rintro e w1 ⟨rfl, hR, _⟩
  obtain ⟨A, c, g1, g2, g3, g4⟩ := hR
  obtain ⟨b0, b1⟩ := rdr_cells g1
  have f0 := frozen_of_row _ _ 0 _ _ g1
  obtain ⟨i0, hi0, _, _, _⟩ := info_parts infoU8
  obtain ⟨n, hnX⟩ : ∃ n, X.length = n := ⟨_, rfl⟩
  rw [hnX] at g2 b0 h2
  have hct := cut_to 22 5 .i64 Try.underlying22 hi0 A n c k h0 h2 g2
  obtain ⟨A2, c2, hrun, hC2, hl2⟩ := cutfN' A n c X k hnX h0 h2 g2
  obtain ⟨k', hk'⟩ : ∃ k', k.toNat = k' := ⟨_, rfl⟩
  simp only [hk'] at hct hrun hC2 hl2
  have hkk : (k' : Int) = k := by omega
  have hcx : U8.C w1 A k' (X.take k') := by
    have h7 := Kd.C_take (m := k') (Kd.C_below g3 g4) (by rw [hnX]; omega)
    rwa [show (X.take k').length = k' by rw [List.length_take, hnX]; omega] at h7
  have hE := C_string' (c := c) hcx
  obtain ⟨q, hq⟩ : ∃ q, (X.drop k').length = q := ⟨_, rfl⟩
  simp only [hq] at hrun
  rw [hq] at hl2
  have HQ := Aside0.mk hq
  have HK := Aside0.mk hk'
  have G1 := Aside0.mk g1
  have G3 := Aside0.mk g3
  have G4 := Aside0.mk g4
  have HC2 := Aside0.mk hC2
  have HNX := Aside0.mk hnX
  have hk1 : ¬ most < k := by omega
  have hk2 : ¬ (n : Int) < k := by omega
  clear g1 g3 g4 hq hC2 hcx hnX hk' hkk H HB HN
  go_wp2_with fail
  go_ret
  rw [HK.out]
  refine ⟨rfl, A2, c2, ?_, ?_, ?_, G4.out.setCell (p := ⟨w2.heap.size, 0, none⟩) (Nat.le_refl _) _⟩
  · rw [HQ.out]; exact blk_put G1.out 0 _ rfl
  · rw [HQ.out]; exact hl2
  · exact HC2.out w2 (by rw [← HNX.out]; exact G3.out)

end Go.Proofs.Ythfpbaaefncamaa.A
