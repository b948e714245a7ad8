/- FOne -/
import Derived.Test.YtmfnbkghfmeekaaZABase
import Derived.RegionTactic
import Derived.ChangeAlike
import Derived.Test.YtmfnbkghfmeekaaZABytes
namespace Go.Proofs.Ytmfnbkghfmeekaa.A.F
open Go.RowKit Go.Proofs.YtmfnbkghfmeekaaW.PrintWords Go.Proofs.YtmfnbkghfmeekaaW.PrintLast Go.Proofs.YtmfnbkghfmeekaaW.PrintMore
set_option linter.unusedVariables false
set_option linter.unusedSimpArgs false
def row32 (f : Nat → Int) : List Int := (List.range 32).map f
theorem row32_len (f : Nat → Int) : (row32 f).length = 32 := by simp [row32]
theorem row32_at (f : Nat → Int) (i : Nat) (h : i < 32) : (row32 f).getD i 0 = f i := by simp [row32, List.getD_eq_getElem?_getD, h]
theorem row32_set (f : Nat → Int) (k : Nat) (x : Int) : (row32 f).set k x = row32 (fun i => if i = k then x else f i) := by
  apply List.ext_getElem?
  intro i
  simp only [row32, List.getElem?_set, List.getElem?_map, List.length_map, List.length_range]
  by_cases h : k = i
  · subst h
    by_cases hk : k < 32
    · simp [hk, List.getElem?_range]
    · simp [hk, List.getElem?_range]
  · rw [if_neg h]
    by_cases hi : i < 32
    · simp [List.getElem?_range, hi, Ne.symm h]
    · simp [List.getElem?_range, hi]
theorem row32_congr {f g : Nat → Int} (h : ∀ i, i < 32 → f i = g i) : row32 f = row32 g := by
  unfold row32
  exact List.map_congr_left (fun i hi => h i (List.mem_range.1 hi))
theorem info3 : (Try.prog.info? 3).map (fun i => (i.zero, i.size, i.bytes)) = some (some (.int .i64 0), 1, 8) := by kernel_rfl
def bitAt (n : Int) (i : Nat) : Int := n / 2 ^ i % 2
set_option maxHeartbeats 800000 in
theorem bits_calls (n : Int) (w : World) (h0 : 0 ≤ n) (h1 : n ≤ 9223372036854775807) :
    Calls Try.prog 96 #[.int .i64 n] w fun e w' => ∃ v, e = .returned v ∧ (Kd.int .i64).R 3 w' w.heap.size (fun _ => True) v (row32 (bitAt n)) ∧ Below w.heap.size w w' := by
  go_enter Try.func96, Try.ntmps96
  go_wp2_with ((with_reducible refine gate_dst (N := 5) rfl ?_); refine Kd.R_make (Kd.int .i64) _ 3 rfl (N := 5) rfl 88 _ _ rfl 32 rfl rfl Try.underlying88 (.int .i64 0) 8 info3 rfl (by decide) (by omega) 0 (ok := fun _ => True) (okp := fun _ => True) rfl (fun _ hk => hk) trivial (by omega) (by omega) (Below.refl _ _) (Nat.le_refl _) ?_; intro v w1 HO hb _ _)
  obtain ⟨g, cap, rfl, hg, _⟩ := Kd.R_form HO (by simp)
  have HO0 := Aside0.mk HO
  have HB0 := Aside0.mk hb
  clear HO hb
  simp only [List.length_replicate, Int.reduceToNat] at *
  go_loopw [0, 4] (fun v0 v4 w' => ∃ j : Nat, j ≤ 32 ∧ v4 = .int .i64 j ∧ v0 = .int .i64 (n / 2 ^ j) ∧ Aside0 ((Kd.int .i64).R 3 w' w.heap.size (fun _ => True) (.slice (some ⟨g, 0, none⟩) 32 cap) (row32 fun i => if i < j then bitAt n i else 0)) ∧ Aside0 (Below w.heap.size w w')) (fun _ v4 _ => 32 - (intOf v4).toNat)
  case atStart =>
    refine ⟨0, Nat.zero_le _, rfl, by simp, ⟨?_⟩, HB0⟩
    have e : List.replicate 32 (0 : Int) = row32 (fun i => if i < 0 then bitAt n i else 0) := by
      unfold row32
      rfl
    rw [← e]
    exact HO0.out
  case round =>
    clear HO0 HB0
    obtain ⟨j, hj, rfl, rfl, HO, HB⟩ := hrel
    by_cases hlt : j < 32
    · obtain ⟨hc, hf⟩ := R_cellN HO.out j hlt
      have hq : 0 ≤ n / 2 ^ j := Int.ediv_nonneg h0 (by exact Int.le_of_lt (Int.pow_pos (by omega)))
      have hq1 : n / 2 ^ j ≤ 9223372036854775807 := by
        have := Int.ediv_le_self (2 ^ j) h0
        omega
      generalize hz : n / 2 ^ j = z at *
      have HZ := Aside0.mk hz
      clear hz
      go_wp2
      go_roundw
      case rel =>
        refine ⟨j + 1, by omega, by go_num, ?_, ⟨?_⟩, ⟨?_⟩⟩
        · rw [← HZ.out, Int.pow_succ, Int.ediv_ediv_of_nonneg (by exact Int.le_of_lt (Int.pow_pos (by omega)))]
        · have h2 := R_putN HO.out j (z % 2)
          rw [row32_set] at h2
          refine (show _ = _ from row32_congr ?_) ▸ h2
          intro i hi
          by_cases he : i = j
          · subst he
            simp [bitAt, HZ.out]
          · simp only [if_neg he]
            by_cases hl : i < j
            · rw [if_pos hl, if_pos (by omega)]
            · rw [if_neg hl, if_neg (by omega)]
        · exact below_set HB.out hg
      case measure => simp [intOf]; omega
    · obtain rfl : j = 32 := by omega
      go_wp2
      go_ret
      refine ⟨_, rfl, ?_, HB.out⟩
      refine (show _ = _ from row32_congr ?_) ▸ HO.out
      intro i hi
      rw [if_pos hi]
end Go.Proofs.Ytmfnbkghfmeekaa.A.F
namespace Go.Proofs.Ytmfnbkghfmeekaa.A.F
open Go.RowKit Go.Proofs.YtmfnbkghfmeekaaW.PrintWords Go.Proofs.YtmfnbkghfmeekaaW.PrintLast Go.Proofs.YtmfnbkghfmeekaaW.PrintMore
set_option linter.unusedVariables false
set_option linter.unusedSimpArgs false
def stepB (s : BitVec 32) : BitVec 32 := (s >>> 1) ^^^ (3988292384#32 &&& -(s &&& 1#32))
def stepN : Nat → BitVec 32 → BitVec 32
  | 0, s => s
  | n + 1, s => stepN n (stepB s)
def upd (s : BitVec 32) (c : Int) : BitVec 32 := stepN 8 (s ^^^ BitVec.ofInt 32 c)
def crc (l : List Int) : BitVec 32 := l.foldl upd 4294967295#32
def sum (l : List Int) : Int := ((~~~ crc l).toNat : Int)
theorem stepN_succ (n : Nat) (s : BitVec 32) : stepN (n + 1) s = stepB (stepN n s) := by
  induction n generalizing s with
  | zero => rfl
  | succ n ih => rw [stepN, ih, stepN]
def crcTo (l : List Int) (k : Nat) : BitVec 32 := crc (l.take k)
theorem crcTo_succ (l : List Int) (k : Nat) (h : k < l.length) : crcTo l (k + 1) = upd (crcTo l k) (l.getD k 0) := by
  unfold crcTo crc
  rw [List.take_succ_eq_append_getElem h, List.foldl_append]
  simp [List.getD_eq_getElem?_getD, h]
theorem ofInt_toNat (a : BitVec 32) : BitVec.ofInt 32 (a.toNat : Int) = a := by simp
theorem ofInt_mod (x : Int) : BitVec.ofInt 32 (x % 4294967296) = BitVec.ofInt 32 x := by
  apply BitVec.eq_of_toNat_eq
  simp [BitVec.toNat_ofInt]
theorem wrap_bv (a : BitVec 32) : IntKind.u32.wrap (a.toNat : Int) = a.toNat := by
  rw [IntKind.wrap_u32]
  have := a.isLt
  omega
theorem bits_xor (x y : Int) : bits .xor .u32 x y = ((BitVec.ofInt 32 x ^^^ BitVec.ofInt 32 y).toNat : Int) := wrap_bv _
theorem bits_and (x y : Int) : bits .and .u32 x y = ((BitVec.ofInt 32 x &&& BitVec.ofInt 32 y).toNat : Int) := wrap_bv _
theorem ofInt_neg (x : Int) : BitVec.ofInt 32 (-x) = - BitVec.ofInt 32 x := BitVec.ofInt_neg
theorem shr_bv (a : BitVec 32) : (a.toNat : Int) / (2 : Int) = ((a >>> 1).toNat : Int) := by
  simp [BitVec.toNat_ushiftRight, Nat.shiftRight_eq_div_pow]
theorem step_eq (s : BitVec 32) : bits .xor .u32 ((s.toNat : Int) / (2 : Int)) (bits .and .u32 3988292384 (-bits .and .u32 (s.toNat : Int) 1 % 4294967296)) = ((stepB s).toNat : Int) := by
  rw [shr_bv, bits_xor, bits_and, bits_and, ofInt_mod, ofInt_neg]
  simp only [ofInt_toNat]
  rfl
theorem sum_end (l : List Int) : wrap64 (bits .xor .u32 IntKind.u32.max ((crcTo l l.length).toNat : Int)) = sum l := by
  have e : crcTo l l.length = crc l := by unfold crcTo; rw [List.take_length]
  rw [e, bits_xor, ofInt_toNat, show BitVec.ofInt 32 IntKind.u32.max = BitVec.allOnes 32 from by decide, BitVec.allOnes_xor]
  unfold sum wrap64
  have := (~~~ crc l).isLt
  omega
set_option maxHeartbeats 400000 in
theorem sum_calls (A : Option Addr) (c : Nat) (l : List Int) (w : World) (hr : Kd.C (Kd.int .u8) w A l.length l) (hc : l.length ≤ c) :
    Calls Try.prog 66 #[.slice A l.length c] w fun e w' => e = .returned (.int .i64 (sum l)) ∧ w = w' := by
  have HR := Aside0.mk hr
  have hm : l.length ≤ 9223372036854775807 := hr.2.1
  clear hr
  go_enter Try.func66, Try.ntmps66
  go_wp2
  go_loop [3, 8] (fun s i => ∃ k : Nat, k ≤ l.length ∧ i = .int .i64 k ∧ s = .int .u32 ((crcTo l k).toNat : Int)) (fun _ i => l.length - (intOf i).toNat)
  case atStart => exact ⟨0, Nat.zero_le _, rfl, rfl⟩
  case round =>
    obtain ⟨k, hk, rfl, rfl⟩ := hrel
    by_cases hlt : k < l.length
    · obtain ⟨ad, rfl, hcell⟩ := C_at HR.out k hlt
      generalize hx : l.getD k 0 = x at hcell
      have HX := Aside0.mk hx
      clear hx
      go_wp2
      go_loop [3, 16] (fun s i => ∃ j : Nat, j ≤ 8 ∧ i = .int .i64 j ∧ s = .int .u32 ((stepN j (crcTo l k ^^^ BitVec.ofInt 32 x)).toNat : Int)) (fun _ i => 8 - (intOf i).toNat)
      case atStart => exact ⟨0, Nat.zero_le _, rfl, by rw [bits_xor, ofInt_mod, ofInt_toNat]; rfl⟩
      case round =>
        obtain ⟨j, hj, rfl, rfl⟩ := hrel
        by_cases hjt : j < 8
        · go_wp2
          go_round
          case rel => exact ⟨j + 1, by omega, by go_num, by rw [stepN_succ]; exact congrArg _ (step_eq _)⟩
          case measure => simp [intOf]; omega
        · obtain rfl : j = 8 := by omega
          go_wp2
          go_round
          case rel => exact ⟨k + 1, by omega, by go_num, by rw [crcTo_succ l k hlt, HX.out]; rfl⟩
          case measure => simp [intOf]; omega
    · obtain rfl : k = l.length := by omega
      go_wp2
      go_ret
      exact ⟨congrArg (fun z => Ending.returned (Value.int .i64 z)) (sum_end l), rfl⟩
end Go.Proofs.Ytmfnbkghfmeekaa.A.F
namespace Go.Proofs.Ytmfnbkghfmeekaa.A.F
open Go.RowKit Go.Proofs.YtmfnbkghfmeekaaW.PrintWords Go.Proofs.YtmfnbkghfmeekaaW.PrintLast Go.Proofs.YtmfnbkghfmeekaaW.PrintMore
set_option linter.unusedVariables false
set_option linter.unusedSimpArgs false
def bv (s : BitVec 32) (i : Nat) : Int := if s.getLsbD i then 1 else 0
theorem bv_range (s : BitVec 32) (i : Nat) : 0 ≤ bv s i ∧ bv s i ≤ 1 := by unfold bv; split <;> omega
theorem bv_xor (s t : BitVec 32) (i : Nat) : bv (s ^^^ t) i = (bv s i + bv t i) % 2 := by
  unfold bv
  rw [BitVec.getLsbD_xor]
  cases s.getLsbD i <;> cases t.getLsbD i <;> rfl
theorem bitAt_bv (x : Nat) (i : Nat) (hi : i < 32) : bitAt (x : Int) i = bv (BitVec.ofInt 32 (x : Int)) i := by
  unfold bitAt bv
  rw [BitVec.ofInt_natCast, BitVec.getLsbD_ofNat, decide_eq_true hi, Bool.true_and]
  have h : (x : Int) / 2 ^ i % 2 = ((x / 2 ^ i % 2 : Nat) : Int) := by simp
  rw [h, Nat.testBit_eq_decide_div_mod_eq]
  by_cases h1 : x / 2 ^ i % 2 = 1
  · simp [h1]
  · have : x / 2 ^ i % 2 = 0 := by omega
    simp [this]
theorem bv_step_low (s : BitVec 32) (j : Nat) (hj : j < 31) : bv (stepB s) j = (bv s (j + 1) + bv s 0 * bv 3988292384#32 j) % 2 := by
  have hn : (-(s &&& 1#32)).getLsbD j = s.getLsbD 0 := by
    rcases hb : s.getLsbD 0 with _ | _
    · have e : s &&& 1#32 = 0#32 := by
        apply BitVec.eq_of_getLsbD_eq
        intro i hi
        rw [BitVec.getLsbD_and, BitVec.getLsbD_one]
        by_cases h : i = 0
        · subst h; rw [hb]; rfl
        · simp [h]
      rw [e]; simp
    · have e : s &&& 1#32 = 1#32 := by
        apply BitVec.eq_of_getLsbD_eq
        intro i hi
        rw [BitVec.getLsbD_and, BitVec.getLsbD_one]
        by_cases h : i = 0
        · subst h; rw [hb]; rfl
        · simp [h]
      rw [e, show (-(1#32)) = BitVec.allOnes 32 from by decide, BitVec.getLsbD_allOnes]
      simp; omega
  unfold bv stepB
  rw [BitVec.getLsbD_xor, BitVec.getLsbD_ushiftRight, BitVec.getLsbD_and, hn, Nat.add_comm 1 j]
  cases s.getLsbD (j + 1) <;> cases s.getLsbD 0 <;> cases (3988292384#32).getLsbD j <;> rfl
theorem bv_step_top (s : BitVec 32) : bv (stepB s) 31 = bv s 0 * bv 3988292384#32 31 := by
  have hn : (-(s &&& 1#32)).getLsbD 31 = s.getLsbD 0 := by
    rcases hb : s.getLsbD 0 with _ | _
    · have e : s &&& 1#32 = 0#32 := by
        apply BitVec.eq_of_getLsbD_eq
        intro i hi
        rw [BitVec.getLsbD_and, BitVec.getLsbD_one]
        by_cases h : i = 0
        · subst h; rw [hb]; rfl
        · simp [h]
      rw [e]; simp
    · have e : s &&& 1#32 = 1#32 := by
        apply BitVec.eq_of_getLsbD_eq
        intro i hi
        rw [BitVec.getLsbD_and, BitVec.getLsbD_one]
        by_cases h : i = 0
        · subst h; rw [hb]; rfl
        · simp [h]
      rw [e]; decide
  unfold bv stepB
  rw [BitVec.getLsbD_xor, BitVec.getLsbD_ushiftRight, BitVec.getLsbD_and, hn, show s.getLsbD (1 + 31) = false from by simp]
  cases s.getLsbD 0 <;> rfl
theorem poly_bv (j : Nat) (hj : j < 32) : bitAt 3988292384 j = bv 3988292384#32 j := by
  have := bitAt_bv 3988292384 j hj
  rw [show BitVec.ofInt 32 ((3988292384 : Nat) : Int) = 3988292384#32 from by decide] at this
  exact this
def part (t : BitVec 32) (k : Nat) : Int := ((t.toNat % 2 ^ k : Nat) : Int)
theorem part_succ (s : BitVec 32) (k : Nat) (hk : k < 32) : part (~~~ s) (k + 1) = part (~~~ s) k + 2 ^ k * (1 - bv s k) := by
  unfold part bv
  rw [Nat.mod_pow_succ, ← Nat.toNat_testBit]
  have e : (~~~ s).toNat.testBit k = !s.getLsbD k := by
    have : (~~~ s).getLsbD k = !s.getLsbD k := by rw [BitVec.getLsbD_not]; simp [hk]
    rw [← this]; rfl
  rw [e]
  cases s.getLsbD k <;> simp
theorem part_end (s : BitVec 32) : part s 32 = (s.toNat : Int) := by
  unfold part
  rw [Nat.mod_eq_of_lt s.isLt]
theorem part_range (s : BitVec 32) (k : Nat) (hk : k ≤ 32) : 0 ≤ part s k ∧ part s k < 4294967296 := by
  unfold part
  have h1 : s.toNat % 2 ^ k < 2 ^ k := Nat.mod_lt _ (Nat.two_pow_pos k)
  have h2 : 2 ^ k ≤ 2 ^ 32 := Nat.pow_le_pow_right (by decide) hk
  omega
set_option maxHeartbeats 4000000 in
set_option maxRecDepth 100000 in
theorem refsum_calls (A : Option Addr) (c : Nat) (l : List Int) (w : World) (hr : Kd.C (Kd.int .u8) w A l.length l) (hc : l.length ≤ c) (hb : ∀ x ∈ l, 0 ≤ x ∧ x ≤ 255) :
    Calls Try.prog 75 #[.slice A l.length c] w fun e w' => e = .returned (.int .i64 (sum l)) ∧ Below w.heap.size w w' := by
  have HR := Aside0.mk hr
  have hm : l.length ≤ 9223372036854775807 := hr.2.1
  have HBY := Aside0.mk hb
  clear hr hb
  go_enter Try.func75, Try.ntmps75
  go_wp2_with ((with_reducible refine gate_dst (N := 15) rfl ?_); refine Kd.R_make (Kd.int .i64) _ 3 rfl (N := 15) rfl 88 _ _ rfl 32 rfl rfl Try.underlying88 (.int .i64 0) 8 info3 rfl (by decide) (by omega) 0 (ok := fun _ => True) (okp := fun _ => True) rfl (fun _ hk => hk) trivial (by omega) (by omega) (Below.refl _ _) (Nat.le_refl _) ?_; intro v w1 HO hb _ _)
  obtain ⟨g, cap, rfl, hg, _⟩ := Kd.R_form HO (by simp)
  have HO0 := Aside0.mk HO
  have HB0 := Aside0.mk hb
  clear HO hb
  simp only [List.length_replicate, Int.reduceToNat] at *
  go_loopw [4] (fun v4 w' => ∃ j : Nat, j ≤ 32 ∧ v4 = .int .i64 j ∧ Aside0 ((Kd.int .i64).R 3 w' w.heap.size (fun _ => True) (.slice (some ⟨g, 0, none⟩) 32 cap) (row32 fun i => if i < j then 1 else 0)) ∧ Aside0 (Below w.heap.size w w')) (fun v4 _ => 32 - (intOf v4).toNat)
  case atStart => exact ⟨0, Nat.zero_le _, rfl, HO0, HB0⟩
  case round =>
    clear HO0 HB0
    obtain ⟨j, hj, rfl, HO, HB⟩ := hrel
    by_cases hlt : j < 32
    · obtain ⟨hc, hf⟩ := R_cellN HO.out j hlt
      go_wp2
      go_roundw
      case rel =>
        refine ⟨j + 1, by omega, by go_num, ⟨?_⟩, ⟨below_set HB.out hg⟩⟩
        have h2 := R_putN HO.out j 1
        rw [row32_set] at h2
        refine (show _ = _ from row32_congr ?_) ▸ h2
        intro i hi
        by_cases he : i = j
        · subst he
          simp
        · simp only [if_neg he]
          by_cases hl : i < j
          · rw [if_pos hl, if_pos (by omega)]
          · rw [if_neg hl, if_neg (by omega)]
      case measure => simp [intOf]; omega
    · obtain rfl : j = 32 := by omega
      clear hj hlt
      go_wp2_with (go_at_call 96; refine (bits_calls _ _ (by omega) (by omega)).mono ?_; rintro e w2 ⟨vp, rfl, HP0, hb2⟩)
      have HP := Aside0.mk (Kd.R_below HP0 (Below.refl _ _))
      obtain ⟨gp, capp, rfl, hgp, _⟩ := Kd.R_form HP0 (by rw [row32_len]; omega)
      rw [row32_len] at HP
      have HP1 := Aside0.mk (Kd.R_lower HP.out (below_size HB.out))
      have HB2 := Aside0.mk (below_step HB.out hb2)
      have HO2 := Aside0.mk (Kd.R_below HO.out hb2)
      have hne : gp ≠ g := by
        obtain ⟨_, _, he, _, hgl, _⟩ := Kd.R_form HO.out (by rw [row32_len]; omega)
        injection he with he1
        injection he1 with he2
        injection he2 with he3
        omega
      clear HP0 HP HO HB hb2
      rw [row32_len]
      go_loopw [6] (fun v6 w' => ∃ k : Nat, k ≤ l.length ∧ v6 = .int .i64 k ∧ Aside0 ((Kd.int .i64).R 3 w' w.heap.size (fun _ => True) (.slice (some ⟨g, 0, none⟩) 32 cap) (row32 (bv (crcTo l k)))) ∧ Aside0 ((Kd.int .i64).R 3 w' w.heap.size (fun _ => True) (.slice (some ⟨gp, 0, none⟩) 32 capp) (row32 (bitAt 3988292384))) ∧ Aside0 (Below w.heap.size w w')) (fun v6 _ => l.length - (intOf v6).toNat)
      case atStart =>
        refine ⟨0, Nat.zero_le _, rfl, ⟨?_⟩, HP1, HB2⟩
        refine (show _ = _ from row32_congr ?_) ▸ HO2.out
        intro i hi
        rw [if_pos hi, show crcTo l 0 = BitVec.allOnes 32 from rfl]
        unfold bv
        rw [BitVec.getLsbD_allOnes]
        simp [hi]
      case round =>
        clear HP1 HB2 HO2
        obtain ⟨k, hk, rfl, HO, HP, HB⟩ := hrel
        by_cases hlt : k < l.length
        · obtain ⟨ad, rfl, hcell0⟩ := C_at HR.out k hlt
          have hcell := pw_cell_below HB.out hcell0
          have hxr := HBY.out (l.getD k 0) (by rw [List.getD_eq_getElem?_getD, List.getElem?_eq_getElem hlt]; exact List.getElem_mem hlt)
          generalize hx : l.getD k 0 = x at hcell hxr
          have HX := Aside0.mk hx
          obtain ⟨hx0, hx1⟩ := hxr
          clear hx hcell0
          go_wp2_with (go_at_call 96; (with_reducible refine (bits_calls _ _ (by omega) (by omega)).mono ?_); rintro e w3 ⟨vq, rfl, HQ0, hb3⟩)
          obtain ⟨gq, capq, rfl, hgq, _⟩ := Kd.R_form HQ0 (by rw [row32_len]; omega)
          rw [row32_len] at HQ0 ⊢
          have HQ := Aside0.mk (Kd.R_lower HQ0 (below_size HB.out))
          have HP2 := Aside0.mk (Kd.R_below HP.out hb3)
          have HO2 := Aside0.mk (Kd.R_below HO.out hb3)
          have HB2 := Aside0.mk (below_step HB.out hb3)
          have hneq : gq ≠ g := by
            obtain ⟨_, _, he, _, hgl, _⟩ := Kd.R_form HO.out (by rw [row32_len]; omega)
            injection he with he1
            injection he1 with he2
            injection he2 with he3
            omega
          clear HQ0 HP HO HB hb3
          rw [← Int.toNat_of_nonneg hx0] at HQ
          go_loopw [8] (fun v8 w' => ∃ j : Nat, j ≤ 32 ∧ v8 = .int .i64 j ∧ Aside0 ((Kd.int .i64).R 3 w' w.heap.size (fun _ => True) (.slice (some ⟨g, 0, none⟩) 32 cap) (row32 fun i => if i < j then bv (crcTo l k ^^^ BitVec.ofInt 32 x) i else bv (crcTo l k) i)) ∧ Aside0 ((Kd.int .i64).R 3 w' w.heap.size (fun _ => True) (.slice (some ⟨gq, 0, none⟩) 32 capq) (row32 (bitAt x.toNat))) ∧ Aside0 ((Kd.int .i64).R 3 w' w.heap.size (fun _ => True) (.slice (some ⟨gp, 0, none⟩) 32 capp) (row32 (bitAt 3988292384))) ∧ Aside0 (Below w.heap.size w w')) (fun v8 _ => 32 - (intOf v8).toNat)
          case atStart => exact ⟨0, Nat.zero_le _, rfl, HO2, HQ, HP2, HB2⟩
          case round =>
            clear HO2 HQ HP2 HB2
            obtain ⟨j, hj, rfl, HO, HQ, HP, HB⟩ := hrel
            by_cases hjt : j < 32
            · obtain ⟨hc1, hf1⟩ := R_cellN HO.out j hjt
              obtain ⟨hc2, _⟩ := R_cellN HQ.out j hjt
              rw [row32_at _ _ hjt] at hc1 hc2
              simp only [Nat.lt_irrefl, if_false] at hc1
              have hb1 := bv_range (crcTo l k) j
              rw [bitAt_bv _ _ hjt] at hc2
              have hb2 := bv_range (BitVec.ofInt 32 (x.toNat : Int)) j
              obtain ⟨h10, h11⟩ := hb1
              obtain ⟨h20, h21⟩ := hb2
              generalize hbx : bv (crcTo l k) j = bx at *
              generalize hby : bv (BitVec.ofInt 32 (x.toNat : Int)) j = bY at *
              have HBX := Aside0.mk hbx
              have HBY2 := Aside0.mk hby
              clear hbx hby
              go_wp2
              go_region
              go_wp2
              go_roundw
              case rel =>
                refine ⟨j + 1, by omega, by go_num, ⟨?_⟩, ⟨Kd.R_drew (R_other HQ.out hneq _)⟩, ⟨Kd.R_drew (R_other HP.out hne _)⟩, ⟨below_drew (below_set HB.out hg)⟩⟩
                refine Kd.R_drew ?_
                have h2 := R_putN HO.out j ((bx + bY) % 2)
                rw [row32_set] at h2
                refine (show _ = _ from row32_congr ?_) ▸ h2
                intro i hi
                by_cases he : i = j
                · subst he
                  rw [if_pos rfl, if_pos (by omega), bv_xor, HBX.out, ← HBY2.out, Int.toNat_of_nonneg hx0]
                · simp only [if_neg he]
                  by_cases hl : i < j
                  · rw [if_pos hl, if_pos (by omega)]
                  · rw [if_neg hl, if_neg (by omega)]
              case measure => simp [intOf]; omega
            · obtain rfl : j = 32 := by omega
              clear hj hjt
              have HO1 := Aside0.mk ((show (row32 fun i => if i < 32 then bv (crcTo l k ^^^ BitVec.ofInt 32 x) i else bv (crcTo l k) i) = row32 (bv (stepN 0 (crcTo l k ^^^ BitVec.ofInt 32 x))) from row32_congr (fun i hi => by rw [if_pos hi]; rfl)) ▸ HO.out)
              clear HO HQ
              generalize hS : crcTo l k ^^^ BitVec.ofInt 32 x = S at HO1
              have HS := Aside0.mk hS
              clear hS
              go_wp2
              go_loopw [9] (fun v9 w' => ∃ m : Nat, m ≤ 8 ∧ v9 = .int .i64 m ∧ Aside0 ((Kd.int .i64).R 3 w' w.heap.size (fun _ => True) (.slice (some ⟨g, 0, none⟩) 32 cap) (row32 (bv (stepN m S)))) ∧ Aside0 ((Kd.int .i64).R 3 w' w.heap.size (fun _ => True) (.slice (some ⟨gp, 0, none⟩) 32 capp) (row32 (bitAt 3988292384))) ∧ Aside0 (Below w.heap.size w w')) (fun v9 _ => 8 - (intOf v9).toNat)
              case atStart => exact ⟨0, Nat.zero_le _, rfl, HO1, HP, HB⟩
              case round =>
                clear HO1 HP HB
                obtain ⟨m, hm8, rfl, HO, HP, HB⟩ := hrel
                by_cases hmt : m < 8
                · obtain ⟨hc0, _⟩ := R_cellN HO.out 0 (by omega)
                  rw [row32_at _ _ (by omega)] at hc0
                  generalize hT : stepN m S = T at *
                  have HT := Aside0.mk hT
                  clear hT
                  have hb0 := bv_range T 0
                  generalize hb0v : bv T 0 = b0 at *
                  have HB0V := Aside0.mk hb0v
                  clear hb0v
                  obtain ⟨hb00, hb01⟩ := hb0
                  go_wp2
                  go_loopw [11] (fun v11 w' => ∃ j : Nat, j ≤ 31 ∧ v11 = .int .i64 j ∧ Aside0 ((Kd.int .i64).R 3 w' w.heap.size (fun _ => True) (.slice (some ⟨g, 0, none⟩) 32 cap) (row32 fun i => if i < j then bv (stepB T) i else bv T i)) ∧ Aside0 ((Kd.int .i64).R 3 w' w.heap.size (fun _ => True) (.slice (some ⟨gp, 0, none⟩) 32 capp) (row32 (bitAt 3988292384))) ∧ Aside0 (Below w.heap.size w w')) (fun v11 _ => 31 - (intOf v11).toNat)
                  case atStart => exact ⟨0, Nat.zero_le _, rfl, HO, HP, HB⟩
                  case round =>
                    clear HO HP HB hc0
                    obtain ⟨j, hj, rfl, HO, HP, HB⟩ := hrel
                    by_cases hjt : j < 31
                    · obtain ⟨hc1, hf1⟩ := R_cellN HO.out j (by omega)
                      obtain ⟨hc3, _⟩ := R_cellN HO.out (j + 1) (by omega)
                      obtain ⟨hc2, _⟩ := R_cellN HP.out j (by omega)
                      rw [row32_at _ _ (by omega)] at hc1 hc2 hc3
                      rw [if_neg (by omega)] at hc1 hc3
                      rw [poly_bv _ (by omega)] at hc2
                      have hb1 := bv_range T (j + 1)
                      have hb2 := bv_range 3988292384#32 j
                      obtain ⟨h10, h11⟩ := hb1
                      obtain ⟨h20, h21⟩ := hb2
                      generalize hbx : bv T (j + 1) = bx at *
                      generalize hby : bv 3988292384#32 j = bY at *
                      have HBX := Aside0.mk hbx
                      have HBY2 := Aside0.mk hby
                      clear hbx hby
                      have hm0 : 0 ≤ b0 * bY ∧ b0 * bY ≤ 1 := by
                        rcases (show b0 = 0 ∨ b0 = 1 by omega) with h | h <;> subst h <;> omega
                      obtain ⟨hm0, hm1⟩ := hm0
                      generalize hmv : b0 * bY = bm at *
                      have HMV := Aside0.mk hmv
                      have hw1 : IntKind.i64.wrap (b0 * bY) = bm := by rw [hmv, IntKind.wrap_i64]; omega
                      clear hmv
                      go_wp2
                      go_region
                      go_wp2
                      go_roundw
                      case rel =>
                        refine ⟨j + 1, by omega, by go_num, ⟨?_⟩, ⟨Kd.R_drew (R_other HP.out hne _)⟩, ⟨below_drew (below_set HB.out hg)⟩⟩
                        refine Kd.R_drew ?_
                        have h2 := R_putN HO.out j ((bx + bm) % 2)
                        rw [row32_set] at h2
                        refine (show _ = _ from row32_congr ?_) ▸ h2
                        intro i hi
                        by_cases he : i = j
                        · subst he
                          rw [if_pos rfl, if_pos (by omega), bv_step_low _ _ hjt, HBX.out, HBY2.out, HB0V.out, HMV.out]
                        · simp only [if_neg he]
                          by_cases hl : i < j
                          · rw [if_pos hl, if_pos (by omega)]
                          · rw [if_neg hl, if_neg (by omega)]
                      case measure => simp [intOf]; omega
                    · obtain rfl : j = 31 := by omega
                      clear hj hjt
                      obtain ⟨hc1, hf1⟩ := R_cellN HO.out 31 (by omega)
                      obtain ⟨hc2, _⟩ := R_cellN HP.out 31 (by omega)
                      rw [row32_at _ _ (by omega)] at hc1 hc2
                      rw [poly_bv _ (by omega)] at hc2
                      have hb2 := bv_range 3988292384#32 31
                      obtain ⟨h20, h21⟩ := hb2
                      generalize hby : bv 3988292384#32 31 = bY at *
                      have HBY2 := Aside0.mk hby
                      clear hby
                      have hm0 : 0 ≤ b0 * bY ∧ b0 * bY ≤ 1 := by
                        rcases (show b0 = 0 ∨ b0 = 1 by omega) with h | h <;> subst h <;> omega
                      obtain ⟨hm0, hm1⟩ := hm0
                      generalize hmv : b0 * bY = bm at *
                      have HMV := Aside0.mk hmv
                      have hw1 : IntKind.i64.wrap (b0 * bY) = bm := by rw [hmv, IntKind.wrap_i64]; omega
                      clear hmv
                      go_wp2
                      go_roundw
                      case rel =>
                        refine ⟨m + 1, by omega, by go_num, ⟨?_⟩, ⟨R_other HP.out hne _⟩, ⟨below_set HB.out hg⟩⟩
                        have h2 := R_putN HO.out 31 bm
                        rw [row32_set] at h2
                        rw [stepN_succ, HT.out]
                        refine (show _ = _ from row32_congr ?_) ▸ h2
                        intro i hi
                        by_cases he : i = 31
                        · subst he
                          rw [if_pos rfl, bv_step_top, HBY2.out, HB0V.out, HMV.out]
                        · rw [if_neg he, if_pos (by omega)]
                      case measure => simp [intOf]; omega
                · obtain rfl : m = 8 := by omega
                  clear hm8 hmt
                  go_wp2
                  go_roundw
                  case rel =>
                    refine ⟨k + 1, by omega, by go_num, ⟨?_⟩, HP, HB⟩
                    rw [crcTo_succ l k hlt, HX.out]
                    unfold upd
                    rw [HS.out]
                    exact HO.out
                  case measure => simp [intOf]; omega
        · obtain rfl : k = l.length := by omega
          go_wp2
          go_loopw [12, 13, 14] (fun v12 v13 v14 w' => ∃ j : Nat, j ≤ 32 ∧ v14 = .int .i64 j ∧ v13 = .int .i64 (2 ^ j) ∧ v12 = .int .i64 (part (~~~ crc l) j) ∧ Aside0 ((Kd.int .i64).R 3 w' w.heap.size (fun _ => True) (.slice (some ⟨g, 0, none⟩) 32 cap) (row32 (bv (crc l)))) ∧ Aside0 (Below w.heap.size w w')) (fun _ _ v14 _ => 32 - (intOf v14).toNat)
          case atStart =>
            refine ⟨0, Nat.zero_le _, rfl, rfl, ?_, ⟨?_⟩, HB⟩
            · simp [part, Nat.mod_one]
            · have e : crcTo l l.length = crc l := by unfold crcTo; rw [List.take_length]
              rw [← e]; exact HO.out
          case round =>
            clear HO HP HB
            obtain ⟨j, hj, rfl, rfl, rfl, HO, HB⟩ := hrel
            by_cases hjt : j < 32
            · obtain ⟨hc, hf⟩ := R_cellN HO.out j hjt
              rw [row32_at _ _ hjt] at hc
              have hbr := bv_range (crc l) j
              obtain ⟨hb10, hb11⟩ := hbr
              obtain ⟨hpr0, hpr1⟩ := part_range (~~~ crc l) j hj
              have hps := part_succ (crc l) j hjt
              have hpw : (2 : Int) ^ j ≤ 4294967296 := by
                have h1 : (2 : Nat) ^ j ≤ 4294967296 := Nat.le_trans (Nat.pow_le_pow_right (by decide) hj) (by decide)
                have h2 : ((2 ^ j : Nat) : Int) ≤ 4294967296 := by omega
                rw [Int.natCast_pow] at h2
                exact h2
              have hpw0 : (0 : Int) < 2 ^ j := Int.pow_pos (by omega)
              have hsx : (2 : Int) ^ (j + 1) = 2 * 2 ^ j := by rw [Int.pow_succ]; omega
              generalize hbx : bv (crc l) j = bx at *
              generalize hdx : (2 : Int) ^ j = d at *
              generalize hpx : part (~~~ crc l) j = p at *
              have hm0 : 0 ≤ d * (1 - bx) ∧ d * (1 - bx) ≤ 4294967296 := by
                rcases (show bx = 0 ∨ bx = 1 by omega) with h | h <;> subst h <;> omega
              obtain ⟨hm0, hm1⟩ := hm0
              generalize hmv : d * (1 - bx) = bm at *
              have hw1 : IntKind.i64.wrap (d * (1 - bx)) = bm := by rw [hmv, IntKind.wrap_i64]; omega
              have HPS := Aside0.mk hps
              have HSX := Aside0.mk hsx
              clear hps hsx hbx hdx hpx hmv
              go_wp2
              go_roundw
              case rel =>
                refine ⟨j + 1, by omega, by go_num, ?_, ?_, HO, HB⟩
                · rw [HSX.out]
                · rw [HPS.out]
              case measure => simp [intOf]; omega
            · obtain rfl : j = 32 := by omega
              go_wp2
              go_ret
              refine ⟨?_, HB.out⟩
              rw [part_end]
              rfl
end Go.Proofs.Ytmfnbkghfmeekaa.A.F
namespace Go.Proofs.Ytmfnbkghfmeekaa.A.F
open Go.RowKit Go.Proofs.YtmfnbkghfmeekaaW.PrintWords Go.Proofs.YtmfnbkghfmeekaaW.PrintLast Go.Proofs.YtmfnbkghfmeekaaW.PrintMore
set_option linter.unusedVariables false
set_option linter.unusedSimpArgs false
def le4 (n : Int) : List Int := [n % 256, n / 256 % 256, n / 65536 % 256, n / 16777216 % 256]
def frame (l : List Int) : List Int := le4 l.length ++ le4 (sum l) ++ l
set_option maxHeartbeats 400000 in
theorem four_calls (n : Int) (w : World) (h0 : 0 ≤ n) (h1 : n ≤ 9223372036854775807) :
    Calls Try.prog 74 #[.int .i64 n] w fun e w' => ∃ v, e = .returned v ∧ OB w' w.heap.size v (le4 n) ∧ Below w.heap.size w w' := by
  go_enter Try.func74, Try.ntmps74
  go_wp2
  go_ret
  exact ⟨_, rfl, OB_lit (le4 n) (Nat.le_refl _) (by simp [le4]), below_alloc (Below.refl _ _) _⟩
set_option maxHeartbeats 400000 in
theorem put_calls (n : Int) (v : Value) (l : List Int) (w : World) (B : Nat) (hB : B ≤ w.heap.size) (HO : OB w B v l) (h0 : 0 ≤ n) (h1 : n ≤ 9223372036854775807) (hl : l.length ≤ 140737488000000) :
    Calls Try.prog 65 #[v, .int .i64 n] w fun e w' => ∃ v1, e = .returned v1 ∧ OB w' B v1 (l ++ le4 n) ∧ Below B w w' := by
  have HO0 := Aside0.mk HO
  obtain ⟨A, c, rfl, _⟩ := OB_read HO
  clear HO
  go_enter Try.func65, Try.ntmps65
  go_wp2_with ((with_reducible refine gate_dst (N := 18) rfl ?_); refine app_bytes rfl rfl rfl rfl (Kd.R_alloc HO0.out _) (lit_C (le4 n) (by simp [le4])) (by simp; omega) (show l.length + 4 ≤ 140737488355328 by omega) ?_; intro v1 w1 HO1 hb1 _ _)
  go_ret
  exact ⟨_, rfl, HO1, (Below.refl _ _).alloc hB _ |>.trans hb1⟩
theorem le4_len (n : Int) : (le4 n).length = 4 := rfl
theorem le4_range (n : Int) : ∀ x ∈ le4 n, 0 ≤ x ∧ x ≤ 255 := by
  intro x hx
  simp only [le4, List.mem_cons, List.not_mem_nil, or_false] at hx
  rcases hx with rfl | rfl | rfl | rfl <;> omega
theorem sum_range (l : List Int) : 0 ≤ sum l ∧ sum l < 4294967296 := by
  unfold sum
  have := (~~~ crc l).isLt
  omega
set_option maxHeartbeats 400000 in
theorem refframe_calls (A : Option Addr) (c : Nat) (l : List Int) (w : World) (hr : Kd.C (Kd.int .u8) w A l.length l) (hc : l.length ≤ c) (hb : ∀ x ∈ l, 0 ≤ x ∧ x ≤ 255) (hl : l.length ≤ 140737488000000) :
    Calls Try.prog 44 #[.slice A l.length c] w fun e w' => ∃ v, e = .returned v ∧ OB w' w.heap.size v (frame l) ∧ Below w.heap.size w w' := by
  have HR := Aside0.mk hr
  have HBY := Aside0.mk hb
  have hs := sum_range l
  obtain ⟨hs0, hs1⟩ := hs
  clear hr hb
  go_enter Try.func44, Try.ntmps44
  go_wp2_with fail
  (with_reducible refine (four_calls _ _ (by omega) (by omega)).mono ?_)
  rintro e w1 ⟨v1, rfl, HO1, hb1⟩
  have HO := Aside0.mk HO1
  have HB := Aside0.mk hb1
  clear HO1 hb1
  go_wp2_with fail
  (with_reducible refine (refsum_calls _ _ _ _ (Kd.C_below HR.out HB.out) hc HBY.out).mono ?_)
  rintro e w2 ⟨rfl, hb2⟩
  have HO2 := Aside0.mk (Kd.R_below HO.out hb2)
  have HB2 := Aside0.mk (below_step HB.out hb2)
  clear HO HB hb2
  go_wp2_with fail
  (with_reducible refine (four_calls _ _ (by omega) (by omega)).mono ?_)
  rintro e w3 ⟨v3, rfl, HO3, hb3⟩
  have HO4 := Aside0.mk (Kd.R_below HO2.out hb3)
  have HB4 := Aside0.mk (below_step HB2.out hb3)
  obtain ⟨A3, c3, rfl, hl3, HC3⟩ := OB_readn HO3 4 (le4_len _)
  have HC := Aside0.mk HC3
  clear HO2 HB2 hb3 HO3 HC3 hl3
  go_wp2_with (first
    | ((with_reducible refine gate_dst (N := 11) rfl ?_); refine app_bytes rfl rfl rfl rfl HO4.out HC.out HB4.out.size (by rw [le4_len]; omega) ?_; intro v4 w4 HO5 hb5 _ _; have HO6 := Aside0.mk HO5; have HB6 := Aside0.mk (HB4.out.trans hb5); clear HO4 HB4 HO5 hb5 HC)
    | ((with_reducible refine gate_dst (N := 14) rfl ?_); refine app_bytes rfl rfl rfl rfl HO6.out (Kd.C_below HR.out HB6.out) HB6.out.size (by rw [List.length_append, le4_len, le4_len]; omega) ?_; intro v5 w5 HO7 hb7 _ _))
  go_ret
  exact ⟨_, rfl, HO7, HB6.out.trans hb7⟩
theorem frame_len (l : List Int) : (frame l).length = l.length + 8 := by
  unfold frame
  rw [List.length_append, List.length_append, le4_len, le4_len]
  omega
set_option maxHeartbeats 800000 in
theorem frame_calls (A : Option Addr) (c : Nat) (ll : List (List Int)) (w : World) (hr : Kd.C (Kd.slice 5 U8) w A ll.length ll) (hc : ll.length ≤ c) (hl : (ll.flatMap frame).length ≤ 140737488000000) :
    Calls Try.prog 33 #[.slice A ll.length c] w fun e w' => ∃ v, e = .returned v ∧ OB w' w.heap.size v (ll.flatMap frame) ∧ Below w.heap.size w w' := by
  have HR := Aside0.mk hr
  have hm : ll.length ≤ 9223372036854775807 := hr.2.1
  have HL := Aside0.mk hl
  clear hr hl
  go_enter Try.func33, Try.ntmps33
  go_wp2
  go_loopw [3, 8] (fun v3 v8 w' => ∃ k : Nat, k ≤ ll.length ∧ v8 = .int .i64 k ∧ Aside0 (OB w' w.heap.size v3 ((ll.take k).flatMap frame)) ∧ Aside0 (Below w.heap.size w w')) (fun _ v8 _ => ll.length - (intOf v8).toNat)
  case atStart => exact ⟨0, Nat.zero_le _, rfl, ⟨OB_nil _ _⟩, ⟨Below.refl _ _⟩⟩
  case round =>
    obtain ⟨k, hk, rfl, HO, HB⟩ := hrel
    by_cases hlt : k < ll.length
    · obtain ⟨ad, A1, c1, rfl, hcell0, hc1, hC⟩ := C_atS HR.out k hlt
      have hcell := pw_cell_below HB.out hcell0
      have hfl := flat_take frame ll [] k hlt
      have hle := flat_le frame ll (k + 1)
      rw [hfl, List.length_append, frame_len] at hle
      have hL := HL.out
      generalize hx : ll.getD k [] = x at *
      generalize hp : (ll.take k).flatMap frame = pre at *
      have HX := Aside0.mk hfl
      have HP := Aside0.mk hp
      have HC := Aside0.mk hC
      have hxl : x.length ≤ 140737488000000 := by omega
      have hpl : pre.length + 8 + x.length ≤ 140737488000000 := by omega
      obtain ⟨hs0, hs1⟩ := sum_range x
      clear hx hp hfl hC hle hL hcell0
      go_wp2_with fail
      (with_reducible refine (put_calls _ _ _ _ w.heap.size HB.out.size HO.out (by omega) (by omega) (by omega)).mono ?_)
      rintro e w1 ⟨v1, rfl, HO1, hb1⟩
      have HO2 := Aside0.mk HO1
      have HB2 := Aside0.mk (HB.out.trans hb1)
      clear HO HB HO1 hb1 hcell
      go_wp2_with fail
      (with_reducible refine (sum_calls _ _ _ _ (Kd.C_below HC.out HB2.out) hc1).mono ?_)
      rintro e w2 ⟨rfl, rfl⟩
      go_wp2_with fail
      (with_reducible refine (put_calls _ _ _ _ w.heap.size HB2.out.size HO2.out (by omega) (by omega) (by rw [List.length_append, le4_len]; omega)).mono ?_)
      rintro e w3 ⟨v3, rfl, HO3, hb3⟩
      have HO4 := Aside0.mk HO3
      have HB4 := Aside0.mk (HB2.out.trans hb3)
      clear HO2 HB2 HO3 hb3
      go_wp2_with ((with_reducible refine gate_dst (N := 20) rfl ?_); refine app_bytes rfl rfl rfl rfl HO4.out (Kd.C_below HC.out HB4.out) HB4.out.size (by rw [List.length_append, List.length_append, le4_len, le4_len]; omega) ?_; intro v5 w5 HO7 hb7 _ _)
      go_roundw
      case rel =>
        refine ⟨k + 1, by omega, by go_num, ⟨?_⟩, ⟨HB4.out.trans hb7⟩⟩
        rw [HX.out]
        have e : pre ++ frame x = pre ++ le4 x.length ++ le4 (sum x) ++ x := by unfold frame; simp only [List.append_assoc]
        rw [e]
        exact HO7
      case measure => simp [intOf]; omega
    · obtain rfl : k = ll.length := by omega
      go_wp2
      go_ret
      refine ⟨_, rfl, ?_, HB.out⟩
      have := HO.out
      rwa [List.take_length] at this
end Go.Proofs.Ytmfnbkghfmeekaa.A.F
