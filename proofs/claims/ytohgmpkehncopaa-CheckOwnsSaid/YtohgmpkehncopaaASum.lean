/- check.Sum and the document's Sum both come to one plain check sum over 32 bits. -/
import Derived.Test.YtohgmpkehncopaaABase
namespace Go.Proofs.Ytohgmpkehncopaa.A
open Go.RowKit Go.Proofs.YtohgmpkehncopaaW.PrintWords Go.Proofs.YtohgmpkehncopaaW.PrintLast Go.Proofs.YtohgmpkehncopaaW.PrintMore
set_option linter.unusedVariables false
set_option linter.unusedSimpArgs false

def stepB (s : BitVec 32) : BitVec 32 := (s >>> 1) ^^^ (3988292384#32 &&& -(s &&& 1#32))
def stepN : Nat → BitVec 32 → BitVec 32
  | 0, s => s
  | n + 1, s => stepN n (stepB s)
def upd (s : BitVec 32) (c : Int) : BitVec 32 := stepN 8 (s ^^^ BitVec.ofInt 32 c)
def crc (l : List Int) : BitVec 32 := l.foldl upd 4294967295#32
def sum (l : List Int) : Int := ((~~~ crc l).toNat : Int)

theorem stepN_succ (n : Nat) (s : BitVec 32) : stepN (n + 1) s = stepB (stepN n s) := by
  induction n generalizing s with
  | zero => rfl
  | succ n ih => rw [stepN, ih, stepN]
def crcTo (l : List Int) (k : Nat) : BitVec 32 := crc (l.take k)

theorem crcTo_succ (l : List Int) (k : Nat) (h : k < l.length) : crcTo l (k + 1) = upd (crcTo l k) (l.getD k 0) := by
  unfold crcTo crc
  rw [List.take_succ_eq_append_getElem h, List.foldl_append]
  simp [List.getD_eq_getElem?_getD, h]
theorem ofInt_toNat (a : BitVec 32) : BitVec.ofInt 32 (a.toNat : Int) = a := by simp
theorem ofInt_mod (x : Int) : BitVec.ofInt 32 (x % 4294967296) = BitVec.ofInt 32 x := by
  apply BitVec.eq_of_toNat_eq
  simp [BitVec.toNat_ofInt]
theorem wrap_bv (a : BitVec 32) : IntKind.u32.wrap (a.toNat : Int) = a.toNat := by
  rw [IntKind.wrap_u32]
  have := a.isLt
  omega
theorem bits_xor (x y : Int) : bits .xor .u32 x y = ((BitVec.ofInt 32 x ^^^ BitVec.ofInt 32 y).toNat : Int) := wrap_bv _
theorem bits_and (x y : Int) : bits .and .u32 x y = ((BitVec.ofInt 32 x &&& BitVec.ofInt 32 y).toNat : Int) := wrap_bv _
theorem ofInt_neg (x : Int) : BitVec.ofInt 32 (-x) = - BitVec.ofInt 32 x := BitVec.ofInt_neg
theorem shr_bv (a : BitVec 32) : (a.toNat : Int) / (2 : Int) = ((a >>> 1).toNat : Int) := by
  simp [BitVec.toNat_ushiftRight, Nat.shiftRight_eq_div_pow]

theorem step_eq (s : BitVec 32) : bits .xor .u32 ((s.toNat : Int) / (2 : Int)) (bits .and .u32 3988292384 (-bits .and .u32 (s.toNat : Int) 1 % 4294967296)) = ((stepB s).toNat : Int) := by
  rw [shr_bv, bits_xor, bits_and, bits_and, ofInt_mod, ofInt_neg]
  simp only [ofInt_toNat]
  rfl
theorem sum_end (l : List Int) : wrap64 (bits .xor .u32 IntKind.u32.max ((crcTo l l.length).toNat : Int)) = sum l := by
  have e : crcTo l l.length = crc l := by unfold crcTo; rw [List.take_length]
  rw [e, bits_xor, ofInt_toNat, show BitVec.ofInt 32 IntKind.u32.max = BitVec.allOnes 32 from by decide, BitVec.allOnes_xor]
  unfold sum wrap64
  have := (~~~ crc l).isLt
  omega

set_option maxHeartbeats 400000 in
theorem sum_calls (A : Option Addr) (c : Nat) (l : List Int) (w : World) (hr : Kd.C (Kd.int .u8) w A l.length l) (hc : l.length ≤ c) :
    Calls Try.prog 11 #[.slice A l.length c] w fun e w' => e = .returned (.int .i64 (sum l)) ∧ w = w' := by
  have HR := Aside0.mk hr
  have hm : l.length ≤ 9223372036854775807 := hr.2.1
  clear hr
  go_enter Try.func11, Try.ntmps11
  go_wp2
  go_loop [3, 8] (fun s i => ∃ k : Nat, k ≤ l.length ∧ i = .int .i64 k ∧ s = .int .u32 ((crcTo l k).toNat : Int)) (fun _ i => l.length - (intOf i).toNat)
  case atStart => exact ⟨0, Nat.zero_le _, rfl, rfl⟩
  case round =>
    obtain ⟨k, hk, rfl, rfl⟩ := hrel
    by_cases hlt : k < l.length
    · obtain ⟨ad, rfl, hcell⟩ := C_at HR.out k hlt
      generalize hx : l.getD k 0 = x at hcell
      have HX := Aside0.mk hx
      clear hx
      go_wp2
      go_loop [3, 16] (fun s i => ∃ j : Nat, j ≤ 8 ∧ i = .int .i64 j ∧ s = .int .u32 ((stepN j (crcTo l k ^^^ BitVec.ofInt 32 x)).toNat : Int)) (fun _ i => 8 - (intOf i).toNat)
      case atStart => exact ⟨0, Nat.zero_le _, rfl, by rw [bits_xor, ofInt_mod, ofInt_toNat]; rfl⟩
      case round =>
        obtain ⟨j, hj, rfl, rfl⟩ := hrel
        by_cases hjt : j < 8
        · go_wp2
          go_round
          case rel => exact ⟨j + 1, by omega, by go_num, by rw [stepN_succ]; exact congrArg _ (step_eq _)⟩
          case measure => simp [intOf]; omega
        · obtain rfl : j = 8 := by omega
          go_wp2
          go_round
          case rel => exact ⟨k + 1, by omega, by go_num, by rw [crcTo_succ l k hlt, HX.out]; rfl⟩
          case measure => simp [intOf]; omega
    · obtain rfl : k = l.length := by omega
      go_wp2
      go_ret
      exact ⟨congrArg (fun z => Ending.returned (Value.int .i64 z)) (sum_end l), rfl⟩
end Go.Proofs.Ytohgmpkehncopaa.A
