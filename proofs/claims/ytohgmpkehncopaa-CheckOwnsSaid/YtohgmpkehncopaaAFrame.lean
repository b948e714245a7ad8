/- Frames: the program's and the document's, as bytes. -/
import Derived.Test.YtohgmpkehncopaaARefSum
import Derived.Test.YtohgmpkehncopaaABytes
namespace Go.Proofs.Ytohgmpkehncopaa.A
open Go.RowKit Go.Proofs.YtohgmpkehncopaaW.PrintWords Go.Proofs.YtohgmpkehncopaaW.PrintLast Go.Proofs.YtohgmpkehncopaaW.PrintMore
set_option linter.unusedVariables false
set_option linter.unusedSimpArgs false

/-- 4 bytes of a number, the lowest first. -/
def le4 (n : Int) : List Int := [n % 256, n / 256 % 256, n / 65536 % 256, n / 16777216 % 256]
def frame (l : List Int) : List Int := le4 l.length ++ le4 (sum l) ++ l

set_option maxHeartbeats 400000 in
theorem four_calls (n : Int) (w : World) (h0 : 0 ≤ n) (h1 : n ≤ 9223372036854775807) :
    Calls Try.prog 23 #[.int .i64 n] w fun e w' => ∃ v, e = .returned v ∧ OB w' w.heap.size v (le4 n) ∧ Below w.heap.size w w' := by
  go_enter Try.func23, Try.ntmps23
  go_wp2
  go_ret
  exact ⟨_, rfl, OB_lit (le4 n) (Nat.le_refl _) (by simp [le4]), below_alloc (Below.refl _ _) _⟩
set_option maxHeartbeats 400000 in
theorem put_calls (n : Int) (v : Value) (l : List Int) (w : World) (B : Nat) (hB : B ≤ w.heap.size) (HO : OB w B v l) (h0 : 0 ≤ n) (h1 : n ≤ 9223372036854775807) (hl : l.length ≤ 140737488000000) :
    Calls Try.prog 22 #[v, .int .i64 n] w fun e w' => ∃ v1, e = .returned v1 ∧ OB w' B v1 (l ++ le4 n) ∧ Below B w w' := by
  have HO0 := Aside0.mk HO
  obtain ⟨A, c, rfl, _⟩ := OB_read HO
  clear HO
  go_enter Try.func22, Try.ntmps22
  go_wp2_with ((with_reducible refine gate_dst (N := 18) rfl ?_); refine app_bytes rfl rfl rfl rfl (Kd.R_alloc HO0.out _) (lit_C (le4 n) (by simp [le4])) (by simp; omega) (show l.length + 4 ≤ 140737488355328 by omega) ?_; intro v1 w1 HO1 hb1 _ _)
  go_ret
  exact ⟨_, rfl, HO1, (Below.refl _ _).alloc hB _ |>.trans hb1⟩

theorem le4_len (n : Int) : (le4 n).length = 4 := rfl
theorem le4_range (n : Int) : ∀ x ∈ le4 n, 0 ≤ x ∧ x ≤ 255 := by
  intro x hx
  simp only [le4, List.mem_cons, List.not_mem_nil, or_false] at hx
  rcases hx with rfl | rfl | rfl | rfl <;> omega

theorem sum_range (l : List Int) : 0 ≤ sum l ∧ sum l < 4294967296 := by
  unfold sum
  have := (~~~ crc l).isLt
  omega
set_option maxHeartbeats 400000 in
theorem refframe_calls (A : Option Addr) (c : Nat) (l : List Int) (w : World) (hr : Kd.C (Kd.int .u8) w A l.length l) (hc : l.length ≤ c) (hb : ∀ x ∈ l, 0 ≤ x ∧ x ≤ 255) (hl : l.length ≤ 140737488000000) :
    Calls Try.prog 14 #[.slice A l.length c] w fun e w' => ∃ v, e = .returned v ∧ OB w' w.heap.size v (frame l) ∧ Below w.heap.size w w' := by
  have HR := Aside0.mk hr
  have HBY := Aside0.mk hb
  have hs := sum_range l
  obtain ⟨hs0, hs1⟩ := hs
  clear hr hb
  go_enter Try.func14, Try.ntmps14
  go_wp2_with fail
  (with_reducible refine (four_calls _ _ (by omega) (by omega)).mono ?_)
  rintro e w1 ⟨v1, rfl, HO1, hb1⟩
  have HO := Aside0.mk HO1
  have HB := Aside0.mk hb1
  clear HO1 hb1
  go_wp2_with fail
  (with_reducible refine (refsum_calls _ _ _ _ (Kd.C_below HR.out HB.out) hc HBY.out).mono ?_)
  rintro e w2 ⟨rfl, hb2⟩
  have HO2 := Aside0.mk (Kd.R_below HO.out hb2)
  have HB2 := Aside0.mk (below_step HB.out hb2)
  clear HO HB hb2
  go_wp2_with fail
  (with_reducible refine (four_calls _ _ (by omega) (by omega)).mono ?_)
  rintro e w3 ⟨v3, rfl, HO3, hb3⟩
  have HO4 := Aside0.mk (Kd.R_below HO2.out hb3)
  have HB4 := Aside0.mk (below_step HB2.out hb3)
  obtain ⟨A3, c3, rfl, hl3, HC3⟩ := OB_readn HO3 4 (le4_len _)
  have HC := Aside0.mk HC3
  clear HO2 HB2 hb3 HO3 HC3 hl3
  go_wp2_with (first
    | ((with_reducible refine gate_dst (N := 11) rfl ?_); refine app_bytes rfl rfl rfl rfl HO4.out HC.out HB4.out.size (by rw [le4_len]; omega) ?_; intro v4 w4 HO5 hb5 _ _; have HO6 := Aside0.mk HO5; have HB6 := Aside0.mk (HB4.out.trans hb5); clear HO4 HB4 HO5 hb5 HC)
    | ((with_reducible refine gate_dst (N := 14) rfl ?_); refine app_bytes rfl rfl rfl rfl HO6.out (Kd.C_below HR.out HB6.out) HB6.out.size (by rw [List.length_append, le4_len, le4_len]; omega) ?_; intro v5 w5 HO7 hb7 _ _))
  go_ret
  exact ⟨_, rfl, HO7, HB6.out.trans hb7⟩

theorem frame_len (l : List Int) : (frame l).length = l.length + 8 := by
  unfold frame
  rw [List.length_append, List.length_append, le4_len, le4_len]
  omega
set_option maxHeartbeats 800000 in
theorem frame_calls (A : Option Addr) (c : Nat) (ll : List (List Int)) (w : World) (hr : Kd.C (Kd.slice 5 U8) w A ll.length ll) (hc : ll.length ≤ c) (hl : (ll.flatMap frame).length ≤ 140737488000000) :
    Calls Try.prog 13 #[.slice A ll.length c] w fun e w' => ∃ v, e = .returned v ∧ OB w' w.heap.size v (ll.flatMap frame) ∧ Below w.heap.size w w' := by
  have HR := Aside0.mk hr
  have hm : ll.length ≤ 9223372036854775807 := hr.2.1
  have HL := Aside0.mk hl
  clear hr hl
  go_enter Try.func13, Try.ntmps13
  go_wp2
  go_loopw [3, 8] (fun v3 v8 w' => ∃ k : Nat, k ≤ ll.length ∧ v8 = .int .i64 k ∧ Aside0 (OB w' w.heap.size v3 ((ll.take k).flatMap frame)) ∧ Aside0 (Below w.heap.size w w')) (fun _ v8 _ => ll.length - (intOf v8).toNat)
  case atStart => exact ⟨0, Nat.zero_le _, rfl, ⟨OB_nil _ _⟩, ⟨Below.refl _ _⟩⟩
  case round =>
    obtain ⟨k, hk, rfl, HO, HB⟩ := hrel
    by_cases hlt : k < ll.length
    · obtain ⟨ad, A1, c1, rfl, hcell0, hc1, hC⟩ := C_atS HR.out k hlt
      have hcell := pw_cell_below HB.out hcell0
      have hfl := flat_take frame ll [] k hlt
      have hle := flat_le frame ll (k + 1)
      rw [hfl, List.length_append, frame_len] at hle
      have hL := HL.out
      generalize hx : ll.getD k [] = x at *
      generalize hp : (ll.take k).flatMap frame = pre at *
      have HX := Aside0.mk hfl
      have HP := Aside0.mk hp
      have HC := Aside0.mk hC
      have hxl : x.length ≤ 140737488000000 := by omega
      have hpl : pre.length + 8 + x.length ≤ 140737488000000 := by omega
      obtain ⟨hs0, hs1⟩ := sum_range x
      clear hx hp hfl hC hle hL hcell0
      go_wp2_with fail
      (with_reducible refine (put_calls _ _ _ _ w.heap.size HB.out.size HO.out (by omega) (by omega) (by omega)).mono ?_)
      rintro e w1 ⟨v1, rfl, HO1, hb1⟩
      have HO2 := Aside0.mk HO1
      have HB2 := Aside0.mk (HB.out.trans hb1)
      clear HO HB HO1 hb1 hcell
      go_wp2_with fail
      (with_reducible refine (sum_calls _ _ _ _ (Kd.C_below HC.out HB2.out) hc1).mono ?_)
      rintro e w2 ⟨rfl, rfl⟩
      go_wp2_with fail
      (with_reducible refine (put_calls _ _ _ _ w.heap.size HB2.out.size HO2.out (by omega) (by omega) (by rw [List.length_append, le4_len]; omega)).mono ?_)
      rintro e w3 ⟨v3, rfl, HO3, hb3⟩
      have HO4 := Aside0.mk HO3
      have HB4 := Aside0.mk (HB2.out.trans hb3)
      clear HO2 HB2 HO3 hb3
      go_wp2_with ((with_reducible refine gate_dst (N := 20) rfl ?_); refine app_bytes rfl rfl rfl rfl HO4.out (Kd.C_below HC.out HB4.out) HB4.out.size (by rw [List.length_append, List.length_append, le4_len, le4_len]; omega) ?_; intro v5 w5 HO7 hb7 _ _)
      go_roundw
      case rel =>
        refine ⟨k + 1, by omega, by go_num, ⟨?_⟩, ⟨HB4.out.trans hb7⟩⟩
        rw [HX.out]
        have e : pre ++ frame x = pre ++ le4 x.length ++ le4 (sum x) ++ x := by unfold frame; simp only [List.append_assoc]
        rw [e]
        exact HO7
      case measure => simp [intOf]; omega
    · obtain rfl : k = ll.length := by omega
      go_wp2
      go_ret
      refine ⟨_, rfl, ?_, HB.out⟩
      have := HO.out
      rwa [List.take_length] at this

end Go.Proofs.Ytohgmpkehncopaa.A
