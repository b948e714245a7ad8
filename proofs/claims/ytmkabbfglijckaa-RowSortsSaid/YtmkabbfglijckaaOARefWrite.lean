/- A tuple's bytes: the document's. -/
import Derived.Test.YtmkabbfglijckaaOARead
namespace Go.Proofs.Ytmkabbfglijckaa.A.O
open Go.RowKit Go.Proofs.YtmkabbfglijckaaW.PrintWords Go.Proofs.YtmkabbfglijckaaW.PrintLast Go.Proofs.YtmkabbfglijckaaW.PrintMore
set_option linter.unusedVariables false
set_option linter.unusedSimpArgs false

set_option maxRecDepth 100000 in
set_option maxHeartbeats 2000000 in
theorem reftext_calls (s : ByteArray) (w : World) (hs : s.size ≤ 1000000) :
    Calls Try.prog 55 #[.string s] w fun e w' => ∃ v, e = .returned v ∧ OB w' w.heap.size v (wtext s) ∧ Below w.heap.size w w' := by
  go_enter Try.func55, Try.ntmps55
  go_wp2
  go_loopw [3, 4] (fun v3 v4 w' => ∃ j : Nat, j ≤ s.size ∧ v4 = .int .i64 j ∧ Aside0 (OB w' w.heap.size v3 (((bytesOf s).take j).flatMap wtextB)) ∧ Aside0 (Below w.heap.size w w')) (fun _ v4 _ => s.size - (intOf v4).toNat)
  case atStart => exact ⟨0, Nat.zero_le _, rfl, ⟨Kd.R_nil _ _ _ _ _⟩, ⟨Below.refl _ _⟩⟩
  case round =>
    obtain ⟨j, hj, rfl, HO, HB⟩ := hrel
    have hfl := flat_text_len ((bytesOf s).take j)
    rw [List.length_take, bytesOf_length] at hfl
    by_cases hlj : j < s.size
    · have i1 : (0 : Int) ≤ (j : Int) := by omega
      have i2 : (j : Int) < (s.size : Int) := by omega
      have hfb := flat_take wtextB (bytesOf s) 0 j (by rw [bytesOf_length]; exact hlj)
      rw [bytesOf_at s j hlj] at hfb
      have hb255 : s[j].toNat < 256 := UInt8.toNat_lt _
      generalize ((bytesOf s).take j).flatMap wtextB = mid at *
      have hml : mid.length ≤ 2000001 := by omega
      have hml2 : (mid ++ [0]).length ≤ 2000002 := by rw [List.length_append, List.length_singleton]; omega
      have HFB := Aside0.mk hfb
      clear hfb hfl
      by_cases hz : s[j].toNat = 0
      · go_wp2_with (first
          | ((with_reducible refine gate_dst (N := 16) rfl ?_); refine app_byte rfl rfl rfl rfl HO.out HB.out.size (by omega) ?_; intro v4 w4 HO4 hb4 hg4; have HP4 := Aside0.mk HO4; have HB4 := Aside0.mk (HB.out.trans hb4); clear hb4 hg4 HO4 HO HB)
          | ((with_reducible refine gate_dst (N := 23) rfl ?_); refine app_byte rfl rfl rfl rfl HP4.out HB4.out.size (by omega) ?_; intro v5 w5 HO5 hb5 hg5))
        go_roundw
        case rel =>
          refine ⟨j + 1, hlj, rfl, ⟨?_⟩, ⟨HB4.out.trans hb5⟩⟩
          rw [HFB.out, hz]
          simpa [wtextB] using HO5
        case measure => simp [intOf]; omega
      · have hz2 : ¬ (s[j].toNat : Int) = 0 := by omega
        go_wp2_with ((with_reducible refine gate_dst (N := 16) rfl ?_); refine app_byte rfl rfl rfl rfl HO.out HB.out.size (by omega) ?_; intro v4 w4 HO4 hb4 hg4)
        go_roundw
        case rel =>
          refine ⟨j + 1, hlj, rfl, ⟨?_⟩, ⟨HB.out.trans hb4⟩⟩
          rw [HFB.out, show wtextB (s[j].toNat : Int) = [(s[j].toNat : Int)] by unfold wtextB; rw [if_neg hz2]]
          exact HO4
        case measure => simp [intOf]; omega
    · obtain rfl : j = s.size := by omega
      have HO2 := HO.out
      rw [List.take_of_length_le (by rw [bytesOf_length]; exact Nat.le_refl _)] at HO2 hfl
      have HP2 := Aside0.mk HO2
      clear HO HO2
      have hml : ((bytesOf s).flatMap wtextB).length ≤ 2000001 := by
        have := flat_text_len (bytesOf s)
        rw [bytesOf_length] at this
        omega
      go_wp2_with ((with_reducible refine gate_dst (N := 26) rfl ?_); refine app_bytes rfl rfl rfl rfl (Kd.R_alloc HP2.out _) (lit_C [0, 1] (by simp)) (below_alloc HB.out _).size (by omega) ?_; intro v4 w4 HO4 hb4 hg4 _)
      go_ret
      exact ⟨_, rfl, HO4, (below_alloc HB.out _).trans hb4⟩

theorem num8_top (m : Int) (h0 : 0 ≤ m) (h1 : m ≤ 9223372036854775807) : (num8 m).set 0 (m / 72057594037927936 % 256 + 128) = num8 (m + 9223372036854775808) := by
  have e0 : (m + 9223372036854775808) / 72057594037927936 % 256 = m / 72057594037927936 % 256 + 128 := by omega
  have e1 : (m + 9223372036854775808) / 281474976710656 % 256 = m / 281474976710656 % 256 := by omega
  have e2 : (m + 9223372036854775808) / 1099511627776 % 256 = m / 1099511627776 % 256 := by omega
  have e3 : (m + 9223372036854775808) / 4294967296 % 256 = m / 4294967296 % 256 := by omega
  have e4 : (m + 9223372036854775808) / 16777216 % 256 = m / 16777216 % 256 := by omega
  have e5 : (m + 9223372036854775808) / 65536 % 256 = m / 65536 % 256 := by omega
  have e6 : (m + 9223372036854775808) / 256 % 256 = m / 256 % 256 := by omega
  have e7 : (m + 9223372036854775808) % 256 = m % 256 := by omega
  unfold num8
  rw [e0, e1, e2, e3, e4, e5, e6, e7]
  rfl
def numSt (m : Int) : Nat → Int × List Int
  | 0 => (m, [0, 0, 0, 0, 0, 0, 0, 0])
  | 1 => (m / 256, [0, 0, 0, 0, 0, 0, 0, m % 256])
  | 2 => (m / 65536, [0, 0, 0, 0, 0, 0, m / 256 % 256, m % 256])
  | 3 => (m / 16777216, [0, 0, 0, 0, 0, m / 65536 % 256, m / 256 % 256, m % 256])
  | 4 => (m / 4294967296, [0, 0, 0, 0, m / 16777216 % 256, m / 65536 % 256, m / 256 % 256, m % 256])
  | 5 => (m / 1099511627776, [0, 0, 0, m / 4294967296 % 256, m / 16777216 % 256, m / 65536 % 256, m / 256 % 256, m % 256])
  | 6 => (m / 281474976710656, [0, 0, m / 1099511627776 % 256, m / 4294967296 % 256, m / 16777216 % 256, m / 65536 % 256, m / 256 % 256, m % 256])
  | 7 => (m / 72057594037927936, [0, m / 281474976710656 % 256, m / 1099511627776 % 256, m / 4294967296 % 256, m / 16777216 % 256, m / 65536 % 256, m / 256 % 256, m % 256])
  | _ => (m / 18446744073709551616, [m / 72057594037927936 % 256, m / 281474976710656 % 256, m / 1099511627776 % 256, m / 4294967296 % 256, m / 16777216 % 256, m / 65536 % 256, m / 256 % 256, m % 256])
set_option maxRecDepth 100000 in
set_option maxHeartbeats 2000000 in
theorem refnumber_calls (n : Int) (w : World) (h0 : -9223372036854775808 ≤ n) (h1 : n ≤ 9223372036854775807) :
    Calls Try.prog 56 #[.int .i64 n] w fun e w' => ∃ v, e = .returned v ∧ OB w' w.heap.size v (num8 (n + 9223372036854775808)) ∧ Below w.heap.size w w' := by
  go_enter Try.func56, Try.ntmps56
  obtain ⟨m, hm⟩ : ∃ m, (if n < 0 then n + 9223372036854775808 else n) = m := ⟨_, rfl⟩
  have hm0 : 0 ≤ m := by rw [← hm]; split <;> omega
  have hm1 : m ≤ 9223372036854775807 := by rw [← hm]; split <;> omega
  by_cases sn : n < 0 <;> (first | rw [if_pos sn] at hm | rw [if_neg sn] at hm)
  all_goals
    go_wp2_with ((with_reducible refine gate_dst (N := 6) rfl ?_); refine Kd.R_make (Kd.int .u8) _ 5 rfl (N := 6) rfl 29 _ _ rfl 8 rfl rfl Try.underlying29 (.int .u8 0) 1 infoU8 rfl (by decide) (by omega) 0 (ok := fun _ => True) (okp := fun _ => True) rfl (fun _ hk => hk) trivial (by omega) (by omega) (Below.refl _ _) (Nat.le_refl _) ?_; intro v w1 HO hb _ _)
    obtain ⟨g, cap, rfl, hg, _⟩ := Kd.R_form HO (by simp)
    have HO0 := Aside0.mk HO
    have HB0 := Aside0.mk hb
    clear HO hb
    simp only [List.length_replicate, Int.reduceToNat] at *
    go_loopw [0, 5] (fun v0 v5 w' => ∃ (j : Nat) (i x : Int), j ≤ 8 ∧ i = 7 - (j : Int) ∧ v5 = .int .i64 i ∧ v0 = .int .i64 x ∧ x = (numSt m j).1 ∧ Aside0 (OB w' w.heap.size (.slice (some ⟨g, 0, none⟩) 8 cap) (numSt m j).2) ∧ Aside0 (Below w.heap.size w w')) (fun _ v5 _ => (intOf v5 + 1).toNat)
    case atStart => exact ⟨0, 7, _, by omega, by omega, rfl, rfl, by show _ = m; omega, HO0, HB0⟩
    case round =>
      clear HO0 HB0
      obtain ⟨j, i, x, hj, hi, rfl, rfl, hv, HO, HB⟩ := hrel
      rcases (by omega : j = 0 ∨ j = 1 ∨ j = 2 ∨ j = 3 ∨ j = 4 ∨ j = 5 ∨ j = 6 ∨ j = 7 ∨ j = 8) with rfl | rfl | rfl | rfl | rfl | rfl | rfl | rfl | rfl
      · obtain rfl : i = 7 := hi
        have hx : x = m := hv
        have HO2 : Aside0 (OB wr w.heap.size (.slice (some ⟨g, 0, none⟩) 8 cap) [0, 0, 0, 0, 0, 0, 0, 0]) := HO
        obtain ⟨hc, hf⟩ := R_cellN HO2.out 7 (by omega)
        have h2 := R_putN HO2.out 7 (x % 256)
        have HP2 := Aside0.mk h2
        have HX := Aside0.mk hx
        have hx0 : 0 ≤ x := by rw [hx]; omega
        have hx1 : x ≤ 9223372036854775807 := by rw [hx]; omega
        clear h2 hx hv HO HO2
        go_wp2_with fail
        go_roundw
        case rel =>
          refine ⟨1, 6, x / 256, by omega, by omega, rfl, rfl, ?_, ⟨?_⟩, ⟨HB.out.setCell (p := ⟨g, 7, none⟩) hg _⟩⟩
          · show x / 256 = m / 256
            have := HX.out
            omega
          · show OB _ w.heap.size (.slice (some ⟨g, 0, none⟩) 8 cap) [0, 0, 0, 0, 0, 0, 0, m % 256]
            rw [← (show ([0, 0, 0, 0, 0, 0, 0, 0] : List Int).set 7 (x % 256) = [0, 0, 0, 0, 0, 0, 0, m % 256] by rw [HX.out]; rfl)]
            exact HP2.out
        case measure => simp [intOf]
      · obtain rfl : i = 6 := hi
        have hx : x = m / 256 := hv
        have HO2 : Aside0 (OB wr w.heap.size (.slice (some ⟨g, 0, none⟩) 8 cap) [0, 0, 0, 0, 0, 0, 0, m % 256]) := HO
        obtain ⟨hc, hf⟩ := R_cellN HO2.out 6 (by omega)
        have h2 := R_putN HO2.out 6 (x % 256)
        have HP2 := Aside0.mk h2
        have HX := Aside0.mk hx
        have hx0 : 0 ≤ x := by rw [hx]; omega
        have hx1 : x ≤ 9223372036854775807 := by rw [hx]; omega
        clear h2 hx hv HO HO2
        go_wp2_with fail
        go_roundw
        case rel =>
          refine ⟨2, 5, x / 256, by omega, by omega, rfl, rfl, ?_, ⟨?_⟩, ⟨HB.out.setCell (p := ⟨g, 6, none⟩) hg _⟩⟩
          · show x / 256 = m / 65536
            have := HX.out
            omega
          · show OB _ w.heap.size (.slice (some ⟨g, 0, none⟩) 8 cap) [0, 0, 0, 0, 0, 0, m / 256 % 256, m % 256]
            rw [← (show ([0, 0, 0, 0, 0, 0, 0, m % 256] : List Int).set 6 (x % 256) = [0, 0, 0, 0, 0, 0, m / 256 % 256, m % 256] by rw [HX.out]; rfl)]
            exact HP2.out
        case measure => simp [intOf]
      · obtain rfl : i = 5 := hi
        have hx : x = m / 65536 := hv
        have HO2 : Aside0 (OB wr w.heap.size (.slice (some ⟨g, 0, none⟩) 8 cap) [0, 0, 0, 0, 0, 0, m / 256 % 256, m % 256]) := HO
        obtain ⟨hc, hf⟩ := R_cellN HO2.out 5 (by omega)
        have h2 := R_putN HO2.out 5 (x % 256)
        have HP2 := Aside0.mk h2
        have HX := Aside0.mk hx
        have hx0 : 0 ≤ x := by rw [hx]; omega
        have hx1 : x ≤ 9223372036854775807 := by rw [hx]; omega
        clear h2 hx hv HO HO2
        go_wp2_with fail
        go_roundw
        case rel =>
          refine ⟨3, 4, x / 256, by omega, by omega, rfl, rfl, ?_, ⟨?_⟩, ⟨HB.out.setCell (p := ⟨g, 5, none⟩) hg _⟩⟩
          · show x / 256 = m / 16777216
            have := HX.out
            omega
          · show OB _ w.heap.size (.slice (some ⟨g, 0, none⟩) 8 cap) [0, 0, 0, 0, 0, m / 65536 % 256, m / 256 % 256, m % 256]
            rw [← (show ([0, 0, 0, 0, 0, 0, m / 256 % 256, m % 256] : List Int).set 5 (x % 256) = [0, 0, 0, 0, 0, m / 65536 % 256, m / 256 % 256, m % 256] by rw [HX.out]; rfl)]
            exact HP2.out
        case measure => simp [intOf]
      · obtain rfl : i = 4 := hi
        have hx : x = m / 16777216 := hv
        have HO2 : Aside0 (OB wr w.heap.size (.slice (some ⟨g, 0, none⟩) 8 cap) [0, 0, 0, 0, 0, m / 65536 % 256, m / 256 % 256, m % 256]) := HO
        obtain ⟨hc, hf⟩ := R_cellN HO2.out 4 (by omega)
        have h2 := R_putN HO2.out 4 (x % 256)
        have HP2 := Aside0.mk h2
        have HX := Aside0.mk hx
        have hx0 : 0 ≤ x := by rw [hx]; omega
        have hx1 : x ≤ 9223372036854775807 := by rw [hx]; omega
        clear h2 hx hv HO HO2
        go_wp2_with fail
        go_roundw
        case rel =>
          refine ⟨4, 3, x / 256, by omega, by omega, rfl, rfl, ?_, ⟨?_⟩, ⟨HB.out.setCell (p := ⟨g, 4, none⟩) hg _⟩⟩
          · show x / 256 = m / 4294967296
            have := HX.out
            omega
          · show OB _ w.heap.size (.slice (some ⟨g, 0, none⟩) 8 cap) [0, 0, 0, 0, m / 16777216 % 256, m / 65536 % 256, m / 256 % 256, m % 256]
            rw [← (show ([0, 0, 0, 0, 0, m / 65536 % 256, m / 256 % 256, m % 256] : List Int).set 4 (x % 256) = [0, 0, 0, 0, m / 16777216 % 256, m / 65536 % 256, m / 256 % 256, m % 256] by rw [HX.out]; rfl)]
            exact HP2.out
        case measure => simp [intOf]
      · obtain rfl : i = 3 := hi
        have hx : x = m / 4294967296 := hv
        have HO2 : Aside0 (OB wr w.heap.size (.slice (some ⟨g, 0, none⟩) 8 cap) [0, 0, 0, 0, m / 16777216 % 256, m / 65536 % 256, m / 256 % 256, m % 256]) := HO
        obtain ⟨hc, hf⟩ := R_cellN HO2.out 3 (by omega)
        have h2 := R_putN HO2.out 3 (x % 256)
        have HP2 := Aside0.mk h2
        have HX := Aside0.mk hx
        have hx0 : 0 ≤ x := by rw [hx]; omega
        have hx1 : x ≤ 9223372036854775807 := by rw [hx]; omega
        clear h2 hx hv HO HO2
        go_wp2_with fail
        go_roundw
        case rel =>
          refine ⟨5, 2, x / 256, by omega, by omega, rfl, rfl, ?_, ⟨?_⟩, ⟨HB.out.setCell (p := ⟨g, 3, none⟩) hg _⟩⟩
          · show x / 256 = m / 1099511627776
            have := HX.out
            omega
          · show OB _ w.heap.size (.slice (some ⟨g, 0, none⟩) 8 cap) [0, 0, 0, m / 4294967296 % 256, m / 16777216 % 256, m / 65536 % 256, m / 256 % 256, m % 256]
            rw [← (show ([0, 0, 0, 0, m / 16777216 % 256, m / 65536 % 256, m / 256 % 256, m % 256] : List Int).set 3 (x % 256) = [0, 0, 0, m / 4294967296 % 256, m / 16777216 % 256, m / 65536 % 256, m / 256 % 256, m % 256] by rw [HX.out]; rfl)]
            exact HP2.out
        case measure => simp [intOf]
      · obtain rfl : i = 2 := hi
        have hx : x = m / 1099511627776 := hv
        have HO2 : Aside0 (OB wr w.heap.size (.slice (some ⟨g, 0, none⟩) 8 cap) [0, 0, 0, m / 4294967296 % 256, m / 16777216 % 256, m / 65536 % 256, m / 256 % 256, m % 256]) := HO
        obtain ⟨hc, hf⟩ := R_cellN HO2.out 2 (by omega)
        have h2 := R_putN HO2.out 2 (x % 256)
        have HP2 := Aside0.mk h2
        have HX := Aside0.mk hx
        have hx0 : 0 ≤ x := by rw [hx]; omega
        have hx1 : x ≤ 9223372036854775807 := by rw [hx]; omega
        clear h2 hx hv HO HO2
        go_wp2_with fail
        go_roundw
        case rel =>
          refine ⟨6, 1, x / 256, by omega, by omega, rfl, rfl, ?_, ⟨?_⟩, ⟨HB.out.setCell (p := ⟨g, 2, none⟩) hg _⟩⟩
          · show x / 256 = m / 281474976710656
            have := HX.out
            omega
          · show OB _ w.heap.size (.slice (some ⟨g, 0, none⟩) 8 cap) [0, 0, m / 1099511627776 % 256, m / 4294967296 % 256, m / 16777216 % 256, m / 65536 % 256, m / 256 % 256, m % 256]
            rw [← (show ([0, 0, 0, m / 4294967296 % 256, m / 16777216 % 256, m / 65536 % 256, m / 256 % 256, m % 256] : List Int).set 2 (x % 256) = [0, 0, m / 1099511627776 % 256, m / 4294967296 % 256, m / 16777216 % 256, m / 65536 % 256, m / 256 % 256, m % 256] by rw [HX.out]; rfl)]
            exact HP2.out
        case measure => simp [intOf]
      · obtain rfl : i = 1 := hi
        have hx : x = m / 281474976710656 := hv
        have HO2 : Aside0 (OB wr w.heap.size (.slice (some ⟨g, 0, none⟩) 8 cap) [0, 0, m / 1099511627776 % 256, m / 4294967296 % 256, m / 16777216 % 256, m / 65536 % 256, m / 256 % 256, m % 256]) := HO
        obtain ⟨hc, hf⟩ := R_cellN HO2.out 1 (by omega)
        have h2 := R_putN HO2.out 1 (x % 256)
        have HP2 := Aside0.mk h2
        have HX := Aside0.mk hx
        have hx0 : 0 ≤ x := by rw [hx]; omega
        have hx1 : x ≤ 9223372036854775807 := by rw [hx]; omega
        clear h2 hx hv HO HO2
        go_wp2_with fail
        go_roundw
        case rel =>
          refine ⟨7, 0, x / 256, by omega, by omega, rfl, rfl, ?_, ⟨?_⟩, ⟨HB.out.setCell (p := ⟨g, 1, none⟩) hg _⟩⟩
          · show x / 256 = m / 72057594037927936
            have := HX.out
            omega
          · show OB _ w.heap.size (.slice (some ⟨g, 0, none⟩) 8 cap) [0, m / 281474976710656 % 256, m / 1099511627776 % 256, m / 4294967296 % 256, m / 16777216 % 256, m / 65536 % 256, m / 256 % 256, m % 256]
            rw [← (show ([0, 0, m / 1099511627776 % 256, m / 4294967296 % 256, m / 16777216 % 256, m / 65536 % 256, m / 256 % 256, m % 256] : List Int).set 1 (x % 256) = [0, m / 281474976710656 % 256, m / 1099511627776 % 256, m / 4294967296 % 256, m / 16777216 % 256, m / 65536 % 256, m / 256 % 256, m % 256] by rw [HX.out]; rfl)]
            exact HP2.out
        case measure => simp [intOf]
      · obtain rfl : i = 0 := hi
        have hx : x = m / 72057594037927936 := hv
        have HO2 : Aside0 (OB wr w.heap.size (.slice (some ⟨g, 0, none⟩) 8 cap) [0, m / 281474976710656 % 256, m / 1099511627776 % 256, m / 4294967296 % 256, m / 16777216 % 256, m / 65536 % 256, m / 256 % 256, m % 256]) := HO
        obtain ⟨hc, hf⟩ := R_cellN HO2.out 0 (by omega)
        have h2 := R_putN HO2.out 0 (x % 256)
        have HP2 := Aside0.mk h2
        have HX := Aside0.mk hx
        have hx0 : 0 ≤ x := by rw [hx]; omega
        have hx1 : x ≤ 9223372036854775807 := by rw [hx]; omega
        clear h2 hx hv HO HO2
        go_wp2_with fail
        go_roundw
        case rel =>
          refine ⟨8, -1, x / 256, by omega, by omega, rfl, rfl, ?_, ⟨?_⟩, ⟨HB.out.setCell (p := ⟨g, 0, none⟩) hg _⟩⟩
          · show x / 256 = m / 18446744073709551616
            have := HX.out
            omega
          · show OB _ w.heap.size (.slice (some ⟨g, 0, none⟩) 8 cap) [m / 72057594037927936 % 256, m / 281474976710656 % 256, m / 1099511627776 % 256, m / 4294967296 % 256, m / 16777216 % 256, m / 65536 % 256, m / 256 % 256, m % 256]
            rw [← (show ([0, m / 281474976710656 % 256, m / 1099511627776 % 256, m / 4294967296 % 256, m / 16777216 % 256, m / 65536 % 256, m / 256 % 256, m % 256] : List Int).set 0 (x % 256) = [m / 72057594037927936 % 256, m / 281474976710656 % 256, m / 1099511627776 % 256, m / 4294967296 % 256, m / 16777216 % 256, m / 65536 % 256, m / 256 % 256, m % 256] by rw [HX.out]; rfl)]
            exact HP2.out
        case measure => simp [intOf]
      · obtain rfl : i = -1 := hi
        have HO2 : Aside0 (OB wr w.heap.size (.slice (some ⟨g, 0, none⟩) 8 cap) (num8 m)) := HO
        obtain ⟨hc, hf⟩ := R_cellN HO2.out 0 (by omega)
        have hc2 : wr.cell? ⟨g, 0, none⟩ = some (.int .u8 (m / 72057594037927936 % 256)) := hc
        have h2 := R_putN HO2.out 0 (m / 72057594037927936 % 256 + 128)
        have hlt : m / 72057594037927936 % 256 + 128 < 256 := by omega
        have hge : 0 ≤ m / 72057594037927936 % 256 := by omega
        have HP2 := Aside0.mk h2
        have HM := Aside0.mk hm
        clear h2 hc hv HO hm
        have hdm : decide (m < 0) = false := decide_eq_false (by omega)
        go_wp2_with fail
        go_ret
        first
          | (refine ⟨_, rfl, ?_, HB.out⟩; rw [HM.out]; exact HO2.out)
          | (refine ⟨_, rfl, ?_, HB.out.setCell (p := ⟨g, 0, none⟩) hg _⟩; rw [HM.out, ← (show (num8 m).set 0 (m / 72057594037927936 % 256 + 128) = num8 (m + 9223372036854775808) from num8_top m hm0 hm1)]; exact HP2.out)

theorem lit_C1 {W : World} (x : Int) : U8.C (W.alloc (.cells #[.int .u8 x] 5)) (some ⟨W.heap.size, 0, none⟩) 1 [x] := lit_C [x] (by simp)
set_option maxRecDepth 100000 in
set_option maxHeartbeats 2000000 in
theorem refwrite_calls (A : Option Addr) (n c : Nat) (l : List Pt) (w : World) (hr : KPt.C w A n l) (hc : n ≤ c) (hok : ∀ p ∈ l, p.ok) (hs : ∀ p ∈ l, p.s.size ≤ 100000) (hn : n ≤ 1000) :
    Calls Try.prog 45 #[.slice A n c] w fun e w' => ∃ v, e = .returned v ∧ OB w' w.heap.size v (writeL l) ∧ Below w.heap.size w w' := by
  have hnl : n = l.length := hr.1.symm
  have HN := Aside0.mk hnl
  have HR := Aside0.mk hr
  have HOK := Aside0.mk hok
  have HS := Aside0.mk hs
  clear hnl hr hok hs
  go_enter Try.func45, Try.ntmps45
  go_wp2
  go_loopw [3, 4] (fun v3 v4 w' => ∃ k : Nat, k ≤ n ∧ v4 = .int .i64 k ∧ Aside0 (OB w' w.heap.size v3 ((l.take k).flatMap wpart)) ∧ Aside0 (Below w.heap.size w w')) (fun _ v4 _ => n - (intOf v4).toNat)
  case atStart => exact ⟨0, Nat.zero_le _, rfl, ⟨Kd.R_nil _ _ _ _ _⟩, ⟨Below.refl _ _⟩⟩
  case round =>
    obtain ⟨k, hk, rfl, HO, HB⟩ := hrel
    by_cases hlt : k < n
    · obtain ⟨ad, rfl, p0', p1', p2'⟩ := C_atPt HR.out k hlt
      have hfl := flat_take wpart l default k (by rw [← HN.out]; exact hlt)
      have hpre := writeL_len (l.take k) 100000 (fun p hp => HS.out p (List.mem_of_mem_take hp))
      have hpo : (l.getD k default).ok ∧ (l.getD k default).s.size ≤ 100000 := by
        have e : l.getD k default = l[k]'(by rw [← HN.out]; exact hlt) := by simp [List.getD_eq_getElem?_getD, show k < l.length by rw [← HN.out]; exact hlt]
        rw [e]
        exact ⟨HOK.out _ (List.getElem_mem _), HS.out _ (List.getElem_mem _)⟩
      unfold writeL at hpre
      rw [List.length_take, ← HN.out] at hpre
      have hpl : ((l.take k).flatMap wpart).length ≤ 300000000 := by omega
      generalize l.getD k default = p at *
      generalize (l.take k).flatMap wpart = pre at *
      obtain ⟨pt, pn, ps⟩ := p
      obtain ⟨⟨⟨hn0, hn1⟩, _⟩, hps⟩ := hpo
      dsimp only at p0' p1' p2' hps hn0 hn1
      have hn0' : -9223372036854775808 ≤ pn := hn0
      have hn1' : pn ≤ 9223372036854775807 := hn1
      have HFL := Aside0.mk hfl
      have P1 := Aside0.mk p1'
      have P2 := Aside0.mk p2'
      have p0 := pw_cell_below HB.out p0'
      clear hfl hpre hn0 hn1 p0' p1' p2'
      cases pt with
      | true =>
        go_wp2_with ((with_reducible refine gate_dst (N := 18) rfl ?_); refine app_byte rfl rfl rfl rfl HO.out HB.out.size (by omega) ?_; intro v2 w2 HO2 hb2 hg2; have HP2 := Aside0.mk HO2; have HB2 := Aside0.mk (HB.out.trans hb2); have p2 := pw_cell_below HB2.out P2.out; clear hb2 hg2 HO2 p0 HO HB)
        (with_reducible refine (reftext_calls _ _ (by omega)).mono ?_)
        rintro e w3 ⟨v3, rfl, HO3, hb3⟩
        have htl : (wtext ps).length ≤ 1000000 := by
          have := flat_text_len (bytesOf ps)
          rw [bytesOf_length] at this
          simp only [wtext, List.length_append, List.length_cons, List.length_nil]
          omega
        obtain ⟨tx, htx⟩ : ∃ tx, wtext ps = tx := ⟨_, rfl⟩
        rw [htx] at HO3 htl
        obtain ⟨n3, hn3⟩ : ∃ n3, tx.length = n3 := ⟨_, rfl⟩
        obtain ⟨A3, c3, rfl, hc3, HC3⟩ := OB_readn HO3 n3 hn3
        rw [hn3] at htl
        have HTX := Aside0.mk htx
        have HP3 := Aside0.mk (Kd.R_below HP2.out hb3)
        have HB3 := Aside0.mk (below_step HB2.out hb3)
        have HC := Aside0.mk HC3
        have hml : (pre ++ [2]).length ≤ 300000001 := by rw [List.length_append, List.length_singleton]; omega
        clear HO3 HC3 hb3 HP2 HB2 hn3 htx p2
        go_wp2_with ((with_reducible refine gate_dst (N := 26) rfl ?_); refine app_bytes rfl rfl rfl rfl HP3.out HC.out HB3.out.size (by omega) ?_; intro v4 w4 HO4 hb4 _ _)
        go_roundw
        case rel =>
          refine ⟨k + 1, hlt, rfl, ⟨?_⟩, ⟨HB3.out.trans hb4⟩⟩
          rw [HFL.out]
          have e : pre ++ wpart ⟨true, pn, ps⟩ = pre ++ [2] ++ tx := by rw [← HTX.out]; simp [wpart]
          rw [e]
          exact HO4
        case measure => simp [intOf]; omega
      | false =>
        go_wp2_with ((with_reducible refine gate_dst (N := 29) rfl ?_); refine app_byte rfl rfl rfl rfl HO.out HB.out.size (by omega) ?_; intro v2 w2 HO2 hb2 hg2; have HP2 := Aside0.mk HO2; have HB2 := Aside0.mk (HB.out.trans hb2); have p1 := pw_cell_below HB2.out P1.out; clear hb2 hg2 HO2 p0 HO HB)
        (with_reducible refine (refnumber_calls _ _ hn0' hn1').mono ?_)
        rintro e w3 ⟨v3, rfl, HO3, hb3⟩
        obtain ⟨A3, c3, rfl, hc3, HC3⟩ := OB_readn HO3 8 (num8_len _)
        have HP3 := Aside0.mk (Kd.R_below HP2.out hb3)
        have HB3 := Aside0.mk (below_step HB2.out hb3)
        have HC := Aside0.mk HC3
        have hml : (pre ++ [1]).length ≤ 300000001 := by rw [List.length_append, List.length_singleton]; omega
        clear HO3 HC3 hb3 HP2 HB2 p1
        go_wp2_with ((with_reducible refine gate_dst (N := 37) rfl ?_); refine app_bytes rfl rfl rfl rfl HP3.out HC.out HB3.out.size (by omega) ?_; intro v4 w4 HO4 hb4 _ _)
        go_roundw
        case rel =>
          refine ⟨k + 1, hlt, rfl, ⟨?_⟩, ⟨HB3.out.trans hb4⟩⟩
          rw [HFL.out]
          have e : pre ++ wpart ⟨false, pn, ps⟩ = pre ++ [1] ++ num8 (pn + 9223372036854775808) := by simp [wpart]
          rw [e]
          exact HO4
        case measure => simp [intOf]; omega
    · obtain rfl : k = n := by omega
      go_wp2_with fail
      go_ret
      refine ⟨_, rfl, ?_, HB.out⟩
      have := HO.out
      rwa [List.take_of_length_le (by rw [← HN.out]; omega)] at this

end Go.Proofs.Ytmkabbfglijckaa.A.O
