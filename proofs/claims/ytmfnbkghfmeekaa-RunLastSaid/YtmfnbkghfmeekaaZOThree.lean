/- OThree -/
import Derived.Test.YtmfnbkghfmeekaaZOTwo
import Derived.Test.YtmfnbkghfmeekaaZOOne
import Derived.StillTailTactics
import Derived.BigQuiet
namespace Go.Proofs.Ytmfnbkghfmeekaa.A.O
open Go.RowKit Go.Proofs.YtmfnbkghfmeekaaW.PrintWords Go.Proofs.YtmfnbkghfmeekaaW.PrintLast Go.Proofs.YtmfnbkghfmeekaaW.PrintMore
set_option linter.unusedVariables false
set_option linter.unusedSimpArgs false
set_option maxRecDepth 100000 in
set_option maxHeartbeats 2000000 in
theorem reftext_calls (s : ByteArray) (w : World) (hs : s.size ≤ 1000000) :
    Calls Try.prog 89 #[.string s] w fun e w' => ∃ v, e = .returned v ∧ OB w' w.heap.size v (wtext s) ∧ Below w.heap.size w w' := by
  go_enter Try.func89, Try.ntmps89
  go_wp2
  go_loopw [3, 4] (fun v3 v4 w' => ∃ j : Nat, j ≤ s.size ∧ v4 = .int .i64 j ∧ Aside0 (OB w' w.heap.size v3 (((bytesOf s).take j).flatMap wtextB)) ∧ Aside0 (Below w.heap.size w w')) (fun _ v4 _ => s.size - (intOf v4).toNat)
  case atStart => exact ⟨0, Nat.zero_le _, rfl, ⟨Kd.R_nil _ _ _ _ _⟩, ⟨Below.refl _ _⟩⟩
  case round =>
    obtain ⟨j, hj, rfl, HO, HB⟩ := hrel
    have hfl := flat_text_len ((bytesOf s).take j)
    rw [List.length_take, bytesOf_length] at hfl
    by_cases hlj : j < s.size
    · have i1 : (0 : Int) ≤ (j : Int) := by omega
      have i2 : (j : Int) < (s.size : Int) := by omega
      have hfb := flat_take wtextB (bytesOf s) 0 j (by rw [bytesOf_length]; exact hlj)
      rw [bytesOf_at s j hlj] at hfb
      have hb255 : s[j].toNat < 256 := UInt8.toNat_lt _
      generalize ((bytesOf s).take j).flatMap wtextB = mid at *
      have hml : mid.length ≤ 2000001 := by omega
      have hml2 : (mid ++ [0]).length ≤ 2000002 := by rw [List.length_append, List.length_singleton]; omega
      have HFB := Aside0.mk hfb
      clear hfb hfl
      by_cases hz : s[j].toNat = 0
      · go_wp2_with (first
          | ((with_reducible refine gate_dst (N := 16) rfl ?_); refine app_byte rfl rfl rfl rfl HO.out HB.out.size (by omega) ?_; intro v4 w4 HO4 hb4 hg4; have HP4 := Aside0.mk HO4; have HB4 := Aside0.mk (HB.out.trans hb4); clear hb4 hg4 HO4 HO HB)
          | ((with_reducible refine gate_dst (N := 23) rfl ?_); refine app_byte rfl rfl rfl rfl HP4.out HB4.out.size (by omega) ?_; intro v5 w5 HO5 hb5 hg5))
        go_roundw
        case rel =>
          refine ⟨j + 1, hlj, rfl, ⟨?_⟩, ⟨HB4.out.trans hb5⟩⟩
          rw [HFB.out, hz]
          simpa [wtextB] using HO5
        case measure => simp [intOf]; omega
      · have hz2 : ¬ (s[j].toNat : Int) = 0 := by omega
        go_wp2_with ((with_reducible refine gate_dst (N := 16) rfl ?_); refine app_byte rfl rfl rfl rfl HO.out HB.out.size (by omega) ?_; intro v4 w4 HO4 hb4 hg4)
        go_roundw
        case rel =>
          refine ⟨j + 1, hlj, rfl, ⟨?_⟩, ⟨HB.out.trans hb4⟩⟩
          rw [HFB.out, show wtextB (s[j].toNat : Int) = [(s[j].toNat : Int)] by unfold wtextB; rw [if_neg hz2]]
          exact HO4
        case measure => simp [intOf]; omega
    · obtain rfl : j = s.size := by omega
      have HO2 := HO.out
      rw [List.take_of_length_le (by rw [bytesOf_length]; exact Nat.le_refl _)] at HO2 hfl
      have HP2 := Aside0.mk HO2
      clear HO HO2
      have hml : ((bytesOf s).flatMap wtextB).length ≤ 2000001 := by
        have := flat_text_len (bytesOf s)
        rw [bytesOf_length] at this
        omega
      go_wp2_with ((with_reducible refine gate_dst (N := 26) rfl ?_); refine app_bytes rfl rfl rfl rfl (Kd.R_alloc HP2.out _) (lit_C [0, 1] (by simp)) (below_alloc HB.out _).size (by omega) ?_; intro v4 w4 HO4 hb4 hg4 _)
      go_ret
      exact ⟨_, rfl, HO4, (below_alloc HB.out _).trans hb4⟩
theorem num8_top (m : Int) (h0 : 0 ≤ m) (h1 : m ≤ 9223372036854775807) : (num8 m).set 0 (m / 72057594037927936 % 256 + 128) = num8 (m + 9223372036854775808) := by
  have e0 : (m + 9223372036854775808) / 72057594037927936 % 256 = m / 72057594037927936 % 256 + 128 := by omega
  have e1 : (m + 9223372036854775808) / 281474976710656 % 256 = m / 281474976710656 % 256 := by omega
  have e2 : (m + 9223372036854775808) / 1099511627776 % 256 = m / 1099511627776 % 256 := by omega
  have e3 : (m + 9223372036854775808) / 4294967296 % 256 = m / 4294967296 % 256 := by omega
  have e4 : (m + 9223372036854775808) / 16777216 % 256 = m / 16777216 % 256 := by omega
  have e5 : (m + 9223372036854775808) / 65536 % 256 = m / 65536 % 256 := by omega
  have e6 : (m + 9223372036854775808) / 256 % 256 = m / 256 % 256 := by omega
  have e7 : (m + 9223372036854775808) % 256 = m % 256 := by omega
  unfold num8
  rw [e0, e1, e2, e3, e4, e5, e6, e7]
  rfl
def numSt (m : Int) : Nat → Int × List Int
  | 0 => (m, [0, 0, 0, 0, 0, 0, 0, 0])
  | 1 => (m / 256, [0, 0, 0, 0, 0, 0, 0, m % 256])
  | 2 => (m / 65536, [0, 0, 0, 0, 0, 0, m / 256 % 256, m % 256])
  | 3 => (m / 16777216, [0, 0, 0, 0, 0, m / 65536 % 256, m / 256 % 256, m % 256])
  | 4 => (m / 4294967296, [0, 0, 0, 0, m / 16777216 % 256, m / 65536 % 256, m / 256 % 256, m % 256])
  | 5 => (m / 1099511627776, [0, 0, 0, m / 4294967296 % 256, m / 16777216 % 256, m / 65536 % 256, m / 256 % 256, m % 256])
  | 6 => (m / 281474976710656, [0, 0, m / 1099511627776 % 256, m / 4294967296 % 256, m / 16777216 % 256, m / 65536 % 256, m / 256 % 256, m % 256])
  | 7 => (m / 72057594037927936, [0, m / 281474976710656 % 256, m / 1099511627776 % 256, m / 4294967296 % 256, m / 16777216 % 256, m / 65536 % 256, m / 256 % 256, m % 256])
  | _ => (m / 18446744073709551616, [m / 72057594037927936 % 256, m / 281474976710656 % 256, m / 1099511627776 % 256, m / 4294967296 % 256, m / 16777216 % 256, m / 65536 % 256, m / 256 % 256, m % 256])
set_option maxRecDepth 100000 in
set_option maxHeartbeats 2000000 in
theorem refnumber_calls (n : Int) (w : World) (h0 : -9223372036854775808 ≤ n) (h1 : n ≤ 9223372036854775807) :
    Calls Try.prog 90 #[.int .i64 n] w fun e w' => ∃ v, e = .returned v ∧ OB w' w.heap.size v (num8 (n + 9223372036854775808)) ∧ Below w.heap.size w w' := by
  go_enter Try.func90, Try.ntmps90
  obtain ⟨m, hm⟩ : ∃ m, (if n < 0 then n + 9223372036854775808 else n) = m := ⟨_, rfl⟩
  have hm0 : 0 ≤ m := by rw [← hm]; split <;> omega
  have hm1 : m ≤ 9223372036854775807 := by rw [← hm]; split <;> omega
  by_cases sn : n < 0 <;> (first | rw [if_pos sn] at hm | rw [if_neg sn] at hm)
  all_goals
    go_wp2_with ((with_reducible refine gate_dst (N := 6) rfl ?_); refine Kd.R_make (Kd.int .u8) _ 5 rfl (N := 6) rfl 31 _ _ rfl 8 rfl rfl Try.underlying31 (.int .u8 0) 1 infoU8 rfl (by decide) (by omega) 0 (ok := fun _ => True) (okp := fun _ => True) rfl (fun _ hk => hk) trivial (by omega) (by omega) (Below.refl _ _) (Nat.le_refl _) ?_; intro v w1 HO hb _ _)
    obtain ⟨g, cap, rfl, hg, _⟩ := Kd.R_form HO (by simp)
    have HO0 := Aside0.mk HO
    have HB0 := Aside0.mk hb
    clear HO hb
    simp only [List.length_replicate, Int.reduceToNat] at *
    go_loopw [0, 5] (fun v0 v5 w' => ∃ (j : Nat) (i x : Int), j ≤ 8 ∧ i = 7 - (j : Int) ∧ v5 = .int .i64 i ∧ v0 = .int .i64 x ∧ x = (numSt m j).1 ∧ Aside0 (OB w' w.heap.size (.slice (some ⟨g, 0, none⟩) 8 cap) (numSt m j).2) ∧ Aside0 (Below w.heap.size w w')) (fun _ v5 _ => (intOf v5 + 1).toNat)
    case atStart => exact ⟨0, 7, _, by omega, by omega, rfl, rfl, by show _ = m; omega, HO0, HB0⟩
    case round =>
      clear HO0 HB0
      obtain ⟨j, i, x, hj, hi, rfl, rfl, hv, HO, HB⟩ := hrel
      rcases (by omega : j = 0 ∨ j = 1 ∨ j = 2 ∨ j = 3 ∨ j = 4 ∨ j = 5 ∨ j = 6 ∨ j = 7 ∨ j = 8) with rfl | rfl | rfl | rfl | rfl | rfl | rfl | rfl | rfl
      · obtain rfl : i = 7 := hi
        have hx : x = m := hv
        have HO2 : Aside0 (OB wr w.heap.size (.slice (some ⟨g, 0, none⟩) 8 cap) [0, 0, 0, 0, 0, 0, 0, 0]) := HO
        obtain ⟨hc, hf⟩ := R_cellN HO2.out 7 (by omega)
        have h2 := R_putN HO2.out 7 (x % 256)
        have HP2 := Aside0.mk h2
        have HX := Aside0.mk hx
        have hx0 : 0 ≤ x := by rw [hx]; omega
        have hx1 : x ≤ 9223372036854775807 := by rw [hx]; omega
        clear h2 hx hv HO HO2
        go_wp2_with fail
        go_roundw
        case rel =>
          refine ⟨1, 6, x / 256, by omega, by omega, rfl, rfl, ?_, ⟨?_⟩, ⟨HB.out.setCell (p := ⟨g, 7, none⟩) hg _⟩⟩
          · show x / 256 = m / 256
            have := HX.out
            omega
          · show OB _ w.heap.size (.slice (some ⟨g, 0, none⟩) 8 cap) [0, 0, 0, 0, 0, 0, 0, m % 256]
            rw [← (show ([0, 0, 0, 0, 0, 0, 0, 0] : List Int).set 7 (x % 256) = [0, 0, 0, 0, 0, 0, 0, m % 256] by rw [HX.out]; rfl)]
            exact HP2.out
        case measure => simp [intOf]
      · obtain rfl : i = 6 := hi
        have hx : x = m / 256 := hv
        have HO2 : Aside0 (OB wr w.heap.size (.slice (some ⟨g, 0, none⟩) 8 cap) [0, 0, 0, 0, 0, 0, 0, m % 256]) := HO
        obtain ⟨hc, hf⟩ := R_cellN HO2.out 6 (by omega)
        have h2 := R_putN HO2.out 6 (x % 256)
        have HP2 := Aside0.mk h2
        have HX := Aside0.mk hx
        have hx0 : 0 ≤ x := by rw [hx]; omega
        have hx1 : x ≤ 9223372036854775807 := by rw [hx]; omega
        clear h2 hx hv HO HO2
        go_wp2_with fail
        go_roundw
        case rel =>
          refine ⟨2, 5, x / 256, by omega, by omega, rfl, rfl, ?_, ⟨?_⟩, ⟨HB.out.setCell (p := ⟨g, 6, none⟩) hg _⟩⟩
          · show x / 256 = m / 65536
            have := HX.out
            omega
          · show OB _ w.heap.size (.slice (some ⟨g, 0, none⟩) 8 cap) [0, 0, 0, 0, 0, 0, m / 256 % 256, m % 256]
            rw [← (show ([0, 0, 0, 0, 0, 0, 0, m % 256] : List Int).set 6 (x % 256) = [0, 0, 0, 0, 0, 0, m / 256 % 256, m % 256] by rw [HX.out]; rfl)]
            exact HP2.out
        case measure => simp [intOf]
      · obtain rfl : i = 5 := hi
        have hx : x = m / 65536 := hv
        have HO2 : Aside0 (OB wr w.heap.size (.slice (some ⟨g, 0, none⟩) 8 cap) [0, 0, 0, 0, 0, 0, m / 256 % 256, m % 256]) := HO
        obtain ⟨hc, hf⟩ := R_cellN HO2.out 5 (by omega)
        have h2 := R_putN HO2.out 5 (x % 256)
        have HP2 := Aside0.mk h2
        have HX := Aside0.mk hx
        have hx0 : 0 ≤ x := by rw [hx]; omega
        have hx1 : x ≤ 9223372036854775807 := by rw [hx]; omega
        clear h2 hx hv HO HO2
        go_wp2_with fail
        go_roundw
        case rel =>
          refine ⟨3, 4, x / 256, by omega, by omega, rfl, rfl, ?_, ⟨?_⟩, ⟨HB.out.setCell (p := ⟨g, 5, none⟩) hg _⟩⟩
          · show x / 256 = m / 16777216
            have := HX.out
            omega
          · show OB _ w.heap.size (.slice (some ⟨g, 0, none⟩) 8 cap) [0, 0, 0, 0, 0, m / 65536 % 256, m / 256 % 256, m % 256]
            rw [← (show ([0, 0, 0, 0, 0, 0, m / 256 % 256, m % 256] : List Int).set 5 (x % 256) = [0, 0, 0, 0, 0, m / 65536 % 256, m / 256 % 256, m % 256] by rw [HX.out]; rfl)]
            exact HP2.out
        case measure => simp [intOf]
      · obtain rfl : i = 4 := hi
        have hx : x = m / 16777216 := hv
        have HO2 : Aside0 (OB wr w.heap.size (.slice (some ⟨g, 0, none⟩) 8 cap) [0, 0, 0, 0, 0, m / 65536 % 256, m / 256 % 256, m % 256]) := HO
        obtain ⟨hc, hf⟩ := R_cellN HO2.out 4 (by omega)
        have h2 := R_putN HO2.out 4 (x % 256)
        have HP2 := Aside0.mk h2
        have HX := Aside0.mk hx
        have hx0 : 0 ≤ x := by rw [hx]; omega
        have hx1 : x ≤ 9223372036854775807 := by rw [hx]; omega
        clear h2 hx hv HO HO2
        go_wp2_with fail
        go_roundw
        case rel =>
          refine ⟨4, 3, x / 256, by omega, by omega, rfl, rfl, ?_, ⟨?_⟩, ⟨HB.out.setCell (p := ⟨g, 4, none⟩) hg _⟩⟩
          · show x / 256 = m / 4294967296
            have := HX.out
            omega
          · show OB _ w.heap.size (.slice (some ⟨g, 0, none⟩) 8 cap) [0, 0, 0, 0, m / 16777216 % 256, m / 65536 % 256, m / 256 % 256, m % 256]
            rw [← (show ([0, 0, 0, 0, 0, m / 65536 % 256, m / 256 % 256, m % 256] : List Int).set 4 (x % 256) = [0, 0, 0, 0, m / 16777216 % 256, m / 65536 % 256, m / 256 % 256, m % 256] by rw [HX.out]; rfl)]
            exact HP2.out
        case measure => simp [intOf]
      · obtain rfl : i = 3 := hi
        have hx : x = m / 4294967296 := hv
        have HO2 : Aside0 (OB wr w.heap.size (.slice (some ⟨g, 0, none⟩) 8 cap) [0, 0, 0, 0, m / 16777216 % 256, m / 65536 % 256, m / 256 % 256, m % 256]) := HO
        obtain ⟨hc, hf⟩ := R_cellN HO2.out 3 (by omega)
        have h2 := R_putN HO2.out 3 (x % 256)
        have HP2 := Aside0.mk h2
        have HX := Aside0.mk hx
        have hx0 : 0 ≤ x := by rw [hx]; omega
        have hx1 : x ≤ 9223372036854775807 := by rw [hx]; omega
        clear h2 hx hv HO HO2
        go_wp2_with fail
        go_roundw
        case rel =>
          refine ⟨5, 2, x / 256, by omega, by omega, rfl, rfl, ?_, ⟨?_⟩, ⟨HB.out.setCell (p := ⟨g, 3, none⟩) hg _⟩⟩
          · show x / 256 = m / 1099511627776
            have := HX.out
            omega
          · show OB _ w.heap.size (.slice (some ⟨g, 0, none⟩) 8 cap) [0, 0, 0, m / 4294967296 % 256, m / 16777216 % 256, m / 65536 % 256, m / 256 % 256, m % 256]
            rw [← (show ([0, 0, 0, 0, m / 16777216 % 256, m / 65536 % 256, m / 256 % 256, m % 256] : List Int).set 3 (x % 256) = [0, 0, 0, m / 4294967296 % 256, m / 16777216 % 256, m / 65536 % 256, m / 256 % 256, m % 256] by rw [HX.out]; rfl)]
            exact HP2.out
        case measure => simp [intOf]
      · obtain rfl : i = 2 := hi
        have hx : x = m / 1099511627776 := hv
        have HO2 : Aside0 (OB wr w.heap.size (.slice (some ⟨g, 0, none⟩) 8 cap) [0, 0, 0, m / 4294967296 % 256, m / 16777216 % 256, m / 65536 % 256, m / 256 % 256, m % 256]) := HO
        obtain ⟨hc, hf⟩ := R_cellN HO2.out 2 (by omega)
        have h2 := R_putN HO2.out 2 (x % 256)
        have HP2 := Aside0.mk h2
        have HX := Aside0.mk hx
        have hx0 : 0 ≤ x := by rw [hx]; omega
        have hx1 : x ≤ 9223372036854775807 := by rw [hx]; omega
        clear h2 hx hv HO HO2
        go_wp2_with fail
        go_roundw
        case rel =>
          refine ⟨6, 1, x / 256, by omega, by omega, rfl, rfl, ?_, ⟨?_⟩, ⟨HB.out.setCell (p := ⟨g, 2, none⟩) hg _⟩⟩
          · show x / 256 = m / 281474976710656
            have := HX.out
            omega
          · show OB _ w.heap.size (.slice (some ⟨g, 0, none⟩) 8 cap) [0, 0, m / 1099511627776 % 256, m / 4294967296 % 256, m / 16777216 % 256, m / 65536 % 256, m / 256 % 256, m % 256]
            rw [← (show ([0, 0, 0, m / 4294967296 % 256, m / 16777216 % 256, m / 65536 % 256, m / 256 % 256, m % 256] : List Int).set 2 (x % 256) = [0, 0, m / 1099511627776 % 256, m / 4294967296 % 256, m / 16777216 % 256, m / 65536 % 256, m / 256 % 256, m % 256] by rw [HX.out]; rfl)]
            exact HP2.out
        case measure => simp [intOf]
      · obtain rfl : i = 1 := hi
        have hx : x = m / 281474976710656 := hv
        have HO2 : Aside0 (OB wr w.heap.size (.slice (some ⟨g, 0, none⟩) 8 cap) [0, 0, m / 1099511627776 % 256, m / 4294967296 % 256, m / 16777216 % 256, m / 65536 % 256, m / 256 % 256, m % 256]) := HO
        obtain ⟨hc, hf⟩ := R_cellN HO2.out 1 (by omega)
        have h2 := R_putN HO2.out 1 (x % 256)
        have HP2 := Aside0.mk h2
        have HX := Aside0.mk hx
        have hx0 : 0 ≤ x := by rw [hx]; omega
        have hx1 : x ≤ 9223372036854775807 := by rw [hx]; omega
        clear h2 hx hv HO HO2
        go_wp2_with fail
        go_roundw
        case rel =>
          refine ⟨7, 0, x / 256, by omega, by omega, rfl, rfl, ?_, ⟨?_⟩, ⟨HB.out.setCell (p := ⟨g, 1, none⟩) hg _⟩⟩
          · show x / 256 = m / 72057594037927936
            have := HX.out
            omega
          · show OB _ w.heap.size (.slice (some ⟨g, 0, none⟩) 8 cap) [0, m / 281474976710656 % 256, m / 1099511627776 % 256, m / 4294967296 % 256, m / 16777216 % 256, m / 65536 % 256, m / 256 % 256, m % 256]
            rw [← (show ([0, 0, m / 1099511627776 % 256, m / 4294967296 % 256, m / 16777216 % 256, m / 65536 % 256, m / 256 % 256, m % 256] : List Int).set 1 (x % 256) = [0, m / 281474976710656 % 256, m / 1099511627776 % 256, m / 4294967296 % 256, m / 16777216 % 256, m / 65536 % 256, m / 256 % 256, m % 256] by rw [HX.out]; rfl)]
            exact HP2.out
        case measure => simp [intOf]
      · obtain rfl : i = 0 := hi
        have hx : x = m / 72057594037927936 := hv
        have HO2 : Aside0 (OB wr w.heap.size (.slice (some ⟨g, 0, none⟩) 8 cap) [0, m / 281474976710656 % 256, m / 1099511627776 % 256, m / 4294967296 % 256, m / 16777216 % 256, m / 65536 % 256, m / 256 % 256, m % 256]) := HO
        obtain ⟨hc, hf⟩ := R_cellN HO2.out 0 (by omega)
        have h2 := R_putN HO2.out 0 (x % 256)
        have HP2 := Aside0.mk h2
        have HX := Aside0.mk hx
        have hx0 : 0 ≤ x := by rw [hx]; omega
        have hx1 : x ≤ 9223372036854775807 := by rw [hx]; omega
        clear h2 hx hv HO HO2
        go_wp2_with fail
        go_roundw
        case rel =>
          refine ⟨8, -1, x / 256, by omega, by omega, rfl, rfl, ?_, ⟨?_⟩, ⟨HB.out.setCell (p := ⟨g, 0, none⟩) hg _⟩⟩
          · show x / 256 = m / 18446744073709551616
            have := HX.out
            omega
          · show OB _ w.heap.size (.slice (some ⟨g, 0, none⟩) 8 cap) [m / 72057594037927936 % 256, m / 281474976710656 % 256, m / 1099511627776 % 256, m / 4294967296 % 256, m / 16777216 % 256, m / 65536 % 256, m / 256 % 256, m % 256]
            rw [← (show ([0, m / 281474976710656 % 256, m / 1099511627776 % 256, m / 4294967296 % 256, m / 16777216 % 256, m / 65536 % 256, m / 256 % 256, m % 256] : List Int).set 0 (x % 256) = [m / 72057594037927936 % 256, m / 281474976710656 % 256, m / 1099511627776 % 256, m / 4294967296 % 256, m / 16777216 % 256, m / 65536 % 256, m / 256 % 256, m % 256] by rw [HX.out]; rfl)]
            exact HP2.out
        case measure => simp [intOf]
      · obtain rfl : i = -1 := hi
        have HO2 : Aside0 (OB wr w.heap.size (.slice (some ⟨g, 0, none⟩) 8 cap) (num8 m)) := HO
        obtain ⟨hc, hf⟩ := R_cellN HO2.out 0 (by omega)
        have hc2 : wr.cell? ⟨g, 0, none⟩ = some (.int .u8 (m / 72057594037927936 % 256)) := hc
        have h2 := R_putN HO2.out 0 (m / 72057594037927936 % 256 + 128)
        have hlt : m / 72057594037927936 % 256 + 128 < 256 := by omega
        have hge : 0 ≤ m / 72057594037927936 % 256 := by omega
        have HP2 := Aside0.mk h2
        have HM := Aside0.mk hm
        clear h2 hc hv HO hm
        have hdm : decide (m < 0) = false := decide_eq_false (by omega)
        go_wp2_with fail
        go_ret
        first
          | (refine ⟨_, rfl, ?_, HB.out⟩; rw [HM.out]; exact HO2.out)
          | (refine ⟨_, rfl, ?_, HB.out.setCell (p := ⟨g, 0, none⟩) hg _⟩; rw [HM.out, ← (show (num8 m).set 0 (m / 72057594037927936 % 256 + 128) = num8 (m + 9223372036854775808) from num8_top m hm0 hm1)]; exact HP2.out)
set_option maxRecDepth 100000 in
set_option maxHeartbeats 2000000 in
theorem refwrite_calls (A : Option Addr) (n c : Nat) (l : List Pt) (w : World) (hr : KPt.C w A n l) (hc : n ≤ c) (hok : ∀ p ∈ l, p.ok) (hs : ∀ p ∈ l, p.s.size ≤ 100000) (hn : n ≤ 1000) :
    Calls Try.prog 67 #[.slice A n c] w fun e w' => ∃ v, e = .returned v ∧ OB w' w.heap.size v (writeL l) ∧ Below w.heap.size w w' := by
  have hnl : n = l.length := hr.1.symm
  have HN := Aside0.mk hnl
  have HR := Aside0.mk hr
  have HOK := Aside0.mk hok
  have HS := Aside0.mk hs
  clear hnl hr hok hs
  go_enter Try.func67, Try.ntmps67
  go_wp2
  go_loopw [3, 4] (fun v3 v4 w' => ∃ k : Nat, k ≤ n ∧ v4 = .int .i64 k ∧ Aside0 (OB w' w.heap.size v3 ((l.take k).flatMap wpart)) ∧ Aside0 (Below w.heap.size w w')) (fun _ v4 _ => n - (intOf v4).toNat)
  case atStart => exact ⟨0, Nat.zero_le _, rfl, ⟨Kd.R_nil _ _ _ _ _⟩, ⟨Below.refl _ _⟩⟩
  case round =>
    obtain ⟨k, hk, rfl, HO, HB⟩ := hrel
    by_cases hlt : k < n
    · obtain ⟨ad, rfl, p0', p1', p2'⟩ := C_atPt HR.out k hlt
      have hfl := flat_take wpart l default k (by rw [← HN.out]; exact hlt)
      have hpre := writeL_len (l.take k) 100000 (fun p hp => HS.out p (List.mem_of_mem_take hp))
      have hpo : (l.getD k default).ok ∧ (l.getD k default).s.size ≤ 100000 := by
        have e : l.getD k default = l[k]'(by rw [← HN.out]; exact hlt) := by simp [List.getD_eq_getElem?_getD, show k < l.length by rw [← HN.out]; exact hlt]
        rw [e]
        exact ⟨HOK.out _ (List.getElem_mem _), HS.out _ (List.getElem_mem _)⟩
      unfold writeL at hpre
      rw [List.length_take, ← HN.out] at hpre
      have hpl : ((l.take k).flatMap wpart).length ≤ 300000000 := by omega
      generalize l.getD k default = p at *
      generalize (l.take k).flatMap wpart = pre at *
      obtain ⟨pt, pn, ps⟩ := p
      obtain ⟨⟨⟨hn0, hn1⟩, _⟩, hps⟩ := hpo
      dsimp only at p0' p1' p2' hps hn0 hn1
      have hn0' : -9223372036854775808 ≤ pn := hn0
      have hn1' : pn ≤ 9223372036854775807 := hn1
      have HFL := Aside0.mk hfl
      have P1 := Aside0.mk p1'
      have P2 := Aside0.mk p2'
      have p0 := pw_cell_below HB.out p0'
      clear hfl hpre hn0 hn1 p0' p1' p2'
      cases pt with
      | true =>
        go_wp2_with ((with_reducible refine gate_dst (N := 18) rfl ?_); refine app_byte rfl rfl rfl rfl HO.out HB.out.size (by omega) ?_; intro v2 w2 HO2 hb2 hg2; have HP2 := Aside0.mk HO2; have HB2 := Aside0.mk (HB.out.trans hb2); have p2 := pw_cell_below HB2.out P2.out; clear hb2 hg2 HO2 p0 HO HB)
        (with_reducible refine (reftext_calls _ _ (by omega)).mono ?_)
        rintro e w3 ⟨v3, rfl, HO3, hb3⟩
        have htl : (wtext ps).length ≤ 1000000 := by
          have := flat_text_len (bytesOf ps)
          rw [bytesOf_length] at this
          simp only [wtext, List.length_append, List.length_cons, List.length_nil]
          omega
        obtain ⟨tx, htx⟩ : ∃ tx, wtext ps = tx := ⟨_, rfl⟩
        rw [htx] at HO3 htl
        obtain ⟨n3, hn3⟩ : ∃ n3, tx.length = n3 := ⟨_, rfl⟩
        obtain ⟨A3, c3, rfl, hc3, HC3⟩ := OB_readn HO3 n3 hn3
        rw [hn3] at htl
        have HTX := Aside0.mk htx
        have HP3 := Aside0.mk (Kd.R_below HP2.out hb3)
        have HB3 := Aside0.mk (below_step HB2.out hb3)
        have HC := Aside0.mk HC3
        have hml : (pre ++ [2]).length ≤ 300000001 := by rw [List.length_append, List.length_singleton]; omega
        clear HO3 HC3 hb3 HP2 HB2 hn3 htx p2
        go_wp2_with ((with_reducible refine gate_dst (N := 26) rfl ?_); refine app_bytes rfl rfl rfl rfl HP3.out HC.out HB3.out.size (by omega) ?_; intro v4 w4 HO4 hb4 _ _)
        go_roundw
        case rel =>
          refine ⟨k + 1, hlt, rfl, ⟨?_⟩, ⟨HB3.out.trans hb4⟩⟩
          rw [HFL.out]
          have e : pre ++ wpart ⟨true, pn, ps⟩ = pre ++ [2] ++ tx := by rw [← HTX.out]; simp [wpart]
          rw [e]
          exact HO4
        case measure => simp [intOf]; omega
      | false =>
        go_wp2_with ((with_reducible refine gate_dst (N := 29) rfl ?_); refine app_byte rfl rfl rfl rfl HO.out HB.out.size (by omega) ?_; intro v2 w2 HO2 hb2 hg2; have HP2 := Aside0.mk HO2; have HB2 := Aside0.mk (HB.out.trans hb2); have p1 := pw_cell_below HB2.out P1.out; clear hb2 hg2 HO2 p0 HO HB)
        (with_reducible refine (refnumber_calls _ _ hn0' hn1').mono ?_)
        rintro e w3 ⟨v3, rfl, HO3, hb3⟩
        obtain ⟨A3, c3, rfl, hc3, HC3⟩ := OB_readn HO3 8 (num8_len _)
        have HP3 := Aside0.mk (Kd.R_below HP2.out hb3)
        have HB3 := Aside0.mk (below_step HB2.out hb3)
        have HC := Aside0.mk HC3
        have hml : (pre ++ [1]).length ≤ 300000001 := by rw [List.length_append, List.length_singleton]; omega
        clear HO3 HC3 hb3 HP2 HB2 p1
        go_wp2_with ((with_reducible refine gate_dst (N := 37) rfl ?_); refine app_bytes rfl rfl rfl rfl HP3.out HC.out HB3.out.size (by omega) ?_; intro v4 w4 HO4 hb4 _ _)
        go_roundw
        case rel =>
          refine ⟨k + 1, hlt, rfl, ⟨?_⟩, ⟨HB3.out.trans hb4⟩⟩
          rw [HFL.out]
          have e : pre ++ wpart ⟨false, pn, ps⟩ = pre ++ [1] ++ num8 (pn + 9223372036854775808) := by simp [wpart]
          rw [e]
          exact HO4
        case measure => simp [intOf]; omega
    · obtain rfl : k = n := by omega
      go_wp2_with fail
      go_ret
      refine ⟨_, rfl, ?_, HB.out⟩
      have := HO.out
      rwa [List.take_of_length_le (by rw [← HN.out]; omega)] at this
end Go.Proofs.Ytmfnbkghfmeekaa.A.O
namespace Go.Proofs.Ytmfnbkghfmeekaa.A.O
open Go.RowKit Go.Proofs.YtmfnbkghfmeekaaW.PrintWords Go.Proofs.YtmfnbkghfmeekaaW.PrintLast Go.Proofs.YtmfnbkghfmeekaaW.PrintMore
set_option linter.unusedVariables false
set_option linter.unusedSimpArgs false
def norm (p : Pt) : Pt := if p.t then ⟨true, 0, p.s⟩ else ⟨false, p.n, { data := #[] }⟩
theorem words_text : ∀ (xs X acc : List Int), wordsL (xs.flatMap wtextB ++ ([0, 1] ++ X)) acc = (acc ++ xs, X, 0)
  | [], X, acc => by
    show wordsL (0 :: 1 :: X) acc = _
    rw [wordsL_cons, if_pos rfl]
    simp
  | b :: xs, X, acc => by
    have ih := words_text xs X (acc ++ [b])
    rw [List.flatMap_cons, List.append_assoc]
    by_cases hb : b = 0
    · subst hb
      show wordsL (0 :: 255 :: (xs.flatMap wtextB ++ ([0, 1] ++ X))) acc = _
      rw [wordsL_cons, if_pos rfl]
      show (if (255 : Int) = 255 then wordsL (xs.flatMap wtextB ++ ([0, 1] ++ X)) (acc ++ [0]) else _) = _
      rw [if_pos rfl, ih]
      simp
    · have e : wtextB b = [b] := by unfold wtextB; rw [if_neg hb]
      rw [e]
      show wordsL (b :: (xs.flatMap wtextB ++ ([0, 1] ++ X))) acc = _
      rw [wordsL_cons, if_neg hb, ih]
      simp
theorem valK_num : ∀ (k : Nat) (u : Int), 0 ≤ u → u < 256 ^ k → valK (numK k u) = u
  | 0, u, h0, h1 => by
    have : (256 : Int) ^ 0 = 1 := rfl
    have hu : u = 0 := by omega
    rw [hu]
    rfl
  | k + 1, u, h0, h1 => by
    rw [Int.pow_succ] at h1
    have ih := valK_num k (u / 256) (by omega) (by generalize (256 : Int) ^ k = m at *; omega)
    rw [numK, valK_snoc, ih]
    omega
theorem str_bytes (s : ByteArray) : strOfNums (bytesOf s) = s := by
  have e : (bytesOf s).map (fun n => UInt8.ofNat n.toNat) = s.data.toList := by
    unfold bytesOf
    rw [List.map_map]
    refine (List.map_congr_left (g := id) fun x hx => ?_).trans (List.map_id _)
    show UInt8.ofNat ((x.toNat : Int)).toNat = x
    rw [Int.toNat_natCast]
    exact UInt8.ofNat_toNat
  unfold strOfNums
  rw [e]
theorem read_part (f : Nat) (p : Pt) (X : List Int) (acc : List Pt) (hp : p.ok) : readL (f + 1) (wpart p ++ X) acc = readL f X (acc ++ [norm p]) := by
  obtain ⟨pt, pn, ps⟩ := p
  cases pt with
  | true =>
    have e : wtext ps ++ X = (bytesOf ps).flatMap wtextB ++ ([0, 1] ++ X) := by unfold wtext; rw [List.append_assoc]
    have hw := words_text (bytesOf ps) X []
    rw [← e, List.nil_append] at hw
    have h1 : errW (wtext ps ++ X) = 0 := by unfold errW; rw [hw]
    have h2 : restW (wtext ps ++ X) = X := by unfold restW; rw [hw]
    have h3 : wordsP (wtext ps ++ X) = ⟨true, 0, ps⟩ := by
      unfold wordsP
      rw [if_pos h1, hw, str_bytes]
    show readL (f + 1) (2 :: (wtext ps ++ X)) acc = _
    rw [readL, if_neg (by omega), if_pos rfl, if_pos h1, h2, h3]
    rfl
  | false =>
    have g0 : -9223372036854775808 ≤ pn := hp.1.1
    have g1 : pn ≤ 9223372036854775807 := hp.1.2
    have p8 : (256 : Int) ^ 8 = 18446744073709551616 := by decide
    have hv := valK_num 8 (pn + 9223372036854775808) (by omega) (by rw [p8]; omega)
    rw [← num8_K] at hv
    have hl := num8_len (pn + 9223372036854775808)
    have h2 : (num8 (pn + 9223372036854775808) ++ X).drop 8 = X := by rw [List.drop_append_of_le_length (by omega), List.drop_of_length_le (by omega), List.nil_append]
    have h3 : wordP (num8 (pn + 9223372036854775808) ++ X) = ⟨false, pn, { data := #[] }⟩ := by
      unfold wordP
      rw [List.take_append_of_le_length (by omega), List.take_of_length_le (by omega), hv]
      have : pn + 9223372036854775808 - 9223372036854775808 = pn := by omega
      rw [this]
    show readL (f + 1) (1 :: (num8 (pn + 9223372036854775808) ++ X)) acc = _
    rw [readL, if_pos rfl, if_neg (by rw [List.length_append]; omega), h2, h3]
    rfl
theorem read_write : ∀ (l : List Pt) (f : Nat) (acc : List Pt), l.length < f → (∀ p ∈ l, p.ok) → readL f (writeL l) acc = (acc ++ l.map norm, 0)
  | [], f, acc, hf, _ => by
    obtain ⟨f, rfl⟩ : ∃ g, f = g + 1 := ⟨f - 1, by simp at hf; omega⟩
    show readL (f + 1) [] acc = _
    rw [readL]
    simp
  | p :: l, f, acc, hf, h => by
    rw [List.length_cons] at hf
    obtain ⟨f, rfl⟩ : ∃ g, f = g + 1 := ⟨f - 1, by omega⟩
    have ih := read_write l f (acc ++ [norm p]) (by omega) (fun q hq => h q (by simp [hq]))
    unfold writeL at ih ⊢
    rw [List.flatMap_cons, read_part f p _ _ (h p (by simp)), ih]
    simp
theorem writeL_ge (l : List Pt) : l.length ≤ (writeL l).length := by
  unfold writeL
  induction l with
  | nil => simp
  | cons p l ih =>
    obtain ⟨c, r, e⟩ := wpart_cons p
    rw [List.flatMap_cons, List.length_append, List.length_cons, e, List.length_cons]
    omega
theorem readB_write (l : List Pt) (h : ∀ p ∈ l, p.ok) : readB (writeL l) = (l.map norm, 0) := by
  unfold readB
  rw [read_write l _ [] (by have := writeL_ge l; omega) h]
  rfl
theorem cmpS_self (x : ByteArray) : cmpS x x = 0 := by unfold cmpS; simp [bl_self]
end Go.Proofs.Ytmfnbkghfmeekaa.A.O
namespace Go.Proofs.Ytmfnbkghfmeekaa.A.O
open Go.RowKit Go.Proofs.YtmfnbkghfmeekaaW.PrintWords Go.Proofs.YtmfnbkghfmeekaaW.PrintLast Go.Proofs.YtmfnbkghfmeekaaW.PrintMore
set_option linter.unusedVariables false
set_option linter.unusedSimpArgs false
theorem bytes_C (W : World) (e : TypeId) (s : ByteArray) (hs : s.size ≤ 9223372036854775807) : U8.C (Lib.bytesWorld W e s) (some ⟨W.heap.size, 0, none⟩) s.size (bytesOf s) := by
  refine ⟨bytesOf_length s, hs, fun _ => ⟨_, rfl, fun j p hj => ⟨[.int .u8 p], rfl, rfl, fun i u hu => ?_⟩⟩⟩
  have hi : i = 0 := by
    have := (List.getElem?_eq_some_iff.1 hu).1
    simpa using this
  subst hi
  have hu' : u = .int .u8 p := by simpa using hu.symm
  subst hu'
  have hjl : j < s.size := by
    have := (List.getElem?_eq_some_iff.1 hj).1
    rwa [bytesOf_length] at this
  rw [add_plain]
  show (Lib.bytesWorld W e s).cell? ⟨W.heap.size, j * 1 + 0, none⟩ = _
  rw [Nat.mul_one, Nat.add_zero, Lib.bytesWorld_cell W e s j hjl]
  have h' : j < s.data.toList.length := by rw [data_length]; exact hjl
  have e2 : (bytesOf s)[j]? = some ((s.data.toList[j].toNat : Nat) : Int) := by
    unfold bytesOf
    rw [List.getElem?_map, List.getElem?_eq_getElem h']
    rfl
  rw [e2] at hj
  injection hj with hj
  rw [← hj, List.getD_eq_getElem?_getD, List.getElem?_eq_getElem h']
  rfl
theorem row_cells2 {W : World} {B g c : Nat} {p q : Pt} (h : OPt W B (.slice (some ⟨g, 0, none⟩) 2 c) [p, q]) :
    (W.cell? ⟨g, 0, none⟩ = some (.bool p.t) ∧ W.cell? ⟨g, 1, none⟩ = some (.int .i64 p.n) ∧ W.cell? ⟨g, 2, none⟩ = some (.string p.s)) ∧ (W.cell? ⟨g, 3, none⟩ = some (.bool q.t) ∧ W.cell? ⟨g, 4, none⟩ = some (.int .i64 q.n) ∧ W.cell? ⟨g, 5, none⟩ = some (.string q.s)) := by
  have hr := (Kd.R_reads' h).2.2
  obtain ⟨ad, e, hc⟩ := hr.2.2 Nat.zero_lt_two
  injection e with e
  subst e
  obtain ⟨c0, h1, ⟨_, _, rfl, rfl, ⟨_, _, rfl, rfl, rfl⟩⟩, h3⟩ := hc 0 p rfl
  obtain ⟨c1, g1, ⟨_, _, rfl, rfl, ⟨_, _, rfl, rfl, rfl⟩⟩, g3⟩ := hc 1 q rfl
  refine ⟨⟨h3 0 _ rfl, h3 1 _ rfl, h3 2 _ rfl⟩, ⟨g3 0 _ rfl, g3 1 _ rfl, g3 2 _ rfl⟩⟩
theorem R_block {α : Type} {d : Kd α} {e : Nat} {W : World} {base n cap : Nat} {A : Option Addr} {ok : Nat → Prop} {xs : List α} (h : d.R e W base ok (.slice A n cap) xs) (hn : 0 < n) : ∃ g, A = some ⟨g, 0, none⟩ ∧ base ≤ g := by
  obtain ⟨_, inner, ho, _⟩ := h
  rcases ho.2 with ⟨h2, _⟩ | ⟨g, cap', cur, h2, hg, _⟩
  · injection h2 with h3 h4
    omega
  · injection h2 with h3 h4
    exact ⟨g, h3, hg⟩
theorem wordsL_size : ∀ (l acc : List Int), (wordsL l acc).1.length ≤ acc.length + l.length
  | [], acc => by simp [wordsL]
  | b :: [], acc => by
    rw [wordsL_cons]
    split
    · simp
    · have := wordsL_size [] (acc ++ [b])
      simp at this ⊢
      omega
  | b :: c :: r, acc => by
    rw [wordsL_cons]
    by_cases h : b = 0
    · rw [if_pos h]
      show (if c = 255 then wordsL r (acc ++ [0]) else if c = 1 then (acc, r, 0) else ([], [], 2)).1.length ≤ _
      split
      · have := wordsL_size r (acc ++ [0])
        simp at this ⊢
        omega
      · split <;> simp
    · rw [if_neg h]
      have := wordsL_size (c :: r) (acc ++ [b])
      simp at this ⊢
      omega
theorem readL_size (m : Nat) : ∀ (f : Nat) (b : List Int) (acc : List Pt), b.length ≤ m → (∀ p ∈ acc, p.s.size ≤ m) → ∀ p ∈ (readL f b acc).1, p.s.size ≤ m
  | 0, _, acc, _, h => h
  | _ + 1, [], acc, _, h => h
  | f + 1, k :: r, acc, hb, h => by
    rw [List.length_cons] at hb
    rw [readL]
    split
    · split
      · intro p hp
        simp at hp
      · refine readL_size m f _ _ (by rw [List.length_drop]; omega) ?_
        intro p hp
        rcases List.mem_append.1 hp with hp | hp
        · exact h p hp
        · rw [List.mem_singleton] at hp
          subst hp
          show (0 : Nat) ≤ m
          omega
    · split
      · split
        · rename_i he
          obtain ⟨z, hz⟩ := restW_drop r
          refine readL_size m f _ _ (by rw [hz, List.length_drop]; omega) ?_
          intro p hp
          rcases List.mem_append.1 hp with hp | hp
          · exact h p hp
          · rw [List.mem_singleton] at hp
            subst hp
            unfold wordsP
            rw [if_pos he]
            show (strOfNums _).size ≤ m
            rw [strOfNums_size]
            have := wordsL_size r []
            simp at this
            omega
        · intro p hp
          simp at hp
      · intro p hp
        simp at hp
theorem readB_size (b : List Int) : ∀ p ∈ (readB b).1, p.s.size ≤ b.length := readL_size b.length _ b [] (Nat.le_refl _) (by simp)
def splitK (key : ByteArray) : Int × ByteArray × Int :=
  if (readB (bytesOf key)).2 = 0 then
    match (readB (bytesOf key)).1 with
    | [p, q] => if p.t = false ∧ q.t = true ∧ keyErr p.n q.s = 0 ∧ keyStr p.n q.s = key then (p.n, q.s, 0) else (0, { data := #[] }, 2)
    | _ => (0, { data := #[] }, 2)
  else (0, { data := #[] }, (readB (bytesOf key)).2)
theorem str_ne {x y : ByteArray} (h : ¬ x = y) : ¬ x.toList = y.toList := by
  intro e
  rw [ByteArray.toList_eq, ByteArray.toList_eq] at e
  apply h
  apply ByteArray.ext
  exact Array.toList_inj.1 e
set_option maxRecDepth 100000 in
set_option maxHeartbeats 2000000 in
theorem split_calls (key : ByteArray) (w : World) (hs : key.size ≤ 100000) :
    Calls Try.prog 81 #[.string key] w fun e w' => e = .returned (.tuple #[.int .i64 (splitK key).1, .string (splitK key).2.1, .int .i64 (splitK key).2.2]) ∧ Below w.heap.size w w' := by
  have hsp := splitK.eq_1 key
  have hsz := readB_size (bytesOf key)
  rw [bytesOf_length] at hsz
  have hcap := grownCap_ge w key.size 0 5
  have kb := fun W => print_bytes (P := Try.prog) 9 31 5 Try.underlying9 Try.underlying31 Try.underlying5 key W
  have HSZ := Aside0.mk hsz
  have HSP := Aside0.mk hsp
  clear hsz hsp
  go_enter Try.func81, Try.ntmps81
  go_wp2_with fail
  (with_reducible refine (read_calls _ _ _ (bytesOf key) _ (bytes_C w _ key (by omega)) hcap (bytesOf_range key) hs).mono ?_)
  rintro e w2 ⟨v2, rfl, HO2, hb2⟩
  have HB2 := Aside0.mk (below_step (bytes_below (Below.refl w.heap.size w) (Nat.le_refl _) 5 key) hb2)
  have HSP2 := HSP.out
  generalize (readB (bytesOf key)).2 = er at *
  generalize (readB (bytesOf key)).1 = l at *
  have HO := Aside0.mk (Kd.R_lower HO2 (show w.heap.size ≤ _ by rw [Lib.bytesWorld_size]; omega))
  clear hb2 kb HSP HO2
  by_cases he : er = 0
  · rw [if_pos he] at HSP2
    subst he
    obtain ⟨n, hn⟩ : ∃ n, l.length = n := ⟨_, rfl⟩
    obtain ⟨A2, c2, rfl, hc2, HC2⟩ := OPt_readn HO.out n hn
    by_cases hn2 : n = 2
    · subst hn2
      obtain ⟨p, q, rfl⟩ : ∃ p q, l = [p, q] := by
        match l, hn with
        | [p, q], _ => exact ⟨p, q, rfl⟩
      obtain ⟨g, rfl, hg⟩ := R_block HO.out (by omega)
      have hqs := HSZ.out q (by simp)
      obtain ⟨⟨b0, b1, b2⟩, ⟨b3, b4, b5⟩⟩ := row_cells2 HO.out
      obtain ⟨pt, pn, ps⟩ := p
      obtain ⟨qt, qn, qs⟩ := q
      dsimp only at b0 b1 b2 b3 b4 b5 hqs HSP2
      have HSP := Aside0.mk HSP2
      clear HSP2 HC2 hn
      by_cases h1 : pt = false
      · subst h1
        by_cases h2 : qt = true
        · subst h2
          go_wp2_with fail
          have hP : Aside0 (OPt w2.drew w.heap.size (.slice (some ⟨g, 0, none⟩) 2 c2) [⟨false, pn, ps⟩, ⟨true, qn, qs⟩]) := ⟨Kd.R_drew HO.out⟩
          have hB0 : Below w2.heap.size w2 w2.drew := below_drew1 (Below.refl _ _)
          have hd1 : w2.drew.cell? ⟨g, 1, none⟩ = some (.int .i64 pn) := b1
          have hd5 : w2.drew.cell? ⟨g, 5, none⟩ = some (.string qs) := b5
          have hall := And.intro hP (And.intro hd1 (And.intro hd5 hB0))
          go_region_held (fun w' => Aside0 (OPt w' w.heap.size (.slice (some ⟨g, 0, none⟩) 2 c2) [⟨false, pn, ps⟩, ⟨true, qn, qs⟩]) ∧ w'.cell? ⟨g, 1, none⟩ = some (.int .i64 pn) ∧ w'.cell? ⟨g, 5, none⟩ = some (.string qs) ∧ Below w2.heap.size w2 w')
            (first
              | exact hall
              | (go_split_ands; exact ⟨by assumption, by assumption, by assumption, by assumption⟩)
              | (go_split_ands; exact ⟨⟨Kd.R_below (Aside0.out (by assumption)) hb⟩, pw_cell_below hb (by assumption), pw_cell_below hb (by assumption), below_step (by assumption) hb⟩))
            (first | ((go_at_call 101); (with_reducible refine (key_calls _ _ _ (by omega)).mono ?_); rintro e w3 ⟨rfl, hb⟩))
          go_split_ands
          have hO3 : OPt w3 w.heap.size (.slice (some ⟨g, 0, none⟩) 2 c2) [⟨false, pn, ps⟩, ⟨true, qn, qs⟩] := Aside0.out (by assumption)
          have hB3 : Below w2.heap.size w2 w3 := by assumption
          have HB3 := Aside0.mk (below_step HB2.out hB3)
          obtain ⟨⟨d0, d1, d2⟩, ⟨d3, d4, d5⟩⟩ := row_cells2 hO3
          dsimp only at d0 d1 d2 d3 d4 d5
          obtain ⟨ke, hke⟩ : ∃ ke, keyErr pn qs = ke := ⟨_, rfl⟩
          obtain ⟨ks, hks⟩ : ∃ ks, keyStr pn qs = ks := ⟨_, rfl⟩
          have HSP2 := HSP.out
          rw [hke, hks] at HSP2 ⊢
          clear hke hks HSP hb hO3 hB3 b0 b1 b2 b3 b4 b5 hP hB0 hd1 hd5
          by_cases h3 : ke = 0
          · by_cases h4 : ks = key
            · rw [if_pos (by simp [h3, h4])] at HSP2
              have HSP := Aside0.mk HSP2
              clear HSP2
              subst h3 h4
              go_wp2_with fail
              go_quiet (fail)
              go_wp2_with fail
              go_ret3
              exact ⟨by rw [HSP.out]; first | rfl | kernel_rfl, by first | exact HB3.out | exact below_step HB3.out (by repeat (with_reducible first | exact Below.refl _ _ | apply pw_below_drewN | apply below_drew1))⟩
            · rw [if_neg (fun h => h4 h.2.2.2)] at HSP2
              have HSP := Aside0.mk HSP2
              have h5 := str_ne h4
              have h6 : (ks.toList == key.toList) = false := by simpa using h5
              clear HSP2
              subst h3
              go_wp2_with fail
              go_ret3
              exact ⟨by rw [HSP.out]; rfl, HB3.out⟩
          · rw [if_neg (fun h => h3 h.2.2.1)] at HSP2
            have HSP := Aside0.mk HSP2
            clear HSP2
            go_wp2_with fail
            go_ret3
            exact ⟨by rw [HSP.out]; rfl, HB3.out⟩
        · have hq : qt = false := by simpa using h2
          have HSP2 := HSP.out
          rw [if_neg (fun h => h2 h.2.1)] at HSP2
          have HSP := Aside0.mk HSP2
          clear HSP2
          subst hq
          go_wp2_with fail
          go_ret3
          exact ⟨by rw [HSP.out]; rfl, HB2.out⟩
      · have hp : pt = true := by simpa using h1
        have HSP2 := HSP.out
        rw [if_neg (fun h => h1 h.1)] at HSP2
        have HSP := Aside0.mk HSP2
        clear HSP2
        subst hp
        go_wp2_with fail
        go_ret3
        exact ⟨by rw [HSP.out]; rfl, HB2.out⟩
    · have hnn : ¬ (n : Int) = 2 := by omega
      have HSP : Aside0 (splitK key = (0, { data := #[] }, 2)) := ⟨by
        rw [HSP2]
        match l, hn with
        | [], _ => rfl
        | [_], _ => rfl
        | [_, _], h => exact (hn2 h.symm).elim
        | _ :: _ :: _ :: _, _ => rfl⟩
      clear HSP2 HC2 hn
      go_wp2_with fail
      go_ret3
      exact ⟨by rw [HSP.out]; rfl, HB2.out⟩
  · rw [if_neg he] at HSP2
    have HSP := Aside0.mk HSP2
    clear HSP2
    go_wp2_with fail
    go_ret3
    exact ⟨by rw [HSP.out]; rfl, HB2.out⟩
end Go.Proofs.Ytmfnbkghfmeekaa.A.O
namespace Go.Proofs.Ytmfnbkghfmeekaa.A.O
open Go.RowKit Go.Proofs.YtmfnbkghfmeekaaW.PrintWords Go.Proofs.YtmfnbkghfmeekaaW.PrintLast Go.Proofs.YtmfnbkghfmeekaaW.PrintMore
open Go.Op (bytesLess)
set_option linter.unusedVariables false
set_option linter.unusedSimpArgs false
end Go.Proofs.Ytmfnbkghfmeekaa.A.O
namespace Go.Proofs.Ytmfnbkghfmeekaa.A.O
open Go.RowKit Go.Proofs.YtmfnbkghfmeekaaW.PrintWords Go.Proofs.YtmfnbkghfmeekaaW.PrintLast Go.Proofs.YtmfnbkghfmeekaaW.PrintMore
open Go.Op (bytesLess)
set_option linter.unusedVariables false
set_option linter.unusedSimpArgs false
theorem keyParts_ok (t : Int) (s : ByteArray) (h0 : 0 ≤ t) (h1 : t < 4) (hs : s.size ≤ 40) : ∀ p ∈ keyParts t s, p.ok := by
  intro p hp
  simp only [keyParts, List.mem_cons, List.not_mem_nil, or_false] at hp
  rcases hp with rfl | rfl
  · exact ⟨⟨by show -9223372036854775808 ≤ t; omega, by show t ≤ 9223372036854775807; omega⟩, by show (0 : Nat) ≤ _; omega⟩
  · exact ⟨⟨by show -9223372036854775808 ≤ (0 : Int); omega, by show (0 : Int) ≤ 9223372036854775807; omega⟩, by show s.size ≤ 9223372036854775807; omega⟩
end Go.Proofs.Ytmfnbkghfmeekaa.A.O
namespace Go.Proofs.Ytmfnbkghfmeekaa.A.O
open Go.RowKit Go.Proofs.YtmfnbkghfmeekaaW.PrintWords Go.Proofs.YtmfnbkghfmeekaaW.PrintLast Go.Proofs.YtmfnbkghfmeekaaW.PrintMore
set_option linter.unusedVariables false
set_option linter.unusedSimpArgs false
theorem keyParts_size (t : Int) (s : ByteArray) (m : Nat) (hs : s.size ≤ m) : ∀ p ∈ keyParts t s, p.s.size ≤ m := by
  intro p hp
  simp only [keyParts, List.mem_cons, List.not_mem_nil, or_false] at hp
  rcases hp with rfl | rfl
  · show (0 : Nat) ≤ _
    omega
  · exact hs
theorem split_key (t : Int) (s : ByteArray) (h0 : 0 ≤ t) (h1 : t < 4) (hs : s.size ≤ 40) : splitK (keyStr t s) = (t, s, 0) := by
  have e1 : keyErr t s = 0 := by unfold keyErr; rw [if_neg (by omega), if_neg (by omega)]
  have e2 : keyStr t s = strOfNums (writeL (keyParts t s)) := by unfold keyStr; rw [if_pos e1]
  have e3 : readB (bytesOf (keyStr t s)) = ([⟨false, t, { data := #[] }⟩, ⟨true, 0, s⟩], 0) := by
    rw [e2, bytesOf_str _ (write_range _), readB_write _ (keyParts_ok t s h0 h1 hs)]
    rfl
  unfold splitK
  rw [e3, if_pos rfl]
  show (if false = false ∧ true = true ∧ keyErr t s = 0 ∧ keyStr t s = keyStr t s then (t, s, (0 : Int)) else _) = _
  rw [if_pos ⟨rfl, rfl, e1, rfl⟩]
set_option maxRecDepth 100000 in
theorem refkey_calls (t : Int) (s : ByteArray) (w : World) (h0 : 0 ≤ t) (h1 : t < 4) (hs : s.size ≤ 40) :
    Calls Try.prog 35 #[.int .i64 t, .string s] w fun e w' => e = .returned (.string (keyStr t s)) ∧ Below w.heap.size w w' := by
  have e1 : keyErr t s = 0 := by unfold keyErr; rw [if_neg (by omega), if_neg (by omega)]
  have e2 : keyStr t s = strOfNums (writeL (keyParts t s)) := by unfold keyStr; rw [if_pos e1]
  rw [e2]
  have HK := Aside0.mk (keyParts_ok t s h0 h1 hs)
  have HS := Aside0.mk (keyParts_size t s 100000 (by omega))
  clear e1 e2
  go_enter Try.func35, Try.ntmps35
  go_wp2_with fail
  (with_reducible refine (refwrite_calls _ _ _ (keyParts t s) _ (lit_CPt2 w _ false t ({ data := #[] } : ByteArray) true 0 s) (Nat.le_refl _) HK.out HS.out (by omega)).mono ?_)
  rintro e w2 ⟨v2, rfl, HO2, hb2⟩
  have E2 := OB_string HO2
  have HB2 := Aside0.mk (below_step (below_alloc (Below.refl w.heap.size w) _) hb2)
  clear HO2 hb2
  go_wp2
  go_ret
  exact ⟨rfl, HB2.out⟩
end Go.Proofs.Ytmfnbkghfmeekaa.A.O
