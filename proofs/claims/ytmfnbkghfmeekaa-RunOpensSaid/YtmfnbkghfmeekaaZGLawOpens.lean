/- GLawOpens -/
import Derived.Test.YtmfnbkghfmeekaaZGRefOpen
namespace Go.Proofs.Ytmfnbkghfmeekaa.A
open Go Go.RowKit Go.Proofs.YtmfnbkghfmeekaaW.PrintWords Go.Proofs.YtmfnbkghfmeekaaW.PrintLast Go.Proofs.YtmfnbkghfmeekaaW.PrintMore
open R C
set_option linter.unusedVariables false
set_option linter.unusedSimpArgs false
set_option maxRecDepth 100000 in
set_option maxHeartbeats 8000000 in
theorem opens_calls (w : World) (A : Option Addr) (c : Nat) (l : List Int) (hr : U8.C w A l.length l) (hc : l.length ≤ c) (hby : ∀ x ∈ l, 0 ≤ x ∧ x ≤ 255) :
    Calls Try.prog 5 #[.slice A l.length c] w fun e w' => e = .returned (.bool true) ∧ Below w.heap.size w w' := by
  obtain ⟨x, hx⟩ : ∃ x, l.take 2000 = x := ⟨_, rfl⟩
  obtain ⟨m, hm⟩ : ∃ m, x.length = m := ⟨_, rfl⟩
  have hx2 : x.length = min 2000 l.length := by rw [← hx, List.length_take]
  have hm2 : m ≤ 2000 := by omega
  have hmc : m ≤ c := by omega
  have hCX : U8.C w A m x := by
    have h9 := C_take_any hr 2000
    rwa [hx, hm] at h9
  have HBX : Aside0 (∀ y ∈ x, 0 ≤ y ∧ y ≤ 255) := ⟨fun y hy => hby y (by rw [← hx] at hy; exact List.mem_of_mem_take hy)⟩
  have HOPEN := Aside0.mk (open_calls A m c x w hCX hmc HBX.out (by omega))
  have HROP := Aside0.mk (fun W h => ropen_calls A m c x W h hmc HBX.out (by omega))
  have HCX := Aside0.mk hCX
  have HXL := Aside0.mk hm
  obtain ⟨n, hn⟩ : ∃ n, l.length = n := ⟨_, rfl⟩
  have hnm : n ≤ 9223372036854775807 := by have := hr.2.1; omega
  rw [hn] at hc hx2 ⊢
  clear hr hby hCX hx hn
  by_cases hbig : 2000 < n
  case' pos => have hmn : m = 2000 := by omega
  case' neg => have hmn : n = m := by omega
  all_goals
    subst hmn
    clear hm hx2
    go_enter Try.func5, Try.ntmps5
    go_wp2_with fail
    (with_reducible refine HOPEN.out.mono ?_)
    rintro e w1 ⟨hb1, (⟨h1, rfl⟩ | ⟨cs, r, h1, rfl, hr1⟩)⟩
    · have HB1 := Aside0.mk hb1
      have H1 := Aside0.mk h1
      have HC1 := Aside0.mk (Kd.C_below HCX.out hb1)
      clear hb1 h1
      go_wp2_with fail
      (with_reducible refine (HROP.out _ HC1.out).mono ?_)
      rintro e w2 ⟨hb2, (⟨h2, v2, rfl⟩ | ⟨cs2, v2, h2, rfl, hO2⟩)⟩
      · have HB2 := Aside0.mk (below_step HB1.out hb2)
        clear hb2 h2
        go_wp2_with fail
        (with_reducible refine (lives_calls _).mono ?_)
        rintro e w3 ⟨rfl, hb3⟩
        have HB3 := Aside0.mk (below_step HB2.out hb3)
        clear hb3
        go_wp2_with fail
        go_ret
        exact ⟨by first | rfl | kernel_rfl, HB3.out⟩
      · rw [H1.out] at h2
        cases h2
    · have HB1 := Aside0.mk hb1
      have H1 := Aside0.mk h1
      have HC1 := Aside0.mk (Kd.C_below HCX.out hb1)
      have hrg := RnG_open HBX.out (by rw [HXL.out]; omega) h1 hr1
      obtain ⟨-, hir, hln, -⟩ := open_some HBX.out h1
      rw [HXL.out] at hln
      have HRG := Aside0.mk hrg
      clear hb1 h1 hr1 hrg hir
      go_wp2_with fail
      (with_reducible refine (HROP.out _ HC1.out).mono ?_)
      rintro e w2 ⟨hb2, (⟨h2, v2, rfl⟩ | ⟨cs2, v2, h2, rfl, hO2⟩)⟩
      · rw [H1.out] at h2
        cases h2
      · rw [H1.out] at h2
        injection h2 with h2
        subst h2
        obtain ⟨X, hX⟩ : ∃ X, cs.flatten = X := ⟨_, rfl⟩
        have hAL := all_calls w2 r cs (HRG.out.below hb2)
        rw [hX] at hln hO2 hAL
        obtain ⟨k, hk⟩ : ∃ k, X.length = k := ⟨_, rfl⟩
        obtain ⟨A2, c2, rfl, hc2, hC2⟩ := OVr_readn hO2 k hk
        have HB2 := Aside0.mk (below_step HB1.out hb2)
        have HC2 := Aside0.mk hC2
        have HAL := Aside0.mk hAL
        have HK := Aside0.mk hk
        have hk5 : k ≤ 1000 := by omega
        clear hO2 hC2 hAL hb2 hX hk hln
        go_wp2_with fail
        (with_reducible refine HAL.out.mono ?_)
        rintro e w3 ⟨v3, rfl, hO3, hb3⟩
        obtain ⟨A3, c3, rfl, hc3, hC3⟩ := OVr_readn hO3 k HK.out
        have HC3 := Aside0.mk hC3
        have HD3 := Aside0.mk (Kd.C_below HC2.out hb3)
        have HB3 := Aside0.mk (below_step HB2.out hb3)
        clear hO3 hC3 hb3
        go_wp2_with fail
        (with_reducible refine (same_calls A3 A2 k c3 c2 X _ HC3.out HD3.out hc3 hc2).mono ?_)
        rintro e w4 ⟨rfl, hb4⟩
        have HB4 := Aside0.mk (below_step HB3.out hb4)
        clear hb4
        go_wp2_with fail
        (with_reducible refine (lives_calls _).mono ?_)
        rintro e w5 ⟨rfl, hb5⟩
        have HB5 := Aside0.mk (below_step HB4.out hb5)
        clear hb5
        go_wp2_with fail
        go_ret
        exact ⟨by first | rfl | kernel_rfl, HB5.out⟩
end Go.Proofs.Ytmfnbkghfmeekaa.A
