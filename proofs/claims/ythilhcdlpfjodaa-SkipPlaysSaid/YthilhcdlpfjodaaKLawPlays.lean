/- SkipPlays: whatever is asked of a list, it answers, and has in each row, just what the document says. -/
import Derived.Test.YthilhcdlpfjodaaKLike
namespace Go.Proofs.Ythilhcdlpfjodaa.A
open Go.RowKit Go.Proofs.YthilhcdlpfjodaaW.PrintWords Go.Proofs.YthilhcdlpfjodaaW.PrintLast Go.Proofs.YthilhcdlpfjodaaW.PrintMore
set_option linter.unusedVariables false
set_option linter.unusedSimpArgs false

set_option maxRecDepth 100000 in
set_option maxHeartbeats 4000000 in
theorem plays_calls (w : World) (A : Option Addr) (c : Nat) (dl : List Dd) (hr : KDd.C w A dl.length dl) (hc : dl.length ≤ c) (hg : ∀ d ∈ dl, d.fits) (key : ByteArray) (hkey : key.size ≤ maxLen) :
    Calls Try.prog 7 #[.slice A dl.length c, .string key] w fun e w' => e = .returned (.bool true) ∧ Below w.heap.size w w' := by
  have hm := hr.2.1
  obtain ⟨n, hn⟩ : ∃ n, dl.length = n := ⟨_, rfl⟩
  rw [hn] at hr hc hm ⊢
  have HR := Aside0.mk hr
  have HN := Aside0.mk hn
  have HG := Aside0.mk hg
  have HKEY : Aside0 (key.size ≤ 9223372036854775807) := ⟨by simp only [maxLen] at hkey; omega⟩
  clear hr hn hg hkey
  go_enter Try.func7, Try.ntmps7
  go_wp2_with fail
  (with_reducible refine (DI_new w).mono ?_)
  rintro e w1 ⟨L, rfl, hD1⟩
  have HD1 := Aside0.mk hD1
  clear hD1
  go_wp2_with fail
  (with_reducible refine (few_calls key _ HKEY.out).mono ?_)
  rintro e w2 ⟨rfl, rfl⟩
  obtain ⟨key2, hk2⟩ : ∃ k, fewS key = k := ⟨_, rfl⟩
  rw [hk2]
  clear hk2
  go_wp2_with fail
  go_loopw [6, 7] (fun v6 v7 w' => ∃ (i : Nat) (l : List It), v7 = .int .i64 i ∧ i ≤ n ∧ i ≤ 60 ∧ Aside0 (DI w w' L i v6 l)) (fun _ v7 _ => 60 - (intOf v7).toNat)
  case atStart => exact ⟨0, [], rfl, Nat.zero_le _, by omega, HD1⟩
  case round =>
    obtain ⟨i, l, rfl, hin, hi40, HD⟩ := hrel
    by_cases hlt : i < n ∧ i < 60
    · obtain ⟨hl1, hl2⟩ := hlt
      obtain ⟨ad, rfl, q0, q1, q2, q3⟩ := C_atDd (Kd.C_below HR.out (DI_b HD.out)) i hl1
      have hfd : (dl.getD i default).fits := HG.out _ (by
        rw [List.getD_eq_getElem?_getD, List.getElem?_eq_getElem (by rw [HN.out]; exact hl1)]
        exact List.getElem_mem _)
      obtain ⟨d, hd⟩ : ∃ d, dl.getD i default = d := ⟨_, rfl⟩
      rw [hd] at q0 q1 q2 q3 hfd
      have HDO := Aside0.mk (DI_does HD.out d (by omega) (by unfold Dd.fits at hfd; simp only [maxLen] at hfd; omega))
      have j1 : (i : Int) < (n : Int) := by omega
      have j2 : (0 : Int) ≤ (i : Int) := by omega
      have j3 : (i : Int) < 60 := by omega
      clear hd hfd
      go_wp2_with fail
      (with_reducible refine HDO.out.mono ?_)
      rintro e w2 ⟨v2, rfl, hD2⟩
      have HD2 := Aside0.mk hD2
      clear hD2
      go_wp2_with fail
      (with_reducible refine (like_calls w w2 L (i + 1) v2 _ HD2.out (by omega) key2).mono ?_)
      rintro e w3 ⟨rfl, hb3⟩
      have HD3 := Aside0.mk (DI_below HD2.out hb3)
      clear hb3
      go_wp2_with fail
      go_roundw
      case rel => exact ⟨i + 1, _, by push_cast; rfl, hl1, by omega, HD3⟩
      case measure => simp [intOf]; omega
    · have j1 : (¬ (i : Int) < (n : Int)) ∨ ((i : Int) < (n : Int) ∧ ¬ (i : Int) < 60) := by omega
      clear hlt
      rcases j1 with j1 | ⟨j1, j2⟩
      all_goals
        go_wp2_with fail
        (with_reducible refine (lives_calls _).mono ?_)
        rintro e w7 ⟨rfl, hb7⟩
        have HB7 := Aside0.mk (below_step (DI_b HD.out) hb7)
        clear hb7
        go_wp2_with fail
        go_ret
        exact ⟨rfl, HB7.out⟩
end Go.Proofs.Ythilhcdlpfjodaa.A
