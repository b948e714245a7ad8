/- GLawBuilds -/
import Derived.Test.YtmfnbkghfmeekaaZGOpened
namespace Go.Proofs.Ytmfnbkghfmeekaa.A
open Go Go.RowKit Go.Proofs.YtmfnbkghfmeekaaW.PrintWords Go.Proofs.YtmfnbkghfmeekaaW.PrintLast Go.Proofs.YtmfnbkghfmeekaaW.PrintMore
open R C
open Go.Op (bytesLess)
set_option linter.unusedVariables false
set_option linter.unusedSimpArgs false
set_option maxRecDepth 100000 in
set_option maxHeartbeats 8000000 in
theorem builds_calls (w : World) (A : Option Addr) (c : Nat) (l : List Vr) (hr : KVr.C w A l.length l) (hc : l.length ≤ c) (hf : ∀ p ∈ l, p.fits) :
    Calls Try.prog 4 #[.slice A l.length c] w fun e w' => e = .returned (.bool true) ∧ Below w.heap.size w w' := by
  have HBK := Aside0.mk (blockM_calls 40 (by omega) A l.length c l w hr hc hf)
  rw [show (((40 : Nat)) : Int) = 40 from rfl] at HBK
  generalize l.length = n at *
  clear hr hf
  go_enter Try.func4, Try.ntmps4
  go_wp2_with fail
  (with_reducible refine HBK.out.mono ?_)
  rintro e w1 ⟨u1, Z, rfl, hO1, hzM, hZ, hb1⟩
  obtain ⟨z, hz⟩ : ∃ z, Z.length = z := ⟨_, rfl⟩
  rw [hz] at hzM
  obtain ⟨A1, c1, rfl, hc1, hC1⟩ := OVr_readn hO1 z hz
  have HC1 := Aside0.mk hC1
  have HB1 := Aside0.mk hb1
  have HIR := Aside0.mk hZ
  have HN := Aside0.mk hz
  have hrl := run_len hZ (by omega) 5 (by omega)
  have hrp := run_pos Z
  have hop := open_run hZ (by omega)
  have hby := runB_range Z
  have HW := Aside0.mk (fun W h => build_calls A1 z c1 Z W h hc1 (small_may hZ.1) (by omega))
  have hbr : bldR Z = runB Z := by unfold bldR; rw [(okN_iff _).2 hZ]; rfl
  have hbe : bldE Z = 0 := by unfold bldE; rw [(okN_iff _).2 hZ]; rfl
  rw [hbe, hbr] at HW
  have HRW := Aside0.mk (fun W h => rbuild_calls A1 z c1 Z W h hc1 hZ (by omega))
  obtain ⟨B, hB⟩ : ∃ B, runB Z = B := ⟨_, rfl⟩
  rw [hB] at HW HRW hrl hrp hop hby
  have HBB := Aside0.mk hB
  have HOP := Aside0.mk hop
  have HBY := Aside0.mk hby
  obtain ⟨p, hp⟩ : ∃ p, B.length = p := ⟨_, rfl⟩
  rw [hp] at hrl hrp
  have HPN := Aside0.mk hp
  clear hO1 hb1 hC1 HBK hZ hz hop hby hbr hbe hB hp
  go_wp2_with fail
  (with_reducible refine (HW.out _ HC1.out).mono ?_)
  rintro e w2 ⟨u2, rfl, hO2, hb2⟩
  obtain ⟨A2, c2, rfl, hc2, hC2⟩ := OB_readn hO2 p HPN.out
  have HC2 := Aside0.mk hC2
  have HP2 := Aside0.mk (show OB w2 0 (.slice A2 p c2) B ∧ KVr.C w2 A1 z Z ∧ Below w.heap.size w w2 from ⟨Kd.R_lower hO2 (Nat.zero_le _), Kd.C_below HC1.out hb2, below_step HB1.out hb2⟩)
  clear hO2 hb2 HB1 HC1 hC2 HW
  go_wp2_with fail
  (with_reducible refine (open_calls A2 p c2 B w2 HC2.out hc2 HBY.out (by omega)).mono ?_)
  rintro e w3 ⟨hb3, (⟨h1, -⟩ | ⟨cs, r, h1, rfl, hr3⟩)⟩
  · rw [HOP.out] at h1
    cases h1
  · rw [HOP.out] at h1
    injection h1 with h1
    subst h1
    have HP3 : Aside0 (PR w (.slice A2 p c2) B A1 z Z r w3) := ⟨Kd.R_below HP2.out.1 hb3, Kd.C_below HP2.out.2.1 hb3, RnG_open HBY.out (by rw [HPN.out]; omega) HOP.out hr3, below_step HP2.out.2.2 hb3⟩
    clear hb3 hr3 HP2 HC2
    go_wp2_with fail
    (with_reducible refine (allZ_calls HP3.out.rn).mono ?_)
    rintro e w4 ⟨u4, rfl, hO4, hb4⟩
    obtain ⟨A4, c4, rfl, hc4, hC4⟩ := OVr_readn hO4 z HN.out
    have HC4 := Aside0.mk hC4
    have HP4 := Aside0.mk (HP3.out.step hb4)
    clear hO4 hb4 hC4 HP3
    go_wp2_with fail
    (with_reducible refine (same_calls A4 A1 z c4 c1 Z _ HC4.out HP4.out.kv hc4 hc1).mono ?_)
    rintro e w5 ⟨rfl, hb5⟩
    have HP5 := Aside0.mk (HP4.out.step (below_drew1 hb5))
    clear hb5 HP4 HC4
    go_wp2_with fail
    go_region_held (fun w' => (convert 31 9 (.slice A2 p c2)).run Try.prog w' = .ok (.string (strOfNums B)) w' ∧ Aside0 (PR w (.slice A2 p c2) B A1 z Z r w'))
      (first
        | (with_reducible exact PR_S HP5.out)
        | (with_reducible exact PR_S HPa.out)
        | (with_reducible exact PR_S HPb.out))
      (first
        | ((go_at_call 18); (with_reducible refine (HRW.out _ HP5.out.kv).mono ?_); rintro e wa ⟨ua, rfl, hOa, hba⟩; have HPa := Aside0.mk (HP5.out.step hba); have hsa := OB_string hOa; clear hOa hba)
        | ((go_at_call 19); (with_reducible refine (lenZ_calls HPa.out.rn z HN.out).mono ?_); rintro e wl ⟨rfl, rfl⟩)
        | ((go_at_call 13); (with_reducible refine (lives_calls _).mono ?_); rintro e wb ⟨rfl, hbb⟩; have HPb := Aside0.mk (HPa.out.step hbb)))
    all_goals go_wp2
    all_goals go_ret
    all_goals exact ⟨by first | rfl | kernel_rfl, by first | exact HPb.out.bel | (go_split_ands; exact (Aside0.out (by assumption)).bel)⟩
end Go.Proofs.Ytmfnbkghfmeekaa.A
