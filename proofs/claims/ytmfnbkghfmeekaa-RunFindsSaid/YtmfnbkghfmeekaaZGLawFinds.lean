/- GLawFinds -/
import Derived.Test.YtmfnbkghfmeekaaZGOpened
import Derived.Test.YtmfnbkghfmeekaaZGDoc
namespace Go.Proofs.Ytmfnbkghfmeekaa.A
open Go Go.RowKit Go.Proofs.YtmfnbkghfmeekaaW.PrintWords Go.Proofs.YtmfnbkghfmeekaaW.PrintLast Go.Proofs.YtmfnbkghfmeekaaW.PrintMore
open R C
open Go.Op (bytesLess)
set_option linter.unusedVariables false
set_option linter.unusedSimpArgs false
set_option maxRecDepth 100000 in
set_option maxHeartbeats 8000000 in
theorem finds_calls (w : World) (A : Option Addr) (c : Nat) (l : List Vr) (hr : KVr.C w A l.length l) (hc : l.length ≤ c) (hf : ∀ p ∈ l, p.fits) (key : ByteArray) (gk : key.size ≤ maxLen) (br : Int) (gb : IntKind.i64.min ≤ br ∧ br ≤ IntKind.i64.max) (ep : Int) (ge : IntKind.i64.min ≤ ep ∧ ep ≤ IntKind.i64.max) (til : ByteArray) (gt : til.size ≤ maxLen) :
    Calls Try.prog 8 #[.slice A l.length c, .string key, .int .i64 br, .int .i64 ep, .string til] w fun e w' => e = .returned (.bool true) ∧ Below w.heap.size w w' := by
  have HBK := Aside0.mk (blockM_calls 40 (by omega) A l.length c l w hr hc hf)
  rw [show (((40 : Nat)) : Int) = 40 from rfl] at HBK
  generalize l.length = n at *
  clear hr hf
  have hq := eqA28
  clear gk gb ge gt
  go_enter Try.func8, Try.ntmps8
  go_wp2_with fail
  (with_reducible refine HBK.out.mono ?_)
  rintro e w1 ⟨u1, Z, rfl, hO1, hzM, hZ, hb1⟩
  obtain ⟨z, hz⟩ : ∃ z, Z.length = z := ⟨_, rfl⟩
  rw [hz] at hzM
  obtain ⟨A1, c1, rfl, hc1, hC1⟩ := OVr_readn hO1 z hz
  have HC1 := Aside0.mk hC1
  have HB1 := Aside0.mk hb1
  have HIR := Aside0.mk hZ
  have HN := Aside0.mk hz
  have hrl := run_len hZ (by omega) 5 (by omega)
  have hrp := run_pos Z
  have hop := open_run hZ (by omega)
  have hby := runB_range Z
  have HW := Aside0.mk (fun W h => build_calls A1 z c1 Z W h hc1 (small_may hZ.1) (by omega))
  have hbr : bldR Z = runB Z := by unfold bldR; rw [(okN_iff _).2 hZ]; rfl
  have hbe : bldE Z = 0 := by unfold bldE; rw [(okN_iff _).2 hZ]; rfl
  rw [hbe, hbr] at HW
  have HRW := Aside0.mk (fun W h => rbuild_calls A1 z c1 Z W h hc1 hZ (by omega))
  obtain ⟨B, hB⟩ : ∃ B, runB Z = B := ⟨_, rfl⟩
  rw [hB] at HW HRW hrl hrp hop hby
  have HBB := Aside0.mk hB
  have HOP := Aside0.mk hop
  have HBY := Aside0.mk hby
  obtain ⟨p, hp⟩ : ∃ p, B.length = p := ⟨_, rfl⟩
  rw [hp] at hrl hrp
  have HPN := Aside0.mk hp
  clear hO1 hb1 hC1 HBK hZ hz hop hby hbr hbe hB hp
  go_wp2_with fail
  (with_reducible refine (HW.out _ HC1.out).mono ?_)
  rintro e w2 ⟨u2, rfl, hO2, hb2⟩
  obtain ⟨A2, c2, rfl, hc2, hC2⟩ := OB_readn hO2 p HPN.out
  have HC2 := Aside0.mk hC2
  have HP2 := Aside0.mk (show OB w2 0 (.slice A2 p c2) B ∧ KVr.C w2 A1 z Z ∧ Below w.heap.size w w2 from ⟨Kd.R_lower hO2 (Nat.zero_le _), Kd.C_below HC1.out hb2, below_step HB1.out hb2⟩)
  clear hO2 hb2 HB1 HC1 hC2 HW
  go_wp2_with fail
  (with_reducible refine (open_calls A2 p c2 B w2 HC2.out hc2 HBY.out (by omega)).mono ?_)
  rintro e w3 ⟨hb3, (⟨h1, -⟩ | ⟨cs, r, h1, rfl, hr3⟩)⟩
  · rw [HOP.out] at h1
    cases h1
  · rw [HOP.out] at h1
    injection h1 with h1
    subst h1
    have HP3 : Aside0 (PR w (.slice A2 p c2) B A1 z Z r w3) := ⟨Kd.R_below HP2.out.1 hb3, Kd.C_below HP2.out.2.1 hb3, RnG_open HBY.out (by rw [HPN.out]; omega) HOP.out hr3, below_step HP2.out.2.2 hb3⟩
    clear hb3 hr3 HP2 HC2
    go_wp2_with fail
    (with_reducible refine (ofZ_calls HP3.out.rn key).mono ?_)
    rintro e w4 ⟨u4, rfl, hO4, hb4⟩
    obtain ⟨X4, hX4⟩ : ∃ X, ofR Z key = X := ⟨_, rfl⟩
    rw [hX4] at hO4
    obtain ⟨x4, hx4⟩ : ∃ x, X4.length = x := ⟨_, rfl⟩
    obtain ⟨A4, c4, rfl, hc4, hC4⟩ := OVr_readn hO4 x4 hx4
    have hl4 : x4 ≤ 1000 := by
      have h9 : (ofR Z key).length ≤ Z.length := List.length_filter_le _ _
      rw [hX4, hx4, HN.out] at h9
      omega
    have HC4 := Aside0.mk hC4
    have HXE4 := Aside0.mk hX4
    have HXL4 := Aside0.mk hx4
    have HP4 := Aside0.mk (HP3.out.step hb4)
    clear hO4 hb4 hC4 hX4 hx4
    go_wp2_with fail
    (with_reducible refine (of9_calls A1 z c1 Z key _ HP4.out.kv hc1 (by omega)).mono ?_)
    rintro e w5 ⟨u5, rfl, hO5, hb5⟩
    rw [HXE4.out] at hO5
    obtain ⟨A5, c5, rfl, hc5, hC5⟩ := OVr_readn hO5 x4 HXL4.out
    have HC5 := Aside0.mk hC5
    have HD5 := Aside0.mk (Kd.C_below HC4.out hb5)
    have HP5 := Aside0.mk (HP4.out.step hb5)
    clear hO5 hb5 hC5
    go_wp2_with fail
    (with_reducible refine (same_calls A4 A5 x4 c4 c5 X4 _ HD5.out HC5.out hc4 hc5).mono ?_)
    rintro e w6 ⟨rfl, hb6⟩
    have HP6 := Aside0.mk (HP5.out.step hb6)
    clear hb6 HC4 HC5 HD5 HP4 HP5
    go_wp2_with fail
    (with_reducible refine (rangeZ_calls HP6.out.rn key til).mono ?_)
    rintro e w7 ⟨u7, rfl, hO7, hb7⟩
    obtain ⟨X7, hX7⟩ : ∃ X, rangeR Z key til = X := ⟨_, rfl⟩
    rw [hX7] at hO7
    obtain ⟨x7, hx7⟩ : ∃ x, X7.length = x := ⟨_, rfl⟩
    obtain ⟨A7, c7, rfl, hc7, hC7⟩ := OVr_readn hO7 x7 hx7
    have hl7 : x7 ≤ 1000 := by
      have h9 : (rangeR Z key til).length ≤ Z.length := List.length_filter_le _ _
      rw [hX7, hx7, HN.out] at h9
      omega
    have HC7 := Aside0.mk hC7
    have HXE7 := Aside0.mk hX7
    have HXL7 := Aside0.mk hx7
    have HP7 := Aside0.mk (HP6.out.step hb7)
    clear hO7 hb7 hC7 hX7 hx7
    go_wp2_with fail
    (with_reducible refine (range9_calls A1 z c1 Z key til _ HP7.out.kv hc1 (by omega)).mono ?_)
    rintro e w8 ⟨u8, rfl, hO8, hb8⟩
    rw [HXE7.out] at hO8
    obtain ⟨A8, c8, rfl, hc8, hC8⟩ := OVr_readn hO8 x7 HXL7.out
    have HC8 := Aside0.mk hC8
    have HD8 := Aside0.mk (Kd.C_below HC7.out hb8)
    have HP8 := Aside0.mk (HP7.out.step hb8)
    clear hO8 hb8 hC8
    go_wp2_with fail
    (with_reducible refine (same_calls A7 A8 x7 c7 c8 X7 _ HD8.out HC8.out hc7 hc8).mono ?_)
    rintro e w9 ⟨rfl, hb9⟩
    have HP9 := Aside0.mk (HP8.out.step hb9)
    clear hb9 HC7 HC8 HD8 HP7 HP8
    obtain ⟨q, hq1⟩ : ∃ q, lastV (lastsR Z key br ep) = q := ⟨_, rfl⟩
    obtain ⟨b, hq2⟩ : ∃ b, decide (lastsR Z key br ep ≠ []) = b := ⟨_, rfl⟩
    have HLA := Aside0.mk (lastZ_calls HP9.out.rn key br ep)
    have HLD := Aside0.mk (fun W h => last9_calls A1 z c1 Z key br ep W h hc1 (by omega))
    rw [hq1, hq2] at HLA HLD
    clear hq1 hq2
    obtain ⟨qk, qbr, qep, qsq, qf, qt, qv, qg⟩ := q
    have hself : eqV ⟨qk, qbr, qep, qsq, qf, qt, qv, qg⟩ ⟨qk, qbr, qep, qsq, qf, qt, qv, qg⟩ = true := (eqV_iff _ _).2 rfl
    go_wp2_with fail
    (with_reducible refine HLA.out.mono ?_)
    rintro e w10 ⟨rfl, hb10⟩
    have HP10 := Aside0.mk ((HP9.out.step hb10).step (below_alloc (Below.refl _ _) (vrBox qk qbr qep qsq qf qt qv qg)))
    clear hb10
    have HX10 := Aside0.mk (heap_alloc_new w10 (vrBox qk qbr qep qsq qf qt qv qg))
    go_wp2_with fail
    (with_reducible refine (HLD.out _ HP10.out.kv).mono ?_)
    rintro e w11 ⟨rfl, hb11⟩
    have HP11 := Aside0.mk ((HP10.out.step hb11).step (below_alloc (Below.refl _ _) (vrBox qk qbr qep qsq qf qt qv qg)))
    obtain ⟨y0, y1, y2, y3, y4, y5, y6, y7⟩ := vr_cells8 (blk_keep (blk_keep HX10.out hb11) (below_alloc (Below.refl _ _) (vrBox qk qbr qep qsq qf qt qv qg)))
    obtain ⟨z0, z1, z2, z3, z4, z5, z6, z7⟩ := vr_cells8 (heap_alloc_new w11 (vrBox qk qbr qep qsq qf qt qv qg))
    clear hb11
    go_wp2_with fail
    (with_reducible refine (lives_calls _).mono ?_)
    rintro e w12 ⟨rfl, hb12⟩
    have HP12 := Aside0.mk (HP11.out.step hb12)
    clear hb12
    go_wp2_with fail
    go_ret
    exact ⟨by first | rfl | kernel_rfl, HP12.out.bel⟩
end Go.Proofs.Ytmfnbkghfmeekaa.A
