/- GLawTurned -/
import Derived.Test.YtmfnbkghfmeekaaZGOpened
namespace Go.Proofs.Ytmfnbkghfmeekaa.A
open Go Go.RowKit Go.Proofs.YtmfnbkghfmeekaaW.PrintWords Go.Proofs.YtmfnbkghfmeekaaW.PrintLast Go.Proofs.YtmfnbkghfmeekaaW.PrintMore
open R C
open Go.Op (bytesLess)
set_option linter.unusedVariables false
set_option linter.unusedSimpArgs false
set_option maxRecDepth 100000 in
set_option maxHeartbeats 8000000 in
theorem turned_calls (w : World) (A : Option Addr) (c : Nat) (l : List Vr) (hr : KVr.C w A l.length l) (hc : l.length ≤ c) (hf : ∀ p ∈ l, p.fits) (a : Int) (ga : IntKind.i64.min ≤ a ∧ a ≤ IntKind.i64.max) (y : Int) (gy : 0 ≤ y ∧ y ≤ 255) :
    Calls Try.prog 6 #[.slice A l.length c, .int .i64 a, .int .u8 y] w fun e w' => e = .returned (.bool true) ∧ Below w.heap.size w w' := by
  have HBK := Aside0.mk (blockM_calls 20 (by omega) A l.length c l w hr hc hf)
  rw [show (((20 : Nat)) : Int) = 20 from rfl] at HBK
  generalize l.length = n at *
  clear hr hf
  have ga0 : -9223372036854775808 ≤ a := ga.1
  have ga1 : a ≤ 9223372036854775807 := ga.2
  clear ga
  go_enter Try.func6, Try.ntmps6
  go_wp2_with fail
  (with_reducible refine HBK.out.mono ?_)
  rintro e w1 ⟨u1, Z, rfl, hO1, hzM, hZ, hb1⟩
  obtain ⟨z, hz⟩ : ∃ z, Z.length = z := ⟨_, rfl⟩
  rw [hz] at hzM
  obtain ⟨A1, c1, rfl, hc1, hC1⟩ := OVr_readn hO1 z hz
  have HC1 := Aside0.mk hC1
  have HB1 := Aside0.mk hb1
  have HIR := Aside0.mk hZ
  have HN := Aside0.mk hz
  have hrl := run_len hZ (by omega) 3 (by omega)
  have hrp := run_pos Z
  have hop := open_run hZ (by omega)
  have hby := runB_range Z
  have HW := Aside0.mk (fun W h => build_calls A1 z c1 Z W h hc1 (small_may hZ.1) (by omega))
  have hbr : bldR Z = runB Z := by unfold bldR; rw [(okN_iff _).2 hZ]; rfl
  have hbe : bldE Z = 0 := by unfold bldE; rw [(okN_iff _).2 hZ]; rfl
  rw [hbe, hbr] at HW
  have HRW := Aside0.mk (fun W h => rbuild_calls A1 z c1 Z W h hc1 hZ (by omega))
  obtain ⟨B, hB⟩ : ∃ B, runB Z = B := ⟨_, rfl⟩
  rw [hB] at HW HRW hrl hrp hop hby
  have HBB := Aside0.mk hB
  have HOP := Aside0.mk hop
  have HBY := Aside0.mk hby
  obtain ⟨p, hp⟩ : ∃ p, B.length = p := ⟨_, rfl⟩
  rw [hp] at hrl hrp
  have HPN := Aside0.mk hp
  clear hO1 hb1 hC1 HBK hZ hz hop hby hbr hbe hB hp
  go_wp2_with fail
  (with_reducible refine (HW.out _ HC1.out).mono ?_)
  rintro e w2 ⟨u2, rfl, hO2, hb2⟩
  obtain ⟨A2, c2, rfl, hc2, hC2⟩ := OB_readn hO2 p HPN.out
  obtain ⟨g, rfl, hg⟩ := F.R_block hO2 (by omega)
  obtain ⟨a', hA⟩ : ∃ a' : Nat, (if a < 0 then -(a + 1) else a) = (a' : Int) := ⟨(if a < 0 then -(a + 1) else a).toNat, by split <;> omega⟩
  have ha' : a' ≤ 9223372036854775807 := by split at hA <;> omega
  obtain ⟨j, hj⟩ : ∃ j, a' % p = j := ⟨_, rfl⟩
  have hjp : j < p := by rw [← hj]; exact Nat.mod_lt _ (by omega)
  have hjI : (a' : Int) % (p : Int) = (j : Int) := by rw [← hj]; rfl
  obtain ⟨hcel, hfro⟩ := R_cellN hO2 j hjp
  have hzr : 0 ≤ B.getD j 0 ∧ B.getD j 0 ≤ 255 := HBY.out _ (by rw [List.getD_eq_getElem?_getD, List.getElem?_eq_getElem (by rw [HPN.out]; exact hjp)]; exact List.getElem_mem _)
  have hL0 : y = 0 → B.set j (bits .xor .u8 (B.getD j 0) y) = B := fun e => by
    have h9 : j < B.length := by rw [HPN.out]; exact hjp
    rw [e, F.xor8_zero _ hzr, List.getD_eq_getElem?_getD, List.getElem?_eq_getElem h9]
    exact List.set_getElem_self _
  have hLY : ∀ x ∈ B.set j (bits .xor .u8 (B.getD j 0) y), 0 ≤ x ∧ x ≤ 255 := fun x hx => by
    rcases List.mem_or_eq_of_mem_set hx with h9 | h9
    · exact HBY.out x h9
    · rw [h9]; exact F.xor8_range _ _
  have hLl : (B.set j (bits .xor .u8 (B.getD j 0) y)).length = p := by rw [List.length_set]; exact HPN.out
  have hpt := R_putN hO2 j (bits .xor .u8 (B.getD j 0) y)
  have hst : Below w.heap.size w (w2.setCell ⟨g, j, none⟩ (.int .u8 (bits .xor .u8 (B.getD j 0) y))) := (below_step HB1.out hb2).setCell (p := ⟨g, j, none⟩) (by have := HB1.out.size; show w.heap.size ≤ g; omega) _
  generalize B.set j (bits .xor .u8 (B.getD j 0) y) = L at *
  generalize B.getD j 0 = z0 at *
  have HL0 := Aside0.mk hL0
  have HLY := Aside0.mk hLY
  have HLL := Aside0.mk hLl
  have hdr : Below w.heap.size w (w2.setCell ⟨g, j, none⟩ (.int .u8 (bits .xor .u8 z0 y))).drew := below_step hst (below_drew1 (Below.refl _ _))
  have hpd := Kd.R_below hpt (below_drew1 (Below.refl _ _))
  have HPT := Aside0.mk hpd
  have HST := Aside0.mk hdr
  have HOC := Aside0.mk (open_calls _ p c2 L _ (F.OB_C hpd) hc2 hLY (by omega))
  clear hO2 hb2 hC2 hzr hL0 hLY hLl hpt hst HW HRW HC1 HB1 hpd hdr
  obtain ⟨aa, haa⟩ : ∃ aa : Int, aa = a := ⟨a, rfl⟩
  rcases Int.lt_or_le a 0 with sa | sa <;> (first | rw [if_pos sa] at hA | rw [if_neg (by omega)] at hA)
  · have hW : -((a + 1).tmod (p : Int)) = (j : Int) := by
      have e1 : a + 1 = -(a' : Int) := by omega
      rw [e1, Int.neg_tmod, Int.neg_neg, Int.tmod_eq_emod_of_nonneg (by omega), hjI]
    clear hj hA hjI haa
    go_wp2_with fail
    go_region
    go_wp2_with fail
    (with_reducible refine HOC.out.mono ?_)
    rintro e w3 ⟨hb3, (⟨h1, rfl⟩ | ⟨cs, r, h1, rfl, hr3⟩)⟩
    · have hy : ¬ y = 0 := fun e => by
        rw [HL0.out e, HOP.out] at h1
        cases h1
      have hy2 : (y != 0) = true := by simpa using hy
      have HB3 := Aside0.mk (below_step HST.out hb3)
      clear hb3 h1
      go_wp2_with fail
      (with_reducible refine (lives_calls _).mono ?_)
      rintro e w6 ⟨rfl, hb6⟩
      have HB6 := Aside0.mk (below_step HB3.out hb6)
      clear hb6
      go_wp2_with fail
      go_ret
      exact ⟨by first | rfl | (show Ending.returned (.bool (y != 0)) = _; rw [hy2]), HB6.out⟩
    · have hrg := RnG_open HLY.out (by rw [HLL.out]; omega) h1 hr3
      obtain ⟨-, hir, hln, hrb⟩ := open_some HLY.out h1
      rw [HLL.out] at hln
      have HAL := Aside0.mk (all_calls w3 r cs hrg)
      obtain ⟨X, hX⟩ : ∃ X, cs.flatten = X := ⟨_, rfl⟩
      rw [hX] at HAL hir hln hrb
      obtain ⟨x, hx⟩ : ∃ x, X.length = x := ⟨_, rfl⟩
      rw [hx] at hln
      have HBX := Aside0.mk (fun A c W h hc => build_calls A x c X W h hc (small_may hir.1) (by omega))
      have hbr : bldR X = L := by unfold bldR; rw [(okN_iff _).2 hir]; exact hrb
      have hbe : bldE X = 0 := by unfold bldE; rw [(okN_iff _).2 hir]; rfl
      rw [hbe, hbr] at HBX
      have HB3 := Aside0.mk (below_step HST.out hb3)
      have HPT3 := Aside0.mk (Kd.R_below HPT.out hb3)
      have HXL := Aside0.mk hx
      clear hb3 h1 hr3 hrg hir hrb hX hx hbr hbe
      go_wp2_with fail
      (with_reducible refine HAL.out.mono ?_)
      rintro e w4 ⟨u4, rfl, hO4, hb4⟩
      obtain ⟨A4, c4, rfl, hc4, hC4⟩ := OVr_readn hO4 x HXL.out
      have HC4 := Aside0.mk hC4
      have HB4 := Aside0.mk (below_step HB3.out hb4)
      have HPT4 := Aside0.mk (Kd.R_below HPT3.out hb4)
      clear hO4 hb4 hC4
      go_wp2_with fail
      (with_reducible refine (HBX.out A4 c4 _ HC4.out hc4).mono ?_)
      rintro e w5 ⟨u5, rfl, hO5, hb5⟩
      have HB5 := Aside0.mk (below_step HB4.out hb5)
      have E2 := OB_string (Kd.R_below HPT4.out hb5)
      have E1 := OB_string hO5
      obtain ⟨A5, c5, rfl, hc5, hC5⟩ := OB_readn hO5 p HLL.out
      clear hO5 hb5 hC5
      go_wp2_with fail
      (with_reducible refine (lives_calls _).mono ?_)
      rintro e w6 ⟨rfl, hb6⟩
      have HB6 := Aside0.mk (below_step HB5.out hb6)
      clear hb6
      go_wp2_with fail
      go_ret
      exact ⟨rfl, HB6.out⟩
  · have hW : a.tmod (p : Int) = (j : Int) := by rw [Int.tmod_eq_emod_of_nonneg sa, hA, hjI]
    have hW2 : a % (p : Int) = (j : Int) := by rw [hA, hjI]
    clear hj hA hjI haa
    go_wp2_with fail
    go_region
    go_wp2_with fail
    (with_reducible refine HOC.out.mono ?_)
    rintro e w3 ⟨hb3, (⟨h1, rfl⟩ | ⟨cs, r, h1, rfl, hr3⟩)⟩
    · have hy : ¬ y = 0 := fun e => by
        rw [HL0.out e, HOP.out] at h1
        cases h1
      have hy2 : (y != 0) = true := by simpa using hy
      have HB3 := Aside0.mk (below_step HST.out hb3)
      clear hb3 h1
      go_wp2_with fail
      (with_reducible refine (lives_calls _).mono ?_)
      rintro e w6 ⟨rfl, hb6⟩
      have HB6 := Aside0.mk (below_step HB3.out hb6)
      clear hb6
      go_wp2_with fail
      go_ret
      exact ⟨by first | rfl | (show Ending.returned (.bool (y != 0)) = _; rw [hy2]), HB6.out⟩
    · have hrg := RnG_open HLY.out (by rw [HLL.out]; omega) h1 hr3
      obtain ⟨-, hir, hln, hrb⟩ := open_some HLY.out h1
      rw [HLL.out] at hln
      have HAL := Aside0.mk (all_calls w3 r cs hrg)
      obtain ⟨X, hX⟩ : ∃ X, cs.flatten = X := ⟨_, rfl⟩
      rw [hX] at HAL hir hln hrb
      obtain ⟨x, hx⟩ : ∃ x, X.length = x := ⟨_, rfl⟩
      rw [hx] at hln
      have HBX := Aside0.mk (fun A c W h hc => build_calls A x c X W h hc (small_may hir.1) (by omega))
      have hbr : bldR X = L := by unfold bldR; rw [(okN_iff _).2 hir]; exact hrb
      have hbe : bldE X = 0 := by unfold bldE; rw [(okN_iff _).2 hir]; rfl
      rw [hbe, hbr] at HBX
      have HB3 := Aside0.mk (below_step HST.out hb3)
      have HPT3 := Aside0.mk (Kd.R_below HPT.out hb3)
      have HXL := Aside0.mk hx
      clear hb3 h1 hr3 hrg hir hrb hX hx hbr hbe
      go_wp2_with fail
      (with_reducible refine HAL.out.mono ?_)
      rintro e w4 ⟨u4, rfl, hO4, hb4⟩
      obtain ⟨A4, c4, rfl, hc4, hC4⟩ := OVr_readn hO4 x HXL.out
      have HC4 := Aside0.mk hC4
      have HB4 := Aside0.mk (below_step HB3.out hb4)
      have HPT4 := Aside0.mk (Kd.R_below HPT3.out hb4)
      clear hO4 hb4 hC4
      go_wp2_with fail
      (with_reducible refine (HBX.out A4 c4 _ HC4.out hc4).mono ?_)
      rintro e w5 ⟨u5, rfl, hO5, hb5⟩
      have HB5 := Aside0.mk (below_step HB4.out hb5)
      have E2 := OB_string (Kd.R_below HPT4.out hb5)
      have E1 := OB_string hO5
      obtain ⟨A5, c5, rfl, hc5, hC5⟩ := OB_readn hO5 p HLL.out
      clear hO5 hb5 hC5
      go_wp2_with fail
      (with_reducible refine (lives_calls _).mono ?_)
      rintro e w6 ⟨rfl, hb6⟩
      have HB6 := Aside0.mk (below_step HB5.out hb6)
      clear hb6
      go_wp2_with fail
      go_ret
      exact ⟨rfl, HB6.out⟩
end Go.Proofs.Ytmfnbkghfmeekaa.A
