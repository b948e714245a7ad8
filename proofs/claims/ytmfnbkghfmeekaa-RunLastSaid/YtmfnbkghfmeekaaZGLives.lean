/- GLives -/
import Derived.Test.YtmfnbkghfmeekaaZGBack
namespace Go.Proofs.Ytmfnbkghfmeekaa.A
open Go Go.RowKit Go.Proofs.YtmfnbkghfmeekaaW.PrintWords Go.Proofs.YtmfnbkghfmeekaaW.PrintLast Go.Proofs.YtmfnbkghfmeekaaW.PrintMore
open R C
set_option linter.unusedVariables false
set_option linter.unusedSimpArgs false
abbrev lvR (x : ByteArray) (i : Nat) : Vr := ⟨x, 0, 1, 1 + (i : Int), 0, 1, { data := #[] }, false⟩
def livL (x : ByteArray) (n : Nat) : List Vr := (List.range n).map (lvR x)
theorem liv_succ (x : ByteArray) (n : Nat) : livL x (n + 1) = livL x n ++ [lvR x n] := by
  unfold livL
  rw [List.range_succ, List.map_append]
  rfl
theorem liv_len (x : ByteArray) (n : Nat) : (livL x n).length = n := by
  unfold livL
  rw [List.length_map, List.length_range]
theorem liv_run : IsR (livL kK 9) := by
  refine ⟨fun p hp => ?_, ?_⟩
  · obtain ⟨i, hi, rfl⟩ := List.mem_map.1 hp
    have := List.mem_range.1 hi
    exact kK_may (1 + (i : Int)) (by omega) (by omega)
  · unfold SrtV livL
    rw [List.pairwise_map]
    refine List.Pairwise.imp ?_ List.pairwise_lt_range
    intro a b hab
    refine (less_lt _ _).1 ?_
    unfold lessV
    rw [if_pos rfl, if_pos rfl, if_pos rfl, if_neg (by show ¬ (1 + (a : Int)) = 1 + (b : Int); omega)]
    exact decide_eq_true (by show (1 + (a : Int)) < 1 + (b : Int); omega)
theorem liv_last (x : ByteArray) : lastsR (livL x 9) x 0 1 = livL x 9 := by
  unfold lastsR
  refine List.filter_eq_self.2 fun p hp => ?_
  obtain ⟨i, _, rfl⟩ := List.mem_map.1 hp
  rw [show (lvR x i).k = x from rfl, keq.2 rfl]
  rfl
set_option maxRecDepth 100000 in
set_option maxHeartbeats 4000000 in
theorem lives_calls (w : World) : Calls Try.prog 13 #[] w fun e w' => e = .returned (.bool true) ∧ Below w.heap.size w w' := by
  have hir := liv_run
  have hl9 := liv_len kK 9
  have hrl := run_len hir (by rw [hl9]; omega) 2 (by rw [hl9]; omega)
  have hop := open_run hir (by rw [hl9]; omega)
  have hby := runB_range (livL kK 9)
  have hlz := liv_last kK
  have hpf := pcs_flat (livL kK 9)
  have hbr : bldR (livL kK 9) = runB (livL kK 9) := by unfold bldR; rw [(okN_iff _).2 hir]; rfl
  have hbe : bldE (livL kK 9) = 0 := by unfold bldE; rw [(okN_iff _).2 hir]; rfl
  have hsm : smallB (livL kK 9) := small_may hir.1
  have HK := Aside0.mk (fun w => O.refkey_calls 0 { data := #[107] } w (by omega) (by omega) (by decide))
  obtain ⟨x, hx⟩ : ∃ x, kK = x := ⟨_, rfl⟩
  have hx' : O.keyStr 0 { data := #[107] } = x := hx
  rw [hx'] at HK
  rw [hx] at hir hl9 hrl hop hby hlz hpf hbr hbe hsm
  obtain ⟨b, hb⟩ : ∃ b, runB (livL x 9) = b := ⟨_, rfl⟩
  rw [hb] at hrl hop hby hbr
  have HOP := Aside0.mk hop
  have HBY := Aside0.mk hby
  have HLZ := Aside0.mk hlz
  have HPF := Aside0.mk hpf
  have HBR := Aside0.mk hbr
  have HBE := Aside0.mk hbe
  have HSM := Aside0.mk hsm
  have HRL := Aside0.mk hrl
  clear hir hl9 hrl hop hby hlz hpf hbr hbe hsm hb hx hx'
  go_enter Try.func13, Try.ntmps13
  go_wp2_with fail
  go_loopw [1, 2] (fun v1 v2 w' => ∃ (v : Value) (i : Nat), v1 = v ∧ v2 = .int .i64 i ∧ i ≤ 9 ∧ Aside0 (OVr w' w.heap.size v (livL x i)) ∧ Aside0 (Below w.heap.size w w')) (fun v1 v2 _ => 9 - (intOf v2).toNat)
  case atStart => exact ⟨_, 0, rfl, rfl, by omega, ⟨OVr_nil _ _⟩, ⟨Below.refl _ _⟩⟩
  case round =>
    obtain ⟨v, i, rfl, rfl, hi, HO, HB⟩ := hrel
    by_cases hlt : i < 9
    · have j1 : (i : Int) < 9 := by omega
      have k1 : IntKind.i64.wrap (1 + (i : Int)) = 1 + (i : Int) := IntWalk.i64_in _ (by omega)
      go_wp2_with fail
      (with_reducible refine (HK.out _).mono ?_)
      rintro e w1 ⟨rfl, hb1⟩
      have HO1 := Aside0.mk (Kd.R_below HO.out hb1)
      have HB1 := Aside0.mk (below_step HB.out hb1)
      clear hb1
      go_wp2_with ((with_reducible refine gate_dst (N := 21) rfl ?_); refine app_vr rfl rfl rfl rfl HO1.out HB1.out.size (by rw [liv_len]; omega) ?_; intro v4 w4 hO4 hb4 _; have HO4 := Aside0.mk hO4; have HB4 := Aside0.mk (HB1.out.trans hb4); clear hO4 hb4)
      go_roundw
      case rel => exact ⟨_, i + 1, rfl, by push_cast; rfl, hlt, ⟨by rw [liv_succ]; exact HO4.out⟩, HB4⟩
      case measure => simp [intOf]; omega
    · have hi9 : i = 9 := by omega
      subst hi9
      have j1 : ¬ (((9 : Nat) : Int)) < 9 := by omega
      obtain ⟨A, c, rfl, hc, hC⟩ := OVr_readn HO.out 9 (liv_len x 9)
      have HC := Aside0.mk hC
      have HBC := Aside0.mk (build_calls A 9 c (livL x 9) wr hC hc HSM.out (by omega))
      rw [HBE.out, HBR.out] at HBC
      clear hC
      go_wp2_with fail
      (with_reducible refine HBC.out.mono ?_)
      rintro e w2 ⟨u, rfl, hOb, hb2⟩
      obtain ⟨n, hn⟩ : ∃ n, b.length = n := ⟨_, rfl⟩
      obtain ⟨A2, c2, rfl, hc2, hC2⟩ := OB_readn hOb n hn
      have HOC := Aside0.mk (open_calls A2 n c2 b w2 hC2 hc2 HBY.out (by have := HRL.out; omega))
      have HC2 := Aside0.mk (Kd.C_below HC.out hb2)
      have HB2 := Aside0.mk (below_step HB.out hb2)
      clear hOb hb2 hC2
      go_wp2_with fail
      (with_reducible refine HOC.out.mono ?_)
      rintro e w3 ⟨hb3, (⟨h1, -⟩ | ⟨cs, r, h1, rfl, hr⟩)⟩
      · rw [HOP.out] at h1
        cases h1
      · rw [HOP.out] at h1
        injection h1 with h1
        subst h1
        have hrg := RnG_open HBY.out (by have := HRL.out; omega) HOP.out hr
        have HLS := Aside0.mk (last_calls w3 r (pcs (livL x 9)) hrg x 0 1)
        rw [HPF.out, HLZ.out] at HLS
        have HRG := Aside0.mk hr
        have hC3 := Kd.C_below HC2.out hb3
        have HB3 := Aside0.mk (below_step HB2.out hb3)
        obtain ⟨ad, rfl, -⟩ := C_atVr hC3 0 (by omega)
        obtain ⟨z0, z1, z2, z3, z4, z5, z6, z7⟩ := C_atVr' hC3 0 (by omega) (lvR x 0) rfl
        have e8 : ad.add (0 * 8) = ad := by simp [Addr.add]
        rw [e8] at z0
        clear hrg hr hb3 hC3 z1 z2 z3 z4 z5 z6 z7 e8
        go_wp2_with fail
        (with_reducible refine HLS.out.mono ?_)
        rintro e w4 ⟨rfl, hb4⟩
        have ev : lastV (livL x 9) = lvR x 8 := rfl
        have en : decide (livL x 9 ≠ []) = true := rfl
        rw [ev, en]
        have HR4 := Aside0.mk (RnI_below HRG.out (hb4.trans (below_alloc (Below.refl _ _) (vrBox x 0 1 9 0 1 { data := #[] } false) |>.mono hb4.size)))
        have HLN := Aside0.mk (len_calls _ r _ HR4.out)
        rw [HPF.out, liv_len] at HLN
        have HB4 := Aside0.mk (below_step HB3.out hb4)
        clear hb4 ev en
        go_wp2_with fail
        (with_reducible refine HLN.out.mono ?_)
        rintro e w5 ⟨rfl, rfl⟩
        go_wp2_with fail
        go_ret
        exact ⟨rfl, below_alloc HB4.out _⟩
end Go.Proofs.Ytmfnbkghfmeekaa.A
