/- GLawIs -/
import Derived.Test.YtmfnbkghfmeekaaZGLives
namespace Go.Proofs.Ytmfnbkghfmeekaa.A
open Go Go.RowKit Go.Proofs.YtmfnbkghfmeekaaW.PrintWords Go.Proofs.YtmfnbkghfmeekaaW.PrintLast Go.Proofs.YtmfnbkghfmeekaaW.PrintMore
open R C
set_option linter.unusedVariables false
set_option linter.unusedSimpArgs false
set_option maxRecDepth 100000 in
set_option maxHeartbeats 8000000 in
theorem is_calls (w : World) (A : Option Addr) (c : Nat) (l : List Vr) (hr : KVr.C w A l.length l) (hc : l.length ≤ c) (hf : ∀ p ∈ l, p.fits) :
    Calls Try.prog 3 #[.slice A l.length c] w fun e w' => e = .returned (.bool true) ∧ Below w.heap.size w w' := by
  have HR := Aside0.mk hr
  have HF := Aside0.mk hf
  have hmx : l.length ≤ 9223372036854775807 := hr.2.1
  obtain ⟨n, hn⟩ : ∃ n, l.length = n := ⟨_, rfl⟩
  have HN := Aside0.mk hn
  rw [hn] at hc hmx HR ⊢
  clear hr hf hn
  go_enter Try.func3, Try.ntmps3
  go_wp2_with fail
  go_loopw [3, 4] (fun v3 v4 w' => ∃ (k : Nat), k ≤ n ∧ k ≤ 20 ∧ v4 = .int .i64 k ∧ Aside0 (OVr w' w.heap.size v3 (ownL l k)) ∧ Aside0 (Below w.heap.size w w')) (fun _ v4 _ => 20 - (intOf v4).toNat)
  case atStart => exact ⟨0, Nat.zero_le _, by omega, rfl, ⟨OVr_nil _ _⟩, ⟨Below.refl _ _⟩⟩
  case round =>
    obtain ⟨k, hk, hk6, rfl, HO, HB⟩ := hrel
    by_cases hlt : k < n ∧ k < 20
    · obtain ⟨hlt, hl6⟩ := hlt
      have HX := Aside0.mk (C_atVr (Kd.C_below HR.out HB.out) k hlt)
      have HNX := Aside0.mk (ownL_next l k n HN.out hlt)
      have HLN := Aside0.mk (ownL_len l k n HN.out hk)
      have hfq := HF.out _ (getD_mem l k (by rw [HN.out]; exact hlt))
      generalize l.getD k default = q at *
      obtain ⟨qk, qbr, qep, qsq, qf, qt, qv, qg⟩ := q
      have i1 : qk.size ≤ 9223372036854775807 := hfq.1
      have i2 : qv.size ≤ 9223372036854775807 := hfq.2
      obtain ⟨ad, rfl, p0, p1, p2, p3, p4, p5, p6, p7⟩ := HX.out
      clear HX hfq
      have j1 : (k : Int) < (n : Int) := by omega
      have j2 : (0 : Int) ≤ (k : Int) := by omega
      have j3 : (k : Int) < 20 := by omega
      go_wp2_with fail
      (with_reducible refine (cut_calls qk qbr qep qsq qf qt qv qg _ i1 i2).mono ?_)
      rintro e w1 ⟨rfl, hb1⟩
      have HE : Aside0 (cutV ⟨qk, qbr, qep, qsq, qf, qt, qv, qg⟩ = ⟨cutS qk 110, qbr, qep, qsq, qf, qt, cutS qv 210, qg⟩) := ⟨rfl⟩
      generalize cutS qk 110 = k1 at *
      generalize cutS qv 210 = v1 at *
      have HO1 := Aside0.mk (Kd.R_below HO.out hb1)
      have HB1 := Aside0.mk (below_step HB.out hb1)
      clear hb1 HO HB p0 p1 p2 p3 p4 p5 p6 p7
      go_wp2_with ((with_reducible refine gate_dst (N := 25) rfl ?_); refine app_vr rfl rfl rfl rfl HO1.out HB1.out.size (by rw [HLN.out]; omega) ?_; intro v4 w4 hO4 hb4 _; have HO5 := Aside0.mk hO4; have HB5 := Aside0.mk (HB1.out.trans hb4); clear hO4 hb4)
      go_roundw
      case rel => exact ⟨k + 1, hlt, hl6, rfl, ⟨by rw [HNX.out, HE.out]; exact HO5.out⟩, HB5⟩
      case measure => simp [intOf]; omega
    · have HLN := Aside0.mk (ownL_len l k n HN.out hk)
      have HSM := Aside0.mk (ownL_small l k)
      generalize ownL l k = Y at *
      obtain ⟨A3, c3, rfl, hc3, hC3⟩ := OVr_readn HO.out k HLN.out
      have HC3 := Aside0.mk hC3
      clear hC3 HO HR HF HN
      obtain ⟨mb, hmb⟩ : ∃ mb, okN Y Y.length = mb := ⟨_, rfl⟩
      have HIS := Aside0.mk (fun W h => isrun_calls A3 k c3 Y W h hc3 HSM.out)
      have HBD := Aside0.mk (fun W h => build_calls A3 k c3 Y W h hc3 HSM.out (by omega))
      have e1 : bldE Y = if mb then 0 else 1 := by unfold bldE; rw [hmb]
      have e2 : mb = false → bldR Y = [] := by intro h; unfold bldR; rw [hmb, h]; rfl
      rw [e1] at HBD
      rw [hmb] at HIS
      have HE2 := Aside0.mk e2
      clear e1 e2 hmb HSM
      rcases (show (¬ (k : Int) < (n : Int)) ∨ ((k : Int) < (n : Int) ∧ ¬ (k : Int) < 20) by omega) with j1 | ⟨j1, j3⟩
      all_goals clear hlt
      all_goals go_wp2_with fail
      all_goals (with_reducible refine (HIS.out _ HC3.out).mono ?_)
      all_goals rintro e w1 ⟨rfl, hb1⟩
      all_goals have HC1 := Aside0.mk (Kd.C_below HC3.out hb1)
      all_goals have HB1 := Aside0.mk (below_step HB.out hb1)
      all_goals clear hb1 HC3 HB
      all_goals cases mb with
        | false =>
          rw [HE2.out rfl] at HBD
          go_wp2_with fail
          (with_reducible refine (HBD.out _ HC1.out).mono ?_)
          rintro e w2 ⟨u, rfl, hO2, hb2⟩
          have HB2 := Aside0.mk (below_step HB1.out hb2)
          obtain ⟨Au, cu, rfl, hcu, -⟩ := OB_readn hO2 0 rfl
          clear hb2 HC1 HB1 hO2
          go_wp2_with fail
          (with_reducible refine (lives_calls _).mono ?_)
          rintro e w6 ⟨rfl, hb6⟩
          have HB6 := Aside0.mk (below_step HB2.out hb6)
          clear hb6
          go_wp2_with fail
          go_ret
          exact ⟨rfl, HB6.out⟩
        | true =>
          go_wp2_with fail
          (with_reducible refine (HBD.out _ HC1.out).mono ?_)
          rintro e w2 ⟨u, rfl, -, hb2⟩
          have HB2 := Aside0.mk (below_step HB1.out hb2)
          clear hb2 HC1 HB1
          go_wp2_with fail
          (with_reducible refine (lives_calls _).mono ?_)
          rintro e w6 ⟨rfl, hb6⟩
          have HB6 := Aside0.mk (below_step HB2.out hb6)
          clear hb6
          go_wp2_with fail
          go_ret
          exact ⟨rfl, HB6.out⟩
end Go.Proofs.Ytmfnbkghfmeekaa.A
