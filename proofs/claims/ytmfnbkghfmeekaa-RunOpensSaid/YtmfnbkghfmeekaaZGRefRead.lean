/- GRefRead -/
import Derived.Test.YtmfnbkghfmeekaaZGRefReadP
import Derived.Deep.RegionHeld
import Derived.StillTailTactics
import Derived.Test.YtmfnbkghfmeekaaZIHeld
namespace Go.Proofs.Ytmfnbkghfmeekaa.A
open Go.RowKit Go.Proofs.YtmfnbkghfmeekaaW.PrintWords Go.Proofs.YtmfnbkghfmeekaaW.PrintLast Go.Proofs.YtmfnbkghfmeekaaW.PrintMore
open R C
set_option linter.unusedVariables false
set_option linter.unusedSimpArgs false
set_option maxRecDepth 100000 in
set_option maxHeartbeats 16000000 in
theorem rread8_calls (A : Option Addr) (n c : Nat) (bs : List Int) (w : World) (hr : U8.C w A n bs) (hc : n ≤ c) (hl : n ≤ 100000) (hby : ∀ x ∈ bs, 0 ≤ x ∧ x ≤ 255) :
    Calls Try.prog 49 #[.slice A n c] w fun e w' => ∃ u, e = .returned (.tuple #[u, .int .i64 (readB bs).2]) ∧ OVr w' w.heap.size u (readB bs).1 ∧ Below w.heap.size w w' := by
  have HF : Aside0 (FS w w.heap.size A n c bs) := ⟨⟨hr, Nat.le_refl _, hc, hby, hl⟩⟩
  have HN := Aside0.mk hr.1
  have HOK : Aside0 (okS (bs, 0)) := ⟨⟨hby, fun h => absurd rfl h⟩⟩
  have HSP : Aside0 (rbAll bs = rb (bs.length + 2) (numS (bs, 0)).1 0 { data := #[] } (numS (bs, 0)).2) := ⟨rfl⟩
  have HFP : Aside0 (fbAll bs = fb (bs.length + 2) (numS (bs, 0)).1 0 { data := #[] } (numS (bs, 0)).2) := ⟨rfl⟩
  have HRD := Aside0.mk (read_fine bs)
  obtain ⟨RB, hRB⟩ : ∃ RB, rbAll bs = RB := ⟨_, rfl⟩
  obtain ⟨FB, hFB⟩ : ∃ FB, fbAll bs = FB := ⟨_, rfl⟩
  obtain ⟨RD, hRD⟩ : ∃ RD, readB bs = RD := ⟨_, rfl⟩
  rw [hRB] at HSP HRD
  rw [hFB] at HFP HRD
  rw [hRD] at HRD ⊢
  obtain ⟨rdl, rde⟩ := RD
  obtain ⟨rbl, rbs⟩ := RB
  simp only at HRD ⊢
  obtain ⟨g, hg⟩ : ∃ g, w.heap.size = g := ⟨_, rfl⟩
  have HQ1 : Aside0 (QE A n c bs w w g (w.alloc (V.rfr A n c 0 0)).heap.size (.slice none 0 0) [] (w.alloc (V.rfr A n c 0 0)) (bs, 0)) := by
    rw [← hg]
    exact ⟨⟨⟨⟨0, heap_alloc_new w _, fun _ => ⟨Nat.zero_le _, rfl⟩⟩, below_alloc (Below.refl _ _) _⟩, Kd.R_nil _ _ _ _ _, below_alloc (Below.refl _ _) _⟩⟩
  rw [hg] at HF
  have h0 : w.heap.size ≤ g := by omega
  have hg1 : g < (w.alloc (V.rfr A n c 0 0)).heap.size := by rw [World.size_alloc]; omega
  obtain ⟨w1, hw1⟩ : ∃ w1, w.alloc (V.rfr A n c 0 0) = w1 := ⟨_, rfl⟩
  rw [hw1] at HQ1 hg1
  have HW1 := Aside0.mk hw1
  have HG := Aside0.mk hg
  clear hr hby hRB hRD hFB hg hw1
  go_enter Try.func49, Try.ntmps49
  go_wp2_with fail
  have hw1 := HW1.out
  rw [HG.out, hw1]
  clear hw1
  (with_reducible refine (rnumS_calls w w1 g A n c bs (bs, 0) HF.out (QE_rs HQ1.out)).mono ?_)
  rintro e w2 ⟨rfl, hR2, hg2⟩
  have hz2 := hg2.size
  have HQ2 := Aside0.mk (QE_num HQ1.out h0 hR2 hg2)
  have HOK2 := Aside0.mk (okS_num HOK.out)
  have hln := len_num HOK.out
  generalize numS (bs, 0) = NN at *
  obtain ⟨N, s1⟩ := NN
  simp only at HSP HFP HOK2 hln
  obtain ⟨⟨hN0, hN1⟩, _⟩ := HOK2.out.2
  have HK1 := Aside0.mk HOK2.out.1
  have hln1 : s1.1.length ≤ n := by have := HN.out; omega
  clear hR2 hg2 HQ1 hln HOK2 HG HW1
  go_wp2_with fail
  go_loopw [6, 7, 8, 9] (fun v6 v7 v8 v9 w' => ∃ (cnt f : Nat) (key : ByteArray) (s : St) (out : List Vr) (fi : Bool), v6 = .string key ∧ v8 = .bool fi ∧ v9 = .int .i64 cnt ∧ Aside0 (out.length = cnt) ∧ Aside0 (out ++ (rb f N cnt key s).1 = rbl ∧ (rb f N cnt key s).2 = rbs) ∧ Aside0 ((fi && fb f N cnt key s) = FB) ∧ muS s ≤ f ∧ cnt + muS s ≤ n + 1 ∧ key.size + s.1.length ≤ n ∧ Aside0 (okS s) ∧ Aside0 (∀ p ∈ out, p.k.size ≤ n ∧ p.v.size ≤ 200) ∧ Aside0 (QE A n c bs w w g w'.heap.size v7 out w' s) ∧ g < w'.heap.size) (fun _ _ _ v9 _ => N.toNat - (intOf v9).toNat)
  case atStart => exact ⟨0, n + 2, { data := #[] }, s1, [], true, rfl, rfl, rfl, ⟨rfl⟩, ⟨by have h := HSP.out; rw [HN.out] at h; simp only [List.nil_append]; rw [← h]; exact ⟨rfl, rfl⟩⟩, ⟨by have h := HFP.out; rw [HN.out] at h; rw [Bool.true_and]; exact h.symm⟩, by unfold muS; split <;> omega, by unfold muS; split <;> omega, by show 0 + _ ≤ _; omega, HK1, ⟨by simp⟩, ⟨⟨QE_rs HQ2.out, Kd.R_mono (Kd.R_bound HQ2.out.2.1) (fun k hk => hk.2.2.1), HQ2.out.2.2⟩⟩, by omega⟩
  case round =>
    obtain ⟨cnt, f, key, s, out, fi, rfl, rfl, rfl, HLEN, HTOT, HFB, hmu, hcm, hks, HOS, HSM, HQ, hgr⟩ := hrel
    by_cases hcn : s.2 = 0 ∧ (cnt : Int) < N
    · obtain ⟨hs0, hcN⟩ := hcn
      have hmulen : muS s = s.1.length + 1 := by unfold muS; rw [if_pos hs0]
      obtain ⟨f', rfl⟩ : ∃ f', f = f' + 1 := ⟨f - 1, by omega⟩
      have hT := HTOT.out
      rw [rb_go hs0 hcN] at hT
      have hF := HFB.out
      rw [fb_go hs0 hcN] at hF
      have m1 := mu_lt key HOS.out hs0
      have m2 := keyB_size (key := key) HOS.out
      obtain ⟨k0, k1, k2, k3, k4, k5, k6, k7, k8⟩ := okB HOS.out
      have z1 : ((textS 200 (s6B s)).1.size : Int) ≤ 200 := textS_size 200 (by decide) k7
      have hts : ((textS 200 (numS s).2).1.size : Int) ≤ 200 := textS_size 200 (by decide) k0
      have e4 := (okS_num k4).2.1
      have e5 := (okS_num k5).2.1
      have e0 := (okS_num HOS.out).2.1.1
      have e8 : (oneB key s).2 = (textS 200 (s6B s)).2 := rfl
      have e9 : (oneB key s).1.v = (textS 200 (s6B s)).1 := rfl
      have e7 : (oneB key s).1.k = C.keyB key s := rfl
      rw [← e8] at k8
      rw [← e9] at z1
      rw [← e7] at m2
      obtain ⟨P1, hP1⟩ : ∃ P1, oneB key s = P1 := ⟨_, rfl⟩
      have HONE : Aside0 (P1 = oneB key s) := ⟨hP1.symm⟩
      rw [hP1] at hT hF m1 m2 k8 z1
      have HT := Aside0.mk hT
      have HZ := Aside0.mk z1
      have K8 := Aside0.mk k8
      have M1 := Aside0.mk m1
      have M2 := Aside0.mk m2
      have K0 := Aside0.mk k0
      have K7 := Aside0.mk k7
      have hwr : IntKind.i64.wrap ((numS (s3B s)).1 + (numS (s4B s)).1) = (numS (s3B s)).1 + (numS (s4B s)).1 := IntWalk.i64_in _ (by omega)
      have HWR := Aside0.mk hwr
      obtain ⟨cn, hcnn⟩ : ∃ cn, cutN key (numS s).1 = cn := ⟨_, rfl⟩
      obtain ⟨I, hI1, hI2⟩ := (QE_rs HQ.out).1
      obtain ⟨c0, c1, c2⟩ := V.rfr_cells hI1
      rw [hs0] at c2
      have K0 := Aside0.mk k0
      have hkb : C.keyB key s = key.extract 0 cn ++ (textS 200 (numS s).2).1 := by unfold C.keyB; rw [hcnn]
      have hcut := cut_eq key (numS s).1 e0
      rw [hcnn] at hcut
      unfold oneB at HONE
      rw [hkb] at HONE
      unfold s6B s5B s4B s3B s2B s1B s0B at HONE K7
      unfold s5B s4B s3B s2B s1B s0B at hF
      unfold s4B s3B s2B s1B s0B at HWR
      have HF2 := Aside0.mk hF
      clear hT hF m1 m2 k0 k1 k2 k3 k4 k5 k6 k7 k8 z1 e4 e5 e8 e9 e7 hP1 hwr HTOT HFB hI1 hI2 hkb hcnn
      go_wp2_with fail
      (with_reducible refine (rnumS_calls w _ g A n c bs s HF.out (QE_rs HQ.out)).mono ?_)
      rintro e w3 ⟨rfl, hR3, hg3⟩
      have HQ3 := Aside0.mk (QE_num HQ.out h0 hR3 hg3)
      have hz3 := hg3.size
      clear hR3 hg3 HQ c0 c1 c2
      generalize numS s = A0 at *
      obtain ⟨same, sa⟩ := A0
      simp only at hcut HQ3 HONE HF2 K0 K7 HWR hts e0 ⊢
      go_wp2_with fail
      (with_reducible refine (rtextS_calls w _ g A n c bs _ 200 HF.out (QE_rs HQ3.out) K0.out (by decide)).mono ?_)
      rintro e w4 ⟨rfl, hR4, hg4⟩
      have hz4 := hg4.size
      obtain ⟨KB, hKB⟩ : ∃ KB, key.extract 0 cn ++ (textS 200 sa).1 = KB := ⟨_, rfl⟩
      have HK0 := Aside0.mk hKB
      have hQ5 : QF A n c bs w w g w4.heap.size u7 out (w4.alloc (vrBox KB 0 0 0 0 0 { data := #[] } false)) (textS 200 sa).2 ⟨KB, 0, 0, 0, 0, 0, { data := #[] }, false⟩ := by
        have h := QE_num HQ3.out h0 hR4 hg4
        exact ⟨QE_below ⟨h.1, Kd.R_mono h.2.1 (fun k hk => by omega), h.2.2⟩ (below_alloc (Below.refl _ _) _), heap_alloc_new w4 _⟩
      rw [hKB] at HONE
      clear hKB
      have HQ5 := Aside0.mk hQ5
      clear hR4 hg4 HQ3 hQ5
      generalize textS 200 sa = TX at *
      obtain ⟨tx, st0⟩ := TX
      simp only at hts HONE HF2 K7 HWR HK0 HQ5 ⊢
      obtain ⟨y, hy⟩ : ∃ y, w4.heap.size = y := ⟨_, rfl⟩
      rw [hy] at HQ5
      have hgy : g < y := by omega
      have HY := Aside0.mk hy
      obtain ⟨w5, hw5⟩ : ∃ w5, w4.alloc (vrBox KB 0 0 0 0 0 { data := #[] } false) = w5 := ⟨_, rfl⟩
      rw [hw5] at HQ5
      have hz5 : y < w5.heap.size := by rw [← hw5, World.size_alloc]; omega
      have HW5 := Aside0.mk hw5
      have hnt : ¬ 9223372036854775807 < cn + tx.size := by omega
      clear hy hw5
      by_cases hsm : (key.size : Int) < same
      case' pos =>
        rw [if_pos hsm] at hcut
        have HF3 : Aside0 ((false && (decide ((numS (numS (numS (numS (numS (numS st0).2).2).2).2).2).1 ≤ 1) && fb f' N (cnt + 1) P1.1.k P1.2)) = FB) := ⟨by
          have h9 := HF2.out
          rw [decide_eq_false (by omega), Bool.false_and, Bool.false_and, Bool.and_false] at h9
          rw [Bool.false_and]
          exact h9⟩
        have hsm2 : (cn : Int) < same := by omega
        clear HF2
        go_wp2_with fail
      case' neg =>
        rw [if_neg hsm] at hcut
        have HF3 : Aside0 ((fi && (decide ((numS (numS (numS (numS (numS (numS st0).2).2).2).2).2).1 ≤ 1) && fb f' N (cnt + 1) P1.1.k P1.2)) = FB) := ⟨by
          have h9 := HF2.out
          rw [show decide (same ≤ (key.size : Int)) = true from decide_eq_true (by omega), Bool.true_and] at h9
          exact h9⟩
        clear HF2
        cases fi
        all_goals go_wp2_with fail
      all_goals
        rw [HK0.out, HW5.out, HY.out]
        clear HK0 HW5 HY hcut hsm e0 hnt hts
        go_loopw [13, 14] (fun v13 v14 w' => ∃ k : Nat, k ≤ 6 ∧ v14 = .int .i64 k ∧ Aside0 (OI w' (y + 1) v13 (numsS st0 k)) ∧ Aside0 (QF A n c bs w w g y u7 out w' (stS st0 k) ⟨KB, 0, 0, 0, 0, 0, { data := #[] }, false⟩) ∧ Aside0 (y + 1 ≤ w'.heap.size)) (fun _ v14 _ => 6 - (intOf v14).toNat)
        case atStart => exact ⟨0, by omega, rfl, ⟨Kd.R_nil _ _ _ _ _⟩, HQ5, ⟨hz5⟩⟩
        case round =>
          obtain ⟨k, hk, rfl, HO, HT5, HZ5⟩ := hrel
          by_cases hlt : k < 6
          · have j1 : (k : Int) < 6 := by omega
            go_wp2_with fail
            (with_reducible refine (rnumS_calls w _ g A n c bs (stS st0 k) HF.out (QF_rs HT5.out)).mono ?_)
            rintro e w6 ⟨rfl, hR2, hg2⟩
            have HT2 : Aside0 (QF A n c bs w w g y u7 out w6 (stS st0 (k + 1)) ⟨KB, 0, 0, 0, 0, 0, { data := #[] }, false⟩) := ⟨QF_num HT5.out h0 hgy hR2 hg2⟩
            have HO2 := Aside0.mk (OI_grown HO.out hg2 (by omega))
            have HZ2 := Aside0.mk (Nat.le_trans HZ5.out hg2.size)
            have HNX := Aside0.mk (numsS_next st0 k)
            clear hR2 hg2 HO HT5 HZ5
            generalize (numS (stS st0 k)).1 = x at *
            go_wp2_with ((with_reducible refine gate_dst (N := 57) rfl ?_); refine app_int rfl rfl rfl rfl HO2.out HZ2.out (by rw [numsS_len]; omega) ?_; intro v4 w7 hO4 hb4 _; have HO4 := Aside0.mk hO4; have HB4 := Aside0.mk hb4; clear hO4 hb4)
            go_roundw
            case rel => exact ⟨k + 1, hlt, by push_cast; rfl, ⟨by rw [HNX.out]; exact HO4.out⟩, ⟨QF_belowN HT2.out h0 h0 hgy HB4.out⟩, ⟨Nat.le_trans HZ2.out HB4.out.size⟩⟩
            case measure => simp [intOf]; omega
          · obtain rfl : k = 6 := by omega
            have e6 : numsS st0 6 = [(numS st0).1, (numS (numS st0).2).1, (numS (numS (numS st0).2).2).1, (numS (numS (numS (numS st0).2).2).2).1, (numS (numS (numS (numS (numS st0).2).2).2).2).1, (numS (numS (numS (numS (numS (numS st0).2).2).2).2).2).1] := rfl
            have e7 : stS st0 6 = (numS (numS (numS (numS (numS (numS st0).2).2).2).2).2).2 := rfl
            rw [e6] at HO
            rw [e7] at HT5
            clear e6 e7
            generalize numS st0 = a1 at *
            obtain ⟨a1, s1⟩ := a1
            simp only at HO HT5 HWR K7 HONE HF3
            generalize numS s1 = a2 at *
            obtain ⟨a2, s2⟩ := a2
            simp only at HO HT5 HWR K7 HONE HF3
            generalize numS s2 = a3 at *
            obtain ⟨a3, s3⟩ := a3
            simp only at HO HT5 HWR K7 HONE HF3
            generalize numS s3 = a4 at *
            obtain ⟨a4, s4⟩ := a4
            simp only at HO HT5 HWR K7 HONE HF3
            generalize numS s4 = a5 at *
            obtain ⟨a5, s5⟩ := a5
            simp only at HO HT5 HWR K7 HONE HF3
            generalize numS s5 = a6 at *
            obtain ⟨a6, s6⟩ := a6
            simp only at HO HT5 HWR K7 HONE HF3
            obtain ⟨A4, c4, rfl, hc4, hC4, had⟩ := OI_readn HO.out 6 rfl
            obtain ⟨ad, rfl, x0⟩ := V.C_atNN hC4 0 (by omega)
            obtain ⟨_, e', x1⟩ := V.C_atNN hC4 1 (by omega)
            injection e' with e'
            subst e'
            obtain ⟨_, e', x2⟩ := V.C_atNN hC4 2 (by omega)
            injection e' with e'
            subst e'
            obtain ⟨_, e', x3⟩ := V.C_atNN hC4 3 (by omega)
            injection e' with e'
            subst e'
            obtain ⟨_, e', x4⟩ := V.C_atNN hC4 4 (by omega)
            injection e' with e'
            subst e'
            obtain ⟨_, e', x5⟩ := V.C_atNN hC4 5 (by omega)
            injection e' with e'
            subst e'
            have hadB := had ad rfl
            simp only [List.getD_cons_zero, List.getD_cons_succ] at x0 x1 x2 x3 x4 x5
            rw [add0] at x0
            rw [addS ad 0] at x1
            rw [addS ad 1] at x2
            rw [addS ad 2] at x3
            rw [addS ad 3] at x4
            rw [addS ad 4] at x5
            have HS6 : Aside0 (S6 wr ad a1 a2 a3 a4 a5 a6) := ⟨⟨x0, x1, x2, x3, x4, x5⟩⟩
            have hney : ad.block ≠ y := by omega
            clear hC4 had HO hadB x0 x1 x2 x3 x4 x5
            have HT6 := Aside0.mk (QF_below HT5.out (below_drew1 (Below.refl _ _)))
            have HS7 := Aside0.mk (S6_drew HS6.out)
            go_wp2_with fail
            obtain ⟨x0, x1, x2, x3, x4, x5⟩ := HS7.out
            obtain ⟨y0, y1, y2, y3, y4, y5, y6, y7⟩ := vr_cells (QF_x HT5.out)
            have fz := vr_frozen (QF_x HT5.out)
            go_still_tail 11, (by kernel_rfl)
            go_wp2_with fail
            clear x0 x1 x2 x3 x4 x5 y0 y1 y2 y3 y4 y5 y6 y7 fz HT6 HS7
            have HT7 : Aside0 (QF A n c bs w w g y u7 out (((wr.setCell ⟨y, 1, none⟩ (.int .i64 a1)).setCell ⟨y, 2, none⟩ (.int .i64 a2)).setCell ⟨y, 3, none⟩ (.int .i64 a3)).drew s6 ⟨KB, a1, a2, a3, 0, 0, { data := #[] }, false⟩) := ⟨QF_below (QF_set (p := ⟨KB, a1, a2, 0, 0, 0, { data := #[] }, false⟩) (QF_set (p := ⟨KB, a1, 0, 0, 0, 0, { data := #[] }, false⟩) (QF_set HT5.out h0 h0 hgy 1 (.int .i64 a1) rfl) h0 h0 hgy 2 (.int .i64 a2) rfl) h0 h0 hgy 3 (.int .i64 a3) rfl) (below_drew1 (Below.refl _ _))⟩
            have HS7 : Aside0 (S6 (((wr.setCell ⟨y, 1, none⟩ (.int .i64 a1)).setCell ⟨y, 2, none⟩ (.int .i64 a2)).setCell ⟨y, 3, none⟩ (.int .i64 a3)).drew ad a1 a2 a3 a4 a5 a6) := ⟨S6_drew (S6_set (S6_set (S6_set HS6.out hney 1 _) hney 2 _) hney 3 _)⟩
            clear HT5 HS6
            generalize (((wr.setCell ⟨y, 1, none⟩ (.int .i64 a1)).setCell ⟨y, 2, none⟩ (.int .i64 a2)).setCell ⟨y, 3, none⟩ (.int .i64 a3)).drew = w7 at *
            have HS8 := Aside0.mk (S6_drew HS7.out)
            obtain ⟨x0, x1, x2, x3, x4, x5⟩ := HS8.out
            obtain ⟨y0, y1, y2, y3, y4, y5, y6, y7⟩ := vr_cells (QF_x HT7.out)
            have fz := vr_frozen (QF_x HT7.out)
            have hwr := HWR.out
            have HS9 := Aside0.mk (S6_set (S6_set HS7.out hney 4 (.int .i64 a4)) hney 5 (.int .i64 (a4 + a5)))
            have b5 := HS9.out.2.2.2.2.2
            have d5 := (S6_set HS9.out hney 7 (.bool (a6 == 1))).2.2.2.2.2
            have HT9 : Aside0 (QF A n c bs w w g y u7 out (((w7.setCell ⟨y, 4, none⟩ (.int .i64 a4)).setCell ⟨y, 5, none⟩ (.int .i64 (a4 + a5))).setCell ⟨y, 7, none⟩ (.bool (a6 == 1))) s6 ⟨KB, a1, a2, a3, a4, a4 + a5, { data := #[] }, a6 == 1⟩) := ⟨QF_set (p := ⟨KB, a1, a2, a3, a4, a4 + a5, { data := #[] }, false⟩) (QF_set (p := ⟨KB, a1, a2, a3, a4, 0, { data := #[] }, false⟩) (QF_set HT7.out h0 h0 hgy 4 (.int .i64 a4) rfl) h0 h0 hgy 5 (.int .i64 (a4 + a5)) rfl) h0 h0 hgy 7 (.bool (a6 == 1)) rfl⟩
            have HT10 := Aside0.mk (QF_below HT9.out (below_drew1 (Below.refl _ _)))
            go_still_tail 12, (by kernel_rfl)
            clear hwr
            have hney2 : y ≠ ad.block := fun e => hney e.symm
            go_wp2_with fail
            clear x0 x1 x2 x3 x4 x5 y0 y1 y2 y3 y4 y5 y6 y7 fz b5 d5 HS9 HS8 HS7 HT7 HT9 HWR
            generalize hw10 : (((w7.setCell ⟨y, 4, none⟩ (.int .i64 a4)).setCell ⟨y, 5, none⟩ (.int .i64 (a4 + a5))).setCell ⟨y, 7, none⟩ (.bool (a6 == 1))).drew = w10 at *
            clear hw10
            (with_reducible refine (rtextS_calls w _ g A n c bs s6 200 HF.out (QF_rs HT10.out) K7.out (by decide)).mono ?_)
            rintro e w11 ⟨rfl, hR11, hg11⟩
            have HT11 := Aside0.mk (QF_num HT10.out h0 hgy hR11 hg11)
            clear hR11 hg11 HT10
            generalize textS 200 s6 = TV at *
            obtain ⟨tv, s7⟩ := TV
            simp only at HONE HT11 ⊢
            have hg6 : decide (a6 = 1) = (a6 == 1) := rfl
            rw [hg6] at HONE
            obtain ⟨b6, hb6⟩ : ∃ b, (a6 == 1) = b := ⟨_, rfl⟩
            rw [hb6] at HONE HT11
            clear hg6 hb6
            obtain ⟨x0, x1, x2, x3, x4, x5, x6, x7⟩ := vr_cells (QF_x HT11.out)
            have fz := vr_frozen (QF_x HT11.out)
            have HT12 := Aside0.mk (QF_set (p' := ⟨KB, a1, a2, a3, a4, a4 + a5, tv, b6⟩) HT11.out h0 h0 hgy 6 (.string tv) rfl)
            have hP := HONE.out
            subst hP
            have HP1 := HT.out
            simp only at HP1 HF3
            have HP2 := Aside0.mk HP1
            clear HP1 HT
            have hgw : g < (w11.setCell ⟨y, 6, none⟩ (.string tv)).heap.size := by have := blk_lt HT12.out.2; omega
            have HOV : Aside0 (OVr (w11.setCell ⟨y, 6, none⟩ (.string tv)) (g + 1) u7 out) := ⟨Kd.R_mono HT12.out.1.2.1 (fun _ _ => trivial)⟩
            have hol : out.length ≤ 1000000 := by have := HLEN.out; omega
            have HBX := Aside0.mk (Below.refl (w11.setCell ⟨y, 6, none⟩ (.string tv)).heap.size (w11.setCell ⟨y, 6, none⟩ (.string tv)))
            go_wp2_with ((with_reducible refine gate_dst (N := 99) rfl ?_); refine app_vr (W := w11.setCell ⟨y, 6, none⟩ (.string tv)) rfl rfl rfl (by rw [World.size_setCell]; rfl) HOV.out hgw hol ?_; intro v13 w13 hO13 hb13 hg13; obtain ⟨hq1, hq2⟩ := QF_app HT12.out h0 hgw hb13 hg13 hO13 h0; obtain ⟨z0, z1, z2, z3, z4, z5, z6, z7⟩ := vr_cells hq2; have HQ13 := Aside0.mk hq1; have hg13' : g < w13.heap.size := Nat.lt_of_lt_of_le hgw hb13.size; clear hO13 hb13 hg13 hq1 hq2)
            all_goals
              have m1 := M1.out
              have m2 := M2.out
              have z8 := HZ.out
              have hl9 := HLEN.out
              simp only at m1 m2 z8
              refine ⟨⟨cnt + 1, f', KB, s7, out ++ [⟨KB, a1, a2, a3, a4, a4 + a5, tv, b6⟩], _, rfl, rfl, by push_cast; rfl, ⟨by rw [List.length_append, List.length_singleton, hl9]⟩, ⟨by rw [List.append_assoc]; exact HP2.out⟩, ⟨by first | exact (Bool.true_and _).symm.trans HF3.out | exact (Bool.false_and _).trans ((Bool.false_and _).symm.trans HF3.out)⟩, by omega, by omega, by omega, K8, ⟨?_⟩, HQ13, hg13'⟩, ?_⟩
              · intro q hq
                rcases List.mem_append.1 hq with hq | hq
                · exact HSM.out q hq
                · obtain rfl := List.mem_singleton.1 hq
                  exact ⟨by show KB.size ≤ n; omega, by show tv.size ≤ 200; omega⟩
              · simp [intOf]
                omega
    · have hT := HTOT.out
      rw [rb_stop hcn, List.append_nil] at hT
      obtain ⟨hT1, hT2⟩ := hT
      have hF := HFB.out
      rw [fb_stop hcn, Bool.and_true] at hF
      subst hT1 hT2 hF
      obtain ⟨I, hI1, hI2⟩ := (QE_rs HQ.out).1
      obtain ⟨c0, c1, c2⟩ := V.rfr_cells hI1
      have HX := Aside0.mk hI1
      have HDR := Aside0.mk (QE_below HQ.out (below_drew1 (Below.refl _ _)))
      obtain ⟨d0, d1, d2⟩ := V.rfr_cells (show wr.drew.heap[g]? = _ from hI1)
      clear hI1 hI2 HTOT HFB
      by_cases hs0 : s.2 = 0
      · have hcN : ¬ (cnt : Int) < N := fun h => hcn ⟨hs0, h⟩
        rw [hs0] at c2 d2
        have hrd := HRD.out
        rw [if_neg (by simpa using hs0)] at hrd
        have hsm : smallB out := fun p hp => by have := HSM.out p hp; omega
        obtain ⟨A7, c7, rfl, hc7, hC7⟩ := OVr_readn (Kd.R_mono HQ.out.2.1 (fun _ _ => trivial)) cnt HLEN.out
        have HC7 := Aside0.mk hC7
        have HOV : Aside0 (OVr wr (g + 1) (.slice A7 cnt c7) out) := ⟨Kd.R_mono HQ.out.2.1 (fun _ _ => trivial)⟩
        have HQ3 := Aside0.mk HQ.out.2.2
        have HUC : Aside0 (U8.C wr A n bs) := ⟨RR_C HF.out HQ.out.1⟩
        have HSB := Aside0.mk hsm
        have HRD2 := Aside0.mk hrd
        clear hrd HRD HDR HX HQ hC7 hsm
        go_wp2_with fail
        (with_reducible refine (mayBR_calls A7 cnt c7 out _ HC7.out hc7 HSB.out).mono ?_)
        rintro e w3 ⟨rfl, hb3⟩
        have HZ4 : Aside0 (QZ A n c bs w g (.slice A7 cnt c7) out w3) := ⟨QZ_below ⟨HUC.out, HOV.out, HQ3.out⟩ hb3⟩
        have HC8 := Aside0.mk (Kd.C_below HC7.out hb3)
        obtain ⟨mb, hmb⟩ : ∃ b, mayBl out = b := ⟨_, rfl⟩
        have HMB := Aside0.mk hmb
        rw [hmb]
        clear hb3 HUC HOV HQ3 HC7 hmb c0 c1 c2 d0 d1 d2
        by_cases hgd : fi = true ∧ mb = true
        · obtain ⟨rfl, rfl⟩ := hgd
          have hml := mayBl_all HMB.out
          have h8 : cnt ≤ 8 := by have := HLEN.out; omega
          have HRW := Aside0.mk (fun W h => refwriteB_calls A7 cnt c7 out W h hc7 h8 hml.1)
          obtain ⟨B, hB⟩ : ∃ B, blockB out = B := ⟨_, rfl⟩
          have hrd := HRD2.out
          rw [HMB.out, Bool.true_and, Bool.true_and] at hrd
          rw [hB] at HRW hrd
          have HRNG : Aside0 (∀ x ∈ B, 0 ≤ x ∧ x ≤ 255) := ⟨by rw [← hB]; exact blockB_range out⟩
          obtain ⟨eqb, heq⟩ : ∃ b, ((strOfNums B).toList == (strOfNums bs).toList) = b := ⟨_, rfl⟩
          have hde : decide (B = bs) = eqb := by
            rw [← heq, Bool.eq_iff_iff, decide_eq_true_eq, beq_iff_eq]
            constructor
            · intro h; rw [h]
            · intro h
              exact strOfNums_inj HRNG.out HF.out.2.2.2.1 (toList_inj h)
          rw [hde] at hrd
          have HRD3 := Aside0.mk hrd
          clear hml HRD2 hB hrd hde HMB
          have HZ4d := Aside0.mk (QZ_below HZ4.out (below_drew1 (Below.refl _ _)))
          have HC8d := Aside0.mk (Kd.C_below HC8.out (below_drew1 (Below.refl w3.heap.size w3)))
          cases eqb with
          | true =>
            have hrd := HRD3.out
            rw [if_pos rfl] at hrd
            injection hrd with hr1 hr2
            have hr3 := hr1.symm
            subst hr3 hr2
            clear HRD3
            go_wp2_with fail
            refine wp_region_held_drew (S := fun w' => (convert 31 9 (.slice A n c)).run Try.prog w' = .ok (.string (strOfNums bs)) w' ∧ Aside0 (QZ A n c bs w g (.slice A7 cnt c7) out w')) (by kernel_rfl) (QZ_S HZ4d.out) (fun hHeld => ?_)
            (refine hd_take 0 (v := ?_) rfl (by kernel_rfl) (by kernel_rfl) (fun _ _ _ h => h) (by assumption) ?_ ?_; rotate_left; (intro w hSw; (try dsimp only at hSw); go_simp; first | done | with_reducible rfl); simp only [Act.put, List.setIfInBounds_toArray, List.set_cons_zero, List.set_cons_succ])
            (refine hd_take 1 (v := ?_) rfl (by kernel_rfl) (by kernel_rfl) (fun _ _ _ h => h) (by assumption) ?_ ?_; rotate_left; (intro w hSw; (try dsimp only at hSw); go_simp; first | done | with_reducible rfl); simp only [Act.put, List.setIfInBounds_toArray, List.set_cons_zero, List.set_cons_succ])
            (refine hd_take 2 (v := ?_) rfl (by kernel_rfl) (by kernel_rfl) (fun _ _ _ h => h) (by assumption) ?_ ?_; rotate_left; (intro w hSw; (try dsimp only at hSw); go_simp; first | done | with_reducible rfl); simp only [Act.put, List.setIfInBounds_toArray, List.set_cons_zero, List.set_cons_succ])
            (refine hd_take 3 (v := ?_) rfl (by kernel_rfl) (by kernel_rfl) (fun _ _ _ h => h) (by assumption) ?_ ?_; rotate_left; (intro w hSw; (try dsimp only at hSw); go_simp; first | done | with_reducible rfl); simp only [Act.put, List.setIfInBounds_toArray, List.set_cons_zero, List.set_cons_succ])
            (refine hd_take 4 (v := ?_) rfl (by kernel_rfl) (by kernel_rfl) (fun _ _ _ h => h) (by assumption) ?_ ?_; rotate_left; (intro w hSw; (try dsimp only at hSw); go_simp; first | done | with_reducible rfl); simp only [Act.put, List.setIfInBounds_toArray, List.set_cons_zero, List.set_cons_succ])
            (refine hd_take 5 (v := ?_) rfl (by kernel_rfl) (by kernel_rfl) (fun _ _ _ h => h) (by assumption) ?_ ?_; rotate_left; (intro w hSw; (try dsimp only at hSw); go_simp; first | done | with_reducible rfl); simp only [Act.put, List.setIfInBounds_toArray, List.set_cons_zero, List.set_cons_succ])
            (refine hd_take 6 (v := ?_) rfl (by kernel_rfl) (by kernel_rfl) (fun _ _ _ h => h) (by assumption) ?_ ?_; rotate_left; (intro w hSw; (try dsimp only at hSw); go_simp; first | done | with_reducible rfl); simp only [Act.put, List.setIfInBounds_toArray, List.set_cons_zero, List.set_cons_succ])
            (refine hd_take 7 (v := ?_) rfl (by kernel_rfl) (by kernel_rfl) (fun _ _ _ h => h) (by assumption) ?_ ?_; rotate_left; (intro w hSw; (try dsimp only at hSw); go_simp; first | done | with_reducible rfl); simp only [Act.put, List.setIfInBounds_toArray, List.set_cons_zero, List.set_cons_succ])
            (refine hd_take 10 (v := ?_) rfl (by kernel_rfl) (by kernel_rfl) (fun _ _ _ h => h) (by assumption) ?_ ?_; rotate_left; (intro w hSw; (try dsimp only at hSw); obtain ⟨s1, s2⟩ := hSw; go_simp; first | done | with_reducible rfl); simp only [Act.put, List.setIfInBounds_toArray, List.set_cons_zero, List.set_cons_succ])
            (refine hd_take 11 (v := ?_) rfl (by kernel_rfl) (by kernel_rfl) (fun _ _ _ h => h) (by assumption) ?_ ?_; rotate_left; (intro w hSw; (try dsimp only at hSw); obtain ⟨s1, s2⟩ := hSw; go_simp; first | done | with_reducible rfl); simp only [Act.put, List.setIfInBounds_toArray, List.set_cons_zero, List.set_cons_succ])
            refine hd_one 8 rfl (by kernel_rfl) (fun K hK => ?_)
            go_simp
            go_wp2_with ((go_at_call 45); (with_reducible refine (HRW.out _ HC8d.out).mono ?_); rintro e wa ⟨ua, rfl, hOa, hba⟩; have HZ5 := Aside0.mk (QZ_below HZ4d.out hba); have hsa := OB_string hOa; clear hOa hba)
            refine hK.out _ _ (QZ_S HZ5.out) (fun hHeld => ?_)
            clear hK K
            refine hd_one 9 rfl (by kernel_rfl) (fun K hK => ?_)
            go_simp
            refine hK.out _ _ (QZ_S HZ5.out) (fun hHeld => ?_)
            clear hK K
            (refine hd_take 12 (v := ?_) rfl (by kernel_rfl) (by kernel_rfl) (fun _ _ _ h => h) (by assumption) ?_ ?_; rotate_left; (intro w hSw; (try dsimp only at hSw); obtain ⟨s1, s2⟩ := hSw; go_simp; first | done | with_reducible rfl); simp only [Act.put, List.setIfInBounds_toArray, List.set_cons_zero, List.set_cons_succ])
            (refine hd_take 13 (v := ?_) rfl (by kernel_rfl) (by kernel_rfl) (fun _ _ _ h => h) (by assumption) ?_ ?_; rotate_left; (intro w hSw; (try dsimp only at hSw); obtain ⟨s1, s2⟩ := hSw; go_simp; first | done | with_reducible rfl); simp only [Act.put, List.setIfInBounds_toArray, List.set_cons_zero, List.set_cons_succ])
            refine wpAnyH_done (by kernel_rfl) ?_ _
            go_wp2_with fail
            all_goals go_ret2
            all_goals exact ⟨_, rfl, Kd.R_lower (QZ_o HZ5.out) (by omega), QZ_b HZ5.out⟩
          | false =>
            have hrd := HRD3.out
            rw [if_neg (by simp)] at hrd
            injection hrd with hr1 hr2
            subst hr1 hr2
            clear HRD3
            go_wp2_with fail
            refine wp_region_held_drew (S := fun w' => (convert 31 9 (.slice A n c)).run Try.prog w' = .ok (.string (strOfNums bs)) w' ∧ Aside0 (QZ A n c bs w g (.slice A7 cnt c7) out w')) (by kernel_rfl) (QZ_S HZ4d.out) (fun hHeld => ?_)
            (refine hd_take 0 (v := ?_) rfl (by kernel_rfl) (by kernel_rfl) (fun _ _ _ h => h) (by assumption) ?_ ?_; rotate_left; (intro w hSw; (try dsimp only at hSw); go_simp; first | done | with_reducible rfl); simp only [Act.put, List.setIfInBounds_toArray, List.set_cons_zero, List.set_cons_succ])
            (refine hd_take 1 (v := ?_) rfl (by kernel_rfl) (by kernel_rfl) (fun _ _ _ h => h) (by assumption) ?_ ?_; rotate_left; (intro w hSw; (try dsimp only at hSw); go_simp; first | done | with_reducible rfl); simp only [Act.put, List.setIfInBounds_toArray, List.set_cons_zero, List.set_cons_succ])
            (refine hd_take 2 (v := ?_) rfl (by kernel_rfl) (by kernel_rfl) (fun _ _ _ h => h) (by assumption) ?_ ?_; rotate_left; (intro w hSw; (try dsimp only at hSw); go_simp; first | done | with_reducible rfl); simp only [Act.put, List.setIfInBounds_toArray, List.set_cons_zero, List.set_cons_succ])
            (refine hd_take 3 (v := ?_) rfl (by kernel_rfl) (by kernel_rfl) (fun _ _ _ h => h) (by assumption) ?_ ?_; rotate_left; (intro w hSw; (try dsimp only at hSw); go_simp; first | done | with_reducible rfl); simp only [Act.put, List.setIfInBounds_toArray, List.set_cons_zero, List.set_cons_succ])
            (refine hd_take 4 (v := ?_) rfl (by kernel_rfl) (by kernel_rfl) (fun _ _ _ h => h) (by assumption) ?_ ?_; rotate_left; (intro w hSw; (try dsimp only at hSw); go_simp; first | done | with_reducible rfl); simp only [Act.put, List.setIfInBounds_toArray, List.set_cons_zero, List.set_cons_succ])
            (refine hd_take 5 (v := ?_) rfl (by kernel_rfl) (by kernel_rfl) (fun _ _ _ h => h) (by assumption) ?_ ?_; rotate_left; (intro w hSw; (try dsimp only at hSw); go_simp; first | done | with_reducible rfl); simp only [Act.put, List.setIfInBounds_toArray, List.set_cons_zero, List.set_cons_succ])
            (refine hd_take 6 (v := ?_) rfl (by kernel_rfl) (by kernel_rfl) (fun _ _ _ h => h) (by assumption) ?_ ?_; rotate_left; (intro w hSw; (try dsimp only at hSw); go_simp; first | done | with_reducible rfl); simp only [Act.put, List.setIfInBounds_toArray, List.set_cons_zero, List.set_cons_succ])
            (refine hd_take 7 (v := ?_) rfl (by kernel_rfl) (by kernel_rfl) (fun _ _ _ h => h) (by assumption) ?_ ?_; rotate_left; (intro w hSw; (try dsimp only at hSw); go_simp; first | done | with_reducible rfl); simp only [Act.put, List.setIfInBounds_toArray, List.set_cons_zero, List.set_cons_succ])
            (refine hd_take 10 (v := ?_) rfl (by kernel_rfl) (by kernel_rfl) (fun _ _ _ h => h) (by assumption) ?_ ?_; rotate_left; (intro w hSw; (try dsimp only at hSw); obtain ⟨s1, s2⟩ := hSw; go_simp; first | done | with_reducible rfl); simp only [Act.put, List.setIfInBounds_toArray, List.set_cons_zero, List.set_cons_succ])
            (refine hd_take 11 (v := ?_) rfl (by kernel_rfl) (by kernel_rfl) (fun _ _ _ h => h) (by assumption) ?_ ?_; rotate_left; (intro w hSw; (try dsimp only at hSw); obtain ⟨s1, s2⟩ := hSw; go_simp; first | done | with_reducible rfl); simp only [Act.put, List.setIfInBounds_toArray, List.set_cons_zero, List.set_cons_succ])
            refine hd_one 8 rfl (by kernel_rfl) (fun K hK => ?_)
            go_simp
            go_wp2_with ((go_at_call 45); (with_reducible refine (HRW.out _ HC8d.out).mono ?_); rintro e wa ⟨ua, rfl, hOa, hba⟩; have HZ5 := Aside0.mk (QZ_below HZ4d.out hba); have hsa := OB_string hOa; clear hOa hba)
            refine hK.out _ _ (QZ_S HZ5.out) (fun hHeld => ?_)
            clear hK K
            refine hd_one 9 rfl (by kernel_rfl) (fun K hK => ?_)
            go_simp
            refine hK.out _ _ (QZ_S HZ5.out) (fun hHeld => ?_)
            clear hK K
            (refine hd_take 12 (v := ?_) rfl (by kernel_rfl) (by kernel_rfl) (fun _ _ _ h => h) (by assumption) ?_ ?_; rotate_left; (intro w hSw; (try dsimp only at hSw); obtain ⟨s1, s2⟩ := hSw; go_simp; first | done | with_reducible rfl); simp only [Act.put, List.setIfInBounds_toArray, List.set_cons_zero, List.set_cons_succ])
            (refine hd_take 13 (v := ?_) rfl (by kernel_rfl) (by kernel_rfl) (fun _ _ _ h => h) (by assumption) ?_ ?_; rotate_left; (intro w hSw; (try dsimp only at hSw); obtain ⟨s1, s2⟩ := hSw; go_simp; first | done | with_reducible rfl); simp only [Act.put, List.setIfInBounds_toArray, List.set_cons_zero, List.set_cons_succ])
            refine wpAnyH_done (by kernel_rfl) ?_ _
            go_wp2_with fail
            all_goals go_ret2
            all_goals exact ⟨_, rfl, Kd.R_nil _ _ _ _ _, QZ_b HZ5.out⟩
        · have hrd := HRD2.out
          have hng : (fi && (mb && decide (blockB out = bs))) = false := by cases fi <;> cases mb <;> simp_all
          rw [HMB.out, hng, if_neg (by simp)] at hrd
          injection hrd with hr1 hr2
          subst hr1 hr2
          clear HRD2 hng
          cases fi
          · clear hgd
            go_wp2_with fail
            refine wp_region_held_drew (S := fun w' => Aside0 (QZ A n c bs w g (.slice A7 cnt c7) out w')) (by kernel_rfl) ⟨QZ_below HZ4.out (below_drew1 (Below.refl _ _))⟩ (fun hHeld => ?_)
            (refine hd_take 0 (v := ?_) rfl (by kernel_rfl) (by kernel_rfl) (fun _ _ _ h => h) (by assumption) ?_ ?_; rotate_left; (intro w hSw; (try dsimp only at hSw); go_simp; first | done | with_reducible rfl); simp only [Act.put, List.setIfInBounds_toArray, List.set_cons_zero, List.set_cons_succ])
            (refine hd_take 1 (v := ?_) rfl (by kernel_rfl) (by kernel_rfl) (fun _ _ _ h => h) (by assumption) ?_ ?_; rotate_left; (intro w hSw; (try dsimp only at hSw); go_simp; first | done | with_reducible rfl); simp only [Act.put, List.setIfInBounds_toArray, List.set_cons_zero, List.set_cons_succ])
            (refine hd_take 2 (v := ?_) rfl (by kernel_rfl) (by kernel_rfl) (fun _ _ _ h => h) (by assumption) ?_ ?_; rotate_left; (intro w hSw; (try dsimp only at hSw); go_simp; first | done | with_reducible rfl); simp only [Act.put, List.setIfInBounds_toArray, List.set_cons_zero, List.set_cons_succ])
            (refine hd_skip 3 rfl (by kernel_rfl) (by kernel_rfl) (fun _ _ _ h => h) (by assumption) ?_; simp only [Act.put, List.setIfInBounds_toArray, List.set_cons_zero, List.set_cons_succ])
            (refine hd_skip 4 rfl (by kernel_rfl) (by kernel_rfl) (fun _ _ _ h => h) (by assumption) ?_; simp only [Act.put, List.setIfInBounds_toArray, List.set_cons_zero, List.set_cons_succ])
            (refine hd_take 5 (v := ?_) rfl (by kernel_rfl) (by kernel_rfl) (fun _ _ _ h => h) (by assumption) ?_ ?_; rotate_left; (intro w hSw; (try dsimp only at hSw); go_simp; first | done | with_reducible rfl); simp only [Act.put, List.setIfInBounds_toArray, List.set_cons_zero, List.set_cons_succ])
            (refine hd_take 6 (v := ?_) rfl (by kernel_rfl) (by kernel_rfl) (fun _ _ _ h => h) (by assumption) ?_ ?_; rotate_left; (intro w hSw; (try dsimp only at hSw); go_simp; first | done | with_reducible rfl); simp only [Act.put, List.setIfInBounds_toArray, List.set_cons_zero, List.set_cons_succ])
            (refine hd_skip 7 rfl (by kernel_rfl) (by kernel_rfl) (fun _ _ _ h => h) (by assumption) ?_; simp only [Act.put, List.setIfInBounds_toArray, List.set_cons_zero, List.set_cons_succ])
            (refine hd_skip 8 rfl (by kernel_rfl) (by kernel_rfl) (fun _ _ _ h => h) (by assumption) ?_; simp only [Act.put, List.setIfInBounds_toArray, List.set_cons_zero, List.set_cons_succ])
            (refine hd_skip 9 rfl (by kernel_rfl) (by kernel_rfl) (fun _ _ _ h => h) (by assumption) ?_; simp only [Act.put, List.setIfInBounds_toArray, List.set_cons_zero, List.set_cons_succ])
            (refine hd_skip 10 rfl (by kernel_rfl) (by kernel_rfl) (fun _ _ _ h => h) (by assumption) ?_; simp only [Act.put, List.setIfInBounds_toArray, List.set_cons_zero, List.set_cons_succ])
            (refine hd_skip 11 rfl (by kernel_rfl) (by kernel_rfl) (fun _ _ _ h => h) (by assumption) ?_; simp only [Act.put, List.setIfInBounds_toArray, List.set_cons_zero, List.set_cons_succ])
            (refine hd_skip 12 rfl (by kernel_rfl) (by kernel_rfl) (fun _ _ _ h => h) (by assumption) ?_; simp only [Act.put, List.setIfInBounds_toArray, List.set_cons_zero, List.set_cons_succ])
            (refine hd_take 13 (v := ?_) rfl (by kernel_rfl) (by kernel_rfl) (fun _ _ _ h => h) (by assumption) ?_ ?_; rotate_left; (intro w hSw; (try dsimp only at hSw); go_simp; first | done | with_reducible rfl); simp only [Act.put, List.setIfInBounds_toArray, List.set_cons_zero, List.set_cons_succ])
            refine wpAnyH_done (by kernel_rfl) ?_ _
            go_wp2_with fail
            go_ret2
            exact ⟨_, rfl, Kd.R_nil _ _ _ _ _, QZ_b hHeld.out⟩
          · have hmf : mb = false := by cases mb <;> simp_all
            subst hmf
            clear hgd
            go_wp2_with fail
            refine wp_region_held_drew (S := fun w' => Aside0 (QZ A n c bs w g (.slice A7 cnt c7) out w')) (by kernel_rfl) ⟨QZ_below HZ4.out (below_drew1 (Below.refl _ _))⟩ (fun hHeld => ?_)
            (refine hd_take 0 (v := ?_) rfl (by kernel_rfl) (by kernel_rfl) (fun _ _ _ h => h) (by assumption) ?_ ?_; rotate_left; (intro w hSw; (try dsimp only at hSw); go_simp; first | done | with_reducible rfl); simp only [Act.put, List.setIfInBounds_toArray, List.set_cons_zero, List.set_cons_succ])
            (refine hd_take 1 (v := ?_) rfl (by kernel_rfl) (by kernel_rfl) (fun _ _ _ h => h) (by assumption) ?_ ?_; rotate_left; (intro w hSw; (try dsimp only at hSw); go_simp; first | done | with_reducible rfl); simp only [Act.put, List.setIfInBounds_toArray, List.set_cons_zero, List.set_cons_succ])
            (refine hd_take 2 (v := ?_) rfl (by kernel_rfl) (by kernel_rfl) (fun _ _ _ h => h) (by assumption) ?_ ?_; rotate_left; (intro w hSw; (try dsimp only at hSw); go_simp; first | done | with_reducible rfl); simp only [Act.put, List.setIfInBounds_toArray, List.set_cons_zero, List.set_cons_succ])
            (refine hd_take 3 (v := ?_) rfl (by kernel_rfl) (by kernel_rfl) (fun _ _ _ h => h) (by assumption) ?_ ?_; rotate_left; (intro w hSw; (try dsimp only at hSw); go_simp; first | done | with_reducible rfl); simp only [Act.put, List.setIfInBounds_toArray, List.set_cons_zero, List.set_cons_succ])
            (refine hd_take 4 (v := ?_) rfl (by kernel_rfl) (by kernel_rfl) (fun _ _ _ h => h) (by assumption) ?_ ?_; rotate_left; (intro w hSw; (try dsimp only at hSw); go_simp; first | done | with_reducible rfl); simp only [Act.put, List.setIfInBounds_toArray, List.set_cons_zero, List.set_cons_succ])
            (refine hd_take 5 (v := ?_) rfl (by kernel_rfl) (by kernel_rfl) (fun _ _ _ h => h) (by assumption) ?_ ?_; rotate_left; (intro w hSw; (try dsimp only at hSw); go_simp; first | done | with_reducible rfl); simp only [Act.put, List.setIfInBounds_toArray, List.set_cons_zero, List.set_cons_succ])
            (refine hd_take 6 (v := ?_) rfl (by kernel_rfl) (by kernel_rfl) (fun _ _ _ h => h) (by assumption) ?_ ?_; rotate_left; (intro w hSw; (try dsimp only at hSw); go_simp; first | done | with_reducible rfl); simp only [Act.put, List.setIfInBounds_toArray, List.set_cons_zero, List.set_cons_succ])
            (refine hd_skip 7 rfl (by kernel_rfl) (by kernel_rfl) (fun _ _ _ h => h) (by assumption) ?_; simp only [Act.put, List.setIfInBounds_toArray, List.set_cons_zero, List.set_cons_succ])
            (refine hd_skip 8 rfl (by kernel_rfl) (by kernel_rfl) (fun _ _ _ h => h) (by assumption) ?_; simp only [Act.put, List.setIfInBounds_toArray, List.set_cons_zero, List.set_cons_succ])
            (refine hd_skip 9 rfl (by kernel_rfl) (by kernel_rfl) (fun _ _ _ h => h) (by assumption) ?_; simp only [Act.put, List.setIfInBounds_toArray, List.set_cons_zero, List.set_cons_succ])
            (refine hd_skip 10 rfl (by kernel_rfl) (by kernel_rfl) (fun _ _ _ h => h) (by assumption) ?_; simp only [Act.put, List.setIfInBounds_toArray, List.set_cons_zero, List.set_cons_succ])
            (refine hd_skip 11 rfl (by kernel_rfl) (by kernel_rfl) (fun _ _ _ h => h) (by assumption) ?_; simp only [Act.put, List.setIfInBounds_toArray, List.set_cons_zero, List.set_cons_succ])
            (refine hd_skip 12 rfl (by kernel_rfl) (by kernel_rfl) (fun _ _ _ h => h) (by assumption) ?_; simp only [Act.put, List.setIfInBounds_toArray, List.set_cons_zero, List.set_cons_succ])
            (refine hd_take 13 (v := ?_) rfl (by kernel_rfl) (by kernel_rfl) (fun _ _ _ h => h) (by assumption) ?_ ?_; rotate_left; (intro w hSw; (try dsimp only at hSw); go_simp; first | done | with_reducible rfl); simp only [Act.put, List.setIfInBounds_toArray, List.set_cons_zero, List.set_cons_succ])
            refine wpAnyH_done (by kernel_rfl) ?_ _
            go_wp2_with fail
            go_ret2
            exact ⟨_, rfl, Kd.R_nil _ _ _ _ _, QZ_b hHeld.out⟩
      · have hse : (s.2 == 0) = false := beq_eq_false_iff_ne.2 hs0
        have hse2 : (s.2 != 0) = true := bne_iff_ne.2 hs0
        have hrd := HRD.out
        rw [if_pos hs0] at hrd
        injection hrd with hr1 hr2
        subst hr1 hr2
        clear HRD
        by_cases hcN : (cnt : Int) < N
        all_goals
          go_wp2_with fail
          go_still (by kernel_rfl)
          go_wp2_with fail
          go_ret2
          exact ⟨_, rfl, Kd.R_nil _ _ _ _ _, HDR.out.2.2⟩
end Go.Proofs.Ytmfnbkghfmeekaa.A
