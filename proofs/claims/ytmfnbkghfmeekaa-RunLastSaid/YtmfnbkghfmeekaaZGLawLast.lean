/- GLawLast -/
import Derived.Test.YtmfnbkghfmeekaaZGOpened
import Derived.Test.YtmfnbkghfmeekaaZGLastP
import Derived.Test.YtmfnbkghfmeekaaZIHeld
namespace Go.Proofs.Ytmfnbkghfmeekaa.A
open Go Go.RowKit Go.Proofs.YtmfnbkghfmeekaaW.PrintWords Go.Proofs.YtmfnbkghfmeekaaW.PrintLast Go.Proofs.YtmfnbkghfmeekaaW.PrintMore
open R C
open Go.Op (bytesLess)
set_option linter.unusedVariables false
set_option linter.unusedSimpArgs false
set_option maxRecDepth 100000 in
set_option maxHeartbeats 8000000 in
theorem lawLast_calls (w : World) (A : Option Addr) (c : Nat) (l : List Vr) (hr : KVr.C w A l.length l) (hc : l.length ≤ c) (hf : ∀ p ∈ l, p.fits) (key : ByteArray) (gk : key.size ≤ maxLen) (br : Int) (gb : IntKind.i64.min ≤ br ∧ br ≤ IntKind.i64.max) (ep : Int) (ge : IntKind.i64.min ≤ ep ∧ ep ≤ IntKind.i64.max) :
    Calls Try.prog 7 #[.slice A l.length c, .string key, .int .i64 br, .int .i64 ep] w fun e w' => e = .returned (.bool true) ∧ Below w.heap.size w w' := by
  have HBK := Aside0.mk (blockM_calls 40 (by omega) A l.length c l w hr hc hf)
  rw [show (((40 : Nat)) : Int) = 40 from rfl] at HBK
  generalize l.length = n at *
  clear hr hf
  clear gk gb ge
  go_enter Try.func7, Try.ntmps7
  go_wp2_with fail
  (with_reducible refine HBK.out.mono ?_)
  rintro e w1 ⟨u1, Z, rfl, hO1, hzM, hZ, hb1⟩
  obtain ⟨z, hz⟩ : ∃ z, Z.length = z := ⟨_, rfl⟩
  rw [hz] at hzM
  obtain ⟨A1, c1, rfl, hc1, hC1⟩ := OVr_readn hO1 z hz
  have HC1 := Aside0.mk hC1
  have HB1 := Aside0.mk hb1
  have HIR := Aside0.mk hZ
  have HN := Aside0.mk hz
  have hrl := run_len hZ (by omega) 5 (by omega)
  have hrp := run_pos Z
  have hop := open_run hZ (by omega)
  have hby := runB_range Z
  have HW := Aside0.mk (fun W h => build_calls A1 z c1 Z W h hc1 (small_may hZ.1) (by omega))
  have hbr : bldR Z = runB Z := by unfold bldR; rw [(okN_iff _).2 hZ]; rfl
  have hbe : bldE Z = 0 := by unfold bldE; rw [(okN_iff _).2 hZ]; rfl
  rw [hbe, hbr] at HW
  have HRW := Aside0.mk (fun W h => rbuild_calls A1 z c1 Z W h hc1 hZ (by omega))
  obtain ⟨B, hB⟩ : ∃ B, runB Z = B := ⟨_, rfl⟩
  rw [hB] at HW HRW hrl hrp hop hby
  have HBB := Aside0.mk hB
  have HOP := Aside0.mk hop
  have HBY := Aside0.mk hby
  obtain ⟨p, hp⟩ : ∃ p, B.length = p := ⟨_, rfl⟩
  rw [hp] at hrl hrp
  have HPN := Aside0.mk hp
  clear hO1 hb1 hC1 HBK hZ hz hop hby hbr hbe hB hp
  go_wp2_with fail
  (with_reducible refine (HW.out _ HC1.out).mono ?_)
  rintro e w2 ⟨u2, rfl, hO2, hb2⟩
  obtain ⟨A2, c2, rfl, hc2, hC2⟩ := OB_readn hO2 p HPN.out
  have HC2 := Aside0.mk hC2
  have HP2 := Aside0.mk (show OB w2 0 (.slice A2 p c2) B ∧ KVr.C w2 A1 z Z ∧ Below w.heap.size w w2 from ⟨Kd.R_lower hO2 (Nat.zero_le _), Kd.C_below HC1.out hb2, below_step HB1.out hb2⟩)
  clear hO2 hb2 HB1 HC1 hC2 HW
  go_wp2_with fail
  (with_reducible refine (open_calls A2 p c2 B w2 HC2.out hc2 HBY.out (by omega)).mono ?_)
  rintro e w3 ⟨hb3, (⟨h1, -⟩ | ⟨cs, r, h1, rfl, hr3⟩)⟩
  · rw [HOP.out] at h1
    cases h1
  · rw [HOP.out] at h1
    injection h1 with h1
    subst h1
    have HP3 : Aside0 (PR w (.slice A2 p c2) B A1 z Z r w3) := ⟨Kd.R_below HP2.out.1 hb3, Kd.C_below HP2.out.2.1 hb3, RnG_open HBY.out (by rw [HPN.out]; omega) HOP.out hr3, below_step HP2.out.2.2 hb3⟩
    clear hb3 hr3 HP2 HC2
    obtain ⟨q, hq1⟩ : ∃ q, lastV (lastsR Z key br ep) = q := ⟨_, rfl⟩
    obtain ⟨b, hq2⟩ : ∃ b, decide (lastsR Z key br ep ≠ []) = b := ⟨_, rfl⟩
    have HLA := Aside0.mk (lastZ_calls HP3.out.rn key br ep)
    have HBEST : Aside0 (∀ p ∈ ofR Z key, isJ br ep p = true → b = true ∧ (p.ep < q.ep ∨ (p.ep = q.ep ∧ p.sq ≤ q.sq))) := ⟨fun p hp hi => by
      have h9 := last_best HIR.out.2 hp hi
      rw [hq1] at h9
      exact ⟨by rw [← hq2]; exact decide_eq_true h9.1, h9.2⟩⟩
    have HANY : Aside0 ((ofR Z key).any (isJ br ep) = b) := ⟨by rw [← hq2]; exact (lasts_any Z key br ep).symm⟩
    obtain ⟨q2, hq3⟩ : ∃ q, lastV (lastsR Z key br 10000) = q := ⟨_, rfl⟩
    obtain ⟨b2, hq4⟩ : ∃ b, decide (lastsR Z key br 10000 ≠ []) = b := ⟨_, rfl⟩
    have HMORE : Aside0 (b = true → ep ≤ 10000 → b2 = true ∧ q.ep ≤ q2.ep) := ⟨fun hb he => by
      have h9 := last_more HIR.out.2 (of_decide_eq_true (hq2.trans hb)) he
      rw [hq1, hq3] at h9
      exact ⟨by rw [← hq4]; exact decide_eq_true h9.1, h9.2⟩⟩
    have HLM : Aside0 (∀ W, RnG W r (pcs Z) → Calls Try.prog 21 #[.pointer (some ⟨r, 0, none⟩), .string key, .int .i64 br, .int .i64 10000] W fun e w' => e = .returned (.tuple #[vrV q2, .bool b2]) ∧ Below W.heap.size W w') := ⟨fun W h => by
      have h9 := lastZ_calls h key br 10000
      rw [hq3, hq4] at h9
      exact h9⟩
    rw [hq1, hq2] at HLA
    clear hq1 hq2 hq3 hq4
    obtain ⟨qk, qbr, qep, qsq, qf, qt, qv, qg⟩ := q
    obtain ⟨rk, rbr, rep, rsq, rf, rt, rv, rg⟩ := q2
    simp only at HBEST HMORE
    go_wp2_with fail
    (with_reducible refine HLA.out.mono ?_)
    rintro e w4 ⟨rfl, hb4⟩
    have HP4 := Aside0.mk ((HP3.out.step hb4).step (below_alloc (Below.refl _ _) (vrBox qk qbr qep qsq qf qt qv qg)))
    clear hb4
    have HX4 := Aside0.mk (heap_alloc_new w4 (vrBox qk qbr qep qsq qf qt qv qg))
    go_wp2_with fail
    (with_reducible refine (ofZ_calls HP4.out.rn key).mono ?_)
    rintro e w5 ⟨u5, rfl, hO5, hb5⟩
    obtain ⟨X, hX⟩ : ∃ X, ofR Z key = X := ⟨_, rfl⟩
    rw [hX] at hO5 HBEST HANY
    obtain ⟨x, hx⟩ : ∃ x, X.length = x := ⟨_, rfl⟩
    obtain ⟨A5, c5, rfl, hc5, hC5⟩ := OVr_readn hO5 x hx
    have hl5 : x ≤ 1000 := by
      have h9 : (ofR Z key).length ≤ Z.length := List.length_filter_le _ _
      rw [hX, hx, HN.out] at h9
      omega
    have HC5 := Aside0.mk hC5
    have HXL := Aside0.mk hx
    have HP5 := Aside0.mk (HP4.out.step hb5)
    have HX5 := Aside0.mk (blk_keep HX4.out hb5)
    obtain ⟨g, hg⟩ : ∃ g, w4.heap.size = g := ⟨_, rfl⟩
    rw [hg] at HX5
    clear hO5 hb5 hC5 hX hx HX4 HP4 HLA
    go_wp2_with fail
    go_loopw [17, 18] (fun v17 v18 wr => ∃ k : Nat, v18 = .int .i64 k ∧ v17 = .bool ((X.take k).any (isJ br ep)) ∧ k ≤ x ∧ Aside0 (Below w5.heap.size w5 wr)) (fun _ v18 _ => x - (intOf v18).toNat)
    case atStart => exact ⟨0, rfl, rfl, Nat.zero_le _, ⟨Below.refl _ _⟩⟩
    case round =>
      obtain ⟨k, rfl, rfl, hk, HS⟩ := hrel
      obtain ⟨fo, hfo⟩ : ∃ fo, (X.take k).any (isJ br ep) = fo := ⟨_, rfl⟩
      by_cases hlt : k < x
      · have hkl : k < X.length := by rw [HXL.out]; exact hlt
        have j1 : (k : Int) < (x : Int) := by omega
        have j2 : (0 : Int) ≤ (k : Int) := by omega
        have HSd := Aside0.mk (below_step HS.out (below_drew1 (Below.refl _ _)))
        obtain ⟨e0, e1, e2, e3, e4, e5, e6, e7⟩ := vr_cells8 (blk_keep HX5.out HSd.out)
        have hany := any_take (isJ br ep) X k hkl
        rw [hfo] at hany ⊢
        clear hfo
        have hmem : X.getD k default ∈ X := by
          rw [List.getD_eq_getElem?_getD, List.getElem?_eq_getElem hkl]
          exact List.getElem_mem _
        obtain ⟨ad, rfl, -⟩ := C_atVr (Kd.C_below HC5.out HS.out) k hlt
        obtain ⟨p, hp⟩ : ∃ q, X.getD k default = q := ⟨_, rfl⟩
        rw [hp] at hany hmem
        have HB1 := Aside0.mk (HBEST.out p hmem)
        obtain ⟨pk, pbr, pep, psq, pf, pt, pv, pg⟩ := p
        obtain ⟨z0, z1, z2, z3, z4, z5, z6, z7⟩ := C_atVr' (Kd.C_below HC5.out HS.out) k hlt _ hp
        obtain ⟨d0, d1, d2, d3, d4, d5, d6, d7⟩ := C_atVr' (Kd.C_below HC5.out HSd.out) k hlt _ hp
        simp only at z0 z1 z2 z3 z4 z5 z6 z7 d0 d1 d2 d3 d4 d5 d6 d7
        by_cases hi : pbr = br ∧ pep ≤ ep
        · obtain ⟨hi1, hi2⟩ := hi
          have hisb : isJ br ep ⟨pk, pbr, pep, psq, pf, pt, pv, pg⟩ = true := by
            unfold isJ
            simp only [Bool.and_eq_true, decide_eq_true_eq]
            exact ⟨hi1, hi2⟩
          obtain ⟨hb1, hb2⟩ := HB1.out hisb
          rw [hisb, Bool.or_true] at hany
          have HA := Aside0.mk hany
          subst hb1
          simp only at hb2
          subst hi1
          have n1 : decide (qep < pep) = false := decide_eq_false (by omega)
          rcases hb2 with hb2 | ⟨hb2, hb3⟩
          · have n2 : (qep == pep) = false := by rw [beq_eq_false_iff_ne]; omega
            clear hany hmem hp hisb HB1
            go_wp2_with fail
            clear z0 z1 z2 z3 z4 z5 z6 z7 e0 e1 e4 e5 e6 e7 d0 d1 d4 d5 d6 d7
            refine wp_region_held_drew (S := fun w' => w'.cell? ⟨g, 2, none⟩ = some (.int .i64 qep) ∧ w'.cell? ⟨g, 3, none⟩ = some (.int .i64 qsq) ∧ w'.cell? ⟨(ad.add (k * 8)).block, (ad.add (k * 8)).off + 2, none⟩ = some (.int .i64 pep) ∧ w'.cell? ⟨(ad.add (k * 8)).block, (ad.add (k * 8)).off + 3, none⟩ = some (.int .i64 psq)) (by kernel_rfl) ⟨e2, e3, d2, d3⟩ (fun hHeld => ?_)
            (refine hd_take 0 (v := ?_) rfl (by kernel_rfl) (by kernel_rfl) (fun _ _ _ h => h) (by assumption) ?_ ?_; rotate_left; (intro w hSw; (try dsimp only at hSw); obtain ⟨s1, s2, s3, s4⟩ := hSw; go_simp; first | done | with_reducible rfl); simp only [Act.put, List.setIfInBounds_toArray, List.set_cons_zero, List.set_cons_succ])
            (refine hd_take 1 (v := ?_) rfl (by kernel_rfl) (by kernel_rfl) (fun _ _ _ h => h) (by assumption) ?_ ?_; rotate_left; (intro w hSw; (try dsimp only at hSw); obtain ⟨s1, s2, s3, s4⟩ := hSw; go_simp; first | done | with_reducible rfl); simp only [Act.put, List.setIfInBounds_toArray, List.set_cons_zero, List.set_cons_succ])
            (refine hd_take 2 (v := ?_) rfl (by kernel_rfl) (by kernel_rfl) (fun _ _ _ h => h) (by assumption) ?_ ?_; rotate_left; (intro w hSw; (try dsimp only at hSw); obtain ⟨s1, s2, s3, s4⟩ := hSw; go_simp; first | done | with_reducible rfl); simp only [Act.put, List.setIfInBounds_toArray, List.set_cons_zero, List.set_cons_succ])
            (refine hd_take 3 (v := ?_) rfl (by kernel_rfl) (by kernel_rfl) (fun _ _ _ h => h) (by assumption) ?_ ?_; rotate_left; (intro w hSw; (try dsimp only at hSw); obtain ⟨s1, s2, s3, s4⟩ := hSw; go_simp; first | done | with_reducible rfl); simp only [Act.put, List.setIfInBounds_toArray, List.set_cons_zero, List.set_cons_succ])
            (refine hd_take 4 (v := ?_) rfl (by kernel_rfl) (by kernel_rfl) (fun _ _ _ h => h) (by assumption) ?_ ?_; rotate_left; (intro w hSw; (try dsimp only at hSw); obtain ⟨s1, s2, s3, s4⟩ := hSw; go_simp; first | done | with_reducible rfl); simp only [Act.put, List.setIfInBounds_toArray, List.set_cons_zero, List.set_cons_succ])
            (refine hd_take 5 (v := ?_) rfl (by kernel_rfl) (by kernel_rfl) (fun _ _ _ h => h) (by assumption) ?_ ?_; rotate_left; (intro w hSw; (try dsimp only at hSw); obtain ⟨s1, s2, s3, s4⟩ := hSw; go_simp; first | done | with_reducible rfl); simp only [Act.put, List.setIfInBounds_toArray, List.set_cons_zero, List.set_cons_succ])
            (refine hd_take 6 (v := ?_) rfl (by kernel_rfl) (by kernel_rfl) (fun _ _ _ h => h) (by assumption) ?_ ?_; rotate_left; (intro w hSw; (try dsimp only at hSw); obtain ⟨s1, s2, s3, s4⟩ := hSw; go_simp; first | done | with_reducible rfl); simp only [Act.put, List.setIfInBounds_toArray, List.set_cons_zero, List.set_cons_succ])
            (refine hd_take 7 (v := ?_) rfl (by kernel_rfl) (by kernel_rfl) (fun _ _ _ h => h) (by assumption) ?_ ?_; rotate_left; (intro w hSw; (try dsimp only at hSw); obtain ⟨s1, s2, s3, s4⟩ := hSw; go_simp; first | done | with_reducible rfl); simp only [Act.put, List.setIfInBounds_toArray, List.set_cons_zero, List.set_cons_succ])
            (refine hd_take 8 (v := ?_) rfl (by kernel_rfl) (by kernel_rfl) (fun _ _ _ h => h) (by assumption) ?_ ?_; rotate_left; (intro w hSw; (try dsimp only at hSw); obtain ⟨s1, s2, s3, s4⟩ := hSw; go_simp; first | done | with_reducible rfl); simp only [Act.put, List.setIfInBounds_toArray, List.set_cons_zero, List.set_cons_succ])
            (refine hd_take 9 (v := ?_) rfl (by kernel_rfl) (by kernel_rfl) (fun _ _ _ h => h) (by assumption) ?_ ?_; rotate_left; (intro w hSw; (try dsimp only at hSw); obtain ⟨s1, s2, s3, s4⟩ := hSw; go_simp; first | done | with_reducible rfl); simp only [Act.put, List.setIfInBounds_toArray, List.set_cons_zero, List.set_cons_succ])
            (refine hd_take 10 (v := ?_) rfl (by kernel_rfl) (by kernel_rfl) (fun _ _ _ h => h) (by assumption) ?_ ?_; rotate_left; (intro w hSw; (try dsimp only at hSw); obtain ⟨s1, s2, s3, s4⟩ := hSw; go_simp; first | done | with_reducible rfl); simp only [Act.put, List.setIfInBounds_toArray, List.set_cons_zero, List.set_cons_succ])
            (refine hd_take 11 (v := ?_) rfl (by kernel_rfl) (by kernel_rfl) (fun _ _ _ h => h) (by assumption) ?_ ?_; rotate_left; (intro w hSw; (try dsimp only at hSw); obtain ⟨s1, s2, s3, s4⟩ := hSw; go_simp; first | done | with_reducible rfl); simp only [Act.put, List.setIfInBounds_toArray, List.set_cons_zero, List.set_cons_succ])
            (refine hd_take 12 (v := ?_) rfl (by kernel_rfl) (by kernel_rfl) (fun _ _ _ h => h) (by assumption) ?_ ?_; rotate_left; (intro w hSw; (try dsimp only at hSw); obtain ⟨s1, s2, s3, s4⟩ := hSw; go_simp; first | done | with_reducible rfl); simp only [Act.put, List.setIfInBounds_toArray, List.set_cons_zero, List.set_cons_succ])
            (refine hd_take 13 (v := ?_) rfl (by kernel_rfl) (by kernel_rfl) (fun _ _ _ h => h) (by assumption) ?_ ?_; rotate_left; (intro w hSw; (try dsimp only at hSw); obtain ⟨s1, s2, s3, s4⟩ := hSw; go_simp; first | done | with_reducible rfl); simp only [Act.put, List.setIfInBounds_toArray, List.set_cons_zero, List.set_cons_succ])
            (refine hd_take 14 (v := ?_) rfl (by kernel_rfl) (by kernel_rfl) (fun _ _ _ h => h) (by assumption) ?_ ?_; rotate_left; (intro w hSw; (try dsimp only at hSw); obtain ⟨s1, s2, s3, s4⟩ := hSw; go_simp; first | done | with_reducible rfl); simp only [Act.put, List.setIfInBounds_toArray, List.set_cons_zero, List.set_cons_succ])
            (refine hd_take 15 (v := ?_) rfl (by kernel_rfl) (by kernel_rfl) (fun _ _ _ h => h) (by assumption) ?_ ?_; rotate_left; (intro w hSw; (try dsimp only at hSw); obtain ⟨s1, s2, s3, s4⟩ := hSw; go_simp; first | done | with_reducible rfl); simp only [Act.put, List.setIfInBounds_toArray, List.set_cons_zero, List.set_cons_succ])
            (refine hd_take 16 (v := ?_) rfl (by kernel_rfl) (by kernel_rfl) (fun _ _ _ h => h) (by assumption) ?_ ?_; rotate_left; (intro w hSw; (try dsimp only at hSw); obtain ⟨s1, s2, s3, s4⟩ := hSw; go_simp; first | done | with_reducible rfl); simp only [Act.put, List.setIfInBounds_toArray, List.set_cons_zero, List.set_cons_succ])
            (refine hd_take 17 (v := ?_) rfl (by kernel_rfl) (by kernel_rfl) (fun _ _ _ h => h) (by assumption) ?_ ?_; rotate_left; (intro w hSw; (try dsimp only at hSw); obtain ⟨s1, s2, s3, s4⟩ := hSw; go_simp; first | done | with_reducible rfl); simp only [Act.put, List.setIfInBounds_toArray, List.set_cons_zero, List.set_cons_succ])
            (refine hd_take 18 (v := ?_) rfl (by kernel_rfl) (by kernel_rfl) (fun _ _ _ h => h) (by assumption) ?_ ?_; rotate_left; (intro w hSw; (try dsimp only at hSw); obtain ⟨s1, s2, s3, s4⟩ := hSw; go_simp; first | done | with_reducible rfl); simp only [Act.put, List.setIfInBounds_toArray, List.set_cons_zero, List.set_cons_succ])
            (refine hd_take 19 (v := ?_) rfl (by kernel_rfl) (by kernel_rfl) (fun _ _ _ h => h) (by assumption) ?_ ?_; rotate_left; (intro w hSw; (try dsimp only at hSw); obtain ⟨s1, s2, s3, s4⟩ := hSw; go_simp; first | done | with_reducible rfl); simp only [Act.put, List.setIfInBounds_toArray, List.set_cons_zero, List.set_cons_succ])
            (refine hd_take 20 (v := ?_) rfl (by kernel_rfl) (by kernel_rfl) (fun _ _ _ h => h) (by assumption) ?_ ?_; rotate_left; (intro w hSw; (try dsimp only at hSw); obtain ⟨s1, s2, s3, s4⟩ := hSw; go_simp; first | done | with_reducible rfl); simp only [Act.put, List.setIfInBounds_toArray, List.set_cons_zero, List.set_cons_succ])
            (refine hd_take 21 (v := ?_) rfl (by kernel_rfl) (by kernel_rfl) (fun _ _ _ h => h) (by assumption) ?_ ?_; rotate_left; (intro w hSw; (try dsimp only at hSw); obtain ⟨s1, s2, s3, s4⟩ := hSw; go_simp; first | done | with_reducible rfl); simp only [Act.put, List.setIfInBounds_toArray, List.set_cons_zero, List.set_cons_succ])
            (refine hd_take 22 (v := ?_) rfl (by kernel_rfl) (by kernel_rfl) (fun _ _ _ h => h) (by assumption) ?_ ?_; rotate_left; (intro w hSw; (try dsimp only at hSw); obtain ⟨s1, s2, s3, s4⟩ := hSw; go_simp; first | done | with_reducible rfl); simp only [Act.put, List.setIfInBounds_toArray, List.set_cons_zero, List.set_cons_succ])
            (refine hd_take 23 (v := ?_) rfl (by kernel_rfl) (by kernel_rfl) (fun _ _ _ h => h) (by assumption) ?_ ?_; rotate_left; (intro w hSw; (try dsimp only at hSw); obtain ⟨s1, s2, s3, s4⟩ := hSw; go_simp; first | done | with_reducible rfl); simp only [Act.put, List.setIfInBounds_toArray, List.set_cons_zero, List.set_cons_succ])
            (refine hd_take 24 (v := ?_) rfl (by kernel_rfl) (by kernel_rfl) (fun _ _ _ h => h) (by assumption) ?_ ?_; rotate_left; (intro w hSw; (try dsimp only at hSw); obtain ⟨s1, s2, s3, s4⟩ := hSw; go_simp; first | done | with_reducible rfl); simp only [Act.put, List.setIfInBounds_toArray, List.set_cons_zero, List.set_cons_succ])
            (refine hd_take 25 (v := ?_) rfl (by kernel_rfl) (by kernel_rfl) (fun _ _ _ h => h) (by assumption) ?_ ?_; rotate_left; (intro w hSw; (try dsimp only at hSw); obtain ⟨s1, s2, s3, s4⟩ := hSw; go_simp; first | done | with_reducible rfl); simp only [Act.put, List.setIfInBounds_toArray, List.set_cons_zero, List.set_cons_succ])
            (refine hd_skip 26 rfl (by kernel_rfl) (by kernel_rfl) (fun _ _ _ h => h) (by assumption) ?_; simp only [Act.put, List.setIfInBounds_toArray, List.set_cons_zero, List.set_cons_succ])
            (refine hd_skip 27 rfl (by kernel_rfl) (by kernel_rfl) (fun _ _ _ h => h) (by assumption) ?_; simp only [Act.put, List.setIfInBounds_toArray, List.set_cons_zero, List.set_cons_succ])
            (refine hd_skip 28 rfl (by kernel_rfl) (by kernel_rfl) (fun _ _ _ h => h) (by assumption) ?_; simp only [Act.put, List.setIfInBounds_toArray, List.set_cons_zero, List.set_cons_succ])
            (refine hd_skip 29 rfl (by kernel_rfl) (by kernel_rfl) (fun _ _ _ h => h) (by assumption) ?_; simp only [Act.put, List.setIfInBounds_toArray, List.set_cons_zero, List.set_cons_succ])
            (refine hd_skip 30 rfl (by kernel_rfl) (by kernel_rfl) (fun _ _ _ h => h) (by assumption) ?_; simp only [Act.put, List.setIfInBounds_toArray, List.set_cons_zero, List.set_cons_succ])
            (refine hd_skip 31 rfl (by kernel_rfl) (by kernel_rfl) (fun _ _ _ h => h) (by assumption) ?_; simp only [Act.put, List.setIfInBounds_toArray, List.set_cons_zero, List.set_cons_succ])
            (refine hd_skip 32 rfl (by kernel_rfl) (by kernel_rfl) (fun _ _ _ h => h) (by assumption) ?_; simp only [Act.put, List.setIfInBounds_toArray, List.set_cons_zero, List.set_cons_succ])
            (refine hd_skip 33 rfl (by kernel_rfl) (by kernel_rfl) (fun _ _ _ h => h) (by assumption) ?_; simp only [Act.put, List.setIfInBounds_toArray, List.set_cons_zero, List.set_cons_succ])
            (refine hd_skip 34 rfl (by kernel_rfl) (by kernel_rfl) (fun _ _ _ h => h) (by assumption) ?_; simp only [Act.put, List.setIfInBounds_toArray, List.set_cons_zero, List.set_cons_succ])
            (refine hd_skip 35 rfl (by kernel_rfl) (by kernel_rfl) (fun _ _ _ h => h) (by assumption) ?_; simp only [Act.put, List.setIfInBounds_toArray, List.set_cons_zero, List.set_cons_succ])
            (refine hd_take 36 (v := ?_) rfl (by kernel_rfl) (by kernel_rfl) (fun _ _ _ h => h) (by assumption) ?_ ?_; rotate_left; (intro w hSw; (try dsimp only at hSw); obtain ⟨s1, s2, s3, s4⟩ := hSw; go_simp; first | done | with_reducible rfl); simp only [Act.put, List.setIfInBounds_toArray, List.set_cons_zero, List.set_cons_succ])
            (refine hd_take 37 (v := ?_) rfl (by kernel_rfl) (by kernel_rfl) (fun _ _ _ h => h) (by assumption) ?_ ?_; rotate_left; (intro w hSw; (try dsimp only at hSw); obtain ⟨s1, s2, s3, s4⟩ := hSw; go_simp; first | done | with_reducible rfl); simp only [Act.put, List.setIfInBounds_toArray, List.set_cons_zero, List.set_cons_succ])
            refine wpAnyH_done (by kernel_rfl) ?_ _
            clear hHeld
            go_wp2_with fail
            go_roundw
            case rel => exact ⟨k + 1, by push_cast; rfl, by rw [HA.out], hlt, HSd⟩
            case measure => simp [intOf]; omega
          · subst hb2
            have n2 : (pep == pep) = true := by rw [beq_iff_eq]
            have n3 : decide (qsq < psq) = false := decide_eq_false (by omega)
            clear hany hmem hp hisb HB1
            go_wp2_with fail
            clear z0 z1 z2 z3 z4 z5 z6 z7 e0 e1 e4 e5 e6 e7 d0 d1 d4 d5 d6 d7
            refine wp_region_held_drew (S := fun w' => w'.cell? ⟨g, 2, none⟩ = some (.int .i64 pep) ∧ w'.cell? ⟨g, 3, none⟩ = some (.int .i64 qsq) ∧ w'.cell? ⟨(ad.add (k * 8)).block, (ad.add (k * 8)).off + 2, none⟩ = some (.int .i64 pep) ∧ w'.cell? ⟨(ad.add (k * 8)).block, (ad.add (k * 8)).off + 3, none⟩ = some (.int .i64 psq)) (by kernel_rfl) ⟨e2, e3, d2, d3⟩ (fun hHeld => ?_)
            (refine hd_take 0 (v := ?_) rfl (by kernel_rfl) (by kernel_rfl) (fun _ _ _ h => h) (by assumption) ?_ ?_; rotate_left; (intro w hSw; (try dsimp only at hSw); obtain ⟨s1, s2, s3, s4⟩ := hSw; go_simp; first | done | with_reducible rfl); simp only [Act.put, List.setIfInBounds_toArray, List.set_cons_zero, List.set_cons_succ])
            (refine hd_take 1 (v := ?_) rfl (by kernel_rfl) (by kernel_rfl) (fun _ _ _ h => h) (by assumption) ?_ ?_; rotate_left; (intro w hSw; (try dsimp only at hSw); obtain ⟨s1, s2, s3, s4⟩ := hSw; go_simp; first | done | with_reducible rfl); simp only [Act.put, List.setIfInBounds_toArray, List.set_cons_zero, List.set_cons_succ])
            (refine hd_take 2 (v := ?_) rfl (by kernel_rfl) (by kernel_rfl) (fun _ _ _ h => h) (by assumption) ?_ ?_; rotate_left; (intro w hSw; (try dsimp only at hSw); obtain ⟨s1, s2, s3, s4⟩ := hSw; go_simp; first | done | with_reducible rfl); simp only [Act.put, List.setIfInBounds_toArray, List.set_cons_zero, List.set_cons_succ])
            (refine hd_take 3 (v := ?_) rfl (by kernel_rfl) (by kernel_rfl) (fun _ _ _ h => h) (by assumption) ?_ ?_; rotate_left; (intro w hSw; (try dsimp only at hSw); obtain ⟨s1, s2, s3, s4⟩ := hSw; go_simp; first | done | with_reducible rfl); simp only [Act.put, List.setIfInBounds_toArray, List.set_cons_zero, List.set_cons_succ])
            (refine hd_take 4 (v := ?_) rfl (by kernel_rfl) (by kernel_rfl) (fun _ _ _ h => h) (by assumption) ?_ ?_; rotate_left; (intro w hSw; (try dsimp only at hSw); obtain ⟨s1, s2, s3, s4⟩ := hSw; go_simp; first | done | with_reducible rfl); simp only [Act.put, List.setIfInBounds_toArray, List.set_cons_zero, List.set_cons_succ])
            (refine hd_take 5 (v := ?_) rfl (by kernel_rfl) (by kernel_rfl) (fun _ _ _ h => h) (by assumption) ?_ ?_; rotate_left; (intro w hSw; (try dsimp only at hSw); obtain ⟨s1, s2, s3, s4⟩ := hSw; go_simp; first | done | with_reducible rfl); simp only [Act.put, List.setIfInBounds_toArray, List.set_cons_zero, List.set_cons_succ])
            (refine hd_take 6 (v := ?_) rfl (by kernel_rfl) (by kernel_rfl) (fun _ _ _ h => h) (by assumption) ?_ ?_; rotate_left; (intro w hSw; (try dsimp only at hSw); obtain ⟨s1, s2, s3, s4⟩ := hSw; go_simp; first | done | with_reducible rfl); simp only [Act.put, List.setIfInBounds_toArray, List.set_cons_zero, List.set_cons_succ])
            (refine hd_take 7 (v := ?_) rfl (by kernel_rfl) (by kernel_rfl) (fun _ _ _ h => h) (by assumption) ?_ ?_; rotate_left; (intro w hSw; (try dsimp only at hSw); obtain ⟨s1, s2, s3, s4⟩ := hSw; go_simp; first | done | with_reducible rfl); simp only [Act.put, List.setIfInBounds_toArray, List.set_cons_zero, List.set_cons_succ])
            (refine hd_take 8 (v := ?_) rfl (by kernel_rfl) (by kernel_rfl) (fun _ _ _ h => h) (by assumption) ?_ ?_; rotate_left; (intro w hSw; (try dsimp only at hSw); obtain ⟨s1, s2, s3, s4⟩ := hSw; go_simp; first | done | with_reducible rfl); simp only [Act.put, List.setIfInBounds_toArray, List.set_cons_zero, List.set_cons_succ])
            (refine hd_take 9 (v := ?_) rfl (by kernel_rfl) (by kernel_rfl) (fun _ _ _ h => h) (by assumption) ?_ ?_; rotate_left; (intro w hSw; (try dsimp only at hSw); obtain ⟨s1, s2, s3, s4⟩ := hSw; go_simp; first | done | with_reducible rfl); simp only [Act.put, List.setIfInBounds_toArray, List.set_cons_zero, List.set_cons_succ])
            (refine hd_take 10 (v := ?_) rfl (by kernel_rfl) (by kernel_rfl) (fun _ _ _ h => h) (by assumption) ?_ ?_; rotate_left; (intro w hSw; (try dsimp only at hSw); obtain ⟨s1, s2, s3, s4⟩ := hSw; go_simp; first | done | with_reducible rfl); simp only [Act.put, List.setIfInBounds_toArray, List.set_cons_zero, List.set_cons_succ])
            (refine hd_take 11 (v := ?_) rfl (by kernel_rfl) (by kernel_rfl) (fun _ _ _ h => h) (by assumption) ?_ ?_; rotate_left; (intro w hSw; (try dsimp only at hSw); obtain ⟨s1, s2, s3, s4⟩ := hSw; go_simp; first | done | with_reducible rfl); simp only [Act.put, List.setIfInBounds_toArray, List.set_cons_zero, List.set_cons_succ])
            (refine hd_take 12 (v := ?_) rfl (by kernel_rfl) (by kernel_rfl) (fun _ _ _ h => h) (by assumption) ?_ ?_; rotate_left; (intro w hSw; (try dsimp only at hSw); obtain ⟨s1, s2, s3, s4⟩ := hSw; go_simp; first | done | with_reducible rfl); simp only [Act.put, List.setIfInBounds_toArray, List.set_cons_zero, List.set_cons_succ])
            (refine hd_take 13 (v := ?_) rfl (by kernel_rfl) (by kernel_rfl) (fun _ _ _ h => h) (by assumption) ?_ ?_; rotate_left; (intro w hSw; (try dsimp only at hSw); obtain ⟨s1, s2, s3, s4⟩ := hSw; go_simp; first | done | with_reducible rfl); simp only [Act.put, List.setIfInBounds_toArray, List.set_cons_zero, List.set_cons_succ])
            (refine hd_take 14 (v := ?_) rfl (by kernel_rfl) (by kernel_rfl) (fun _ _ _ h => h) (by assumption) ?_ ?_; rotate_left; (intro w hSw; (try dsimp only at hSw); obtain ⟨s1, s2, s3, s4⟩ := hSw; go_simp; first | done | with_reducible rfl); simp only [Act.put, List.setIfInBounds_toArray, List.set_cons_zero, List.set_cons_succ])
            (refine hd_take 15 (v := ?_) rfl (by kernel_rfl) (by kernel_rfl) (fun _ _ _ h => h) (by assumption) ?_ ?_; rotate_left; (intro w hSw; (try dsimp only at hSw); obtain ⟨s1, s2, s3, s4⟩ := hSw; go_simp; first | done | with_reducible rfl); simp only [Act.put, List.setIfInBounds_toArray, List.set_cons_zero, List.set_cons_succ])
            (refine hd_take 16 (v := ?_) rfl (by kernel_rfl) (by kernel_rfl) (fun _ _ _ h => h) (by assumption) ?_ ?_; rotate_left; (intro w hSw; (try dsimp only at hSw); obtain ⟨s1, s2, s3, s4⟩ := hSw; go_simp; first | done | with_reducible rfl); simp only [Act.put, List.setIfInBounds_toArray, List.set_cons_zero, List.set_cons_succ])
            (refine hd_take 17 (v := ?_) rfl (by kernel_rfl) (by kernel_rfl) (fun _ _ _ h => h) (by assumption) ?_ ?_; rotate_left; (intro w hSw; (try dsimp only at hSw); obtain ⟨s1, s2, s3, s4⟩ := hSw; go_simp; first | done | with_reducible rfl); simp only [Act.put, List.setIfInBounds_toArray, List.set_cons_zero, List.set_cons_succ])
            (refine hd_take 18 (v := ?_) rfl (by kernel_rfl) (by kernel_rfl) (fun _ _ _ h => h) (by assumption) ?_ ?_; rotate_left; (intro w hSw; (try dsimp only at hSw); obtain ⟨s1, s2, s3, s4⟩ := hSw; go_simp; first | done | with_reducible rfl); simp only [Act.put, List.setIfInBounds_toArray, List.set_cons_zero, List.set_cons_succ])
            (refine hd_take 19 (v := ?_) rfl (by kernel_rfl) (by kernel_rfl) (fun _ _ _ h => h) (by assumption) ?_ ?_; rotate_left; (intro w hSw; (try dsimp only at hSw); obtain ⟨s1, s2, s3, s4⟩ := hSw; go_simp; first | done | with_reducible rfl); simp only [Act.put, List.setIfInBounds_toArray, List.set_cons_zero, List.set_cons_succ])
            (refine hd_take 20 (v := ?_) rfl (by kernel_rfl) (by kernel_rfl) (fun _ _ _ h => h) (by assumption) ?_ ?_; rotate_left; (intro w hSw; (try dsimp only at hSw); obtain ⟨s1, s2, s3, s4⟩ := hSw; go_simp; first | done | with_reducible rfl); simp only [Act.put, List.setIfInBounds_toArray, List.set_cons_zero, List.set_cons_succ])
            (refine hd_take 21 (v := ?_) rfl (by kernel_rfl) (by kernel_rfl) (fun _ _ _ h => h) (by assumption) ?_ ?_; rotate_left; (intro w hSw; (try dsimp only at hSw); obtain ⟨s1, s2, s3, s4⟩ := hSw; go_simp; first | done | with_reducible rfl); simp only [Act.put, List.setIfInBounds_toArray, List.set_cons_zero, List.set_cons_succ])
            (refine hd_take 22 (v := ?_) rfl (by kernel_rfl) (by kernel_rfl) (fun _ _ _ h => h) (by assumption) ?_ ?_; rotate_left; (intro w hSw; (try dsimp only at hSw); obtain ⟨s1, s2, s3, s4⟩ := hSw; go_simp; first | done | with_reducible rfl); simp only [Act.put, List.setIfInBounds_toArray, List.set_cons_zero, List.set_cons_succ])
            (refine hd_take 23 (v := ?_) rfl (by kernel_rfl) (by kernel_rfl) (fun _ _ _ h => h) (by assumption) ?_ ?_; rotate_left; (intro w hSw; (try dsimp only at hSw); obtain ⟨s1, s2, s3, s4⟩ := hSw; go_simp; first | done | with_reducible rfl); simp only [Act.put, List.setIfInBounds_toArray, List.set_cons_zero, List.set_cons_succ])
            (refine hd_take 24 (v := ?_) rfl (by kernel_rfl) (by kernel_rfl) (fun _ _ _ h => h) (by assumption) ?_ ?_; rotate_left; (intro w hSw; (try dsimp only at hSw); obtain ⟨s1, s2, s3, s4⟩ := hSw; go_simp; first | done | with_reducible rfl); simp only [Act.put, List.setIfInBounds_toArray, List.set_cons_zero, List.set_cons_succ])
            (refine hd_take 25 (v := ?_) rfl (by kernel_rfl) (by kernel_rfl) (fun _ _ _ h => h) (by assumption) ?_ ?_; rotate_left; (intro w hSw; (try dsimp only at hSw); obtain ⟨s1, s2, s3, s4⟩ := hSw; go_simp; first | done | with_reducible rfl); simp only [Act.put, List.setIfInBounds_toArray, List.set_cons_zero, List.set_cons_succ])
            (refine hd_take 26 (v := ?_) rfl (by kernel_rfl) (by kernel_rfl) (fun _ _ _ h => h) (by assumption) ?_ ?_; rotate_left; (intro w hSw; (try dsimp only at hSw); obtain ⟨s1, s2, s3, s4⟩ := hSw; go_simp; first | done | with_reducible rfl); simp only [Act.put, List.setIfInBounds_toArray, List.set_cons_zero, List.set_cons_succ])
            (refine hd_take 27 (v := ?_) rfl (by kernel_rfl) (by kernel_rfl) (fun _ _ _ h => h) (by assumption) ?_ ?_; rotate_left; (intro w hSw; (try dsimp only at hSw); obtain ⟨s1, s2, s3, s4⟩ := hSw; go_simp; first | done | with_reducible rfl); simp only [Act.put, List.setIfInBounds_toArray, List.set_cons_zero, List.set_cons_succ])
            (refine hd_take 28 (v := ?_) rfl (by kernel_rfl) (by kernel_rfl) (fun _ _ _ h => h) (by assumption) ?_ ?_; rotate_left; (intro w hSw; (try dsimp only at hSw); obtain ⟨s1, s2, s3, s4⟩ := hSw; go_simp; first | done | with_reducible rfl); simp only [Act.put, List.setIfInBounds_toArray, List.set_cons_zero, List.set_cons_succ])
            (refine hd_take 29 (v := ?_) rfl (by kernel_rfl) (by kernel_rfl) (fun _ _ _ h => h) (by assumption) ?_ ?_; rotate_left; (intro w hSw; (try dsimp only at hSw); obtain ⟨s1, s2, s3, s4⟩ := hSw; go_simp; first | done | with_reducible rfl); simp only [Act.put, List.setIfInBounds_toArray, List.set_cons_zero, List.set_cons_succ])
            (refine hd_take 30 (v := ?_) rfl (by kernel_rfl) (by kernel_rfl) (fun _ _ _ h => h) (by assumption) ?_ ?_; rotate_left; (intro w hSw; (try dsimp only at hSw); obtain ⟨s1, s2, s3, s4⟩ := hSw; go_simp; first | done | with_reducible rfl); simp only [Act.put, List.setIfInBounds_toArray, List.set_cons_zero, List.set_cons_succ])
            (refine hd_take 31 (v := ?_) rfl (by kernel_rfl) (by kernel_rfl) (fun _ _ _ h => h) (by assumption) ?_ ?_; rotate_left; (intro w hSw; (try dsimp only at hSw); obtain ⟨s1, s2, s3, s4⟩ := hSw; go_simp; first | done | with_reducible rfl); simp only [Act.put, List.setIfInBounds_toArray, List.set_cons_zero, List.set_cons_succ])
            (refine hd_take 32 (v := ?_) rfl (by kernel_rfl) (by kernel_rfl) (fun _ _ _ h => h) (by assumption) ?_ ?_; rotate_left; (intro w hSw; (try dsimp only at hSw); obtain ⟨s1, s2, s3, s4⟩ := hSw; go_simp; first | done | with_reducible rfl); simp only [Act.put, List.setIfInBounds_toArray, List.set_cons_zero, List.set_cons_succ])
            (refine hd_take 33 (v := ?_) rfl (by kernel_rfl) (by kernel_rfl) (fun _ _ _ h => h) (by assumption) ?_ ?_; rotate_left; (intro w hSw; (try dsimp only at hSw); obtain ⟨s1, s2, s3, s4⟩ := hSw; go_simp; first | done | with_reducible rfl); simp only [Act.put, List.setIfInBounds_toArray, List.set_cons_zero, List.set_cons_succ])
            (refine hd_take 34 (v := ?_) rfl (by kernel_rfl) (by kernel_rfl) (fun _ _ _ h => h) (by assumption) ?_ ?_; rotate_left; (intro w hSw; (try dsimp only at hSw); obtain ⟨s1, s2, s3, s4⟩ := hSw; go_simp; first | done | with_reducible rfl); simp only [Act.put, List.setIfInBounds_toArray, List.set_cons_zero, List.set_cons_succ])
            (refine hd_take 35 (v := ?_) rfl (by kernel_rfl) (by kernel_rfl) (fun _ _ _ h => h) (by assumption) ?_ ?_; rotate_left; (intro w hSw; (try dsimp only at hSw); obtain ⟨s1, s2, s3, s4⟩ := hSw; go_simp; first | done | with_reducible rfl); simp only [Act.put, List.setIfInBounds_toArray, List.set_cons_zero, List.set_cons_succ])
            (refine hd_take 36 (v := ?_) rfl (by kernel_rfl) (by kernel_rfl) (fun _ _ _ h => h) (by assumption) ?_ ?_; rotate_left; (intro w hSw; (try dsimp only at hSw); obtain ⟨s1, s2, s3, s4⟩ := hSw; go_simp; first | done | with_reducible rfl); simp only [Act.put, List.setIfInBounds_toArray, List.set_cons_zero, List.set_cons_succ])
            (refine hd_take 37 (v := ?_) rfl (by kernel_rfl) (by kernel_rfl) (fun _ _ _ h => h) (by assumption) ?_ ?_; rotate_left; (intro w hSw; (try dsimp only at hSw); obtain ⟨s1, s2, s3, s4⟩ := hSw; go_simp; first | done | with_reducible rfl); simp only [Act.put, List.setIfInBounds_toArray, List.set_cons_zero, List.set_cons_succ])
            refine wpAnyH_done (by kernel_rfl) ?_ _
            clear hHeld
            go_wp2_with fail
            go_roundw
            case rel => exact ⟨k + 1, by push_cast; rfl, by rw [HA.out], hlt, HSd⟩
            case measure => simp [intOf]; omega
        · have hisb : isJ br ep ⟨pk, pbr, pep, psq, pf, pt, pv, pg⟩ = false := by
            unfold isJ
            simp only [Bool.and_eq_false_iff, decide_eq_false_iff_not]
            by_cases h9 : pbr = br
            · exact .inr fun h8 => hi ⟨h9, h8⟩
            · exact .inl h9
          rw [hisb, Bool.or_false] at hany
          have HA := Aside0.mk hany
          clear hany hmem hp hisb HB1
          by_cases h9 : pbr = br
          · have n1 : ¬ pep ≤ ep := fun h8 => hi ⟨h9, h8⟩
            subst h9
            clear hi
            go_wp2_with fail
            go_roundw
            case rel => exact ⟨k + 1, by push_cast; rfl, by rw [HA.out], hlt, HS⟩
            case measure => simp [intOf]; omega
          · have n1 : (pbr == br) = false := by rw [beq_eq_false_iff_ne]; exact h9
            clear hi
            go_wp2_with fail
            go_roundw
            case rel => exact ⟨k + 1, by push_cast; rfl, by rw [HA.out], hlt, HS⟩
            case measure => simp [intOf]; omega
      · have j1 : ¬ (k : Int) < (x : Int) := by omega
        have hfb : fo = b := by rw [← hfo, List.take_of_length_le (by rw [HXL.out]; omega), HANY.out]
        rw [hfo]
        subst hfb
        have HP6 := Aside0.mk (HP5.out.step HS.out)
        have HX6 := Aside0.mk (blk_keep HX5.out HS.out)
        clear hfo
        go_wp2_with fail
        (with_reducible refine (HLM.out _ HP6.out.rn).mono ?_)
        rintro e w10 ⟨rfl, hb10⟩
        have HP11 := Aside0.mk ((HP6.out.step hb10).step (below_alloc (Below.refl _ _) (vrBox rk rbr rep rsq rf rt rv rg)))
        obtain ⟨y0, y1, y2, y3, y4, y5, y6, y7⟩ := vr_cells8 (blk_keep (blk_keep HX6.out hb10) (below_alloc (Below.refl _ _) (vrBox rk rbr rep rsq rf rt rv rg)))
        obtain ⟨z0, z1, z2, z3, z4, z5, z6, z7⟩ := vr_cells8 (heap_alloc_new w10 (vrBox rk rbr rep rsq rf rt rv rg))
        clear hb10
        cases fo with
        | false =>
          go_wp2_with fail
          (with_reducible refine (lives_calls _).mono ?_)
          rintro e w12 ⟨rfl, hb12⟩
          have HP12 := Aside0.mk (HP11.out.step hb12)
          clear hb12
          go_wp2_with fail
          go_ret
          exact ⟨by first | rfl | kernel_rfl, HP12.out.bel⟩
        | true =>
          by_cases he : 10000 < ep
          · clear HLM
            go_wp2_with fail
            (with_reducible refine (lives_calls _).mono ?_)
            rintro e w12 ⟨rfl, hb12⟩
            have HP12 := Aside0.mk (HP11.out.step hb12)
            clear hb12
            go_wp2_with fail
            go_ret
            exact ⟨by first | rfl | kernel_rfl, HP12.out.bel⟩
          · obtain ⟨hb1, hb2⟩ := HMORE.out rfl (by omega)
            subst hb1
            clear HLM
            go_wp2_with fail
            (with_reducible refine (lives_calls _).mono ?_)
            rintro e w12 ⟨rfl, hb12⟩
            have HP12 := Aside0.mk (HP11.out.step hb12)
            clear hb12
            go_wp2_with fail
            go_ret
            exact ⟨by first | rfl | kernel_rfl, HP12.out.bel⟩
end Go.Proofs.Ytmfnbkghfmeekaa.A
