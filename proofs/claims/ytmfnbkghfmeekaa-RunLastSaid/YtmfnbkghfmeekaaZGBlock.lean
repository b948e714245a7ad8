/- GBlock -/
import Derived.Test.YtmfnbkghfmeekaaZGBack
namespace Go.Proofs.Ytmfnbkghfmeekaa.A
open Go.RowKit Go.Proofs.YtmfnbkghfmeekaaW.PrintWords Go.Proofs.YtmfnbkghfmeekaaW.PrintLast Go.Proofs.YtmfnbkghfmeekaaW.PrintMore
open R C
set_option linter.unusedVariables false
set_option linter.unusedSimpArgs false
set_option maxRecDepth 100000 in
set_option maxHeartbeats 8000000 in
theorem blockM_calls (m : Nat) (hm : m ≤ 1000) (A : Option Addr) (n c : Nat) (l : List Vr) (w : World) (hr : KVr.C w A n l) (hc : n ≤ c) (hf : ∀ p ∈ l, p.fits) :
    Calls Try.prog 14 #[.slice A n c, .int .i64 m] w fun e w' => ∃ u Z, e = .returned u ∧ OVr w' w.heap.size u Z ∧ Z.length ≤ m ∧ IsR Z ∧ Below w.heap.size w w' := by
  have HG := Aside0.mk (good_calls A n c m l w hr hc hf hm)
  clear hr hf
  go_enter Try.func14, Try.ntmps14
  go_wp2_with fail
  (with_reducible refine HG.out.mono ?_)
  rintro e w1 ⟨u1, X, rfl, hO1, hX8, hXm, hb1⟩
  obtain ⟨n2, hn2⟩ : ∃ z, X.length = z := ⟨_, rfl⟩
  rw [hn2] at hX8
  obtain ⟨A1, c1, rfl, hc1, hC1⟩ := OVr_readn hO1 n2 hn2
  have HC1 := Aside0.mk hC1
  have HXM := Aside0.mk hXm
  have HB1 := Aside0.mk hb1
  clear hO1 hb1 hC1 hXm HG hn2
  go_wp2_with fail
  (with_reducible refine (sorted_calls A1 n2 c1 X w1 HC1.out hc1 (by omega)).mono ?_)
  rintro e w2 ⟨u2, Y, rfl, hO2, hY2, hYX, hb2⟩
  obtain ⟨A2, c2, rfl, hc2, hC2⟩ := OVr_readn hO2 n2 hY2
  have HC2 := Aside0.mk hC2
  have HN := Aside0.mk hY2
  have HYM : Aside0 (∀ p ∈ Y, mayV p = true) := ⟨fun p hp => HXM.out p (hYX p hp)⟩
  have HB2 := Aside0.mk (below_step HB1.out hb2)
  clear hO2 hb2 hC2 hY2 hYX HC1 HXM HB1
  go_wp2_with fail
  go_loopw [6, 7] (fun v6 v7 w' => ∃ (k z : Nat) (A6 : Option Addr) (c6 : Nat) (Z : List Vr), k ≤ n2 ∧ z ≤ k ∧ v7 = .int .i64 k ∧ v6 = .slice A6 z c6 ∧ z ≤ c6 ∧ Aside0 (Z.length = z ∧ okN Z z = true) ∧ Aside0 (SB w2 A6 z c6 Z A2 n2 Y w')) (fun _ v7 _ => n2 - (intOf v7).toNat)
  case atStart => exact ⟨0, 0, none, 0, [], Nat.zero_le _, Nat.le_refl _, rfl, rfl, Nat.le_refl _, ⟨rfl, rfl⟩, ⟨OVr_nil _ _, HC2.out, Below.refl _ _⟩⟩
  case round =>
    obtain ⟨k, z, A6, c6, Z, hk, hz, rfl, rfl, hc6, HZ, HS⟩ := hrel
    by_cases hlt : k < n2
    · obtain ⟨ad, rfl, -⟩ := C_atVr HS.out.2.1 k hlt
      obtain ⟨q, hq⟩ : ∃ q, Y.getD k default = q := ⟨_, rfl⟩
      have hqm := HYM.out _ (getD_mem Y k (by rw [HN.out]; exact hlt))
      rw [hq] at hqm
      obtain ⟨qk, qbr, qep, qsq, qf, qt, qv, qg⟩ := q
      have HQ := Aside0.mk hq
      have HQM := Aside0.mk hqm
      have i1 : (k : Int) < (n2 : Int) := by omega
      have i2 : (0 : Int) ≤ (k : Int) := by omega
      have hz0 : (0 : Int) ≤ (z : Int) := by omega
      have HSd := Aside0.mk (SB_step HS.out (below_drew1 (Below.refl _ _)))
      clear hq hqm HS
      by_cases hzz : z = 0
      · have k1 : ((z : Int) == 0) = true := by rw [beq_iff_eq]; omega
        have HZZ := Aside0.mk hzz
        clear hzz
        go_wp2_with fail
        refine wp_region_held_drew (S := fun w' => Aside0 (SB w2 A6 z c6 Z (some ad) n2 Y w')) (by kernel_rfl) HSd (fun hHeld => ?_)
        (refine hd_take 0 (v := ?_) rfl (by kernel_rfl) (by kernel_rfl) (fun _ _ _ h => h) (by assumption) ?_ ?_; rotate_left; (intro w hSw; (try dsimp only at hSw); go_simp; first | done | with_reducible rfl); simp only [Act.put, List.setIfInBounds_toArray, List.set_cons_zero, List.set_cons_succ])
        (refine hd_take 1 (v := ?_) rfl (by kernel_rfl) (by kernel_rfl) (fun _ _ _ h => h) (by assumption) ?_ ?_; rotate_left; (intro w hSw; (try dsimp only at hSw); go_simp; first | done | with_reducible rfl); simp only [Act.put, List.setIfInBounds_toArray, List.set_cons_zero, List.set_cons_succ])
        (refine hd_take 2 (v := ?_) rfl (by kernel_rfl) (by kernel_rfl) (fun _ _ _ h => h) (by assumption) ?_ ?_; rotate_left; (intro w hSw; (try dsimp only at hSw); go_simp; first | done | with_reducible rfl); simp only [Act.put, List.setIfInBounds_toArray, List.set_cons_zero, List.set_cons_succ])
        (refine hd_take 3 (v := ?_) rfl (by kernel_rfl) (by kernel_rfl) (fun _ _ _ h => h) (by assumption) ?_ ?_; rotate_left; (intro w hSw; (try dsimp only at hSw); go_simp; first | done | with_reducible rfl); simp only [Act.put, List.setIfInBounds_toArray, List.set_cons_zero, List.set_cons_succ])
        (refine hd_skip 4 rfl (by kernel_rfl) (by kernel_rfl) (fun _ _ _ h => h) (by assumption) ?_; simp only [Act.put, List.setIfInBounds_toArray, List.set_cons_zero, List.set_cons_succ])
        (refine hd_skip 5 rfl (by kernel_rfl) (by kernel_rfl) (fun _ _ _ h => h) (by assumption) ?_; simp only [Act.put, List.setIfInBounds_toArray, List.set_cons_zero, List.set_cons_succ])
        (refine hd_skip 6 rfl (by kernel_rfl) (by kernel_rfl) (fun _ _ _ h => h) (by assumption) ?_; simp only [Act.put, List.setIfInBounds_toArray, List.set_cons_zero, List.set_cons_succ])
        (refine hd_skip 7 rfl (by kernel_rfl) (by kernel_rfl) (fun _ _ _ h => h) (by assumption) ?_; simp only [Act.put, List.setIfInBounds_toArray, List.set_cons_zero, List.set_cons_succ])
        (refine hd_skip 8 rfl (by kernel_rfl) (by kernel_rfl) (fun _ _ _ h => h) (by assumption) ?_; simp only [Act.put, List.setIfInBounds_toArray, List.set_cons_zero, List.set_cons_succ])
        (refine hd_skip 9 rfl (by kernel_rfl) (by kernel_rfl) (fun _ _ _ h => h) (by assumption) ?_; simp only [Act.put, List.setIfInBounds_toArray, List.set_cons_zero, List.set_cons_succ])
        (refine hd_skip 10 rfl (by kernel_rfl) (by kernel_rfl) (fun _ _ _ h => h) (by assumption) ?_; simp only [Act.put, List.setIfInBounds_toArray, List.set_cons_zero, List.set_cons_succ])
        (refine hd_skip 11 rfl (by kernel_rfl) (by kernel_rfl) (fun _ _ _ h => h) (by assumption) ?_; simp only [Act.put, List.setIfInBounds_toArray, List.set_cons_zero, List.set_cons_succ])
        (refine hd_skip 12 rfl (by kernel_rfl) (by kernel_rfl) (fun _ _ _ h => h) (by assumption) ?_; simp only [Act.put, List.setIfInBounds_toArray, List.set_cons_zero, List.set_cons_succ])
        (refine hd_skip 13 rfl (by kernel_rfl) (by kernel_rfl) (fun _ _ _ h => h) (by assumption) ?_; simp only [Act.put, List.setIfInBounds_toArray, List.set_cons_zero, List.set_cons_succ])
        (refine hd_skip 14 rfl (by kernel_rfl) (by kernel_rfl) (fun _ _ _ h => h) (by assumption) ?_; simp only [Act.put, List.setIfInBounds_toArray, List.set_cons_zero, List.set_cons_succ])
        (refine hd_take 15 (v := ?_) rfl (by kernel_rfl) (by kernel_rfl) (fun _ _ _ h => h) (by assumption) ?_ ?_; rotate_left; (intro w hSw; (try dsimp only at hSw); go_simp; first | done | with_reducible rfl); simp only [Act.put, List.setIfInBounds_toArray, List.set_cons_zero, List.set_cons_succ])
        refine wpAnyH_done (by kernel_rfl) ?_ _
        have HX4 := Aside0.mk HSd.out.2.1
        have HB4 := Aside0.mk HSd.out.2.2
        have HO4 := Aside0.mk HSd.out.1
        obtain ⟨p0, p1, p2, p3, p4, p5, p6, p7⟩ := C_atVr' HX4.out k hlt _ HQ.out
        go_wp2_with ((with_reducible refine gate_dst (N := 40) rfl ?_); refine app_vr rfl rfl rfl rfl HO4.out HB4.out.size (by rw [HZ.out.1]; omega) ?_; intro v7 w7 hO7 hb7 _; obtain ⟨A8, c8, rfl, hc8, -⟩ := OVr_readn hO7 (z + 1) (by rw [List.length_append, HZ.out.1]; rfl); have HO7 := Aside0.mk hO7; have HB7 := Aside0.mk hb7; clear hO7 hb7)
        go_roundw
        case rel => exact ⟨k + 1, z + 1, A8, c8, Z ++ [⟨qk, qbr, qep, qsq, qf, qt, qv, qg⟩], hlt, by omega, rfl, rfl, hc8, ⟨by rw [List.length_append, HZ.out.1]; rfl, okN_app HZ.out.1 HZ.out.2 HQM.out (.inl HZZ.out)⟩, ⟨HO7.out, Kd.C_below HC2.out (HB4.out.trans HB7.out), HB4.out.trans HB7.out⟩⟩
        case measure => simp [intOf]; omega
      · obtain ⟨i, hi⟩ : ∃ i, z = i + 1 := ⟨z - 1, by omega⟩
        have hiz : i < z := by omega
        have k1 : ((z : Int) == 0) = false := by rw [beq_eq_false_iff_ne]; omega
        have k2 : IntKind.i64.wrap ((z : Int) - 1) = (i : Int) := by rw [IntWalk.i64_in _ (by omega)]; omega
        have k3 : (0 : Int) ≤ (i : Int) := by omega
        have k5 : IntKind.i64.wrap (i : Int) = (i : Int) := IntWalk.i64_in _ (by omega)
        have k4 : (i : Int) < (z : Int) := by omega
        have HII := Aside0.mk hi
        clear hi
        obtain ⟨ad6, rfl, -⟩ := C_atVr (SB_y HSd.out) i hiz
        obtain ⟨p, hp⟩ : ∃ p, Z.getD i default = p := ⟨_, rfl⟩
        obtain ⟨pk, pbr, pep, psq, pf, pt, pv, pg⟩ := p
        have HP := Aside0.mk hp
        obtain ⟨lv, hlv⟩ : ∃ lv, lessV ⟨pk, pbr, pep, psq, pf, pt, pv, pg⟩ ⟨qk, qbr, qep, qsq, qf, qt, qv, qg⟩ = lv := ⟨_, rfl⟩
        have hcc := fun W => less_calls pk pbr pep psq pf pt pv pg qk qbr qep qsq qf qt qv qg W
        rw [hlv] at hcc
        have HCC := Aside0.mk hcc
        have HLV := Aside0.mk hlv
        clear hp hlv hcc
        go_wp2_with fail
        refine wp_region_held_drew (S := (fun w' => w'.cell? (ad6.add (i * 8)) = some (.string pk) ∧ w'.cell? ⟨(ad6.add (i * 8)).block, (ad6.add (i * 8)).off + 1, none⟩ = some (.int .i64 pbr) ∧ w'.cell? ⟨(ad6.add (i * 8)).block, (ad6.add (i * 8)).off + 2, none⟩ = some (.int .i64 pep) ∧ w'.cell? ⟨(ad6.add (i * 8)).block, (ad6.add (i * 8)).off + 3, none⟩ = some (.int .i64 psq) ∧ w'.cell? ⟨(ad6.add (i * 8)).block, (ad6.add (i * 8)).off + 4, none⟩ = some (.int .i64 pf) ∧ w'.cell? ⟨(ad6.add (i * 8)).block, (ad6.add (i * 8)).off + 5, none⟩ = some (.int .i64 pt) ∧ w'.cell? ⟨(ad6.add (i * 8)).block, (ad6.add (i * 8)).off + 6, none⟩ = some (.string pv) ∧ w'.cell? ⟨(ad6.add (i * 8)).block, (ad6.add (i * 8)).off + 7, none⟩ = some (.bool pg) ∧ w'.cell? (ad.add (k * 8)) = some (.string qk) ∧ w'.cell? ⟨(ad.add (k * 8)).block, (ad.add (k * 8)).off + 1, none⟩ = some (.int .i64 qbr) ∧ w'.cell? ⟨(ad.add (k * 8)).block, (ad.add (k * 8)).off + 2, none⟩ = some (.int .i64 qep) ∧ w'.cell? ⟨(ad.add (k * 8)).block, (ad.add (k * 8)).off + 3, none⟩ = some (.int .i64 qsq) ∧ w'.cell? ⟨(ad.add (k * 8)).block, (ad.add (k * 8)).off + 4, none⟩ = some (.int .i64 qf) ∧ w'.cell? ⟨(ad.add (k * 8)).block, (ad.add (k * 8)).off + 5, none⟩ = some (.int .i64 qt) ∧ w'.cell? ⟨(ad.add (k * 8)).block, (ad.add (k * 8)).off + 6, none⟩ = some (.string qv) ∧ w'.cell? ⟨(ad.add (k * 8)).block, (ad.add (k * 8)).off + 7, none⟩ = some (.bool qg) ∧ Aside0 (SB w2 (some ad6) z c6 Z (some ad) n2 Y w'))) (by kernel_rfl) (SB_S2 HSd.out i k hiz hlt _ _ HP.out HQ.out) (fun hHeld => ?_)
        (refine hd_take 0 (v := ?_) rfl (by kernel_rfl) (by kernel_rfl) (fun _ _ _ h => h) (by assumption) ?_ ?_; rotate_left; (intro w hSw; (try dsimp only at hSw); go_simp; first | done | with_reducible rfl); simp only [Act.put, List.setIfInBounds_toArray, List.set_cons_zero, List.set_cons_succ])
        (refine hd_take 1 (v := ?_) rfl (by kernel_rfl) (by kernel_rfl) (fun _ _ _ h => h) (by assumption) ?_ ?_; rotate_left; (intro w hSw; (try dsimp only at hSw); go_simp; first | done | with_reducible rfl); simp only [Act.put, List.setIfInBounds_toArray, List.set_cons_zero, List.set_cons_succ])
        (refine hd_take 2 (v := ?_) rfl (by kernel_rfl) (by kernel_rfl) (fun _ _ _ h => h) (by assumption) ?_ ?_; rotate_left; (intro w hSw; (try dsimp only at hSw); go_simp; first | done | with_reducible rfl); simp only [Act.put, List.setIfInBounds_toArray, List.set_cons_zero, List.set_cons_succ])
        (refine hd_take 3 (v := ?_) rfl (by kernel_rfl) (by kernel_rfl) (fun _ _ _ h => h) (by assumption) ?_ ?_; rotate_left; (intro w hSw; (try dsimp only at hSw); go_simp; first | done | with_reducible rfl); simp only [Act.put, List.setIfInBounds_toArray, List.set_cons_zero, List.set_cons_succ])
        (refine hd_take 4 (v := ?_) rfl (by kernel_rfl) (by kernel_rfl) (fun _ _ _ h => h) (by assumption) ?_ ?_; rotate_left; (intro w hSw; (try dsimp only at hSw); go_simp; first | done | with_reducible rfl); simp only [Act.put, List.setIfInBounds_toArray, List.set_cons_zero, List.set_cons_succ])
        (refine hd_take 5 (v := ?_) rfl (by kernel_rfl) (by kernel_rfl) (fun _ _ _ h => h) (by assumption) ?_ ?_; rotate_left; (intro w hSw; (try dsimp only at hSw); go_simp; first | done | with_reducible rfl); simp only [Act.put, List.setIfInBounds_toArray, List.set_cons_zero, List.set_cons_succ])
        (refine hd_take 6 (v := ?_) rfl (by kernel_rfl) (by kernel_rfl) (fun _ _ _ h => h) (by assumption) ?_ ?_; rotate_left; (intro w hSw; (try dsimp only at hSw); go_simp; first | done | with_reducible rfl); simp only [Act.put, List.setIfInBounds_toArray, List.set_cons_zero, List.set_cons_succ])
        (refine hd_take 7 (v := ?_) rfl (by kernel_rfl) (by kernel_rfl) (fun _ _ _ h => h) (by assumption) ?_ ?_; rotate_left; (intro w hSw; (try dsimp only at hSw); go_simp; first | done | with_reducible rfl); simp only [Act.put, List.setIfInBounds_toArray, List.set_cons_zero, List.set_cons_succ])
        (refine hd_take 8 (v := ?_) rfl (by kernel_rfl) (by kernel_rfl) (fun _ _ _ h => h) (by assumption) ?_ ?_; rotate_left; (intro w hSw; (try dsimp only at hSw); go_simp; first | done | with_reducible rfl); simp only [Act.put, List.setIfInBounds_toArray, List.set_cons_zero, List.set_cons_succ])
        (refine hd_take 9 (v := ?_) rfl (by kernel_rfl) (by kernel_rfl) (fun _ _ _ h => h) (by assumption) ?_ ?_; rotate_left; (intro w hSw; (try dsimp only at hSw); go_simp; first | done | with_reducible rfl); simp only [Act.put, List.setIfInBounds_toArray, List.set_cons_zero, List.set_cons_succ])
        (refine hd_take 10 (v := ?_) rfl (by kernel_rfl) (by kernel_rfl) (fun _ _ _ h => h) (by assumption) ?_ ?_; rotate_left; (intro w hSw; (try dsimp only at hSw); go_simp; first | done | with_reducible rfl); simp only [Act.put, List.setIfInBounds_toArray, List.set_cons_zero, List.set_cons_succ])
        (refine hd_take 11 (v := ?_) rfl (by kernel_rfl) (by kernel_rfl) (fun _ _ _ h => h) (by assumption) ?_ ?_; rotate_left; (intro w hSw; (try dsimp only at hSw); go_simp; first | done | with_reducible rfl); simp only [Act.put, List.setIfInBounds_toArray, List.set_cons_zero, List.set_cons_succ])
        (refine hd_take 12 (v := ?_) rfl (by kernel_rfl) (by kernel_rfl) (fun _ _ _ h => h) (by assumption) ?_ ?_; rotate_left; (intro w hSw; (try dsimp only at hSw); go_simp; first | done | with_reducible rfl); simp only [Act.put, List.setIfInBounds_toArray, List.set_cons_zero, List.set_cons_succ])
        (refine hd_take 13 (v := ?_) rfl (by kernel_rfl) (by kernel_rfl) (fun _ _ _ h => h) (by assumption) ?_ ?_; rotate_left; (intro w hSw; (try dsimp only at hSw); go_simp; first | done | with_reducible rfl); simp only [Act.put, List.setIfInBounds_toArray, List.set_cons_zero, List.set_cons_succ])
        refine hd_one 14 rfl (by kernel_rfl) (fun K hK => ?_)
        go_simp
        go_wp2_with ((go_at_call 28); (with_reducible refine (HCC.out _).mono ?_); rintro e w3 ⟨rfl, hb3⟩; have HL3 := Aside0.mk (SB_step HSd.out hb3); clear hb3)
        refine hK.out _ _ (SB_S2 HL3.out i k hiz hlt _ _ HP.out HQ.out) (fun hHeld => ?_)
        clear hK K
        (refine hd_take 15 (v := ?_) rfl (by kernel_rfl) (by kernel_rfl) (fun _ _ _ h => h) (by assumption) ?_ ?_; rotate_left; (intro w hSw; (try dsimp only at hSw); go_simp; first | done | with_reducible rfl); simp only [Act.put, List.setIfInBounds_toArray, List.set_cons_zero, List.set_cons_succ])
        refine wpAnyH_done (by kernel_rfl) ?_ _
        cases lv with
        | false =>
          go_wp2
          go_roundw
          case rel => exact ⟨k + 1, z, _, c6, Z, hlt, by omega, rfl, rfl, hc6, HZ, HL3⟩
          case measure => simp [intOf]; omega
        | true =>
          have HX4 := Aside0.mk HL3.out.2.1
          have HB4 := Aside0.mk HL3.out.2.2
          have HO4 := Aside0.mk HL3.out.1
          obtain ⟨p0, p1, p2, p3, p4, p5, p6, p7⟩ := C_atVr' HX4.out k hlt _ HQ.out
          go_wp2_with ((with_reducible refine gate_dst (N := 40) rfl ?_); refine app_vr rfl rfl rfl rfl HO4.out HB4.out.size (by rw [HZ.out.1]; omega) ?_; intro v7 w7 hO7 hb7 _; obtain ⟨A8, c8, rfl, hc8, -⟩ := OVr_readn hO7 (z + 1) (by rw [List.length_append, HZ.out.1]; rfl); have HO7 := Aside0.mk hO7; have HB7 := Aside0.mk hb7; clear hO7 hb7)
          go_roundw
          case rel => exact ⟨k + 1, z + 1, A8, c8, Z ++ [⟨qk, qbr, qep, qsq, qf, qt, qv, qg⟩], hlt, by omega, rfl, rfl, hc8, ⟨by rw [List.length_append, HZ.out.1]; rfl, okN_app HZ.out.1 HZ.out.2 HQM.out (.inr (by rw [show z - 1 = i by have := HII.out; omega, HP.out]; exact HLV.out))⟩, ⟨HO7.out, Kd.C_below HC2.out (HB4.out.trans HB7.out), HB4.out.trans HB7.out⟩⟩
          case measure => simp [intOf]; omega
    · have i1 : ¬ (k : Int) < (n2 : Int) := by omega
      go_wp2_with fail
      go_ret
      exact ⟨_, rfl, Z, Kd.R_lower HS.out.1 HB2.out.size, by rw [HZ.out.1]; omega, (okN_iff Z).1 (by rw [HZ.out.1]; exact HZ.out.2), below_step HB2.out HS.out.2.2⟩
end Go.Proofs.Ytmfnbkghfmeekaa.A
