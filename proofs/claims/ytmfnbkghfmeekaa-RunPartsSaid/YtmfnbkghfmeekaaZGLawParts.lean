/- GLawParts -/
import Derived.Test.YtmfnbkghfmeekaaZGOpened
import Derived.Test.YtmfnbkghfmeekaaZGParts
import Derived.Test.YtmfnbkghfmeekaaZIHeld
namespace Go.Proofs.Ytmfnbkghfmeekaa.A
open Go Go.RowKit Go.Proofs.YtmfnbkghfmeekaaW.PrintWords Go.Proofs.YtmfnbkghfmeekaaW.PrintLast Go.Proofs.YtmfnbkghfmeekaaW.PrintMore
open R C
open Go.Op (bytesLess)
set_option linter.unusedVariables false
set_option linter.unusedSimpArgs false
set_option maxRecDepth 100000 in
set_option maxHeartbeats 8000000 in
theorem parts_calls (w : World) (A : Option Addr) (c : Nat) (l : List Vr) (hr : KVr.C w A l.length l) (hc : l.length ≤ c) (hf : ∀ p ∈ l, p.fits) (key : ByteArray) (gk : key.size ≤ maxLen) :
    Calls Try.prog 9 #[.slice A l.length c, .string key] w fun e w' => e = .returned (.bool true) ∧ Below w.heap.size w w' := by
  have HBK := Aside0.mk (blockM_calls 40 (by omega) A l.length c l w hr hc hf)
  rw [show (((40 : Nat)) : Int) = 40 from rfl] at HBK
  generalize l.length = n at *
  clear hr hf
  clear gk
  go_enter Try.func9, Try.ntmps9
  go_wp2_with fail
  (with_reducible refine HBK.out.mono ?_)
  rintro e w1 ⟨u1, Z, rfl, hO1, hzM, hZ, hb1⟩
  obtain ⟨z, hz⟩ : ∃ z, Z.length = z := ⟨_, rfl⟩
  rw [hz] at hzM
  obtain ⟨A1, c1, rfl, hc1, hC1⟩ := OVr_readn hO1 z hz
  have HC1 := Aside0.mk hC1
  have HB1 := Aside0.mk hb1
  have HIR := Aside0.mk hZ
  have HN := Aside0.mk hz
  have hrl := run_len hZ (by omega) 5 (by omega)
  have hrp := run_pos Z
  have hop := open_run hZ (by omega)
  have hby := runB_range Z
  have HW := Aside0.mk (fun W h => build_calls A1 z c1 Z W h hc1 (small_may hZ.1) (by omega))
  have hbr : bldR Z = runB Z := by unfold bldR; rw [(okN_iff _).2 hZ]; rfl
  have hbe : bldE Z = 0 := by unfold bldE; rw [(okN_iff _).2 hZ]; rfl
  rw [hbe, hbr] at HW
  have HRW := Aside0.mk (fun W h => rbuild_calls A1 z c1 Z W h hc1 hZ (by omega))
  obtain ⟨B, hB⟩ : ∃ B, runB Z = B := ⟨_, rfl⟩
  rw [hB] at HW HRW hrl hrp hop hby
  have HBB := Aside0.mk hB
  have HOP := Aside0.mk hop
  have HBY := Aside0.mk hby
  obtain ⟨p, hp⟩ : ∃ p, B.length = p := ⟨_, rfl⟩
  rw [hp] at hrl hrp
  have HPN := Aside0.mk hp
  clear hO1 hb1 hC1 HBK hZ hz hop hby hbr hbe hB hp
  go_wp2_with fail
  (with_reducible refine (HW.out _ HC1.out).mono ?_)
  rintro e w2 ⟨u2, rfl, hO2, hb2⟩
  obtain ⟨A2, c2, rfl, hc2, hC2⟩ := OB_readn hO2 p HPN.out
  have HC2 := Aside0.mk hC2
  have HP2 := Aside0.mk (show OB w2 0 (.slice A2 p c2) B ∧ KVr.C w2 A1 z Z ∧ Below w.heap.size w w2 from ⟨Kd.R_lower hO2 (Nat.zero_le _), Kd.C_below HC1.out hb2, below_step HB1.out hb2⟩)
  clear hO2 hb2 HB1 HC1 hC2 HW
  go_wp2_with fail
  (with_reducible refine (open_calls A2 p c2 B w2 HC2.out hc2 HBY.out (by omega)).mono ?_)
  rintro e w3 ⟨hb3, (⟨h1, -⟩ | ⟨cs, r, h1, rfl, hr3⟩)⟩
  · rw [HOP.out] at h1
    cases h1
  · rw [HOP.out] at h1
    injection h1 with h1
    subst h1
    have HP3 : Aside0 (PR w (.slice A2 p c2) B A1 z Z r w3) := ⟨Kd.R_below HP2.out.1 hb3, Kd.C_below HP2.out.2.1 hb3, RnG_open HBY.out (by rw [HPN.out]; omega) HOP.out hr3, below_step HP2.out.2.2 hb3⟩
    clear hb3 hr3 HP2 HC2
    have HGL : Aside0 (∀ k, (grpL Z k).length ≤ 1000) := ⟨fun k => by
      have h9 : (grpL Z k).length ≤ Z.length := List.length_filter_le _ _
      rw [HN.out] at h9
      omega⟩
    have HSK : Aside0 (SrtKey Z) := ⟨srt_key HIR.out.2⟩
    have HHV := Aside0.mk (halves Z HIR.out key)
    go_wp2_with fail
    go_loopw [10, 11] (fun v10 v11 wr => ∃ (k : Nat) (v : Value), v10 = v ∧ v11 = .int .i64 k ∧ k ≤ z ∧ Aside0 (OVr wr w3.heap.size v (grpL Z k)) ∧ Aside0 (Below w3.heap.size w3 wr)) (fun _ v11 _ => z - (intOf v11).toNat)
    case atStart => exact ⟨0, _, rfl, rfl, Nat.zero_le _, ⟨by rw [grp_zero]; exact OVr_nil _ _⟩, ⟨Below.refl _ _⟩⟩
    case round =>
      obtain ⟨k, v, rfl, rfl, hk, HO, HS⟩ := hrel
      by_cases hlt : k < z
      · have hkl : k < Z.length := by rw [HN.out]; exact hlt
        have j1 : (k : Int) < (z : Int) := by omega
        have j2 : (0 : Int) ≤ (k : Int) := by omega
        have HSd := Aside0.mk (below_step HS.out (below_drew1 (Below.refl _ _)))
        have HPd := Aside0.mk (HP3.out.step HSd.out)
        have HOd := Aside0.mk (Kd.R_below HO.out (below_drew1 (Below.refl wr.heap.size wr)))
        obtain ⟨ad, rfl, -⟩ := C_atVr HPd.out.kv k hlt
        obtain ⟨q, hq⟩ : ∃ q, Z.getD k default = q := ⟨_, rfl⟩
        obtain ⟨qk, qbr, qep, qsq, qf, qt, qv, qg⟩ := q
        obtain ⟨d0, -⟩ := C_atVr' HPd.out.kv k hlt _ hq
        simp only at d0
        have hnew : k = 0 ∨ ((Z.getD k default).k.toList == (Z.getD (k - 1) default).k.toList) = false → grpL Z (k + 1) = grpL Z k ++ ofR Z qk := fun h => by
          rw [grp_new Z HSK.out k hkl h, hq]
        rcases Nat.eq_zero_or_pos k with h0 | h0
        · have HNEW := Aside0.mk (hnew (.inl h0))
          have k1 : ((k : Int) == 0) = true := by rw [beq_iff_eq]; omega
          clear hnew hq h0 hkl
          go_wp2_with fail
          refine wp_region_held_drew (S := (fun w' => w'.cell? (ad.add (k * 8)) = some (.string qk) ∧ True)) (by kernel_rfl) ⟨d0, trivial⟩ (fun hHeld => ?_)
          (refine hd_take 0 (v := ?_) rfl (by kernel_rfl) (by kernel_rfl) (fun _ _ _ h => h) (by assumption) ?_ ?_; rotate_left; (intro w hSw; (try dsimp only at hSw); obtain ⟨s1, s2⟩ := hSw; go_simp; first | done | with_reducible rfl); simp only [Act.put, List.setIfInBounds_toArray, List.set_cons_zero, List.set_cons_succ])
          (refine hd_take 1 (v := ?_) rfl (by kernel_rfl) (by kernel_rfl) (fun _ _ _ h => h) (by assumption) ?_ ?_; rotate_left; (intro w hSw; (try dsimp only at hSw); obtain ⟨s1, s2⟩ := hSw; go_simp; first | done | with_reducible rfl); simp only [Act.put, List.setIfInBounds_toArray, List.set_cons_zero, List.set_cons_succ])
          (refine hd_take 2 (v := ?_) rfl (by kernel_rfl) (by kernel_rfl) (fun _ _ _ h => h) (by assumption) ?_ ?_; rotate_left; (intro w hSw; (try dsimp only at hSw); obtain ⟨s1, s2⟩ := hSw; go_simp; first | done | with_reducible rfl); simp only [Act.put, List.setIfInBounds_toArray, List.set_cons_zero, List.set_cons_succ])
          (refine hd_skip 3 rfl (by kernel_rfl) (by kernel_rfl) (fun _ _ _ h => h) (by assumption) ?_; simp only [Act.put, List.setIfInBounds_toArray, List.set_cons_zero, List.set_cons_succ])
          (refine hd_skip 4 rfl (by kernel_rfl) (by kernel_rfl) (fun _ _ _ h => h) (by assumption) ?_; simp only [Act.put, List.setIfInBounds_toArray, List.set_cons_zero, List.set_cons_succ])
          (refine hd_skip 5 rfl (by kernel_rfl) (by kernel_rfl) (fun _ _ _ h => h) (by assumption) ?_; simp only [Act.put, List.setIfInBounds_toArray, List.set_cons_zero, List.set_cons_succ])
          (refine hd_skip 6 rfl (by kernel_rfl) (by kernel_rfl) (fun _ _ _ h => h) (by assumption) ?_; simp only [Act.put, List.setIfInBounds_toArray, List.set_cons_zero, List.set_cons_succ])
          (refine hd_skip 7 rfl (by kernel_rfl) (by kernel_rfl) (fun _ _ _ h => h) (by assumption) ?_; simp only [Act.put, List.setIfInBounds_toArray, List.set_cons_zero, List.set_cons_succ])
          (refine hd_skip 8 rfl (by kernel_rfl) (by kernel_rfl) (fun _ _ _ h => h) (by assumption) ?_; simp only [Act.put, List.setIfInBounds_toArray, List.set_cons_zero, List.set_cons_succ])
          (refine hd_skip 9 rfl (by kernel_rfl) (by kernel_rfl) (fun _ _ _ h => h) (by assumption) ?_; simp only [Act.put, List.setIfInBounds_toArray, List.set_cons_zero, List.set_cons_succ])
          (refine hd_skip 10 rfl (by kernel_rfl) (by kernel_rfl) (fun _ _ _ h => h) (by assumption) ?_; simp only [Act.put, List.setIfInBounds_toArray, List.set_cons_zero, List.set_cons_succ])
          (refine hd_skip 11 rfl (by kernel_rfl) (by kernel_rfl) (fun _ _ _ h => h) (by assumption) ?_; simp only [Act.put, List.setIfInBounds_toArray, List.set_cons_zero, List.set_cons_succ])
          (refine hd_skip 12 rfl (by kernel_rfl) (by kernel_rfl) (fun _ _ _ h => h) (by assumption) ?_; simp only [Act.put, List.setIfInBounds_toArray, List.set_cons_zero, List.set_cons_succ])
          (refine hd_skip 13 rfl (by kernel_rfl) (by kernel_rfl) (fun _ _ _ h => h) (by assumption) ?_; simp only [Act.put, List.setIfInBounds_toArray, List.set_cons_zero, List.set_cons_succ])
          (refine hd_skip 14 rfl (by kernel_rfl) (by kernel_rfl) (fun _ _ _ h => h) (by assumption) ?_; simp only [Act.put, List.setIfInBounds_toArray, List.set_cons_zero, List.set_cons_succ])
          (refine hd_take 15 (v := ?_) rfl (by kernel_rfl) (by kernel_rfl) (fun _ _ _ h => h) (by assumption) ?_ ?_; rotate_left; (intro w hSw; (try dsimp only at hSw); obtain ⟨s1, s2⟩ := hSw; go_simp; first | done | with_reducible rfl); simp only [Act.put, List.setIfInBounds_toArray, List.set_cons_zero, List.set_cons_succ])
          refine wpAnyH_done (by kernel_rfl) ?_ _
          clear hHeld
          go_wp2_with fail
          (with_reducible refine (ofZ_calls HPd.out.rn qk).mono ?_)
          rintro e w5 ⟨u5, rfl, hO5, hb5⟩
          obtain ⟨Y, hY⟩ : ∃ Y, ofR Z qk = Y := ⟨_, rfl⟩
          have hYl : Y.length ≤ 1000 := by
            have h9 : (ofR Z qk).length ≤ Z.length := List.length_filter_le _ _
            rw [hY, HN.out] at h9
            omega
          rw [hY] at hO5
          obtain ⟨y, hy⟩ : ∃ y, Y.length = y := ⟨_, rfl⟩
          obtain ⟨A5, c5, rfl, hc5, hC5⟩ := OVr_readn hO5 y hy
          have HYE := Aside0.mk hY
          have HC5 := Aside0.mk hC5
          have HO5 := Aside0.mk (Kd.R_below HOd.out hb5)
          have HS5 := Aside0.mk (below_step HSd.out hb5)
          have hyl : (grpL Z k).length + y ≤ 1000000 := by have := HGL.out k; omega
          clear hO5 hb5 hC5 hY hYl hy
          go_wp2_with ((with_reducible refine gate_dst (N := 61) rfl ?_); refine app_vrs rfl rfl rfl rfl HO5.out HC5.out HS5.out.size hyl ?_; intro v6 w6 hO6 hb6 _; have HO6 := Aside0.mk hO6; have HS6 := Aside0.mk (HS5.out.trans hb6); clear hO6 hb6)
          go_roundw
          case rel => exact ⟨k + 1, v6, rfl, by push_cast; rfl, hlt, ⟨by rw [HNEW.out, HYE.out]; exact HO6.out⟩, HS6⟩
          case measure => simp [intOf]; omega
        · obtain ⟨i, hi⟩ : ∃ i, i + 1 = k := ⟨k - 1, by omega⟩
          have k1 : ((k : Int) == 0) = false := by rw [beq_eq_false_iff_ne]; omega
          have k2 : IntKind.i64.wrap ((k : Int) - 1) = (i : Int) := by rw [IntWalk.i64_in _ (by omega)]; omega
          have k3 : (0 : Int) ≤ (i : Int) := by omega
          have k4 : (i : Int) < (z : Int) := by omega
          obtain ⟨q2, hq2⟩ : ∃ q, Z.getD i default = q := ⟨_, rfl⟩
          obtain ⟨rk, rbr, rep, rsq, rf, rt, rv, rg⟩ := q2
          obtain ⟨d1, -⟩ := C_atVr' HPd.out.kv i (by omega) _ hq2
          simp only at d1
          obtain ⟨b, hb⟩ : ∃ b, (qk.toList == rk.toList) = b := ⟨_, rfl⟩
          cases b with
          | true =>
            have HOLD : Aside0 (grpL Z (k + 1) = grpL Z k) := ⟨by
              have h9 := grp_old Z i (by omega) (by rw [show i + 1 = k from hi, hq, hq2]; exact hb)
              rwa [show i + 2 = k + 1 by omega, show i + 1 = k from hi] at h9⟩
            have hbn : (qk.toList != rk.toList) = false := by rw [bne, hb]; rfl
            clear hnew hq hq2 h0 hi hkl
            go_wp2_with fail
            refine wp_region_held_drew (S := (fun w' => w'.cell? (ad.add (k * 8)) = some (.string qk) ∧ w'.cell? (ad.add (i * 8)) = some (.string rk))) (by kernel_rfl) ⟨d0, d1⟩ (fun hHeld => ?_)
            (refine hd_take 0 (v := ?_) rfl (by kernel_rfl) (by kernel_rfl) (fun _ _ _ h => h) (by assumption) ?_ ?_; rotate_left; (intro w hSw; (try dsimp only at hSw); obtain ⟨s1, s2⟩ := hSw; go_simp; first | done | with_reducible rfl); simp only [Act.put, List.setIfInBounds_toArray, List.set_cons_zero, List.set_cons_succ])
            (refine hd_take 1 (v := ?_) rfl (by kernel_rfl) (by kernel_rfl) (fun _ _ _ h => h) (by assumption) ?_ ?_; rotate_left; (intro w hSw; (try dsimp only at hSw); obtain ⟨s1, s2⟩ := hSw; go_simp; first | done | with_reducible rfl); simp only [Act.put, List.setIfInBounds_toArray, List.set_cons_zero, List.set_cons_succ])
            (refine hd_take 2 (v := ?_) rfl (by kernel_rfl) (by kernel_rfl) (fun _ _ _ h => h) (by assumption) ?_ ?_; rotate_left; (intro w hSw; (try dsimp only at hSw); obtain ⟨s1, s2⟩ := hSw; go_simp; first | done | with_reducible rfl); simp only [Act.put, List.setIfInBounds_toArray, List.set_cons_zero, List.set_cons_succ])
            (refine hd_take 3 (v := ?_) rfl (by kernel_rfl) (by kernel_rfl) (fun _ _ _ h => h) (by assumption) ?_ ?_; rotate_left; (intro w hSw; (try dsimp only at hSw); obtain ⟨s1, s2⟩ := hSw; go_simp; first | done | with_reducible rfl); simp only [Act.put, List.setIfInBounds_toArray, List.set_cons_zero, List.set_cons_succ])
            (refine hd_take 4 (v := ?_) rfl (by kernel_rfl) (by kernel_rfl) (fun _ _ _ h => h) (by assumption) ?_ ?_; rotate_left; (intro w hSw; (try dsimp only at hSw); obtain ⟨s1, s2⟩ := hSw; go_simp; first | done | with_reducible rfl); simp only [Act.put, List.setIfInBounds_toArray, List.set_cons_zero, List.set_cons_succ])
            (refine hd_take 5 (v := ?_) rfl (by kernel_rfl) (by kernel_rfl) (fun _ _ _ h => h) (by assumption) ?_ ?_; rotate_left; (intro w hSw; (try dsimp only at hSw); obtain ⟨s1, s2⟩ := hSw; go_simp; first | done | with_reducible rfl); simp only [Act.put, List.setIfInBounds_toArray, List.set_cons_zero, List.set_cons_succ])
            (refine hd_take 6 (v := ?_) rfl (by kernel_rfl) (by kernel_rfl) (fun _ _ _ h => h) (by assumption) ?_ ?_; rotate_left; (intro w hSw; (try dsimp only at hSw); obtain ⟨s1, s2⟩ := hSw; go_simp; first | done | with_reducible rfl); simp only [Act.put, List.setIfInBounds_toArray, List.set_cons_zero, List.set_cons_succ])
            (refine hd_take 7 (v := ?_) rfl (by kernel_rfl) (by kernel_rfl) (fun _ _ _ h => h) (by assumption) ?_ ?_; rotate_left; (intro w hSw; (try dsimp only at hSw); obtain ⟨s1, s2⟩ := hSw; go_simp; first | done | with_reducible rfl); simp only [Act.put, List.setIfInBounds_toArray, List.set_cons_zero, List.set_cons_succ])
            (refine hd_take 8 (v := ?_) rfl (by kernel_rfl) (by kernel_rfl) (fun _ _ _ h => h) (by assumption) ?_ ?_; rotate_left; (intro w hSw; (try dsimp only at hSw); obtain ⟨s1, s2⟩ := hSw; go_simp; first | done | with_reducible rfl); simp only [Act.put, List.setIfInBounds_toArray, List.set_cons_zero, List.set_cons_succ])
            (refine hd_take 9 (v := ?_) rfl (by kernel_rfl) (by kernel_rfl) (fun _ _ _ h => h) (by assumption) ?_ ?_; rotate_left; (intro w hSw; (try dsimp only at hSw); obtain ⟨s1, s2⟩ := hSw; go_simp; first | done | with_reducible rfl); simp only [Act.put, List.setIfInBounds_toArray, List.set_cons_zero, List.set_cons_succ])
            (refine hd_take 10 (v := ?_) rfl (by kernel_rfl) (by kernel_rfl) (fun _ _ _ h => h) (by assumption) ?_ ?_; rotate_left; (intro w hSw; (try dsimp only at hSw); obtain ⟨s1, s2⟩ := hSw; go_simp; first | done | with_reducible rfl); simp only [Act.put, List.setIfInBounds_toArray, List.set_cons_zero, List.set_cons_succ])
            (refine hd_take 11 (v := ?_) rfl (by kernel_rfl) (by kernel_rfl) (fun _ _ _ h => h) (by assumption) ?_ ?_; rotate_left; (intro w hSw; (try dsimp only at hSw); obtain ⟨s1, s2⟩ := hSw; go_simp; first | done | with_reducible rfl); simp only [Act.put, List.setIfInBounds_toArray, List.set_cons_zero, List.set_cons_succ])
            (refine hd_take 12 (v := ?_) rfl (by kernel_rfl) (by kernel_rfl) (fun _ _ _ h => h) (by assumption) ?_ ?_; rotate_left; (intro w hSw; (try dsimp only at hSw); obtain ⟨s1, s2⟩ := hSw; go_simp; first | done | with_reducible rfl); simp only [Act.put, List.setIfInBounds_toArray, List.set_cons_zero, List.set_cons_succ])
            (refine hd_take 13 (v := ?_) rfl (by kernel_rfl) (by kernel_rfl) (fun _ _ _ h => h) (by assumption) ?_ ?_; rotate_left; (intro w hSw; (try dsimp only at hSw); obtain ⟨s1, s2⟩ := hSw; go_simp; first | done | with_reducible rfl); simp only [Act.put, List.setIfInBounds_toArray, List.set_cons_zero, List.set_cons_succ])
            (refine hd_take 14 (v := ?_) rfl (by kernel_rfl) (by kernel_rfl) (fun _ _ _ h => h) (by assumption) ?_ ?_; rotate_left; (intro w hSw; (try dsimp only at hSw); obtain ⟨s1, s2⟩ := hSw; go_simp; first | done | with_reducible rfl); simp only [Act.put, List.setIfInBounds_toArray, List.set_cons_zero, List.set_cons_succ])
            (refine hd_take 15 (v := ?_) rfl (by kernel_rfl) (by kernel_rfl) (fun _ _ _ h => h) (by assumption) ?_ ?_; rotate_left; (intro w hSw; (try dsimp only at hSw); obtain ⟨s1, s2⟩ := hSw; go_simp; first | done | with_reducible rfl); simp only [Act.put, List.setIfInBounds_toArray, List.set_cons_zero, List.set_cons_succ])
            refine wpAnyH_done (by kernel_rfl) ?_ _
            clear hHeld
            go_wp2_with fail
            go_roundw
            case rel => exact ⟨k + 1, _, rfl, by push_cast; rfl, hlt, ⟨by rw [HOLD.out]; exact HOd.out⟩, HSd⟩
            case measure => simp [intOf]; omega
          | false =>
            have HNEW := Aside0.mk (hnew (.inr (by rw [show k - 1 = i by omega, hq, hq2]; exact hb)))
            have hbn : (qk.toList != rk.toList) = true := by rw [bne, hb]; rfl
            clear hnew hq hq2 h0 hi hkl
            go_wp2_with fail
            refine wp_region_held_drew (S := (fun w' => w'.cell? (ad.add (k * 8)) = some (.string qk) ∧ w'.cell? (ad.add (i * 8)) = some (.string rk))) (by kernel_rfl) ⟨d0, d1⟩ (fun hHeld => ?_)
            (refine hd_take 0 (v := ?_) rfl (by kernel_rfl) (by kernel_rfl) (fun _ _ _ h => h) (by assumption) ?_ ?_; rotate_left; (intro w hSw; (try dsimp only at hSw); obtain ⟨s1, s2⟩ := hSw; go_simp; first | done | with_reducible rfl); simp only [Act.put, List.setIfInBounds_toArray, List.set_cons_zero, List.set_cons_succ])
            (refine hd_take 1 (v := ?_) rfl (by kernel_rfl) (by kernel_rfl) (fun _ _ _ h => h) (by assumption) ?_ ?_; rotate_left; (intro w hSw; (try dsimp only at hSw); obtain ⟨s1, s2⟩ := hSw; go_simp; first | done | with_reducible rfl); simp only [Act.put, List.setIfInBounds_toArray, List.set_cons_zero, List.set_cons_succ])
            (refine hd_take 2 (v := ?_) rfl (by kernel_rfl) (by kernel_rfl) (fun _ _ _ h => h) (by assumption) ?_ ?_; rotate_left; (intro w hSw; (try dsimp only at hSw); obtain ⟨s1, s2⟩ := hSw; go_simp; first | done | with_reducible rfl); simp only [Act.put, List.setIfInBounds_toArray, List.set_cons_zero, List.set_cons_succ])
            (refine hd_take 3 (v := ?_) rfl (by kernel_rfl) (by kernel_rfl) (fun _ _ _ h => h) (by assumption) ?_ ?_; rotate_left; (intro w hSw; (try dsimp only at hSw); obtain ⟨s1, s2⟩ := hSw; go_simp; first | done | with_reducible rfl); simp only [Act.put, List.setIfInBounds_toArray, List.set_cons_zero, List.set_cons_succ])
            (refine hd_take 4 (v := ?_) rfl (by kernel_rfl) (by kernel_rfl) (fun _ _ _ h => h) (by assumption) ?_ ?_; rotate_left; (intro w hSw; (try dsimp only at hSw); obtain ⟨s1, s2⟩ := hSw; go_simp; first | done | with_reducible rfl); simp only [Act.put, List.setIfInBounds_toArray, List.set_cons_zero, List.set_cons_succ])
            (refine hd_take 5 (v := ?_) rfl (by kernel_rfl) (by kernel_rfl) (fun _ _ _ h => h) (by assumption) ?_ ?_; rotate_left; (intro w hSw; (try dsimp only at hSw); obtain ⟨s1, s2⟩ := hSw; go_simp; first | done | with_reducible rfl); simp only [Act.put, List.setIfInBounds_toArray, List.set_cons_zero, List.set_cons_succ])
            (refine hd_take 6 (v := ?_) rfl (by kernel_rfl) (by kernel_rfl) (fun _ _ _ h => h) (by assumption) ?_ ?_; rotate_left; (intro w hSw; (try dsimp only at hSw); obtain ⟨s1, s2⟩ := hSw; go_simp; first | done | with_reducible rfl); simp only [Act.put, List.setIfInBounds_toArray, List.set_cons_zero, List.set_cons_succ])
            (refine hd_take 7 (v := ?_) rfl (by kernel_rfl) (by kernel_rfl) (fun _ _ _ h => h) (by assumption) ?_ ?_; rotate_left; (intro w hSw; (try dsimp only at hSw); obtain ⟨s1, s2⟩ := hSw; go_simp; first | done | with_reducible rfl); simp only [Act.put, List.setIfInBounds_toArray, List.set_cons_zero, List.set_cons_succ])
            (refine hd_take 8 (v := ?_) rfl (by kernel_rfl) (by kernel_rfl) (fun _ _ _ h => h) (by assumption) ?_ ?_; rotate_left; (intro w hSw; (try dsimp only at hSw); obtain ⟨s1, s2⟩ := hSw; go_simp; first | done | with_reducible rfl); simp only [Act.put, List.setIfInBounds_toArray, List.set_cons_zero, List.set_cons_succ])
            (refine hd_take 9 (v := ?_) rfl (by kernel_rfl) (by kernel_rfl) (fun _ _ _ h => h) (by assumption) ?_ ?_; rotate_left; (intro w hSw; (try dsimp only at hSw); obtain ⟨s1, s2⟩ := hSw; go_simp; first | done | with_reducible rfl); simp only [Act.put, List.setIfInBounds_toArray, List.set_cons_zero, List.set_cons_succ])
            (refine hd_take 10 (v := ?_) rfl (by kernel_rfl) (by kernel_rfl) (fun _ _ _ h => h) (by assumption) ?_ ?_; rotate_left; (intro w hSw; (try dsimp only at hSw); obtain ⟨s1, s2⟩ := hSw; go_simp; first | done | with_reducible rfl); simp only [Act.put, List.setIfInBounds_toArray, List.set_cons_zero, List.set_cons_succ])
            (refine hd_take 11 (v := ?_) rfl (by kernel_rfl) (by kernel_rfl) (fun _ _ _ h => h) (by assumption) ?_ ?_; rotate_left; (intro w hSw; (try dsimp only at hSw); obtain ⟨s1, s2⟩ := hSw; go_simp; first | done | with_reducible rfl); simp only [Act.put, List.setIfInBounds_toArray, List.set_cons_zero, List.set_cons_succ])
            (refine hd_take 12 (v := ?_) rfl (by kernel_rfl) (by kernel_rfl) (fun _ _ _ h => h) (by assumption) ?_ ?_; rotate_left; (intro w hSw; (try dsimp only at hSw); obtain ⟨s1, s2⟩ := hSw; go_simp; first | done | with_reducible rfl); simp only [Act.put, List.setIfInBounds_toArray, List.set_cons_zero, List.set_cons_succ])
            (refine hd_take 13 (v := ?_) rfl (by kernel_rfl) (by kernel_rfl) (fun _ _ _ h => h) (by assumption) ?_ ?_; rotate_left; (intro w hSw; (try dsimp only at hSw); obtain ⟨s1, s2⟩ := hSw; go_simp; first | done | with_reducible rfl); simp only [Act.put, List.setIfInBounds_toArray, List.set_cons_zero, List.set_cons_succ])
            (refine hd_take 14 (v := ?_) rfl (by kernel_rfl) (by kernel_rfl) (fun _ _ _ h => h) (by assumption) ?_ ?_; rotate_left; (intro w hSw; (try dsimp only at hSw); obtain ⟨s1, s2⟩ := hSw; go_simp; first | done | with_reducible rfl); simp only [Act.put, List.setIfInBounds_toArray, List.set_cons_zero, List.set_cons_succ])
            (refine hd_take 15 (v := ?_) rfl (by kernel_rfl) (by kernel_rfl) (fun _ _ _ h => h) (by assumption) ?_ ?_; rotate_left; (intro w hSw; (try dsimp only at hSw); obtain ⟨s1, s2⟩ := hSw; go_simp; first | done | with_reducible rfl); simp only [Act.put, List.setIfInBounds_toArray, List.set_cons_zero, List.set_cons_succ])
            refine wpAnyH_done (by kernel_rfl) ?_ _
            clear hHeld
            go_wp2_with fail
            (with_reducible refine (ofZ_calls HPd.out.rn qk).mono ?_)
            rintro e w5 ⟨u5, rfl, hO5, hb5⟩
            obtain ⟨Y, hY⟩ : ∃ Y, ofR Z qk = Y := ⟨_, rfl⟩
            have hYl : Y.length ≤ 1000 := by
              have h9 : (ofR Z qk).length ≤ Z.length := List.length_filter_le _ _
              rw [hY, HN.out] at h9
              omega
            rw [hY] at hO5
            obtain ⟨y, hy⟩ : ∃ y, Y.length = y := ⟨_, rfl⟩
            obtain ⟨A5, c5, rfl, hc5, hC5⟩ := OVr_readn hO5 y hy
            have HYE := Aside0.mk hY
            have HC5 := Aside0.mk hC5
            have HO5 := Aside0.mk (Kd.R_below HOd.out hb5)
            have HS5 := Aside0.mk (below_step HSd.out hb5)
            have hyl : (grpL Z k).length + y ≤ 1000000 := by have := HGL.out k; omega
            clear hO5 hb5 hC5 hY hYl hy
            go_wp2_with ((with_reducible refine gate_dst (N := 61) rfl ?_); refine app_vrs rfl rfl rfl rfl HO5.out HC5.out HS5.out.size hyl ?_; intro v6 w6 hO6 hb6 _; have HO6 := Aside0.mk hO6; have HS6 := Aside0.mk (HS5.out.trans hb6); clear hO6 hb6)
            go_roundw
            case rel => exact ⟨k + 1, v6, rfl, by push_cast; rfl, hlt, ⟨by rw [HNEW.out, HYE.out]; exact HO6.out⟩, HS6⟩
            case measure => simp [intOf]; omega
      · have j1 : ¬ (k : Int) < (z : Int) := by omega
        have HOL : Aside0 (OVr wr w3.heap.size u10 Z) := ⟨by have h9 := HO.out; rwa [grp_all Z k (by rw [HN.out]; omega)] at h9⟩
        obtain ⟨A8, c8, rfl, hc8, hC8⟩ := OVr_readn HOL.out z HN.out
        have HC8 := Aside0.mk hC8
        have HP4 := Aside0.mk (HP3.out.step HS.out)
        clear hC8 hlt
        go_wp2_with fail
        (with_reducible refine (rangeZ_calls HP4.out.rn { data := #[] } key).mono ?_)
        rintro e w5 ⟨v5, rfl, hO5, hb5⟩
        obtain ⟨X5, hX5⟩ : ∃ X, rangeR Z { data := #[] } key = X := ⟨_, rfl⟩
        have hl5 : X5.length ≤ 1000 := by
          have h9 : (rangeR Z { data := #[] } key).length ≤ Z.length := List.length_filter_le _ _
          rw [hX5, HN.out] at h9
          omega
        rw [hX5] at hO5
        obtain ⟨x5, hx5⟩ : ∃ x, X5.length = x := ⟨_, rfl⟩
        obtain ⟨A5, c5, rfl, hc5, hC5⟩ := OVr_readn hO5 x5 hx5
        have hn5 : ([] : List Vr).length + x5 ≤ 1000000 := by rw [List.length_nil]; omega
        have HC5 := Aside0.mk hC5
        have HX5 := Aside0.mk hX5
        have HC85 := Aside0.mk (Kd.C_below HC8.out hb5)
        have HP5 := Aside0.mk (HP4.out.step hb5)
        clear hO5 hC5 hb5 hX5 hx5
        go_wp2_with ((with_reducible refine gate_dst (N := 66) rfl ?_); refine app_vrs rfl rfl rfl rfl (OVr_nil _ w5.heap.size) HC5.out (Nat.le_refl _) hn5 ?_; intro v6 w6 hO6 hb6 _; have HO6 := Aside0.mk hO6; have HB6 := Aside0.mk hb6; have HP6 := Aside0.mk (HP5.out.step hb6); clear hO6 hb6)
        (with_reducible refine (rangeZ_calls HP6.out.rn key { data := #[255] }).mono ?_)
        rintro e w7 ⟨v7, rfl, hO7, hb7⟩
        obtain ⟨X7, hX7⟩ : ∃ X, rangeR Z key { data := #[255] } = X := ⟨_, rfl⟩
        have hl7 : X7.length ≤ 1000 := by
          have h9 : (rangeR Z key { data := #[255] }).length ≤ Z.length := List.length_filter_le _ _
          rw [hX7, HN.out] at h9
          omega
        rw [hX7] at hO7
        obtain ⟨x7, hx7⟩ : ∃ x, X7.length = x := ⟨_, rfl⟩
        obtain ⟨A7, c7, rfl, hc7, hC7⟩ := OVr_readn hO7 x7 hx7
        have hn7 : ([] ++ X5).length + x7 ≤ 1000000 := by rw [List.nil_append]; omega
        have HC7 := Aside0.mk hC7
        have HH : Aside0 ([] ++ X5 ++ X7 = Z) := ⟨by rw [List.nil_append, ← HX5.out, ← hX7]; exact HHV.out⟩
        have HO67 := Aside0.mk (Kd.R_below HO6.out hb7)
        have HB7 := Aside0.mk (below_step HB6.out hb7)
        clear hO7 hC7 hb7 hX7 hx7
        go_wp2_with ((with_reducible refine gate_dst (N := 71) rfl ?_); refine app_vrs rfl rfl rfl rfl HO67.out HC7.out HB7.out.size hn7 ?_; intro v9 w9 hO9 hb9 _; rw [HH.out] at hO9; obtain ⟨A9, c9, rfl, hc9, hC9⟩ := OVr_readn hO9 z HN.out; have HC9 := Aside0.mk hC9; have HB9 := Aside0.mk (HB7.out.trans hb9); have HP9 := Aside0.mk (HP5.out.step HB9.out); have HS9 := Aside0.mk (same_calls A8 A1 z c8 c1 Z w9 (Kd.C_below HC85.out HB9.out) HP9.out.kv hc8 hc1); clear hO9 hb9 hC9)
        (with_reducible refine HS9.out.mono ?_)
        rintro e w10 ⟨rfl, hb10⟩
        have HP10 := Aside0.mk (HP9.out.step hb10)
        have HS10 := Aside0.mk (same_calls A9 A1 z c9 c1 Z w10 (Kd.C_below HC9.out hb10) HP10.out.kv hc9 hc1)
        clear hb10
        go_wp2_with fail
        (with_reducible refine HS10.out.mono ?_)
        rintro e w11 ⟨rfl, hb11⟩
        have HP11 := Aside0.mk (HP10.out.step hb11)
        clear hb11
        go_wp2_with fail
        (with_reducible refine (lives_calls _).mono ?_)
        rintro e w12 ⟨rfl, hb12⟩
        have HP12 := Aside0.mk (HP11.out.step hb12)
        clear hb12
        go_wp2_with fail
        go_ret
        exact ⟨by first | rfl | kernel_rfl, HP12.out.bel⟩
end Go.Proofs.Ytmfnbkghfmeekaa.A
