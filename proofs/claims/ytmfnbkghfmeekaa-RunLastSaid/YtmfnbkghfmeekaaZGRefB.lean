/- GRefB -/
import Derived.Test.YtmfnbkghfmeekaaZGBuild
namespace Go.Proofs.Ytmfnbkghfmeekaa.A
open Go.RowKit Go.Proofs.YtmfnbkghfmeekaaW.PrintWords Go.Proofs.YtmfnbkghfmeekaaW.PrintLast Go.Proofs.YtmfnbkghfmeekaaW.PrintMore
open R C
set_option linter.unusedVariables false
set_option linter.unusedSimpArgs false
theorem chk_at : ∀ (f : Nat) (l : List Vr) (k : Nat), l.length ≤ f → (k < (chk (f + 1) l).length ↔ 8 * k < l.length) ∧ (8 * k < l.length → (chk (f + 1) l).getD k default = (l.drop (8 * k)).take 8)
  | 0, l, k, h => by
    have h0 : l.length = 0 := by omega
    rw [chk_no h0]
    refine ⟨⟨fun h => by simp at h, fun h => by omega⟩, fun h => by omega⟩
  | f + 1, l, k, h => by
    by_cases h0 : l.length = 0
    · rw [chk_no h0]
      refine ⟨⟨fun h => by simp at h, fun h => by omega⟩, fun h => by omega⟩
    · rw [chk_yes h0]
      cases k with
      | zero => exact ⟨⟨fun _ => by omega, fun _ => by simp⟩, fun _ => by simp⟩
      | succ k =>
        obtain ⟨i1, i2⟩ := chk_at f (l.drop 8) k (by rw [List.length_drop]; omega)
        rw [List.length_drop] at i1 i2
        refine ⟨?_, fun hk => ?_⟩
        · rw [List.length_cons, Nat.add_lt_add_iff_right, i1]
          omega
        · rw [List.getD_cons_succ, i2 (by omega), List.drop_drop]
          rw [show 8 + 8 * k = 8 * (k + 1) by omega]
theorem cut2V (A : Option Addr) (c : Nat) (l : List Vr) (lo hi : Int) (h0 : 0 ≤ lo) (h1 : lo ≤ hi) (hm : hi ≤ l.length) (hc : l.length ≤ c) :
    ∃ (A' : Option Addr) (c' : Nat), (∀ W : World, (Instr.slice 22 (.slice A l.length c) (some (.int .i64 lo)) (some (.int .i64 hi)) none).run Try.prog W = .ok (.slice A' ((l.take hi.toNat).drop lo.toNat).length c') W) ∧
      (∀ w : World, KVr.C w A l.length l → KVr.C w A' ((l.take hi.toNat).drop lo.toNat).length ((l.take hi.toNat).drop lo.toNat)) ∧ ((l.take hi.toNat).drop lo.toNat).length ≤ c' := by
  obtain ⟨i0, hi0, _, hsz, _⟩ := info_parts infoVr
  refine ⟨_, c - lo.toNat, fun W => ?_, fun w h => Kd.C_mid h (by omega) (by omega) hc, by rw [List.length_drop, List.length_take]; omega⟩
  rw [cut_mid 22 28 .i64 .i64 Try.underlying22 hi0 8 hsz A l.length c lo hi h0 h1 hm hc W, List.length_drop, List.length_take, Nat.min_eq_left (by omega)]
  rfl
theorem refframeN_calls (A : Option Addr) (n c : Nat) (l : List Int) (w : World) (hr : U8.C w A n l) (hc : n ≤ c) (hb : ∀ x ∈ l, 0 ≤ x ∧ x ≤ 255) (hl : n ≤ 140737488000000) :
    Calls Try.prog 44 #[.slice A n c] w fun e w' => ∃ v, e = .returned v ∧ OB w' w.heap.size v (F.frame l) ∧ Below w.heap.size w w' := by
  have hn := hr.1
  subst hn
  exact F.refframe_calls A c l w hr hc hb hl
theorem keyB_range (cs : List (List Vr)) : ∀ x ∈ keyB cs, 0 ≤ x ∧ x ≤ 255 := fun x hx => by
  obtain ⟨c, _, hx⟩ := List.mem_flatMap.1 hx
  exact vtext_range _ x hx
theorem fenB_range (cs : List (List Vr)) : ∀ x ∈ fenB cs, 0 ≤ x ∧ x ≤ 255 := fun x hx => by
  rcases List.mem_append.1 hx with hx | hx
  · exact vput_range _ x hx
  · exact keyB_range cs x hx
theorem footB_range (l : List Vr) (cs : List (List Vr)) : ∀ x ∈ footB l cs, 0 ≤ x ∧ x ≤ 255 := fun x hx => by
  obtain ⟨n, _, hx⟩ := List.mem_flatMap.1 hx
  exact vput_range _ x hx
set_option maxRecDepth 100000 in
set_option maxHeartbeats 8000000 in
theorem rbuild_calls (A : Option Addr) (n c : Nat) (l : List Vr) (w : World) (hr : KVr.C w A n l) (hc : n ≤ c) (hir : IsR l) (hn5 : n ≤ 5000) :
    Calls Try.prog 18 #[.slice A n c] w fun e w' => ∃ u, e = .returned u ∧ OB w' w.heap.size u (runB l) ∧ Below w.heap.size w w' := by
  have HR := Aside0.mk hr
  have HN := Aside0.mk hr.1
  have hm9 : n ≤ 9223372036854775807 := hr.2.1
  obtain ⟨cs, hcs⟩ : ∃ cs, pcs l = cs := ⟨_, rfl⟩
  have HMAY : Aside0 (∀ c ∈ cs, mayBl c = true) := ⟨by rw [← hcs]; exact pcs_may hir⟩
  have HRUN : Aside0 (runB l = bldB cs ++ (F.frame (fenB cs) ++ F.frame (footB l cs))) := ⟨by unfold runB; rw [hcs]⟩
  have HAT : Aside0 (∀ k, (k < cs.length ↔ 8 * k < n) ∧ (8 * k < n → cs.getD k default = (l.drop (8 * k)).take 8)) := ⟨fun k => by rw [← hcs, ← HN.out]; exact chk_at l.length l k (Nat.le_refl _)⟩
  have hcl5 : cs.length ≤ n := by rw [← hcs, ← HN.out]; exact pcs_len l
  obtain ⟨m, hm⟩ : ∃ m, cs.length = m := ⟨_, rfl⟩
  rw [hm] at hcl5
  have HCL := Aside0.mk hm
  clear hr hir hcs hm
  go_enter Try.func18, Try.ntmps18
  go_wp2_with fail
  go_loopw [3, 4, 5, 6, 7] (fun v3 v4 v5 v6 v7 w' => ∃ k q : Nat, v6 = .int .i64 q ∧ v5 = .int .i64 k ∧ k ≤ m ∧ Aside0 (q = 8 * k) ∧ Aside0 (OB w' w.heap.size v3 (bldB (cs.take k))) ∧ Aside0 (OB w' w.heap.size v4 (keyB (cs.take k))) ∧ Aside0 (Apt v3 v4) ∧ Aside0 (Below w.heap.size w w')) (fun _ _ _ v6 _ _ => 8 * m - (intOf v6).toNat)
  case atStart => exact ⟨0, 0, rfl, rfl, Nat.zero_le _, ⟨rfl⟩, ⟨OB_nil _ _⟩, ⟨OB_nil _ _⟩, ⟨Apt_nil _⟩, ⟨Below.refl _ _⟩⟩
  case round =>
    obtain ⟨k, q, rfl, rfl, hkm, HQ, HO, HP, HA, HB⟩ := hrel
    by_cases hlt : k < m
    · have h8 : q < n := by rw [HQ.out]; exact ((HAT.out k).1).1 (by rw [HCL.out]; exact hlt)
      have hil : k < cs.length := by rw [HCL.out]; exact hlt
      have hcd := (HAT.out k).2 (by rw [← HQ.out]; exact h8)
      rw [← HQ.out] at hcd
      obtain ⟨ch, hch⟩ : ∃ ch, cs.getD k default = ch := ⟨_, rfl⟩
      have hchm : ch ∈ cs := by rw [← hch, List.getD_eq_getElem?_getD, List.getElem?_eq_getElem hil]; exact List.getElem_mem hil
      have hmay := HMAY.out ch hchm
      have htk := tkL cs k hil
      rw [hch] at htk hcd
      have HT1 : Aside0 (bldB (cs.take (k + 1)) = bldB (cs.take k) ++ frB ch) := ⟨by unfold bldB; rw [htk, List.flatMap_append, List.flatMap_cons, List.flatMap_nil, List.append_nil]⟩
      have HT2 : Aside0 (keyB (cs.take (k + 1)) = keyB (cs.take k) ++ V.vtext (ch.getD 0 default).k) := ⟨by unfold keyB; rw [htk, List.flatMap_append, List.flatMap_cons, List.flatMap_nil, List.append_nil]⟩
      obtain ⟨m1, m2, m3⟩ := mayBl_all hmay
      have HCW := Aside0.mk (Kd.C_below HR.out HB.out)
      obtain ⟨ad, hAd, -⟩ := C_atVr HCW.out q h8
      subst hAd
      obtain ⟨p, hp⟩ : ∃ p, l.getD q default = p := ⟨_, rfl⟩
      have hp0 : ch.getD 0 default = p := by
        rw [hcd, ← hp, List.getD_eq_getElem?_getD, List.getD_eq_getElem?_getD, List.getElem?_take, if_pos (by omega), List.getElem?_drop, Nat.add_zero]
      have hpk : p.k.size ≤ 92 := by rw [← hp0]; exact may_head hmay
      rw [hp0] at HT2
      have HPK : Aside0 (∀ W, Below w.heap.size w W → W.cell? (ad.add (q * 8)) = some (.string p.k)) := ⟨fun W hb => (C_atVr' (Kd.C_below HR.out hb) q h8 p hp).1⟩
      obtain ⟨nc, hnc⟩ : ∃ nc, ch.length = nc := ⟨_, rfl⟩
      rw [hnc] at m2 m3
      have hcut : ∀ hi : Int, (q : Int) ≤ hi → hi ≤ (n : Int) → (l.take hi.toNat).drop q = ch → ∃ (A' : Option Addr) (c' : Nat), (∀ W : World, (Instr.slice 22 (.slice (some ad) n c) (some (.int .i64 (q : Int))) (some (.int .i64 hi)) none).run Try.prog W = .ok (.slice A' nc c') W) ∧ (∀ w : World, KVr.C w (some ad) n l → KVr.C w A' nc ch) ∧ nc ≤ c' := fun hi h1 h2 h3 => by
        obtain ⟨A', c', hsl, hC', hc'⟩ := cut2V (some ad) c l (q : Int) hi (by omega) h1 (by have := HN.out; omega) (by have := HN.out; omega)
        simp only [Int.toNat_natCast] at hsl hC' hc'
        rw [h3, hnc] at hsl hC' hc'
        rw [HN.out] at hsl hC'
        exact ⟨A', c', hsl, hC', hc'⟩
      have hcs2 : ((n : Int) < (q : Int) + 8 ∧ (l.take ((n : Int)).toNat).drop q = ch) ∨ (¬ (n : Int) < (q : Int) + 8 ∧ (l.take ((q : Int) + 8).toNat).drop q = ch) := by
        have hnl := HN.out
        rw [hcd]
        rcases Int.lt_or_le (n : Int) ((q : Int) + 8) with h1 | h1
        · refine .inl ⟨h1, ?_⟩
          rw [Int.toNat_natCast, List.take_of_length_le (by omega), List.take_of_length_le (by rw [List.length_drop]; omega)]
        · refine .inr ⟨by omega, ?_⟩
          rw [show ((q : Int) + 8).toNat = q + 8 by omega, List.drop_take, show q + 8 - q = 8 by omega]
      have HWR0 := Aside0.mk (fun A' c' (hC' : KVr.C wr A' nc ch) (hc' : nc ≤ c') => refwriteB_calls A' nc c' ch wr hC' hc' (by omega) m1)
      have HBL := Aside0.mk (blockB_len ch hmay)
      have HBR := Aside0.mk (blockB_range ch)
      have HLB := Aside0.mk (bldB_len (cs := cs.take k) (fun c hc => HMAY.out c (List.mem_of_mem_take hc)))
      have HLK := Aside0.mk (keyB_len (cs := cs.take k) (fun c hc => HMAY.out c (List.mem_of_mem_take hc)))
      have HTL : Aside0 ((cs.take k).length ≤ 5000) := ⟨by rw [List.length_take]; omega⟩
      have j1 : (q : Int) < (n : Int) := by omega
      have j2 : (0 : Int) ≤ (q : Int) := by omega
      have j3 : IntKind.i64.wrap ((q : Int) + 8) = (q : Int) + 8 := IntWalk.i64_in _ (by omega)
      have HAC : Aside0 (((n : Int) < (q : Int) + 8 ∧ ∃ (A' : Option Addr) (c' : Nat), (∀ W : World, (Instr.slice 22 (.slice (some ad) n c) (some (.int .i64 (q : Int))) (some (.int .i64 (n : Int))) none).run Try.prog W = .ok (.slice A' nc c') W) ∧ KVr.C wr A' nc ch ∧ nc ≤ c') ∨ (¬ (n : Int) < (q : Int) + 8 ∧ ∃ (A' : Option Addr) (c' : Nat), (∀ W : World, (Instr.slice 22 (.slice (some ad) n c) (some (.int .i64 (q : Int))) (some (.int .i64 ((q : Int) + 8))) none).run Try.prog W = .ok (.slice A' nc c') W) ∧ KVr.C wr A' nc ch ∧ nc ≤ c')) := ⟨by
        rcases hcs2 with ⟨h1, h2⟩ | ⟨h1, h2⟩
        · obtain ⟨A', c', a1, a2, a3⟩ := hcut _ (by omega) (Int.le_refl _) h2
          exact .inl ⟨h1, A', c', a1, a2 _ HCW.out, a3⟩
        · obtain ⟨A', c', a1, a2, a3⟩ := hcut _ (by omega) (by omega) h2
          exact .inr ⟨h1, A', c', a1, a2 _ HCW.out, a3⟩⟩
      clear hch hchm htk hcd hp hp0 hil m1 hmay hcut hcs2 hnc
      rcases HAC.out with ⟨j4, A', c', hsl, hC', hc'⟩ | ⟨j4, A', c', hsl, hC', hc'⟩
      all_goals
        have HWR := Aside0.mk (HWR0.out A' c' hC' hc')
        clear hC' HWR0 HAC
        go_wp2_with fail
        (with_reducible refine HWR.out.mono ?_)
        rintro e w4 ⟨u4', rfl, hO4, hb4⟩
        obtain ⟨k4, hk4⟩ : ∃ k4, (blockB ch).length = k4 := ⟨_, rfl⟩
        obtain ⟨A4, c4, rfl, hc4, hC4⟩ := OB_readn hO4 k4 hk4
        have HC4 := Aside0.mk hC4
        have HB4 := Aside0.mk (below_step HB.out hb4)
        have HO4 := Aside0.mk (Kd.R_below HO.out hb4)
        have HP4 := Aside0.mk (Kd.R_below HP.out hb4)
        have hk44 : k4 ≤ 4000 := by have := HBL.out; omega
        have HFR := Aside0.mk (refframeN_calls A4 k4 c4 (blockB ch) w4 hC4 hc4 HBR.out (by omega))
        clear hO4 hC4 hb4
        go_wp2_with fail
        (with_reducible refine HFR.out.mono ?_)
        rintro e w5 ⟨u5', rfl, hO5, hb5⟩
        obtain ⟨k5, hk5⟩ : ∃ k5, (frB ch).length = k5 := ⟨_, rfl⟩
        have hfl : k5 = (blockB ch).length + 8 := by rw [← hk5]; exact F.frame_len _
        obtain ⟨A5, c5, rfl, hc5, hC5⟩ := OB_readn hO5 k5 hk5
        have HC5 := Aside0.mk hC5
        have HB5 := Aside0.mk (below_step HB4.out hb5)
        have HO5 := Aside0.mk (Kd.R_below HO4.out hb5)
        have HP5 := Aside0.mk (Kd.R_below HP4.out hb5)
        have hl5 : (bldB (cs.take k)).length + k5 ≤ 140737488355328 := by have := HLB.out; have := HTL.out; have := HBL.out; omega
        have hk55 : k5 ≤ 5000 := by omega
        clear hO5 hC5 hb5 hk5 hfl hk4 HFR
        go_wp2_with ((with_reducible refine gate_dst (N := 31) rfl ?_); refine app_bytes rfl rfl rfl rfl HO5.out HC5.out HB5.out.size hl5 ?_; intro v7 w7 hO7 hb7 hg7 ha7; have HO7 := Aside0.mk hO7; have HB7 := Aside0.mk (HB5.out.trans hb7); have HP7 := Aside0.mk (OB_grown (v := v7) HP5.out hg7 HA.out.ne); have HA7 := Aside0.mk (HA.out.nextB HP5.out ha7); have q1 := HPK.out w7 HB7.out; clear hO7 hb7 hg7 ha7)
        (with_reducible refine (V.reftext_calls p.k w7 (by omega)).mono ?_)
        rintro e w8 ⟨u8', rfl, hO8, hb8⟩
        obtain ⟨k8, hk8⟩ : ∃ k8, (V.vtext p.k).length = k8 := ⟨_, rfl⟩
        obtain ⟨A8, c8, rfl, hc8, hC8⟩ := OB_readn hO8 k8 hk8
        have HC8 := Aside0.mk hC8
        have HB8 := Aside0.mk (below_step HB7.out hb8)
        have HO8 := Aside0.mk (Kd.R_below HO7.out hb8)
        have HP8 := Aside0.mk (Kd.R_below HP7.out hb8)
        have hl8 : (keyB (cs.take k)).length + k8 ≤ 140737488355328 := by
          have h1 := HLK.out
          have h2 := HTL.out
          have h4 := V.vput_le (p.k.size : Int) (by omega)
          have h5 := V.vtext_len p.k
          omega
        clear hO8 hC8 hb8 hk8 q1
        go_wp2_with ((with_reducible refine gate_dst (N := 39) rfl ?_); refine app_bytes rfl rfl rfl rfl HP8.out HC8.out HB8.out.size hl8 ?_; intro v9 w9 hO9 hb9 hg9 ha9; have HP9 := Aside0.mk hO9; have HB9 := Aside0.mk (HB8.out.trans hb9); have HO9 := Aside0.mk (OB_grown (v := v9) HO8.out hg9 HA7.out.swap.ne); have HA9 := Aside0.mk (HA7.out.swap.nextB HO8.out ha9).swap; clear hO9 hb9 hg9 ha9)
        go_roundw
        case rel => exact ⟨k + 1, q + 8, by push_cast; rfl, by push_cast; rfl, hlt, ⟨by rw [HQ.out]; omega⟩, ⟨by rw [HT1.out]; exact HO9.out⟩, ⟨by rw [HT2.out]; exact HP9.out⟩, HA9, HB9⟩
        case measure =>
          simp [intOf]
          have := HQ.out
          omega
    · have hkm2 : k = m := by omega
      subst hkm2
      have h8 : ¬ q < n := fun h => by have := ((HAT.out k).1).2 (by rw [← HQ.out]; exact h); have := HCL.out; omega
      have j1 : ¬ (q : Int) < (n : Int) := by omega
      have HO1 : Aside0 (OB wr w.heap.size u3 (bldB cs)) := ⟨by have h9 := HO.out; rwa [List.take_of_length_le (by rw [HCL.out]; exact Nat.le_refl _)] at h9⟩
      have HP1 : Aside0 (OB wr w.heap.size u4 (keyB cs)) := ⟨by have h9 := HP.out; rwa [List.take_of_length_le (by rw [HCL.out]; exact Nat.le_refl _)] at h9⟩
      obtain ⟨kb, hkb⟩ : ∃ kb, (bldB cs).length = kb := ⟨_, rfl⟩
      obtain ⟨kk, hkk⟩ : ∃ kk, (keyB cs).length = kk := ⟨_, rfl⟩
      obtain ⟨Ab, cb, rfl, hcb, -⟩ := OB_readn HO1.out kb hkb
      obtain ⟨Ak, ck, rfl, hck, hCk⟩ := OB_readn HP1.out kk hkk
      have HCK := Aside0.mk hCk
      have HLB := bldB_len HMAY.out
      have HLK := keyB_len HMAY.out
      have hkb9 : kb ≤ 30000000 := by have := HCL.out; omega
      have hkk9 : kk ≤ 3000000 := by have := HCL.out; omega
      have HKB := Aside0.mk hkb
      have HKK := Aside0.mk hkk
      clear hlt hkb hkk hCk HLB HLK hkm
      go_wp2_with fail
      (with_reducible refine (V.refput_calls (k : Int) wr (by omega)).mono ?_)
      rintro e w4 ⟨u7, rfl, hO4, hb4⟩
      have HO4 := Aside0.mk hO4
      have HB4 := Aside0.mk hb4
      have hl4 : (V.vput (k : Int)).length + kk ≤ 140737488355328 := by have h1 := V.vput_le (k : Int) (by omega); omega
      have HCK4 := Aside0.mk (Kd.C_below HCK.out hb4)
      clear hO4 hb4
      go_wp2_with ((with_reducible refine gate_dst (N := 45) rfl ?_); refine app_bytes rfl rfl rfl rfl HO4.out HCK4.out HB4.out.size hl4 ?_; intro v5 w5 hO5 hb5 _ _; have HF5 := Aside0.mk hO5; have HB5 := Aside0.mk (HB4.out.trans hb5); clear hO5 hb5)
      (with_reducible refine (V.refput_calls (n : Int) w5 (by omega)).mono ?_)
      rintro e w6 ⟨u8', rfl, hO6, hb6⟩
      have HN6 := Aside0.mk hO6
      have HF6 := Aside0.mk (Kd.R_below HF5.out hb6)
      have HB6 := Aside0.mk (below_step HB5.out hb6)
      have HB56 := Aside0.mk hb6
      clear hO6 hb6
      go_wp2_with fail
      (with_reducible refine (V.refput_calls (k : Int) w6 (by omega)).mono ?_)
      rintro e w7 ⟨u9', rfl, hO7, hb7⟩
      obtain ⟨k7, hk7⟩ : ∃ k7, (V.vput (k : Int)).length = k7 := ⟨_, rfl⟩
      obtain ⟨A7, c7, rfl, hc7, hC7⟩ := OB_readn hO7 k7 hk7
      have HC7 := Aside0.mk hC7
      have HN7 := Aside0.mk (Kd.R_below HN6.out hb7)
      have HF7 := Aside0.mk (Kd.R_below HF6.out hb7)
      have HB7 := Aside0.mk (below_step HB6.out hb7)
      have HB57 := Aside0.mk (below_step HB56.out hb7)
      have hl7 : (V.vput (n : Int)).length + k7 ≤ 140737488355328 := by have h1 := V.vput_le (n : Int) (by omega); have h2 := V.vput_le (k : Int) (by omega); omega
      clear hO7 hC7 hb7 hk7
      go_wp2_with ((with_reducible refine gate_dst (N := 52) rfl ?_); refine app_bytes rfl rfl rfl rfl HN7.out HC7.out HB57.out.size hl7 ?_; intro v8 w8 hO8 hb8 hg8 _; have HN8 := Aside0.mk hO8; have HB58 := Aside0.mk (HB57.out.trans hb8); clear hO8 hb8 hg8)
      (with_reducible refine (V.refput_calls (kb : Int) w8 (by omega)).mono ?_)
      rintro e w9 ⟨u10', rfl, hO9, hb9⟩
      obtain ⟨k9, hk9⟩ : ∃ k9, (V.vput (kb : Int)).length = k9 := ⟨_, rfl⟩
      obtain ⟨A9, c9, rfl, hc9, hC9⟩ := OB_readn hO9 k9 hk9
      have HC9 := Aside0.mk hC9
      have HN9 := Aside0.mk (Kd.R_below HN8.out hb9)
      have HB59 := Aside0.mk (below_step HB58.out hb9)
      have hl9 : (V.vput (n : Int) ++ V.vput (k : Int)).length + k9 ≤ 140737488355328 := by have h1 := V.vput_le (n : Int) (by omega); have h2 := V.vput_le (k : Int) (by omega); have h3 := V.vput_le (kb : Int) (by omega); rw [List.length_append]; omega
      clear hO9 hC9 hb9 hk9
      go_wp2_with ((with_reducible refine gate_dst (N := 57) rfl ?_); refine app_bytes rfl rfl rfl rfl HN9.out HC9.out HB59.out.size hl9 ?_; intro v10 w10 hO10 hb10 _ _; have HO10 := Aside0.mk hO10; have HB510 := Aside0.mk (HB59.out.trans hb10); clear hO10 hb10)
      have HN10 : Aside0 (OB w10 w5.heap.size v10 (footB l cs)) := ⟨by
        unfold footB
        rw [HN.out, HCL.out, HKB.out]
        simp only [List.flatMap_cons, List.flatMap_nil, List.append_nil]
        rw [← List.append_assoc]
        exact HO10.out⟩
      have HF10 : Aside0 (OB w10 wr.heap.size v5 (fenB cs)) := ⟨by unfold fenB; rw [HCL.out]; exact Kd.R_below HF5.out HB510.out⟩
      obtain ⟨kf, hkf⟩ : ∃ kf, (fenB cs).length = kf := ⟨_, rfl⟩
      obtain ⟨Af, cf, rfl, hcf, hCf⟩ := OB_readn HF10.out kf hkf
      have hkf9 : kf ≤ 4000000 := by
        have h1 := V.vput_le (k : Int) (by omega)
        have h2 := HKK.out
        rw [← hkf]
        unfold fenB
        rw [List.length_append, HCL.out]
        omega
      have HFR := Aside0.mk (refframeN_calls Af kf cf (fenB cs) w10 hCf hcf (fenB_range cs) (by omega))
      have HKF := Aside0.mk hkf
      clear hCf hkf
      (with_reducible refine HFR.out.mono ?_)
      rintro e w11 ⟨u11, rfl, hO11, hb11⟩
      obtain ⟨k11, hk11⟩ : ∃ k11, (F.frame (fenB cs)).length = k11 := ⟨_, rfl⟩
      have hfl11 : k11 = (fenB cs).length + 8 := by rw [← hk11]; exact F.frame_len _
      obtain ⟨A11, c11, rfl, hc11, hC11⟩ := OB_readn hO11 k11 hk11
      have HC11 := Aside0.mk hC11
      have HB511 := Aside0.mk (below_step HB510.out hb11)
      have HBr : Aside0 (Below wr.heap.size wr w11) := ⟨below_step HB5.out HB511.out⟩
      have HO11 := Aside0.mk (Kd.R_below HO1.out HBr.out)
      have HN11 := Aside0.mk (Kd.R_below HN10.out hb11)
      have HA11 : Aside0 (Apt (.slice Ab kb cb) v10) := ⟨Apt.newer HO1.out HN10.out HB5.out.size⟩
      have HBw := Aside0.mk (below_step HB.out HBr.out)
      have hl11 : (bldB cs).length + k11 ≤ 140737488355328 := by have := HKB.out; have := HKF.out; omega
      clear hO11 hC11 hb11 hk11 hfl11
      go_wp2_with ((with_reducible refine gate_dst (N := 61) rfl ?_); refine app_bytes rfl rfl rfl rfl HO11.out HC11.out HBw.out.size hl11 ?_; intro v12 w12 hO12 hb12 hg12 ha12; have HO12 := Aside0.mk hO12; have HB12 := Aside0.mk (HBw.out.trans hb12); have HN12 := Aside0.mk (OB_grown (v := v12) HN11.out hg12 HA11.out.ne); clear hO12 hb12 hg12 ha12)
      obtain ⟨kz, hkz⟩ : ∃ kz, (footB l cs).length = kz := ⟨_, rfl⟩
      obtain ⟨Az, cz, rfl, hcz, hCz⟩ := OB_readn HN12.out kz hkz
      have hkz9 : kz ≤ 100 := by
        have h1 := V.vput_le (l.length : Int) (by have := HN.out; omega)
        have h2 := V.vput_le (cs.length : Int) (by have := HCL.out; omega)
        have h3 := V.vput_le ((bldB cs).length : Int) (by have := HKB.out; omega)
        rw [← hkz]
        unfold footB
        simp only [List.flatMap_cons, List.flatMap_nil, List.length_append, List.length_nil]
        omega
      have HFZ := Aside0.mk (refframeN_calls Az kz cz (footB l cs) w12 hCz hcz (footB_range l cs) (by omega))
      have HKZ := Aside0.mk hkz
      clear hCz hkz
      (with_reducible refine HFZ.out.mono ?_)
      rintro e w13 ⟨u13, rfl, hO13, hb13⟩
      obtain ⟨k13, hk13⟩ : ∃ k13, (F.frame (footB l cs)).length = k13 := ⟨_, rfl⟩
      have hfl13 : k13 = (footB l cs).length + 8 := by rw [← hk13]; exact F.frame_len _
      obtain ⟨A13, c13, rfl, hc13, hC13⟩ := OB_readn hO13 k13 hk13
      have HC13 := Aside0.mk hC13
      have HO13 := Aside0.mk (Kd.R_below HO12.out hb13)
      have HB13 := Aside0.mk (below_step HB12.out hb13)
      have hl13 : (bldB cs ++ F.frame (fenB cs)).length + k13 ≤ 140737488355328 := by have := HKB.out; have := HKZ.out; have := HKF.out; have := F.frame_len (fenB cs); rw [List.length_append]; omega
      clear hO13 hC13 hb13 hk13 hfl13
      go_wp2_with ((with_reducible refine gate_dst (N := 65) rfl ?_); refine app_bytes rfl rfl rfl rfl HO13.out HC13.out HB13.out.size hl13 ?_; intro v14 w14 hO14 hb14 _ _; have HO14 := Aside0.mk hO14; have HB14 := Aside0.mk (HB13.out.trans hb14); clear hO14 hb14)
      go_ret
      refine ⟨_, rfl, ?_, HB14.out⟩
      rw [HRUN.out, ← List.append_assoc]
      exact HO14.out
end Go.Proofs.Ytmfnbkghfmeekaa.A
