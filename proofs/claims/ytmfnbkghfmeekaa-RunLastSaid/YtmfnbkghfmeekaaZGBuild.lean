/- GBuild -/
import Derived.Test.YtmfnbkghfmeekaaZGPlain
import Derived.Test.YtmfnbkghfmeekaaZGSorted
namespace Go.Proofs.Ytmfnbkghfmeekaa.A
open Go.RowKit Go.Proofs.YtmfnbkghfmeekaaW.PrintWords Go.Proofs.YtmfnbkghfmeekaaW.PrintLast Go.Proofs.YtmfnbkghfmeekaaW.PrintMore
open R C
set_option linter.unusedVariables false
set_option linter.unusedSimpArgs false
theorem frame2_calls (A : Option Addr) (c : Nat) (x y : List Int) (w : World) (hr : (Kd.slice 5 U8).C w A 2 [x, y]) (hc : 2 ≤ c) (hl : ([x, y].flatMap F.frame).length ≤ 140737487000000) :
    Calls Try.prog 33 #[.slice A 2 c] w fun e w' => ∃ v, e = .returned v ∧ OB w' w.heap.size v ([x, y].flatMap F.frame) ∧ Below w.heap.size w w' :=
  F.frame_calls A c [x, y] w hr hc (by omega)
theorem C_atHd {A : Option Addr} {n : Nat} {hs : List (Option Addr × Nat × Nat)} {w : World} (h : HdV.C w A n hs) (i : Nat) (hi : i < n) (x : Option Addr × Nat × Nat) (hx : hs[i]? = some x) : ∃ ad, A = some ad ∧ w.cell? (ad.add i) = some (.slice x.1 x.2.1 x.2.2) := by
  have hn := h.1
  subst hn
  obtain ⟨ad, e, hc⟩ := h.2.2 (by omega)
  obtain ⟨c, h1, h2, h3⟩ := hc i _ hx
  have h2' : c = [Value.slice x.1 x.2.1 x.2.2] := h2
  subst h2'
  refine ⟨ad, e, ?_⟩
  have := h3 0 _ rfl
  simpa [HdV, Kd.scalar] using this
set_option maxRecDepth 100000 in
set_option maxHeartbeats 8000000 in
theorem build_calls (A : Option Addr) (n c : Nat) (l : List Vr) (w : World) (hr : KVr.C w A n l) (hc : n ≤ c) (hs : smallB l) (hn5 : n ≤ 5000) :
    Calls Try.prog 12 #[.slice A n c] w fun e w' => ∃ u, e = .returned (.tuple #[u, .int .i64 (bldE l)]) ∧ OB w' w.heap.size u (bldR l) ∧ Below w.heap.size w w' := by
  have HR := Aside0.mk hr
  have HSM := Aside0.mk hs
  have HN := Aside0.mk hr.1
  have HSO := Aside0.mk (srun_calls A n c l w hr hc hs)
  clear hr hs
  cases hok : okN l l.length with
  | false =>
    rw [hok] at HSO
    have HE : Aside0 (bldE l = 1 ∧ bldR l = []) := ⟨by unfold bldE bldR; rw [hok]; exact ⟨rfl, rfl⟩⟩
    rw [HE.out.1, HE.out.2]
    go_enter Try.func12, Try.ntmps12
    go_wp2_with fail
    (with_reducible refine HSO.out.mono ?_)
    rintro e w1 ⟨rfl, hb1⟩
    have HB1 := Aside0.mk hb1
    clear hb1
    go_wp2_with fail
    go_ret2
    exact ⟨_, rfl, OB_nil _ _, HB1.out⟩
  | true =>
    rw [hok] at HSO
    have HE : Aside0 (bldE l = 0 ∧ bldR l = runB l) := ⟨by unfold bldE bldR; rw [hok]; exact ⟨rfl, rfl⟩⟩
    rw [HE.out.1, HE.out.2]
    have hir := (okN_iff l).1 hok
    obtain ⟨cs, hcs⟩ : ∃ cs, chk (n + 1) l = cs := ⟨_, rfl⟩
    have hcp : pcs l = cs := by rw [← hcs, ← HN.out]
    have HMAY : Aside0 (∀ c ∈ cs, mayBl c = true) := ⟨by rw [← hcp]; exact pcs_may hir⟩
    have HSUB : Aside0 (∀ c ∈ cs, ∀ q ∈ c, q ∈ l) := ⟨by rw [← hcp]; exact fun c hc q hq => ((chk_all l.length l (Nat.le_refl _)).2 c hc).2.2.subset hq⟩
    have HRUN : Aside0 (runB l = bldB cs ++ (F.frame (fenB cs) ++ F.frame (footB l cs))) := ⟨by unfold runB; rw [hcp]⟩
    have hcl5 : cs.length ≤ n := by rw [← hcp, ← HN.out]; exact pcs_len l
    obtain ⟨m, hm⟩ : ∃ m, cs.length = m := ⟨_, rfl⟩
    rw [hm] at hcl5
    have HCL := Aside0.mk hm
    have j0 : ¬ (100000 : Int) < (n : Int) := by omega
    clear hok hir hcp hm
    go_enter Try.func12, Try.ntmps12
    go_wp2_with fail
    (with_reducible refine HSO.out.mono ?_)
    rintro e w1 ⟨rfl, hb1⟩
    have HB1 := Aside0.mk hb1
    have HCT := Aside0.mk (cut8_calls A n c l w1 (Kd.C_below HR.out hb1) hc hn5)
    rw [hcs] at HCT
    clear hb1 hcs
    go_wp2_with fail
    (with_reducible refine HCT.out.mono ?_)
    rintro e w2 ⟨v2, hs, rfl, hO2, hH2, hb2⟩
    have HB2 := Aside0.mk (below_step HB1.out hb2)
    have hhl : hs.length = m := by rw [hH2.1, HCL.out]
    obtain ⟨A6, c6, rfl, hc6, hC6⟩ := OR_readn hO2 m hhl
    have HC62 := Aside0.mk hC6
    have HH2 := Aside0.mk hH2
    clear hO2 hC6 hH2 hb2 hhl
    go_wp2_with fail
    (with_reducible refine (V.put_calls none 0 0 [] _ 1 1 [(m : Int)] _ (Kd.C_nil _ _) (Nat.le_refl _) (lit_CK w2 [(m : Int)] _ (by simp) (0, 0)) (Nat.le_refl _) (by intro x hx; rw [List.mem_singleton.1 hx]; omega) (by have h1 := V.vput_le (m : Int) (by omega); simp only [List.flatMap_cons, List.flatMap_nil, List.length_append, List.length_nil]; omega)).mono ?_)
    rintro e w3 ⟨u3, rfl, hO3, hb3⟩
    have HB23 : Aside0 (Below w2.heap.size w2 w3) := ⟨below_step (below_alloc (Below.refl _ _) _) hb3⟩
    have HBW3 := Aside0.mk (below_step HB2.out HB23.out)
    have HC6 := Aside0.mk (Kd.C_below HC62.out HB23.out)
    have HHD : Aside0 (HeadsV w3 w1.heap.size hs cs) := ⟨HeadsV_move HH2.out (fun u x h => Kd.R_below h HB23.out)⟩
    have HP3 : Aside0 (OB w3 w.heap.size u3 (V.vput cs.length ++ keyB (cs.take 0))) := ⟨by
      have h9 := hO3
      rw [List.nil_append, List.flatMap_cons, List.flatMap_nil, List.append_nil] at h9
      rw [HCL.out]
      show OB w3 w.heap.size u3 (V.vput m ++ [])
      rw [List.append_nil]
      exact Kd.R_lower h9 (by rw [World.size_alloc]; have := HB2.out.size; omega)⟩
    clear hO3 hb3
    go_wp2_with fail
    go_loopw [4, 5, 8, 9, 10, 28] (fun v4 v5 v8 v9 v10 v28 w' => ∃ i : Nat, v28 = .int .i64 i ∧ i ≤ m ∧ Aside0 (OB w' w3.heap.size v4 (bldB (cs.take i))) ∧ Aside0 (OB w' w.heap.size v5 (V.vput cs.length ++ keyB (cs.take i))) ∧ Aside0 (Apt v4 v5) ∧ Aside0 (Below w3.heap.size w3 w')) (fun _ _ _ _ _ v28 _ => m - (intOf v28).toNat)
    case atStart => exact ⟨0, rfl, Nat.zero_le _, ⟨OB_nil _ _⟩, HP3, ⟨Apt_nil _⟩, ⟨Below.refl _ _⟩⟩
    case round =>
      obtain ⟨i, rfl, hin, HO, HP, HA, HB⟩ := hrel
      by_cases hlt : i < m
      · have hil : i < cs.length := by rw [HCL.out]; exact hlt
        obtain ⟨ch, hch⟩ : ∃ ch, cs.getD i default = ch := ⟨_, rfl⟩
        have hchm : ch ∈ cs := by rw [← hch, List.getD_eq_getElem?_getD, List.getElem?_eq_getElem hil]; exact List.getElem_mem hil
        have hmay := HMAY.out ch hchm
        have htk := tkL cs i hil
        rw [hch] at htk
        have HT1 : Aside0 (bldB (cs.take (i + 1)) = bldB (cs.take i) ++ frB ch) := ⟨by unfold bldB; rw [htk, List.flatMap_append, List.flatMap_cons, List.flatMap_nil, List.append_nil]⟩
        have HT2 : Aside0 (keyB (cs.take (i + 1)) = keyB (cs.take i) ++ V.vtext (ch.getD 0 default).k) := ⟨by unfold keyB; rw [htk, List.flatMap_append, List.flatMap_cons, List.flatMap_nil, List.append_nil]⟩
        have hib : i < hs.length := by rw [HHD.out.1]; exact hil
        obtain ⟨hA, hn8, hcc⟩ := hs.getD i default
        obtain ⟨Ah, nh, chc, hhd⟩ : ∃ Ah nh chc, hs[i]? = some (Ah, nh, chc) := ⟨(hs[i]'hib).1, (hs[i]'hib).2.1, (hs[i]'hib).2.2, by rw [List.getElem?_eq_getElem hib]⟩
        have hrow := HHD.out.2 i _ ch hhd (by rw [List.getElem?_eq_getElem hil, ← hch, List.getD_eq_getElem?_getD, List.getElem?_eq_getElem hil]; rfl)
        obtain ⟨hnh, hncc, hCh⟩ := Kd.R_reads' hrow
        simp only at hnh hncc hCh
        rw [← hnh] at hCh
        obtain ⟨ad6, hA6, q0⟩ := C_atHd HC6.out i hlt (Ah, nh, chc) hhd
        subst hA6
        have q0 := pw_cell_below HB.out q0
        have HCH := Aside0.mk (Kd.C_below hCh HB.out)
        obtain ⟨m1, m2, m3⟩ := mayBl_all hmay
        have hn1 : 0 < nh := by rw [hnh]; omega
        have hn8 : nh ≤ 8 := by rw [hnh]; omega
        obtain ⟨adh, hAh, -⟩ := C_atVr HCH.out 0 hn1
        subst hAh
        obtain ⟨p, hp⟩ : ∃ p, ch.getD 0 default = p := ⟨_, rfl⟩
        have hpk : p.k.size ≤ 92 := by rw [← hp]; exact may_head hmay
        rw [hp] at HT2
        have HPK : Aside0 (∀ W, Below w3.heap.size w3 W → W.cell? adh = some (.string p.k)) := ⟨fun W hb => by
          have h9 := (C_atVr' (Kd.C_below hCh hb) 0 hn1 p hp).1
          have e : adh.add (0 * 8) = adh := by simp [Addr.add]
          rwa [e] at h9⟩
        have hwe : wrE ch = 0 ∧ wrB ch = blockB ch := by unfold wrE wrB; rw [if_pos hmay, if_pos hmay]; exact ⟨rfl, rfl⟩
        have hwr := writeB_calls (some adh) nh chc ch wr HCH.out hncc (fun q hq => by have := HSM.out q (HSUB.out ch hchm q hq); exact this)
        rw [hwe.1, hwe.2] at hwr
        have HWR := Aside0.mk hwr
        have HBL := Aside0.mk (blockB_len ch hmay)
        have HLB := Aside0.mk (bldB_len (cs := cs.take i) (fun c hc => HMAY.out c (List.mem_of_mem_take hc)))
        have HLK := Aside0.mk (keyB_len (cs := cs.take i) (fun c hc => HMAY.out c (List.mem_of_mem_take hc)))
        have HTL : Aside0 ((cs.take i).length ≤ 5000) := ⟨by rw [List.length_take]; omega⟩
        have j1 : (i : Int) < (m : Int) := by omega
        have j2 : (0 : Int) ≤ (i : Int) := by omega
        have j3 : (0 : Int) < (nh : Int) := by omega
        clear hch hchm hmay htk hrow hwe hwr hCh m1 m2 m3 hp hil hib hhd hnh
        go_wp2_with fail
        (with_reducible refine HWR.out.mono ?_)
        rintro e w4 ⟨u4, rfl, hO4, hb4⟩
        obtain ⟨k4, hk4⟩ : ∃ k4, (blockB ch).length = k4 := ⟨_, rfl⟩
        obtain ⟨A4, c4, rfl, hc4, hC4⟩ := OB_readn hO4 k4 hk4
        have HC4 := Aside0.mk hC4
        have HB4 := Aside0.mk (below_step HB.out hb4)
        have HO4 := Aside0.mk (Kd.R_below HO.out hb4)
        have HP4 := Aside0.mk (Kd.R_below HP.out hb4)
        have hk44 : k4 ≤ 4000 := by have := HBL.out; omega
        clear hO4 hC4 hb4 q0
        go_wp2_with fail
        (with_reducible refine (F.frame1_calls _ _ (blockB ch) _ (F.lit_S1n HC4.out hc4) (Nat.le_refl _) (by have := HBL.out; omega)).mono ?_)
        rintro e w5 ⟨u5', rfl, hO5, hb5⟩
        have HB45 : Aside0 (Below w4.heap.size w4 w5) := ⟨below_step (below_alloc (Below.refl _ _) _) hb5⟩
        obtain ⟨k5, hk5⟩ : ∃ k5, (frB ch).length = k5 := ⟨_, rfl⟩
        have hfl : k5 = (blockB ch).length + 8 := by rw [← hk5]; exact F.frame_len _
        obtain ⟨A5, c5, rfl, hc5, hC5⟩ := OB_readn hO5 k5 hk5
        have HC5 := Aside0.mk hC5
        have HB5 := Aside0.mk (below_step HB4.out HB45.out)
        have HO5 := Aside0.mk (Kd.R_below HO4.out HB45.out)
        have HP5 := Aside0.mk (Kd.R_below HP4.out HB45.out)
        have hl5 : (bldB (cs.take i)).length + k5 ≤ 140737488355328 := by have := HLB.out; have := HTL.out; have := HBL.out; omega
        clear hO5 hC5 hb5 hk5 hfl hk4
        go_wp2_with ((with_reducible refine gate_dst (N := 41) rfl ?_); refine app_bytes rfl rfl rfl rfl HO5.out HC5.out HB5.out.size hl5 ?_; intro v7 w7 hO7 hb7 hg7 ha7; have HO7 := Aside0.mk hO7; have HB7 := Aside0.mk (HB5.out.trans hb7); have HP7 := Aside0.mk (OB_grown (v := v7) HP5.out hg7 HA.out.ne); have HA7 := Aside0.mk (HA.out.nextB HP5.out ha7); obtain ⟨kf, hkf⟩ : ∃ kf, (V.vput cs.length ++ keyB (cs.take i)).length = kf := ⟨_, rfl⟩; obtain ⟨Af, cf, rfl, hcf, hCf⟩ := OB_readn HP7.out kf hkf; have HCF := Aside0.mk hCf; have HKF := Aside0.mk hkf; have q1 := HPK.out w7 HB7.out; clear hO7 hb7 hg7 ha7 hCf hkf)
        (with_reducible refine (V.text_calls Af kf cf _ _ 1 1 [p.k] _ (Kd.C_alloc HCF.out _) hcf (V.lit_CT w7 [p.k] _ (by simp) (0, 0)) (Nat.le_refl _) (by have h1 := HLK.out; have h2 := HTL.out; have h3 := V.vput_le (cs.length : Int) (by have := HCL.out; omega); have h4 := V.vput_le (p.k.size : Int) (by omega); have h5 := V.vtext_len p.k; rw [List.length_append, List.flatMap_cons, List.flatMap_nil, List.append_nil]; omega)).mono ?_)
        rintro e w8 ⟨u8', rfl, hO8, hb8⟩
        have HB78 : Aside0 (Below w7.heap.size w7 w8) := ⟨below_step (below_alloc (Below.refl _ _) _) hb8⟩
        have HO8 := Aside0.mk (Kd.R_below HO7.out HB78.out)
        have HP8 : Aside0 (OB w8 w.heap.size u8' (V.vput cs.length ++ keyB (cs.take (i + 1)))) := ⟨by
          rw [HT2.out, ← List.append_assoc]
          have h9 := hO8
          rw [List.flatMap_cons, List.flatMap_nil, List.append_nil] at h9
          exact Kd.R_lower h9 (by rw [World.size_alloc]; have := HB7.out.size; have := HBW3.out.size; omega)⟩
        have HA8 : Aside0 (Apt v7 u8') := ⟨Apt.newer HO7.out hO8 (by rw [World.size_alloc]; omega)⟩
        have HB8 := Aside0.mk (below_step HB7.out HB78.out)
        clear hO8 hb8 q1
        go_wp2_with fail
        go_roundw
        case rel => exact ⟨i + 1, by push_cast; rfl, hlt, ⟨by rw [HT1.out]; exact HO8.out⟩, HP8, HA8, HB8⟩
        case measure => simp [intOf]; omega
      · have j1 : ¬ (i : Int) < (m : Int) := by omega
        have HO1 : Aside0 (OB wr w3.heap.size u4 (bldB cs)) := ⟨by have h9 := HO.out; rwa [List.take_of_length_le (by rw [HCL.out]; omega)] at h9⟩
        have HP1 : Aside0 (OB wr w.heap.size u5 (fenB cs)) := ⟨by have h9 := HP.out; rwa [List.take_of_length_le (by rw [HCL.out]; omega)] at h9⟩
        obtain ⟨kb, hkb⟩ : ∃ kb, (bldB cs).length = kb := ⟨_, rfl⟩
        obtain ⟨Ab, cb, rfl, hcb, -⟩ := OB_readn HO1.out kb hkb
        have HKB := Aside0.mk hkb
        have HLB := Aside0.mk (bldB_len HMAY.out)
        have HLK := Aside0.mk (keyB_len HMAY.out)
        have hkb9 : kb ≤ 30000000 := by have := HLB.out; have := HCL.out; omega
        clear hlt hkb
        go_wp2_with fail
        (with_reducible refine (V.put_calls none 0 0 [] _ 3 3 [(n : Int), (m : Int), (kb : Int)] _ (Kd.C_nil _ _) (Nat.le_refl _) (lit_CK wr [(n : Int), (m : Int), (kb : Int)] _ (by simp) (0, 0)) (Nat.le_refl _) (by intro x hx; simp only [List.mem_cons, List.not_mem_nil, or_false] at hx; rcases hx with rfl | rfl | rfl <;> omega) (by have h1 := V.vput_le (n : Int) (by omega); have h2 := V.vput_le (m : Int) (by omega); have h3 := V.vput_le (kb : Int) (by omega); simp only [List.flatMap_cons, List.flatMap_nil, List.length_append, List.length_nil]; omega)).mono ?_)
        rintro e w4 ⟨u7, rfl, hO4, hb4⟩
        have HB4 : Aside0 (Below wr.heap.size wr w4) := ⟨below_step (below_alloc (Below.refl _ _) _) hb4⟩
        have HF4 : Aside0 (OB w4 wr.heap.size u7 (footB l cs)) := ⟨by
          have h9 := hO4
          rw [List.nil_append] at h9
          unfold footB
          rw [HN.out, HCL.out, HKB.out]
          exact Kd.R_lower h9 (by rw [World.size_alloc]; omega)⟩
        have HO4 := Aside0.mk (Kd.R_below HO1.out HB4.out)
        have HP4 := Aside0.mk (Kd.R_below HP1.out HB4.out)
        clear hO4 hb4
        obtain ⟨k7, hk7⟩ : ∃ k7, (footB l cs).length = k7 := ⟨_, rfl⟩
        obtain ⟨A7, c7, rfl, hc7, hC7⟩ := OB_readn HF4.out k7 hk7
        obtain ⟨k8, hk8⟩ : ∃ k8, (fenB cs).length = k8 := ⟨_, rfl⟩
        obtain ⟨A8, c8, rfl, hc8, hC8⟩ := OB_readn HP4.out k8 hk8
        have HC7 := Aside0.mk hC7
        have HC8 := Aside0.mk hC8
        have hk79 : k7 ≤ 100 := by
          have h1 := V.vput_le (l.length : Int) (by have := HN.out; omega)
          have h2 := V.vput_le (cs.length : Int) (by have := HCL.out; omega)
          have h3 := V.vput_le ((bldB cs).length : Int) (by have := HKB.out; omega)
          rw [← hk7]
          unfold footB
          simp only [List.flatMap_cons, List.flatMap_nil, List.length_append, List.length_nil]
          omega
        have hk89 : k8 ≤ 1000000 := by
          have h1 := HLK.out
          have h2 := V.vput_le (cs.length : Int) (by have := HCL.out; omega)
          have h3 := HCL.out
          rw [← hk8]
          unfold fenB
          rw [List.length_append]
          omega
        have HK7 := Aside0.mk hk7
        have HK8 := Aside0.mk hk8
        have hff : ([fenB cs, footB l cs].flatMap F.frame).length = 16 + k8 + k7 := by
          rw [List.flatMap_cons, List.flatMap_cons, List.flatMap_nil, List.append_nil, List.length_append, F.frame_len, F.frame_len, hk7, hk8]
          omega
        clear hC7 hC8 hk7 hk8
        go_wp2_with fail
        (with_reducible refine (frame2_calls _ _ (fenB cs) (footB l cs) _ (lit_S2 HC8.out hc8 HC7.out hc7) (Nat.le_refl _) (by rw [hff]; omega)).mono ?_)
        rintro e w5 ⟨u9, rfl, hO5, hb5⟩
        have HB45 : Aside0 (Below w4.heap.size w4 w5) := ⟨below_step (below_alloc (Below.refl _ _) _) hb5⟩
        obtain ⟨A9, c9, rfl, hc9, hC9⟩ := OB_readn hO5 (16 + k8 + k7) hff
        have HC9 := Aside0.mk hC9
        have HO5 := Aside0.mk (Kd.R_below HO4.out HB45.out)
        have HB5 := Aside0.mk (below_step (below_step HB.out HB4.out) HB45.out)
        have hl9 : (bldB cs).length + (16 + k8 + k7) ≤ 140737488355328 := by have := HKB.out; omega
        clear hO5 hC9 hb5 hff
        go_wp2_with ((with_reducible refine gate_dst (N := 63) rfl ?_); refine app_bytes rfl rfl rfl rfl HO5.out HC9.out HB5.out.size hl9 ?_; intro v7 w7 hO7 hb7 hg7 ha7; have HO7 := Aside0.mk hO7; have HB7 := Aside0.mk (HB5.out.trans hb7); clear hO7 hb7 hg7 ha7)
        go_ret2
        refine ⟨_, rfl, ?_, below_step HBW3.out HB7.out⟩
        have h9 := Kd.R_lower HO7.out HBW3.out.size
        rw [List.flatMap_cons, List.flatMap_cons, List.flatMap_nil, List.append_nil] at h9
        rw [HRUN.out]
        exact h9
end Go.Proofs.Ytmfnbkghfmeekaa.A
