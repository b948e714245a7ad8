/- GOpen -/
import Derived.Test.YtmfnbkghfmeekaaZGOpenP
import Derived.Deep.RegionLaw
namespace Go.Proofs.Ytmfnbkghfmeekaa.A
open Go.RowKit Go.Proofs.YtmfnbkghfmeekaaW.PrintWords Go.Proofs.YtmfnbkghfmeekaaW.PrintLast Go.Proofs.YtmfnbkghfmeekaaW.PrintMore
open R C
set_option linter.unusedVariables false
set_option linter.unusedSimpArgs false
set_option maxRecDepth 100000 in
set_option maxHeartbeats 4000000 in
theorem open_nofit (A : Option Addr) (n c : Nat) (b : List Int) (w : World) (hr : U8.C w A n b) (hc : n ≤ c) (hby : ∀ x ∈ b, 0 ≤ x ∧ x ≤ 255) (hl : n ≤ 40000) (hf : fitB b = false) :
    Calls Try.prog 15 #[.slice A n c] w fun e w' => Below w.heap.size w w' ∧ ((openB b = none ∧ e = .returned (.tuple #[.pointer none, .int .i64 10])) ∨ ∃ cs r, openB b = some cs ∧ e = .returned (.tuple #[.pointer (some ⟨r, 0, none⟩), .int .i64 0]) ∧ RnI w' r cs) := by
  have HOP : Aside0 (openB b = none) := ⟨by unfold openB; rw [hf]; rfl⟩
  have HFR := Aside0.mk (F.frames_calls A n c b w hr hc hby (by omega))
  have HR := Aside0.mk hr
  have HN := Aside0.mk hr.1
  have HBY := Aside0.mk hby
  obtain ⟨fs, hfs⟩ : ∃ fs, F.frs (n + 1) b = fs := ⟨_, rfl⟩
  obtain ⟨fn, hfn⟩ : ∃ fn, F.frn fs = fn := ⟨_, rfl⟩
  obtain ⟨nf, hnf⟩ : ∃ nf, fs.length = nf := ⟨_, rfl⟩
  have hfs2 : F.frs (b.length + 1) b = fs := by rw [← hfs, hr.1]
  have HBK : Aside0 (blksB b = fs.take (nf - 2)) := ⟨by unfold blksB; rw [hfs2, hnf]⟩
  have HFT : Aside0 (fitB b = (decide (fn = n) && decide (2 ≤ nf))) := ⟨by unfold fitB; rw [hfs2, hfn, hnf, hr.1]⟩
  have HFN : Aside0 (fn ≤ n) := ⟨by rw [← hfn, ← hfs, ← hr.1]; exact F.frn_frs _ _ hby⟩
  have HNF : Aside0 (8 * nf ≤ fn) := ⟨by rw [← hfn, ← hnf]; exact F.frs_len fs⟩
  have HFS : Aside0 (∀ x ∈ fs, ∀ y ∈ x, 0 ≤ y ∧ y ≤ 255) := ⟨fun x hx y hy => hby y (frs_sub _ b x (by rw [hfs]; exact hx) y hy)⟩
  have HFF := Aside0.mk hfn
  have HNL := Aside0.mk hnf
  rw [hfs, hfn] at HFR
  clear hr hby hfs hfn hfs2
  go_enter Try.func15, Try.ntmps15
  go_wp2_with fail
  (with_reducible refine HFR.out.mono ?_)
  rintro e w1 ⟨v1, hs, rfl, hO1, hH1, hb1⟩
  obtain ⟨A4, c4, rfl, hc4, hC4⟩ := OR_readn hO1 nf (by rw [hH1.1, hnf])
  have HC4 := Aside0.mk hC4
  have HH1 := Aside0.mk hH1
  have HB1 := Aside0.mk hb1
  clear hO1 hC4 hH1 hb1 hnf HFR
  rw [HFT.out] at hf
  rcases Nat.lt_or_ge nf 2 with h2 | h2
  · have j1 : (nf : Int) < 2 := by omega
    by_cases h3 : fn = n
    · subst h3
      clear hf
      go_wp2_with fail
      go_ret2
      exact ⟨HB1.out, .inl ⟨HOP.out, rfl⟩⟩
    · have j2 : ¬ (fn : Int) = (n : Int) := by omega
      clear hf
      go_wp2_with fail
      go_ret2
      exact ⟨HB1.out, .inl ⟨HOP.out, rfl⟩⟩
  · have h3 : ¬ fn = n := fun h => by rw [decide_eq_true h, decide_eq_true h2] at hf; cases hf
    have j2 : ¬ (fn : Int) = (n : Int) := by omega
    clear hf
    go_wp2_with fail
    go_ret2
    exact ⟨HB1.out, .inl ⟨HOP.out, rfl⟩⟩
set_option maxRecDepth 100000 in
set_option maxHeartbeats 8000000 in
theorem open_fit (A : Option Addr) (n c : Nat) (b : List Int) (w : World) (hr : U8.C w A n b) (hc : n ≤ c) (hby : ∀ x ∈ b, 0 ≤ x ∧ x ≤ 255) (hl : n ≤ 40000) (hf : fitB b = true) :
    Calls Try.prog 15 #[.slice A n c] w fun e w' => Below w.heap.size w w' ∧ ((openB b = none ∧ e = .returned (.tuple #[.pointer none, .int .i64 10])) ∨ ∃ cs r, openB b = some cs ∧ e = .returned (.tuple #[.pointer (some ⟨r, 0, none⟩), .int .i64 0]) ∧ RnI w' r cs) := by
  have HFB := Aside0.mk hf
  have HFR := Aside0.mk (F.frames_calls A n c b w hr hc hby (by omega))
  have HR := Aside0.mk hr
  have HN := Aside0.mk hr.1
  have HBY := Aside0.mk hby
  obtain ⟨fs, hfs⟩ : ∃ fs, F.frs (n + 1) b = fs := ⟨_, rfl⟩
  obtain ⟨fn, hfn⟩ : ∃ fn, F.frn fs = fn := ⟨_, rfl⟩
  obtain ⟨nf, hnf⟩ : ∃ nf, fs.length = nf := ⟨_, rfl⟩
  have hfs2 : F.frs (b.length + 1) b = fs := by rw [← hfs, hr.1]
  have HBK : Aside0 (blksB b = fs.take (nf - 2)) := ⟨by unfold blksB; rw [hfs2, hnf]⟩
  have HFT : Aside0 (fitB b = (decide (fn = n) && decide (2 ≤ nf))) := ⟨by unfold fitB; rw [hfs2, hfn, hnf, hr.1]⟩
  have HFN : Aside0 (fn ≤ n) := ⟨by rw [← hfn, ← hfs, ← hr.1]; exact F.frn_frs _ _ hby⟩
  have HNF : Aside0 (8 * nf ≤ fn) := ⟨by rw [← hfn, ← hnf]; exact F.frs_len fs⟩
  have HFS : Aside0 (∀ x ∈ fs, ∀ y ∈ x, 0 ≤ y ∧ y ≤ 255) := ⟨fun x hx y hy => hby y (frs_sub _ b x (by rw [hfs]; exact hx) y hy)⟩
  have HFF := Aside0.mk hfn
  have HNL := Aside0.mk hnf
  rw [hfs, hfn] at HFR
  clear hr hby hfs hfn hfs2
  go_enter Try.func15, Try.ntmps15
  go_wp2_with fail
  (with_reducible refine HFR.out.mono ?_)
  rintro e w1 ⟨v1, hs, rfl, hO1, hH1, hb1⟩
  obtain ⟨A4, c4, rfl, hc4, hC4⟩ := OR_readn hO1 nf (by rw [hH1.1, hnf])
  have HC4 := Aside0.mk hC4
  have HH1 := Aside0.mk hH1
  have HB1 := Aside0.mk hb1
  clear hO1 hC4 hH1 hb1 hnf HFR
  rw [HFT.out, Bool.and_eq_true, decide_eq_true_eq, decide_eq_true_eq] at hf
  obtain ⟨hfn, h2⟩ := hf
  have hfn2 : n = fn := hfn.symm
  subst hfn2
  obtain ⟨m, hm⟩ : ∃ m, nf = m + 2 := ⟨nf - 2, by omega⟩
  subst hm
  obtain ⟨bs, hbs⟩ : ∃ bs, fs.take m = bs := ⟨_, rfl⟩
  have HBS : Aside0 (bs = fs.take m) := ⟨hbs.symm⟩
  have HBB : Aside0 (blksB b = bs) := ⟨by rw [HBK.out, ← hbs, show m + 2 - 2 = m by omega]⟩
  have HML : Aside0 (bs.length = m) := ⟨by rw [← hbs, List.length_take]; have := HNL.out; omega⟩
  have hm5 : m ≤ 5000 := by have := HNF.out; omega
  have j1 : ¬ ((m + 2 : Nat) : Int) < 2 := by omega
  obtain ⟨g, hg⟩ : ∃ g, w1.heap.size = g := ⟨_, rfl⟩
  have HGS := Aside0.mk hg
  clear hbs
  go_wp2_with fail
  go_loopw [7, 9, 10, 11, 40] (fun v7 v9 v10 v11 v40 w' => ∃ i : Nat, v40 = .int .i64 i ∧ i ≤ m ∧ Aside0 (okBs (bs.take i) = true) ∧ ∃ vf, Aside0 (w'.heap[g]? = some (rnB A4 m c4 vf 0)) ∧ Aside0 (OVr w' (g + 1) v7 (csB (bs.take i)).flatten) ∧ Aside0 (OStr w' (g + 1) vf ((csB (bs.take i)).map (fun c => (c.getD 0 default).k))) ∧ Aside0 (Below g w1 w')) (fun _ _ _ _ v40 _ => m - (intOf v40).toNat)
  case atStart => exact ⟨0, rfl, Nat.zero_le _, ⟨rfl⟩, .slice none 0 0, ⟨by rw [← HGS.out]; exact heap_alloc_new w1 _⟩, ⟨Kd.R_nil _ _ _ _ _⟩, ⟨Kd.R_nil _ _ _ _ _⟩, ⟨by rw [← HGS.out]; exact below_alloc (Below.refl _ _) _⟩⟩
  case round =>
    obtain ⟨i, rfl, him, HOK, vf, HG, HO, HF, HBg⟩ := hrel
    have HB : Aside0 (Below w1.heap.size w1 wr) := ⟨by rw [HGS.out]; exact HBg.out⟩
    by_cases hlt : i < m
    · have hil : i < bs.length := by rw [HML.out]; exact hlt
      obtain ⟨x, hx⟩ : ∃ x, bs.getD i default = x := ⟨_, rfl⟩
      have hxm : x ∈ bs := by rw [← hx, List.getD_eq_getElem?_getD, List.getElem?_eq_getElem hil]; exact List.getElem_mem hil
      have htk := tkL bs i hil
      rw [hx] at htk
      obtain ⟨Ah, kh, ch, hhd⟩ : ∃ Ah kh ch, hs[i]? = some (Ah, kh, ch) := by
        have hih : i < hs.length := by rw [HH1.out.1, HNL.out]; omega
        exact ⟨(hs[i]'hih).1, (hs[i]'hih).2.1, (hs[i]'hih).2.2, by rw [List.getElem?_eq_getElem hih]⟩
      have hfx : fs[i]? = some x := by
        have h9 : bs[i]? = some x := by rw [List.getElem?_eq_getElem hil, ← hx, List.getD_eq_getElem?_getD, List.getElem?_eq_getElem hil]; rfl
        rw [HBS.out, List.getElem?_take] at h9
        rw [if_pos hlt] at h9
        exact h9
      have hrow := HH1.out.2 i _ x hhd hfx
      obtain ⟨hkh, hkc, hCh⟩ := Kd.R_reads' hrow
      simp only at hkh hkc hCh
      rw [← hkh] at hCh
      obtain ⟨ad4, hA4, q0⟩ := C_atHd HC4.out i (by omega) (Ah, kh, ch) hhd
      subst hA4
      have q0 := pw_cell_below HB.out q0
      have HXL : Aside0 (kh ≤ n) := ⟨by
        have h1 := F.frn_append (fs.take i) (fs.drop i)
        rw [List.take_append_drop] at h1
        have h2 : fs.drop i = x :: fs.drop (i + 1) := by rw [List.drop_eq_getElem_cons (List.getElem?_eq_some_iff.1 hfx).1, (List.getElem?_eq_some_iff.1 hfx).2]
        rw [h2, F.frn_cons] at h1
        have := HFF.out
        have := HFN.out
        omega⟩
      have hkh9 : kh ≤ 40000 := by have := HXL.out; omega
      have hxb : ∀ y ∈ x, 0 ≤ y ∧ y ≤ 255 := HFS.out x (List.mem_of_getElem? hfx)
      have hrd := readb_calls Ah kh ch x wr (Kd.C_below hCh HB.out) hkc (by omega) hxb
      obtain ⟨er, her⟩ : ∃ er, (readB x).2 = er := ⟨_, rfl⟩
      rw [her] at hrd
      have HRD := Aside0.mk hrd
      have HXM := Aside0.mk hxm
      have HTK := Aside0.mk htk
      have HER := Aside0.mk her
      have j1 : (i : Int) < (m : Int) := by omega
      have j2 : (0 : Int) ≤ (i : Int) := by omega
      clear hx hxm htk hhd hfx hrow hCh hkh hxb hrd her hil
      go_wp2_with fail
      (with_reducible refine HRD.out.mono ?_)
      rintro e w3 ⟨u3, rfl, hO3, hb3⟩
      have HO3 := Aside0.mk hO3
      have HB3 := Aside0.mk hb3
      clear hO3 hb3 q0
      by_cases he : er = 0
      · subst he
        obtain ⟨r1, r2⟩ := read_ok HER.out
        obtain ⟨a1, a2, a3⟩ := mayBl_all r1
        obtain ⟨cx, hcx⟩ : ∃ cx, (readB x).1 = cx := ⟨_, rfl⟩
        rw [hcx] at HO3 a1 a2 a3 r1
        obtain ⟨nu, hnu⟩ : ∃ nu, cx.length = nu := ⟨_, rfl⟩
        obtain ⟨Au, cu, rfl, hcu, hCu⟩ := OVr_readn HO3.out nu hnu
        have hnu1 : 0 < nu := by omega
        have hnu8 : nu ≤ 8 := by omega
        obtain ⟨adu, hAu, -⟩ := C_atVr hCu 0 hnu1
        subst hAu
        have HCX : Aside0 (csB (bs.take (i + 1)) = csB (bs.take i) ++ [cx]) := ⟨by unfold csB; rw [HTK.out, List.map_append, List.map_cons, List.map_nil, hcx]⟩
        have HOK2 : Aside0 (okBs (bs.take (i + 1)) = true) := ⟨by
          have h9 := HOK.out
          unfold okBs at h9 ⊢
          rw [HTK.out, List.all_append, h9, List.all_cons, HER.out]
          rfl⟩
        have HLA : Aside0 ((csB (bs.take i)).flatten.length ≤ 40000) := ⟨by
          have h1 := rows_le (bs.take i) HOK.out
          have h2 := frn_take bs i
          have h3 := frn_take fs m
          rw [← HBS.out] at h3
          have := HFF.out
          have := HFN.out
          omega⟩
        obtain ⟨p, hp⟩ : ∃ p, cx.getD 0 default = p := ⟨_, rfl⟩
        have HP := Aside0.mk hp
        have HCu := Aside0.mk hCu
        have HG3 := Aside0.mk (box_keep HG.out HB3.out)
        have HOa := Aside0.mk (Kd.R_below HO.out HB3.out)
        have HFa := Aside0.mk (Kd.R_below HF.out HB3.out)
        have HBa := Aside0.mk (below_step HB.out HB3.out)
        have hg3 : g + 1 ≤ w3.heap.size := (Array.getElem?_eq_some_iff.1 HG3.out).1
        have hla : (csB (bs.take i)).flatten.length + nu ≤ 1000000 := by have := HLA.out; omega
        have HNU := Aside0.mk hnu
        clear hp hcx hnu hCu r1 r2 a1 a2 a3
        go_wp2_with ((with_reducible refine gate_dst (N := 53) rfl ?_); refine app_vrs rfl rfl rfl rfl HOa.out HCu.out hg3 hla ?_; intro v7 w5 hO5 hb5 hg5; have HO5 := Aside0.mk hO5; have HB5 := Aside0.mk hb5; have HG5 := Aside0.mk hg5; clear hO5 hb5 hg5)
        have HO3g := Aside0.mk (OVr_grown HO3.out HG5.out (Apt.newerV HO.out HO3.out (Nat.le_refl _)).ne)
        have HCw : Aside0 (KVr.C w5 (some adu) nu cx) := ⟨by
          obtain ⟨q1, q2, q3⟩ := Kd.R_reads' HO3g.out
          rwa [HNU.out] at q3⟩
        have hkey : w5.cell? adu = some (.string p.k) := by
          have h9 := (C_atVr' HCw.out 0 hnu1 p HP.out).1
          have e : adu.add (0 * 8) = adu := by simp [Addr.add]
          rwa [e] at h9
        have HGw : Aside0 (w5.heap[g]? = some (rnB (some ad4) m c4 vf 0)) := ⟨(HB5.out.block g (by omega)).trans HG3.out⟩
        have HFd := Aside0.mk (Kd.R_below (OStr_grownV HFa.out HOa.out HG5.out) (below_drew1 (Below.refl w5.heap.size w5)))
        have HOd := Aside0.mk (Kd.R_below HO5.out (below_drew1 (Below.refl w5.heap.size w5)))
        have hg5s : g + 1 ≤ w5.drew.heap.size := (Array.getElem?_eq_some_iff.1 HGw.out).1
        have hlk : (((csB (bs.take i)).map (fun c => (c.getD 0 default).k)).length + 1) * 16 ≤ 140737488355328 := by
          unfold csB
          rw [List.length_map, List.length_map, List.length_take]
          omega
        obtain ⟨x0, x1, x2, x3⟩ := rn_cells HGw.out
        have x4 := x3 1
        have xa : ∀ o : Obj, (w5.alloc o).cell? ⟨g, 1, none⟩ = some vf := fun o => (rn_cells (box_keep HGw.out (below_alloc (Below.refl _ _) o))).2.1
        have j5 : (0 : Int) < (nu : Int) := by omega
        clear x3
        go_wp2_with fail
        go_region_law (refine app_one_step (W := w5.drew) (B := g + 1) (v := vf) (s := .tmp 58) (x := .tmp 63) (p := p.k) (cs := [.string p.k]) Kd.string 70 9 (.string ByteArray.empty) 16 Try.underlying70 infoStr rfl (by decide) (by decide) rfl rfl rfl rfl (fun okp => rfl) HFd.out hg5s hlk ?_; intro vf1 w7 hF7 hb7 hg7; obtain ⟨kx, hkx⟩ : ∃ kx, (((csB (bs.take i)).map (fun c => (c.getD 0 default).k)) ++ [p.k]).length = kx := ⟨_, rfl⟩; obtain ⟨Af, cf, rfl, hcf, _⟩ := OStr_readn hF7 kx hkx; have hx7 := (hb7.block g (by omega)).trans HGw.out; obtain ⟨y0, y1, y2, y3⟩ := rn_cells hx7; have y4 := y3 1; have HX7 := Aside0.mk hx7; have HF7 := Aside0.mk hF7; have HB7 := Aside0.mk hb7; have HG7 := Aside0.mk hg7; clear hF7 hb7 hg7 hkx hx7 y3)
        all_goals
          have hgs : w7.grownBy (w7.setCell ⟨g, 1, none⟩ (.slice Af kx cf)) (some g) := grown_set _ _ _ _
          have HO7 := Aside0.mk (OVr_off (OVr_grownS HOd.out HFd.out HG7.out) hgs (fun k e => by cases e; omega))
          have HF9 := Aside0.mk (OStr_off HF7.out hgs (fun k e => by cases e; omega))
          have HX9 := Aside0.mk (heap_set1 HX7.out 1 (.slice Af kx cf))
          have HB9 : Aside0 (Below g w1 (w7.setCell ⟨g, 1, none⟩ (.slice Af kx cf))) := ⟨by
            have h1 : Below g w1 w3 := by rw [← HGS.out]; exact HBa.out
            exact ((h1.trans (HB5.out.drew.mono (Nat.le_succ g))).trans (HB7.out.mono (Nat.le_succ g))).setCell (p := ⟨g, 1, none⟩) (Nat.le_refl g) _⟩
          clear hgs
          go_wp2_with fail
          go_roundw
          case rel =>
            refine ⟨i + 1, by push_cast; rfl, hlt, HOK2, .slice Af kx cf, HX9, ⟨?_⟩, ⟨?_⟩, HB9⟩
            · rw [HCX.out, List.flatten_append, List.flatten_cons, List.flatten_nil, List.append_nil]
              exact HO7.out
            · rw [HCX.out, List.map_append, List.map_cons, List.map_nil, HP.out]
              exact HF9.out
          case measure => simp [intOf]; omega
      · have HNO : Aside0 (okBs bs = false) := ⟨by
          cases hb : okBs bs with
          | false => rfl
          | true =>
            unfold okBs at hb
            rw [List.all_eq_true] at hb
            exact absurd ((of_decide_eq_true (hb x HXM.out) : (readB x).2 = 0)) (by rw [HER.out]; exact he)⟩
        have HOP : Aside0 (openB b = none) := ⟨by unfold openB; rw [HBB.out, HNO.out, Bool.false_and, Bool.and_false]; rfl⟩
        have j3 : (er == 0) = false := by simpa using he
        go_wp2_with fail
        go_ret2
        exact ⟨below_step HB1.out (below_step HB.out HB3.out), .inl ⟨HOP.out, rfl⟩⟩
    · have hie : m = i := by omega
      subst hie
      have j1 : ¬ (m : Int) < (m : Int) := by omega
      have htke : bs.take m = bs := List.take_of_length_le (by rw [HML.out]; exact Nat.le_refl _)
      have HOKa : Aside0 (okBs bs = true) := ⟨by have h9 := HOK.out; rwa [htke] at h9⟩
      obtain ⟨al, hal⟩ : ∃ al, (csB bs).flatten = al := ⟨_, rfl⟩
      have HOa : Aside0 (OVr wr (g + 1) u7 al) := ⟨by have h9 := HO.out; rwa [htke, hal] at h9⟩
      have HFa : Aside0 (OStr wr (g + 1) vf ((csB bs).map (fun c => (c.getD 0 default).k))) := ⟨by have h9 := HF.out; rwa [htke] at h9⟩
      obtain ⟨na, hna⟩ : ∃ na, al.length = na := ⟨_, rfl⟩
      have hna5 : na ≤ 4500 := by
        have h1 := rows_le bs HOKa.out
        have h3 := frn_take fs m
        rw [← HBS.out] at h3
        rw [hal, hna] at h1
        have := HFF.out
        omega
      obtain ⟨A7, c7, rfl, hc7, hC7⟩ := OVr_readn HOa.out na hna
      have hsm : smallB al := by rw [← hal]; exact cs_small HOKa.out
      have hbd := build_calls A7 na c7 al wr hC7 hc7 hsm (by omega)
      have HAL := Aside0.mk hal
      have HNA := Aside0.mk hna
      have HGD : Aside0 (goodB b = (okN al al.length && decide (runB al = b))) := ⟨by unfold goodB; rw [HBB.out, hal]⟩
      have HOB : Aside0 (openB b = if goodB b then some (csB bs) else none) := ⟨by unfold openB; rw [HFB.out, HBB.out, HOKa.out]; rfl⟩
      clear hlt hal hna hC7 hsm htke
      cases hok : okN al al.length with
      | false =>
        have he1 : bldE al = 1 ∧ bldR al = [] := by unfold bldE bldR; rw [hok]; exact ⟨rfl, rfl⟩
        rw [he1.1, he1.2] at hbd
        have HBD := Aside0.mk hbd
        have HOP : Aside0 (openB b = none) := ⟨by rw [HOB.out, HGD.out, hok]; rfl⟩
        clear hbd he1
        go_wp2_with fail
        (with_reducible refine HBD.out.mono ?_)
        rintro e w5 ⟨u5', rfl, -, hb5⟩
        have HB5 := Aside0.mk (below_step HB.out hb5)
        clear hb5
        go_wp2_with fail
        go_ret2
        exact ⟨below_step HB1.out HB5.out, .inl ⟨HOP.out, rfl⟩⟩
      | true =>
        have he1 : bldE al = 0 ∧ bldR al = runB al := by unfold bldE bldR; rw [hok]; exact ⟨rfl, rfl⟩
        rw [he1.1, he1.2] at hbd
        have HBD := Aside0.mk hbd
        have HGD2 : Aside0 (goodB b = decide (runB al = b)) := ⟨by rw [HGD.out, hok]; rfl⟩
        clear hbd he1
        go_wp2_with fail
        (with_reducible refine HBD.out.mono ?_)
        rintro e w5 ⟨u5', rfl, hO5, hb5⟩
        obtain ⟨kr, hkr⟩ : ∃ kr, (runB al).length = kr := ⟨_, rfl⟩
        obtain ⟨Ar, cr, rfl, hcr, hCr⟩ := OB_readn hO5 kr hkr
        have HBr5 := Aside0.mk hb5
        have HB5 := Aside0.mk (below_step HB.out hb5)
        have hEQ := equal_calls Ar A kr n cr c (runB al) b w5 hCr (Kd.C_below HR.out (below_step HB1.out HB5.out)) hcr hc
        obtain ⟨q, hq⟩ : ∃ q, decide (runB al = b) = q := ⟨_, rfl⟩
        rw [hq] at hEQ
        have HEQ := Aside0.mk hEQ
        have HQ := Aside0.mk hq
        clear hO5 hCr hb5 hkr hEQ hq
        go_wp2_with fail
        (with_reducible refine HEQ.out.mono ?_)
        rintro e w6 ⟨rfl, hb6⟩
        have HB6 := Aside0.mk (below_step HB5.out hb6)
        have HBr6 := Aside0.mk (below_step HBr5.out hb6)
        have HG6 := Aside0.mk (box_keep HG.out HBr6.out)
        clear hb6
        cases q with
        | false =>
          have HOP : Aside0 (openB b = none) := ⟨by rw [HOB.out, HGD2.out, HQ.out]; rfl⟩
          go_wp2_with fail
          go_ret2
          exact ⟨below_step HB1.out HB6.out, .inl ⟨HOP.out, rfl⟩⟩
        | true =>
          have HOP : Aside0 (openB b = some (csB bs)) := ⟨by rw [HOB.out, HGD2.out, HQ.out]; rfl⟩
          have HF6 := Aside0.mk (Kd.R_below HFa.out HBr6.out)
          obtain ⟨x0, x1, x2, x3⟩ := rn_cells HG6.out
          have x4 := x3 2
          clear x3
          go_wp2_with fail
          go_ret2
          have hbW : Below w1.heap.size w1 (w6.setCell ⟨g, 2, none⟩ (.int .i64 (na : Int))) := HB6.out.setCell (p := ⟨g, 2, none⟩) (by rw [HGS.out]; exact Nat.le_refl g) _
          refine ⟨below_step HB1.out hbW, .inr ⟨csB bs, g, HOP.out, rfl, ?_⟩⟩
          have hcl : (csB bs).length = m := by unfold csB; rw [List.length_map, HML.out]
          have hbm : (csB bs).map blockB = bs := by
            unfold csB
            rw [List.map_map]
            have h9 : bs.map (blockB ∘ fun x => (readB x).1) = bs.map id := List.map_congr_left (fun x hx => by
              have h8 := HOKa.out
              unfold okBs at h8
              rw [List.all_eq_true] at h8
              exact (read_ok (of_decide_eq_true (h8 x hx))).2)
            rw [h9, List.map_id]
          have hF9 := OStr_off HF6.out (grown_set _ _ _ _ : w6.grownBy (w6.setCell ⟨g, 2, none⟩ (.int .i64 (na : Int))) (some g)) (fun k e => by cases e; omega)
          obtain ⟨Af, cf, hvf, hcf, hCf⟩ := OStr_readn hF9 m (by rw [List.length_map, hcl])
          have hhl : (hs.take m).length = m := by rw [List.length_take, HH1.out.1, HNL.out]; omega
          have hC4' := C_take_any (n := m) (by have h9 := HC4.out; rwa [← h9.1] at h9)
          rw [hhl] at hC4'
          refine ⟨A4, c4, Af, cf, hs.take m, ?_, by rw [hcl]; omega, by rw [hcl]; exact hcf, by rw [hcl]; exact Kd.C_below hC4' hbW, ⟨by rw [hhl, List.length_map, hcl], fun i h x e1 e2 => ?_⟩, by rw [hcl]; exact hCf⟩
          · rw [heap_set1 HG6.out, hcl, HAL.out, HNA.out, hvf]
            rfl
          · rw [hbm] at e2
            have e3 : fs[i]? = some x ∧ i < m := by
              rw [HBS.out, List.getElem?_take] at e2
              split at e2
              · exact ⟨e2, by assumption⟩
              · cases e2
            rw [List.getElem?_take, if_pos e3.2] at e1
            obtain ⟨q1, q2, q3⟩ := Kd.R_reads' (HH1.out.2 i h x e1 e3.1)
            exact ⟨q1, by rw [← q1]; exact q2, Kd.C_below q3 hbW⟩
theorem open_calls (A : Option Addr) (n c : Nat) (b : List Int) (w : World) (hr : U8.C w A n b) (hc : n ≤ c) (hby : ∀ x ∈ b, 0 ≤ x ∧ x ≤ 255) (hl : n ≤ 40000) :
    Calls Try.prog 15 #[.slice A n c] w fun e w' => Below w.heap.size w w' ∧ ((openB b = none ∧ e = .returned (.tuple #[.pointer none, .int .i64 10])) ∨ ∃ cs r, openB b = some cs ∧ e = .returned (.tuple #[.pointer (some ⟨r, 0, none⟩), .int .i64 0]) ∧ RnI w' r cs) := by
  cases hf : fitB b with
  | false => exact open_nofit A n c b w hr hc hby hl hf
  | true => exact open_fit A n c b w hr hc hby hl hf
end Go.Proofs.Ytmfnbkghfmeekaa.A
