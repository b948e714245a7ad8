/- GSomeR -/
import Derived.Test.YtmfnbkghfmeekaaZGSomeP
namespace Go.Proofs.Ytmfnbkghfmeekaa.A
open Go Go.RowKit Go.Shelf Go.Proofs.YtmfnbkghfmeekaaW.PrintWords Go.Proofs.YtmfnbkghfmeekaaW.PrintLast Go.Proofs.YtmfnbkghfmeekaaW.PrintMore
open R C
open Go.Op (bytesLess)
attribute [local go_sem] Oper.semAt_some wide_fn wide_depth
set_option linter.unusedVariables false
set_option linter.unusedSimpArgs false
set_option maxRecDepth 100000 in
set_option maxHeartbeats 4000000 in
theorem someRange_calls (w : World) (r : Nat) (cs : List (List Vr)) (hR : RnI w r cs) (hcs : ∀ c ∈ cs, mayBl c = true) (hm : cs.length ≤ 5000) (hfl : cs.flatten.length ≤ 5000) (key : ByteArray) (i0 : Nat) (hi : i0 ≤ cs.length)
    (hlo : ∀ j, j < i0 → bytesLess ((cs.map (fun c => (c.getD 0 default).k)).getD j ByteArray.empty).toList key.toList = true) (hhi : ∀ j, i0 ≤ j → j < cs.length → bytesLess ((cs.map (fun c => (c.getD 0 default).k)).getD j ByteArray.empty).toList key.toList = false) (gt : Nat) (k2 : ByteArray) (hgt : w.heap[gt]? = some (sB k2)) :
    Calls Try.prog 41 #[.pointer (some ⟨r, 0, none⟩), .string key, .func (.func 54) #[] #[.pointer (some ⟨gt, 0, none⟩)], .func (.func 55) #[] #[]] w fun e w' => ∃ v, e = .returned v ∧ OVr w' w.heap.size v (pickS (fun k => !bytesLess k.toList k2.toList) (keepS key (fun _ => true)) (cs.drop (i0 - 1)).flatten) ∧ Below w.heap.size w w' := by
  obtain ⟨ov, hov⟩ : ∃ ov : ByteArray → Bool, (fun k => !bytesLess k.toList k2.toList) = ov := ⟨_, rfl⟩
  obtain ⟨is, his⟩ : ∃ is : Vr → Bool, (fun _ => true) = is := ⟨_, rfl⟩
  rw [hov, his]
  have HOV : Aside0 (∀ (k : ByteArray) (lp : Nat) (V : World), Below w.heap.size w V → CallsIn (Fence.wide.inRound lp) 0 Try.prog 54 #[.string k, .pointer (some ⟨gt, 0, none⟩)] V fun e w' => e = .returned (.bool (ov k)) ∧ V = w') := ⟨fun k lp V hV => by rw [← hov]; exact CallsIn.inRound lp ((callsIn_wide (n := 0)).2 (range1_calls k k2 gt V ((hV.block _ (Array.getElem?_eq_some_iff.1 hgt).1).trans hgt)))⟩
  have HIS : Aside0 (∀ (p : Vr) (lp : Nat) (V : World), Below w.heap.size w V → CallsIn (Fence.wide.inRound lp) 0 Try.prog 55 #[vrV p] V fun e w' => e = .returned (.bool (is p)) ∧ Below V.heap.size V w') := ⟨fun p lp V hV => by rw [← his]; exact CallsIn.inRound lp ((callsIn_wide (n := 0)).2 (range2_calls p V))⟩
  clear hov his
  obtain ⟨m, hml⟩ : ∃ m, cs.length = m := ⟨_, rfl⟩
  rw [hml] at hm hi hhi
  obtain ⟨g, hg⟩ : ∃ g, w.heap.size = g := ⟨_, rfl⟩
  have HR := Aside0.mk hR
  have HCS := Aside0.mk hcs
  have HML := Aside0.mk hml
  have HFL := Aside0.mk hfl
  have HLO := Aside0.mk hlo
  have HHI := Aside0.mk hhi
  have HM := Aside0.mk hm
  have HI := Aside0.mk hi
  clear hR hcs hml hfl hlo hhi hm hi
  clear hgt
  refine (callsIn_wide (n := 0)).1 ?_
  refine callsIn_of_wp_marks Try.func41 rfl trivial ?_ rfl
  simp only [Try.ntmps41, List.size_toArray, List.length_cons, List.length_nil, Nat.reduceAdd, Nat.reduceSub, Array.replicate_succ, Array.replicate_zero, List.push_toArray, List.append_toArray, List.nil_append, List.cons_append]
  refine wpIn_wide.2 ?_
  go_wp2_with fail
  (with_reducible refine (rfrom_calls _ r key).mono ?_)
  rintro e w6 ⟨rfl, hw6⟩
  simp only [World.size_alloc, hg]
  have hz6 : w6.heap.size = g + 7 := by rw [← hw6]; simp only [World.size_alloc, hg]
  have hbb : Below w.heap.size w w6 := by rw [← hw6]; exact below_alloc (below_alloc (below_alloc (below_alloc (below_alloc (below_alloc (below_alloc (Below.refl _ _) _) _) _) _) _) _) _
  have ha : ∀ (V : World) (o : Obj) (k : Nat), V.heap.size = k → (V.alloc o).heap[k]? = some o := fun V o k e => by rw [← e]; exact heap_alloc_new V o
  have hk : ∀ {V V1 : World} {k : Nat} {o o1 : Obj}, V.heap[k]? = some o → (V.alloc o1).heap[k]? = some o := fun hv => blk_keep hv (below_alloc (Below.refl _ _) _)
  have x0 : w6.heap[g]? = some (sB key) := by rw [← hw6]; exact hk (V1 := w6) (hk (V1 := w6) (hk (V1 := w6) (hk (V1 := w6) (hk (V1 := w6) (hk (V1 := w6) (ha _ _ _ hg))))))
  have x1 : w6.heap[g + 1]? = some (ovB (.func (.func 54) #[] #[.pointer (some ⟨gt, 0, none⟩)])) := by rw [← hw6]; exact hk (V1 := w6) (hk (V1 := w6) (hk (V1 := w6) (hk (V1 := w6) (hk (V1 := w6) (ha _ _ _ (by simp only [World.size_alloc, hg]))))))
  have x2 : w6.heap[g + 1 + 1]? = some (isB (.func (.func 55) #[] #[])) := by rw [← hw6]; exact hk (V1 := w6) (hk (V1 := w6) (hk (V1 := w6) (hk (V1 := w6) (ha _ _ _ (by simp only [World.size_alloc, hg])))))
  have x3 : w6.heap[g + 1 + 1 + 1]? = some (vcB (.slice none 0 0)) := by rw [← hw6]; exact hk (V1 := w6) (hk (V1 := w6) (hk (V1 := w6) (ha _ _ _ (by simp only [World.size_alloc, hg]))))
  have x4 : w6.heap[g + 1 + 1 + 1 + 1]? = some (vcB (.slice none 0 0)) := by rw [← hw6]; exact hk (V1 := w6) (hk (V1 := w6) (ha _ _ _ (by simp only [World.size_alloc, hg])))
  have x5 : w6.heap[g + 1 + 1 + 1 + 1 + 1]? = some (prB r) := by rw [← hw6]; exact hk (V1 := w6) (ha _ _ _ (by simp only [World.size_alloc, hg]))
  have x6 : w6.heap[g + 1 + 1 + 1 + 1 + 1 + 1]? = some (sB key) := by rw [← hw6]; exact ha _ _ _ (by simp only [World.size_alloc, hg])
  have HB6 := Aside0.mk hbb
  have HX6 := Aside0.mk (show w6.heap[g]? = _ ∧ w6.heap[g + 1]? = _ ∧ w6.heap[g + 1 + 1]? = _ ∧ w6.heap[g + 1 + 1 + 1]? = _ ∧ w6.heap[g + 1 + 1 + 1 + 1]? = _ from ⟨x0, x1, x2, x3, x4⟩)
  have HF6 := Aside0.mk (show w6.heap[g + 1 + 1 + 1 + 1 + 1]? = _ ∧ w6.heap[g + 1 + 1 + 1 + 1 + 1 + 1]? = _ from ⟨x5, x6⟩)
  have HZ6 := Aside0.mk hz6
  have HG := Aside0.mk hg
  have hfe := feqR_nil (.func 94) #[] #[.pointer (some ⟨g + 1 + 1 + 1 + 1 + 1, 0, none⟩), .pointer (some ⟨g + 1 + 1 + 1 + 1 + 1 + 1, 0, none⟩)]
  clear hbb ha hk x0 x1 x2 x3 x4 x5 x6 hw6 hz6
  go_wp2_with fail
  have hitr := rfrom_itr w w6 (g + 1 + 1 + 1 + 1 + 1) r w6.heap.size i0 m cs key HR.out HML.out HCS.out (by have := HG.out; omega) HB6.out HF6.out.1 HF6.out.2 (Nat.le_refl _) HI.out HM.out HLO.out HHI.out
  have hga : g + 1 + 1 + 1 + 1 < w6.heap.size := by have := HZ6.out; omega
  have HGA := Aside0.mk hga
  refine (wpIn_wide (n := 0)).1 ?_
  refine range_itr2 (α := Value × List Vr) rfl (enters_of Try.func94 (by kernel_rfl) rfl) hitr
    (fun X Y h k h1 h2 => h.block k h2) (fun h k => ⟨h.1.trans k.1, Nat.le_trans h.2.1 k.2.1, k.2.2.1.trans h.2.2.1, k.2.2.2.trans h.2.2.2⟩)
    (fun X Y row hs hgr hr => ⟨Below.grown' hgr (by have := HG.out; have := HZ6.out; omega) (fun k e => by have := (hr k e).1; have := HG.out; have := HZ6.out; omega), hgr.size, hgr.block _ (by have := HZ6.out; omega) (fun e => by have := (hr _ e.symm).1; have := HZ6.out; omega), hgr.block _ (by have := HZ6.out; omega) (fun e => by have := (hr _ e.symm).1; have := HZ6.out; omega)⟩) (fun x => rfl)
    (SmI ov (keepS key is) w6 (g + 1 + 1 + 1 + 1)) (SmX ov (keepS key is) w6 (g + 1 + 1 + 1) (g + 1 + 1 + 1 + 1))
    (fun s X Y row hI hgr hr => SmI_row hI hga hgr (fun k e => hr k e)) (fun c s X Y row hI hgr hr => SmX_row hI (by omega) hgr (fun k e => hr k e))
    (fun s X Y hI hb => SmI_row hI hga (grown_below hb none) (fun k e => by cases e)) (fun c s X Y hI hb => SmX_row hI (by omega) (grown_below hb none) (fun k e => by cases e))
    (fun pre x V0 s X Y row hI hgr hr => OkRn_row hI hgr rfl (fun k e => hr k e)) ⟨_, HX6.out.2.2.2.2, OVr_nil _ _, Frm.refl _ _, fun p hp => nomatch hp⟩
    (a₁ := ?_) ?assign ?body ?done ?stop
  case assign =>
    intro lp x W' K hK
    gi_wp2
    exact hK
  case body =>
    rintro lp pre x V0 W' hsW ⟨v0, hv01, hv02, hv03, hv04⟩ ⟨v, hv1, hv2, hv3, hv4⟩ ⟨hx1, ⟨hx4, -, hx2⟩, hx3⟩
    obtain ⟨u, rows⟩ := x
    simp only at hx1
    have hvv : v = v0 := by
      have h9 := hx2 (g + 1 + 1 + 1 + 1) hga
      rw [hv1, hv01] at h9
      injection h9 with h9
      injection h9 with h9
      simpa using h9
    subst hvv
    have hapt : Apt v u := Apt.newerV hv02 hx1 (Nat.le_refl _)
    have hlen : (pre.flatMap Prod.snd).length + rows.length ≤ 5000 := by
      have h9 := smI_len hx3 HFL.out
      rwa [List.flatMap_append, List.length_append, List.flatMap_cons, List.flatMap_nil, List.append_nil] at h9
    obtain ⟨n, hn⟩ : ∃ n, rows.length = n := ⟨_, rfl⟩
    obtain ⟨Au, cu, rfl, hcu, hCu⟩ := OVr_readn hx1 n hn
    rw [hn] at hlen
    have HK0 := Aside0.mk (show KpC w (g + 1 + 1 + 1 + 1 + 1) W' W' from ⟨Below.refl _ _, Nat.le_refl _, rfl, rfl⟩)
    have HW1 := Aside0.mk hv1
    have HO0 := Aside0.mk hv2
    have HF0 := Aside0.mk hv3
    have HX0 := Aside0.mk hx1
    have HA0 := Aside0.mk hapt
    have HV0 := Aside0.mk hv4
    have HNR := Aside0.mk hn
    have hn5 : n ≤ 5000 := by omega
    have HLEN := Aside0.mk hlen
    have HSP := Aside0.mk hx3
    have HSW := Aside0.mk hsW
    have HV00 := Aside0.mk hx4
    clear hv01 hv02 hv03 hv04 hv1 hv2 hv3 hv4 hx1 hx2 hx3 hx4 hCu hn hlen hapt hfe hitr hga hsW
    gi_wp2_with fail
    gi_loopw [19] (fun v19 wr => ∃ (j : Nat) (v : Value), v19 = .int .i64 j ∧ j ≤ n ∧ wr.heap[g + 1 + 1 + 1 + 1]? = some (vcB v) ∧ Aside0 (OVr wr (w6.heap.size + 2) v ((pre.flatMap Prod.snd ++ rows.take j).filter (keepS key is))) ∧ Aside0 (Frm [g + 1 + 1 + 1 + 1] w6 wr) ∧ Aside0 (OVr wr V0.heap.size (.slice Au n cu) rows) ∧ Aside0 (Apt v (.slice Au n cu)) ∧ Aside0 (∀ p ∈ pre.flatMap Prod.snd ++ rows.take j, ov p.k = false) ∧ Aside0 (Keep2 w6.heap.size W' wr ∧ KpC w (g + 1 + 1 + 1 + 1 + 1) W' wr)) (fun v19 wr => n - (intOf v19).toNat)
    case atStart => exact ⟨0, v, by first | rfl | simp, by omega, HW1.out, ⟨by rw [List.take_zero, List.append_nil]; exact HO0.out⟩, HF0, HX0, HA0, ⟨by rw [List.take_zero, List.append_nil]; exact HV0.out⟩, ⟨Keep2.refl _ _, HK0.out⟩⟩
    case round =>
      obtain ⟨j, v, rfl, hjn, hwa, HO, HF, HX, HA, HV, HK⟩ := hrel
      have hbx := HF.out
      have y0 := (hbx.block g (by have := HZ6.out; omega) (fun e => by rw [List.mem_singleton] at e; omega)).trans HX6.out.1
      have y1 := (hbx.block (g + 1) (by have := HZ6.out; omega) (fun e => by rw [List.mem_singleton] at e; omega)).trans HX6.out.2.1
      have y2 := (hbx.block (g + 1 + 1) (by have := HZ6.out; omega) (fun e => by rw [List.mem_singleton] at e; omega)).trans HX6.out.2.2.1
      have hbW : Below w.heap.size w wr := Frm.below HB6.out hbx (fun k hk => by rw [List.mem_singleton] at hk; rw [hk, HG.out]; omega) (Nat.le_refl _)
      have hsw : w6.heap.size + 2 ≤ wr.heap.size := by have := HSW.out; have := HK.out.2.2.1; omega
      have HY := Aside0.mk (show wr.heap[g]? = _ ∧ wr.heap[g + 1]? = _ ∧ wr.heap[g + 1 + 1]? = _ ∧ wr.heap[g + 1 + 1 + 1 + 1]? = _ from ⟨y0, y1, y2, hwa⟩)
      have HBW := Aside0.mk hbW
      clear y0 y1 y2 hwa hbW hbx
      by_cases hlt : j < n
      · obtain ⟨p, hp⟩ : ∃ p, rows.getD j default = p := ⟨_, rfl⟩
        have HP := Aside0.mk hp
        have HSPL : Aside0 (rows.take j ++ p :: rows.drop (j + 1) = rows) := ⟨by
          have h9 : j < rows.length := by rw [HNR.out]; exact hlt
          have h8 : rows[j]? = some p := by rw [List.getElem?_eq_getElem h9, ← hp, List.getD_eq_getElem?_getD, List.getElem?_eq_getElem h9]; rfl
          rw [← (List.getElem?_eq_some_iff.1 h8).2, ← List.drop_eq_getElem_cons h9, List.take_append_drop]⟩
        have HT : Aside0 (rows.take (j + 1) = rows.take j ++ [p]) := ⟨by rw [tkL rows j (by rw [HNR.out]; exact hlt), hp]⟩
        obtain ⟨kv, hkv⟩ : ∃ k, ((pre.flatMap Prod.snd ++ rows.take j).filter (keepS key is)).length = k := ⟨_, rfl⟩
        obtain ⟨Av, cv, rfl, hcv, _⟩ := OVr_readn HO.out kv hkv
        clear hkv
        obtain ⟨hk0, hk1, hk2⟩ := Kd.R_reads' HX.out
        have hCr : KVr.C wr Au n rows := by rwa [HNR.out] at hk2
        obtain ⟨ad, rfl, -⟩ := C_atVr hCr j hlt
        obtain ⟨z0, z1, z2, z3, z4, z5, z6, z7⟩ := C_atVr' hCr j hlt p hp
        have HCR := Aside0.mk hCr
        have j1 : (j : Int) < (n : Int) := by omega
        have j2 : (0 : Int) ≤ (j : Int) := by omega
        obtain ⟨pk, pbr, pep, psq, pf, pt, pv, pg⟩ := p
        simp only at z0 z1 z2 z3 z4 z5 z6 z7
        have hal : Below wr.heap.size wr (wr.alloc (vrBox pk pbr pep psq pf pt pv pg)) := below_alloc (Below.refl _ _) _
        have hyr := (HF.out.block (g + 1 + 1 + 1) (by have := HZ6.out; omega) (fun e => by rw [List.mem_singleton] at e; omega)).trans HX6.out.2.2.2.1
        have b0 := blk_keep HY.out.1 hal
        have b1 := blk_keep HY.out.2.1 hal
        have b2 := blk_keep HY.out.2.2.1 hal
        have b3 := blk_keep hyr hal
        have b4 := blk_keep HY.out.2.2.2 hal
        have HB3 := Aside0.mk b3
        have HB4 := Aside0.mk b4
        have HB2 := Aside0.mk b2
        obtain ⟨c0, d0⟩ := one_cell b0
        obtain ⟨c1, d1⟩ := one_cell b1
        obtain ⟨c2, d2⟩ := one_cell b2
        obtain ⟨c3, d3⟩ := one_cell b3
        obtain ⟨c4, d4⟩ := one_cell b4
        have HALB := Aside0.mk hal
        have hAW : Below w.heap.size w (wr.alloc (vrBox pk pbr pep psq pf pt pv pg)) := below_step HBW.out hal
        obtain ⟨bo, hbo⟩ : ∃ b, ov pk = b := ⟨_, rfl⟩
        have HBO := Aside0.mk hbo
        have HOVp := Aside0.mk (HOV.out pk lp _ hAW)
        rw [hbo] at HOVp
        have HISp := Aside0.mk (HIS.out ⟨pk, pbr, pep, psq, pf, pt, pv, pg⟩ lp _ hAW)
        obtain ⟨bi, hbi⟩ : ∃ b, is ⟨pk, pbr, pep, psq, pf, pt, pv, pg⟩ = b := ⟨_, rfl⟩
        rw [hbi] at HISp
        have HBI := Aside0.mk hbi
        clear hp hk0 hk1 hk2 hCr hal hyr b0 b1 b2 b3 b4 hAW hbo hbi
        gi_wp2_with fail
        (with_reducible refine HOVp.out.mono ?_)
        rintro e W3 ⟨rfl, rfl⟩
        cases bo with
        | true =>
          gi_wp2_with fail
          refine ⟨(HK.out.1.trans (Keep2.of_below HALB.out hsw)).trans (Keep2.set _ _ (.inl (by have := HZ6.out; omega))), .slice Av kv cv, pre.flatMap Prod.snd ++ rows.take j, ⟨pk, pbr, pep, psq, pf, pt, pv, pg⟩, rows.drop (j + 1), rfl, ?_, HBO.out, HV.out, one_set HB3.out, OVr_off (Kd.R_below HO.out HALB.out) (grownBy_setCell' _ _ _) (fun k e => by cases e; have := HZ6.out; omega), ((HF.out.step HALB.out).mono (fun k hk => List.mem_cons_of_mem _ hk)).set List.mem_cons_self _⟩
          rw [List.flatMap_append, List.flatMap_cons, List.flatMap_nil, List.append_nil, List.append_assoc, HSPL.out]
        | false =>
          obtain ⟨bl, hbl⟩ : ∃ b, bytesLess pk.toList key.toList = b := ⟨_, rfl⟩
          have HBL := Aside0.mk hbl
          have HVn : Aside0 (∀ q ∈ pre.flatMap Prod.snd ++ rows.take (j + 1), ov q.k = false) := ⟨by rw [HT.out, ← List.append_assoc]; exact ov_snoc HV.out HBO.out⟩
          cases bl with
          | true =>
            gi_wp2_with fail
            go_roundw
            case rel => exact ⟨j + 1, .slice Av kv cv, by push_cast; rfl, hlt, HB4.out, ⟨by rw [HT.out, ← List.append_assoc, filt_no (keep_lt HBL.out)]; exact Kd.R_below HO.out HALB.out⟩, ⟨HF.out.step HALB.out⟩, ⟨Kd.R_below HX.out HALB.out⟩, HA, HVn, ⟨HK.out.1.trans (Keep2.of_below HALB.out hsw), KpC_stepN HK.out.2 HALB.out HBW.out.size (by have := HZ6.out; omega)⟩⟩
            case measure => simp [intOf]; omega
          | false =>
            gi_wp2_with fail
            (with_reducible refine HISp.out.mono ?_)
            rintro e W4 ⟨rfl, hb4⟩
            have hb5 : Below wr.heap.size wr W4 := below_step HALB.out hb4
            have HB5 := Aside0.mk hb5
            have HB14 := Aside0.mk (blk_keep HB4.out hb4)
            have HVB := Aside0.mk (blk_keep (heap_alloc_new wr (vrBox pk pbr pep psq pf pt pv pg)) hb4)
            have HO4 := Aside0.mk (Kd.R_below HO.out hb5)
            have HX4 := Aside0.mk (Kd.R_below HX.out hb5)
            have HF4 := Aside0.mk (HF.out.step hb5)
            have HK4 : Aside0 (Keep2 w6.heap.size W' W4 ∧ KpC w (g + 1 + 1 + 1 + 1 + 1) W' W4) := ⟨HK.out.1.trans (Keep2.of_below hb5 hsw), KpC_stepN HK.out.2 hb5 HBW.out.size (by have := HZ6.out; omega)⟩
            have hs4 : w6.heap.size + 2 ≤ W4.heap.size := Nat.le_trans hsw hb5.size
            clear hb4 hb5
            cases bi with
            | false =>
              gi_wp2_with fail
              go_roundw
              case rel => exact ⟨j + 1, .slice Av kv cv, by push_cast; rfl, hlt, HB14.out, ⟨by rw [HT.out, ← List.append_assoc, filt_no (keep_ge HBL.out HBI.out)]; exact HO4.out⟩, HF4, HX4, HA, HVn, HK4⟩
              case measure => simp [intOf]; omega
            | true =>
              obtain ⟨p0, p1, p2, p3, p4, p5, p6, p7⟩ := vr_cells8 HVB.out
              obtain ⟨q4, r4⟩ := one_cell HB14.out
              have hlk : ((pre.flatMap Prod.snd ++ rows.take j).filter (keepS key is)).length ≤ 1000000 := by
                refine Nat.le_trans (List.length_filter_le _ _) ?_
                rw [List.length_append, List.length_take]
                have := HLEN.out
                omega
              gi_wp2_with ((with_reducible refine gateIn_dst (N := 40) rfl ?_); refine app_vr4In (B := w6.heap.size + 2) (v := .slice Av kv cv) (s := .tmp 37) (x := .tmp 39) rfl rfl rfl rfl HO4.out hs4 hlk ?_; intro v1 w1 hO1 hb1 hg1 hn1; obtain ⟨k1, hk1⟩ : ∃ k1, ((pre.flatMap Prod.snd ++ rows.take j).filter (keepS key is) ++ [(⟨pk, pbr, pep, psq, pf, pt, pv, pg⟩ : Vr)]).length = k1 := ⟨_, rfl⟩; obtain ⟨Aw, cw, rfl, hcw, _⟩ := OVr_readn hO1 k1 hk1; have hp1 := (hb1.block (g + 1 + 1 + 1 + 1) (by have := HZ6.out; omega)).trans HB14.out; obtain ⟨q5, r5⟩ := one_cell hp1; have HP1 := Aside0.mk hp1; have HO1 := Aside0.mk hO1; have HB1 := Aside0.mk hb1; have HG1 := Aside0.mk hg1; have HN1 := Aside0.mk hn1; clear hO1 hb1 hg1 hp1 hk1 hn1)
              go_roundw
              case rel =>
                have hg4 := grownBy_setCell' w1 (g + 1 + 1 + 1 + 1) (.slice Aw k1 cw)
                have HKn : Aside0 (Keep2 w6.heap.size W' (w1.setCell ⟨g + 1 + 1 + 1 + 1, 0, none⟩ (.slice Aw k1 cw)) ∧ KpC w (g + 1 + 1 + 1 + 1 + 1) W' (w1.setCell ⟨g + 1 + 1 + 1 + 1, 0, none⟩ (.slice Aw k1 cw))) := ⟨(HK4.out.1.trans (Keep2.of_below HB1.out (Nat.le_refl _))).trans (Keep2.set _ _ (.inl (by have := HZ6.out; omega))), KpC_set (KpC_stepN HK4.out.2 HB1.out (by have := HG.out; have := HZ6.out; omega) (by have := HZ6.out; omega)) _ _ (by have := HG.out; omega) (by omega)⟩
                refine ⟨j + 1, .slice Aw k1 cw, by push_cast; rfl, hlt, one_set HP1.out, ⟨?_⟩, ⟨(HF4.out.stepN HB1.out (by omega)).set List.mem_cons_self _⟩, ⟨?_⟩, ⟨Apt.nextV HA.out HX4.out HN1.out⟩, HVn, HKn⟩
                · rw [HT.out, ← List.append_assoc, filt_yes (keep_ge HBL.out HBI.out)]
                  exact OVr_off HO1.out hg4 (fun k e => by cases e; have := HZ6.out; omega)
                · exact OVr_off (OVr_grown HX4.out HG1.out HA.out.ne) hg4 (fun k e => by cases e; have := HZ6.out; have := HV00.out; omega)
              case measure => simp [intOf]; omega
      · have hjn9 : j = n := by omega
        subst hjn9
        have j1 : ¬ (j : Int) < (j : Int) := by omega
        have htk : rows.take j = rows := List.take_of_length_le (by rw [HNR.out]; exact Nat.le_refl _)
        rw [htk] at HO HV
        have e9 : (pre ++ [((.slice Au j cu : Value), rows)]).flatMap Prod.snd = pre.flatMap Prod.snd ++ rows := by rw [List.flatMap_append, List.flatMap_cons, List.flatMap_nil, List.append_nil]
        have HFIN : Aside0 (SmI ov (keepS key is) w6 (g + 1 + 1 + 1 + 1) (pre ++ [((.slice Au j cu : Value), rows)]) wr) := ⟨⟨v, HY.out.2.2.2, by rw [e9]; exact HO.out, HF.out, by rw [e9]; exact HV.out⟩⟩
        gi_wp2_with fail
        exact ⟨HK.out.1, HK.out.2, HFIN.out⟩
  case done =>
    rintro ys W' hS ⟨v, hv1, hv2, hv3, hv4⟩ hK
    have HRES : Aside0 (pickS ov (keepS key is) (cs.drop (i0 - 1)).flatten = (ys.flatMap Prod.snd).filter (keepS key is)) := ⟨by rw [← hS, ← List.flatMap_def, pickS_all hv4]⟩
    obtain ⟨kv, hkv⟩ : ∃ k, ((ys.flatMap Prod.snd).filter (keepS key is)).length = k := ⟨_, rfl⟩
    obtain ⟨Av, cv, rfl, hcv, _⟩ := OVr_readn hv2 kv hkv
    have hyr := (hv3.block (g + 1 + 1 + 1) (by have := HZ6.out; omega) (fun e => by rw [List.mem_singleton] at e; omega)).trans HX6.out.2.2.2.1
    have hbW : Below w.heap.size w W' := Frm.below HB6.out hv3 (fun k hk => by rw [List.mem_singleton] at hk; rw [hk, HG.out]; omega) (Nat.le_refl _)
    obtain ⟨p1, f1⟩ := one_cell hv1
    obtain ⟨p2, f2⟩ := one_cell hyr
    have HV2 := Aside0.mk hv2
    have HYR := Aside0.mk hyr
    have HBW := Aside0.mk hbW
    have HK := Aside0.mk hK
    clear hv1 hv2 hv3 hv4 hK hkv hyr hbW hitr hfe hS
    go_wp2_with fail
    have hK2 : (W'.setCell ⟨g + 1 + 1 + 1, 0, none⟩ (.slice Av kv cv)).heap[w6.heap.size]? = some (.deferred (some [])) := (Below.heap_setCell _ _ _ _ (fun e => by simp only at e; have := HZ6.out; omega)).trans HK.out
    refine ⟨by simp, .inl ⟨_, _, rfl, run_takeDeferred hK2, ?_⟩⟩
    have hgp := grownBy_putObj' (W'.setCell ⟨g + 1 + 1 + 1, 0, none⟩ (.slice Av kv cv)) w6.heap.size (.deferred none)
    have hr6 : ((W'.setCell ⟨g + 1 + 1 + 1, 0, none⟩ (.slice Av kv cv)).putObj w6.heap.size (.deferred none)).heap[g + 1 + 1 + 1]? = some (vcB (.slice Av kv cv)) := (World.putObj_heap_other (by have := HZ6.out; omega)).trans (one_set HYR.out)
    have hbs : Below w.heap.size w (W'.setCell ⟨g + 1 + 1 + 1, 0, none⟩ (.slice Av kv cv)) := HBW.out.setCell (p := ⟨g + 1 + 1 + 1, 0, none⟩) (by have := HG.out; show w.heap.size ≤ g + 1 + 1 + 1; omega) _
    refine ⟨_, results_cellV rfl _ _ (g + 1 + 1 + 1) Av kv cv rfl hr6, _, rfl, ?_, hbs.grown hgp hbs.size (fun k e => by cases e; have := HG.out; have := HZ6.out; omega)⟩
    rw [HRES.out]
    exact Kd.R_lower (OVr_off (OVr_off HV2.out (grownBy_setCell' _ _ _) (fun k e => by cases e; have := HZ6.out; omega)) hgp (fun k e => by cases e; omega)) (by have := HG.out; have := HZ6.out; omega)
  case stop =>
    rintro c pre W' hSp ⟨v, a, z, b, rfl, e2, e3, e4, hv1, hv2, hv3⟩ hK
    have HRES : Aside0 (pickS ov (keepS key is) (cs.drop (i0 - 1)).flatten = a.filter (keepS key is)) := ⟨by
      obtain ⟨t, ht⟩ := hSp
      rw [← ht, List.flatten_append, ← List.flatMap_def, e2, List.append_assoc, List.cons_append, pickS_stop e4 e3]⟩
    obtain ⟨kv, hkv⟩ : ∃ k, (a.filter (keepS key is)).length = k := ⟨_, rfl⟩
    obtain ⟨Av, cv, rfl, hcv, _⟩ := OVr_readn hv2 kv hkv
    have hbW : Below w.heap.size w W' := Frm.below HB6.out hv3 (fun k hk => by have := HG.out; simp only [List.mem_cons, List.not_mem_nil, or_false] at hk; omega) (Nat.le_refl _)
    have HV1 := Aside0.mk hv1
    have HV2 := Aside0.mk hv2
    have HBW := Aside0.mk hbW
    have HK := Aside0.mk hK
    clear hv1 hv2 hv3 hK hkv hbW hitr hfe hSp e2 e3 e4
    refine wpIn_ret ?_
    go_wp2_with fail
    refine ⟨by simp, .inl ⟨_, _, rfl, run_takeDeferred HK.out, ?_⟩⟩
    have hgp := grownBy_putObj' W' w6.heap.size (.deferred none)
    have hr6 : (W'.putObj w6.heap.size (.deferred none)).heap[g + 1 + 1 + 1]? = some (vcB (.slice Av kv cv)) := (World.putObj_heap_other (by have := HZ6.out; omega)).trans HV1.out
    refine ⟨_, results_cellV rfl _ _ (g + 1 + 1 + 1) Av kv cv rfl hr6, _, rfl, ?_, HBW.out.grown hgp HBW.out.size (fun k e => by cases e; have := HG.out; have := HZ6.out; omega)⟩
    rw [HRES.out]
    exact Kd.R_lower (OVr_off HV2.out hgp (fun k e => by cases e; omega)) (by have := HG.out; have := HZ6.out; omega)
set_option maxRecDepth 100000 in
set_option maxHeartbeats 4000000 in
theorem someLast_calls (w : World) (r : Nat) (cs : List (List Vr)) (hR : RnI w r cs) (hcs : ∀ c ∈ cs, mayBl c = true) (hm : cs.length ≤ 5000) (hfl : cs.flatten.length ≤ 5000) (key : ByteArray) (i0 : Nat) (hi : i0 ≤ cs.length)
    (hlo : ∀ j, j < i0 → bytesLess ((cs.map (fun c => (c.getD 0 default).k)).getD j ByteArray.empty).toList key.toList = true) (hhi : ∀ j, i0 ≤ j → j < cs.length → bytesLess ((cs.map (fun c => (c.getD 0 default).k)).getD j ByteArray.empty).toList key.toList = false) (gt : Nat) (k2 : ByteArray) (hgt : w.heap[gt]? = some (sB k2)) (gb ge : Nat) (br ep : Int) (hgb : w.heap[gb]? = some (inB br)) (hge : w.heap[ge]? = some (inB ep)) :
    Calls Try.prog 41 #[.pointer (some ⟨r, 0, none⟩), .string key, .func (.func 50) #[] #[.pointer (some ⟨gt, 0, none⟩)], .func (.func 51) #[] #[.pointer (some ⟨gb, 0, none⟩), .pointer (some ⟨ge, 0, none⟩)]] w fun e w' => ∃ v, e = .returned v ∧ OVr w' w.heap.size v (pickS (fun k => !bytesLess k.toList k2.toList && !(k.toList == k2.toList)) (keepS key (fun p => decide (p.br = br) && decide (p.ep ≤ ep))) (cs.drop (i0 - 1)).flatten) ∧ Below w.heap.size w w' := by
  obtain ⟨ov, hov⟩ : ∃ ov : ByteArray → Bool, (fun k => !bytesLess k.toList k2.toList && !(k.toList == k2.toList)) = ov := ⟨_, rfl⟩
  obtain ⟨is, his⟩ : ∃ is : Vr → Bool, (fun p => decide (p.br = br) && decide (p.ep ≤ ep)) = is := ⟨_, rfl⟩
  rw [hov, his]
  have HOV : Aside0 (∀ (k : ByteArray) (lp : Nat) (V : World), Below w.heap.size w V → CallsIn (Fence.wide.inRound lp) 0 Try.prog 50 #[.string k, .pointer (some ⟨gt, 0, none⟩)] V fun e w' => e = .returned (.bool (ov k)) ∧ V = w') := ⟨fun k lp V hV => by rw [← hov]; exact CallsIn.inRound lp ((callsIn_wide (n := 0)).2 (last1_calls k k2 gt V ((hV.block _ (Array.getElem?_eq_some_iff.1 hgt).1).trans hgt)))⟩
  have HIS : Aside0 (∀ (p : Vr) (lp : Nat) (V : World), Below w.heap.size w V → CallsIn (Fence.wide.inRound lp) 0 Try.prog 51 #[vrV p, .pointer (some ⟨gb, 0, none⟩), .pointer (some ⟨ge, 0, none⟩)] V fun e w' => e = .returned (.bool (is p)) ∧ Below V.heap.size V w') := ⟨fun p lp V hV => by rw [← his]; exact CallsIn.inRound lp ((callsIn_wide (n := 0)).2 (last2_calls p gb ge br ep V ((hV.block _ (Array.getElem?_eq_some_iff.1 hgb).1).trans hgb) ((hV.block _ (Array.getElem?_eq_some_iff.1 hge).1).trans hge)))⟩
  clear hov his
  obtain ⟨m, hml⟩ : ∃ m, cs.length = m := ⟨_, rfl⟩
  rw [hml] at hm hi hhi
  obtain ⟨g, hg⟩ : ∃ g, w.heap.size = g := ⟨_, rfl⟩
  have HR := Aside0.mk hR
  have HCS := Aside0.mk hcs
  have HML := Aside0.mk hml
  have HFL := Aside0.mk hfl
  have HLO := Aside0.mk hlo
  have HHI := Aside0.mk hhi
  have HM := Aside0.mk hm
  have HI := Aside0.mk hi
  clear hR hcs hml hfl hlo hhi hm hi
  clear hgt hgb hge
  refine (callsIn_wide (n := 0)).1 ?_
  refine callsIn_of_wp_marks Try.func41 rfl trivial ?_ rfl
  simp only [Try.ntmps41, List.size_toArray, List.length_cons, List.length_nil, Nat.reduceAdd, Nat.reduceSub, Array.replicate_succ, Array.replicate_zero, List.push_toArray, List.append_toArray, List.nil_append, List.cons_append]
  refine wpIn_wide.2 ?_
  go_wp2_with fail
  (with_reducible refine (rfrom_calls _ r key).mono ?_)
  rintro e w6 ⟨rfl, hw6⟩
  simp only [World.size_alloc, hg]
  have hz6 : w6.heap.size = g + 7 := by rw [← hw6]; simp only [World.size_alloc, hg]
  have hbb : Below w.heap.size w w6 := by rw [← hw6]; exact below_alloc (below_alloc (below_alloc (below_alloc (below_alloc (below_alloc (below_alloc (Below.refl _ _) _) _) _) _) _) _) _
  have ha : ∀ (V : World) (o : Obj) (k : Nat), V.heap.size = k → (V.alloc o).heap[k]? = some o := fun V o k e => by rw [← e]; exact heap_alloc_new V o
  have hk : ∀ {V V1 : World} {k : Nat} {o o1 : Obj}, V.heap[k]? = some o → (V.alloc o1).heap[k]? = some o := fun hv => blk_keep hv (below_alloc (Below.refl _ _) _)
  have x0 : w6.heap[g]? = some (sB key) := by rw [← hw6]; exact hk (V1 := w6) (hk (V1 := w6) (hk (V1 := w6) (hk (V1 := w6) (hk (V1 := w6) (hk (V1 := w6) (ha _ _ _ hg))))))
  have x1 : w6.heap[g + 1]? = some (ovB (.func (.func 50) #[] #[.pointer (some ⟨gt, 0, none⟩)])) := by rw [← hw6]; exact hk (V1 := w6) (hk (V1 := w6) (hk (V1 := w6) (hk (V1 := w6) (hk (V1 := w6) (ha _ _ _ (by simp only [World.size_alloc, hg]))))))
  have x2 : w6.heap[g + 1 + 1]? = some (isB (.func (.func 51) #[] #[.pointer (some ⟨gb, 0, none⟩), .pointer (some ⟨ge, 0, none⟩)])) := by rw [← hw6]; exact hk (V1 := w6) (hk (V1 := w6) (hk (V1 := w6) (hk (V1 := w6) (ha _ _ _ (by simp only [World.size_alloc, hg])))))
  have x3 : w6.heap[g + 1 + 1 + 1]? = some (vcB (.slice none 0 0)) := by rw [← hw6]; exact hk (V1 := w6) (hk (V1 := w6) (hk (V1 := w6) (ha _ _ _ (by simp only [World.size_alloc, hg]))))
  have x4 : w6.heap[g + 1 + 1 + 1 + 1]? = some (vcB (.slice none 0 0)) := by rw [← hw6]; exact hk (V1 := w6) (hk (V1 := w6) (ha _ _ _ (by simp only [World.size_alloc, hg])))
  have x5 : w6.heap[g + 1 + 1 + 1 + 1 + 1]? = some (prB r) := by rw [← hw6]; exact hk (V1 := w6) (ha _ _ _ (by simp only [World.size_alloc, hg]))
  have x6 : w6.heap[g + 1 + 1 + 1 + 1 + 1 + 1]? = some (sB key) := by rw [← hw6]; exact ha _ _ _ (by simp only [World.size_alloc, hg])
  have HB6 := Aside0.mk hbb
  have HX6 := Aside0.mk (show w6.heap[g]? = _ ∧ w6.heap[g + 1]? = _ ∧ w6.heap[g + 1 + 1]? = _ ∧ w6.heap[g + 1 + 1 + 1]? = _ ∧ w6.heap[g + 1 + 1 + 1 + 1]? = _ from ⟨x0, x1, x2, x3, x4⟩)
  have HF6 := Aside0.mk (show w6.heap[g + 1 + 1 + 1 + 1 + 1]? = _ ∧ w6.heap[g + 1 + 1 + 1 + 1 + 1 + 1]? = _ from ⟨x5, x6⟩)
  have HZ6 := Aside0.mk hz6
  have HG := Aside0.mk hg
  have hfe := feqR_nil (.func 94) #[] #[.pointer (some ⟨g + 1 + 1 + 1 + 1 + 1, 0, none⟩), .pointer (some ⟨g + 1 + 1 + 1 + 1 + 1 + 1, 0, none⟩)]
  clear hbb ha hk x0 x1 x2 x3 x4 x5 x6 hw6 hz6
  go_wp2_with fail
  have hitr := rfrom_itr w w6 (g + 1 + 1 + 1 + 1 + 1) r w6.heap.size i0 m cs key HR.out HML.out HCS.out (by have := HG.out; omega) HB6.out HF6.out.1 HF6.out.2 (Nat.le_refl _) HI.out HM.out HLO.out HHI.out
  have hga : g + 1 + 1 + 1 + 1 < w6.heap.size := by have := HZ6.out; omega
  have HGA := Aside0.mk hga
  refine (wpIn_wide (n := 0)).1 ?_
  refine range_itr2 (α := Value × List Vr) rfl (enters_of Try.func94 (by kernel_rfl) rfl) hitr
    (fun X Y h k h1 h2 => h.block k h2) (fun h k => ⟨h.1.trans k.1, Nat.le_trans h.2.1 k.2.1, k.2.2.1.trans h.2.2.1, k.2.2.2.trans h.2.2.2⟩)
    (fun X Y row hs hgr hr => ⟨Below.grown' hgr (by have := HG.out; have := HZ6.out; omega) (fun k e => by have := (hr k e).1; have := HG.out; have := HZ6.out; omega), hgr.size, hgr.block _ (by have := HZ6.out; omega) (fun e => by have := (hr _ e.symm).1; have := HZ6.out; omega), hgr.block _ (by have := HZ6.out; omega) (fun e => by have := (hr _ e.symm).1; have := HZ6.out; omega)⟩) (fun x => rfl)
    (SmI ov (keepS key is) w6 (g + 1 + 1 + 1 + 1)) (SmX ov (keepS key is) w6 (g + 1 + 1 + 1) (g + 1 + 1 + 1 + 1))
    (fun s X Y row hI hgr hr => SmI_row hI hga hgr (fun k e => hr k e)) (fun c s X Y row hI hgr hr => SmX_row hI (by omega) hgr (fun k e => hr k e))
    (fun s X Y hI hb => SmI_row hI hga (grown_below hb none) (fun k e => by cases e)) (fun c s X Y hI hb => SmX_row hI (by omega) (grown_below hb none) (fun k e => by cases e))
    (fun pre x V0 s X Y row hI hgr hr => OkRn_row hI hgr rfl (fun k e => hr k e)) ⟨_, HX6.out.2.2.2.2, OVr_nil _ _, Frm.refl _ _, fun p hp => nomatch hp⟩
    (a₁ := ?_) ?assign ?body ?done ?stop
  case assign =>
    intro lp x W' K hK
    gi_wp2
    exact hK
  case body =>
    rintro lp pre x V0 W' hsW ⟨v0, hv01, hv02, hv03, hv04⟩ ⟨v, hv1, hv2, hv3, hv4⟩ ⟨hx1, ⟨hx4, -, hx2⟩, hx3⟩
    obtain ⟨u, rows⟩ := x
    simp only at hx1
    have hvv : v = v0 := by
      have h9 := hx2 (g + 1 + 1 + 1 + 1) hga
      rw [hv1, hv01] at h9
      injection h9 with h9
      injection h9 with h9
      simpa using h9
    subst hvv
    have hapt : Apt v u := Apt.newerV hv02 hx1 (Nat.le_refl _)
    have hlen : (pre.flatMap Prod.snd).length + rows.length ≤ 5000 := by
      have h9 := smI_len hx3 HFL.out
      rwa [List.flatMap_append, List.length_append, List.flatMap_cons, List.flatMap_nil, List.append_nil] at h9
    obtain ⟨n, hn⟩ : ∃ n, rows.length = n := ⟨_, rfl⟩
    obtain ⟨Au, cu, rfl, hcu, hCu⟩ := OVr_readn hx1 n hn
    rw [hn] at hlen
    have HK0 := Aside0.mk (show KpC w (g + 1 + 1 + 1 + 1 + 1) W' W' from ⟨Below.refl _ _, Nat.le_refl _, rfl, rfl⟩)
    have HW1 := Aside0.mk hv1
    have HO0 := Aside0.mk hv2
    have HF0 := Aside0.mk hv3
    have HX0 := Aside0.mk hx1
    have HA0 := Aside0.mk hapt
    have HV0 := Aside0.mk hv4
    have HNR := Aside0.mk hn
    have hn5 : n ≤ 5000 := by omega
    have HLEN := Aside0.mk hlen
    have HSP := Aside0.mk hx3
    have HSW := Aside0.mk hsW
    have HV00 := Aside0.mk hx4
    clear hv01 hv02 hv03 hv04 hv1 hv2 hv3 hv4 hx1 hx2 hx3 hx4 hCu hn hlen hapt hfe hitr hga hsW
    gi_wp2_with fail
    gi_loopw [19] (fun v19 wr => ∃ (j : Nat) (v : Value), v19 = .int .i64 j ∧ j ≤ n ∧ wr.heap[g + 1 + 1 + 1 + 1]? = some (vcB v) ∧ Aside0 (OVr wr (w6.heap.size + 2) v ((pre.flatMap Prod.snd ++ rows.take j).filter (keepS key is))) ∧ Aside0 (Frm [g + 1 + 1 + 1 + 1] w6 wr) ∧ Aside0 (OVr wr V0.heap.size (.slice Au n cu) rows) ∧ Aside0 (Apt v (.slice Au n cu)) ∧ Aside0 (∀ p ∈ pre.flatMap Prod.snd ++ rows.take j, ov p.k = false) ∧ Aside0 (Keep2 w6.heap.size W' wr ∧ KpC w (g + 1 + 1 + 1 + 1 + 1) W' wr)) (fun v19 wr => n - (intOf v19).toNat)
    case atStart => exact ⟨0, v, by first | rfl | simp, by omega, HW1.out, ⟨by rw [List.take_zero, List.append_nil]; exact HO0.out⟩, HF0, HX0, HA0, ⟨by rw [List.take_zero, List.append_nil]; exact HV0.out⟩, ⟨Keep2.refl _ _, HK0.out⟩⟩
    case round =>
      obtain ⟨j, v, rfl, hjn, hwa, HO, HF, HX, HA, HV, HK⟩ := hrel
      have hbx := HF.out
      have y0 := (hbx.block g (by have := HZ6.out; omega) (fun e => by rw [List.mem_singleton] at e; omega)).trans HX6.out.1
      have y1 := (hbx.block (g + 1) (by have := HZ6.out; omega) (fun e => by rw [List.mem_singleton] at e; omega)).trans HX6.out.2.1
      have y2 := (hbx.block (g + 1 + 1) (by have := HZ6.out; omega) (fun e => by rw [List.mem_singleton] at e; omega)).trans HX6.out.2.2.1
      have hbW : Below w.heap.size w wr := Frm.below HB6.out hbx (fun k hk => by rw [List.mem_singleton] at hk; rw [hk, HG.out]; omega) (Nat.le_refl _)
      have hsw : w6.heap.size + 2 ≤ wr.heap.size := by have := HSW.out; have := HK.out.2.2.1; omega
      have HY := Aside0.mk (show wr.heap[g]? = _ ∧ wr.heap[g + 1]? = _ ∧ wr.heap[g + 1 + 1]? = _ ∧ wr.heap[g + 1 + 1 + 1 + 1]? = _ from ⟨y0, y1, y2, hwa⟩)
      have HBW := Aside0.mk hbW
      clear y0 y1 y2 hwa hbW hbx
      by_cases hlt : j < n
      · obtain ⟨p, hp⟩ : ∃ p, rows.getD j default = p := ⟨_, rfl⟩
        have HP := Aside0.mk hp
        have HSPL : Aside0 (rows.take j ++ p :: rows.drop (j + 1) = rows) := ⟨by
          have h9 : j < rows.length := by rw [HNR.out]; exact hlt
          have h8 : rows[j]? = some p := by rw [List.getElem?_eq_getElem h9, ← hp, List.getD_eq_getElem?_getD, List.getElem?_eq_getElem h9]; rfl
          rw [← (List.getElem?_eq_some_iff.1 h8).2, ← List.drop_eq_getElem_cons h9, List.take_append_drop]⟩
        have HT : Aside0 (rows.take (j + 1) = rows.take j ++ [p]) := ⟨by rw [tkL rows j (by rw [HNR.out]; exact hlt), hp]⟩
        obtain ⟨kv, hkv⟩ : ∃ k, ((pre.flatMap Prod.snd ++ rows.take j).filter (keepS key is)).length = k := ⟨_, rfl⟩
        obtain ⟨Av, cv, rfl, hcv, _⟩ := OVr_readn HO.out kv hkv
        clear hkv
        obtain ⟨hk0, hk1, hk2⟩ := Kd.R_reads' HX.out
        have hCr : KVr.C wr Au n rows := by rwa [HNR.out] at hk2
        obtain ⟨ad, rfl, -⟩ := C_atVr hCr j hlt
        obtain ⟨z0, z1, z2, z3, z4, z5, z6, z7⟩ := C_atVr' hCr j hlt p hp
        have HCR := Aside0.mk hCr
        have j1 : (j : Int) < (n : Int) := by omega
        have j2 : (0 : Int) ≤ (j : Int) := by omega
        obtain ⟨pk, pbr, pep, psq, pf, pt, pv, pg⟩ := p
        simp only at z0 z1 z2 z3 z4 z5 z6 z7
        have hal : Below wr.heap.size wr (wr.alloc (vrBox pk pbr pep psq pf pt pv pg)) := below_alloc (Below.refl _ _) _
        have hyr := (HF.out.block (g + 1 + 1 + 1) (by have := HZ6.out; omega) (fun e => by rw [List.mem_singleton] at e; omega)).trans HX6.out.2.2.2.1
        have b0 := blk_keep HY.out.1 hal
        have b1 := blk_keep HY.out.2.1 hal
        have b2 := blk_keep HY.out.2.2.1 hal
        have b3 := blk_keep hyr hal
        have b4 := blk_keep HY.out.2.2.2 hal
        have HB3 := Aside0.mk b3
        have HB4 := Aside0.mk b4
        have HB2 := Aside0.mk b2
        obtain ⟨c0, d0⟩ := one_cell b0
        obtain ⟨c1, d1⟩ := one_cell b1
        obtain ⟨c2, d2⟩ := one_cell b2
        obtain ⟨c3, d3⟩ := one_cell b3
        obtain ⟨c4, d4⟩ := one_cell b4
        have HALB := Aside0.mk hal
        have hAW : Below w.heap.size w (wr.alloc (vrBox pk pbr pep psq pf pt pv pg)) := below_step HBW.out hal
        obtain ⟨bo, hbo⟩ : ∃ b, ov pk = b := ⟨_, rfl⟩
        have HBO := Aside0.mk hbo
        have HOVp := Aside0.mk (HOV.out pk lp _ hAW)
        rw [hbo] at HOVp
        have HISp := Aside0.mk (HIS.out ⟨pk, pbr, pep, psq, pf, pt, pv, pg⟩ lp _ hAW)
        obtain ⟨bi, hbi⟩ : ∃ b, is ⟨pk, pbr, pep, psq, pf, pt, pv, pg⟩ = b := ⟨_, rfl⟩
        rw [hbi] at HISp
        have HBI := Aside0.mk hbi
        clear hp hk0 hk1 hk2 hCr hal hyr b0 b1 b2 b3 b4 hAW hbo hbi
        gi_wp2_with fail
        (with_reducible refine HOVp.out.mono ?_)
        rintro e W3 ⟨rfl, rfl⟩
        cases bo with
        | true =>
          gi_wp2_with fail
          refine ⟨(HK.out.1.trans (Keep2.of_below HALB.out hsw)).trans (Keep2.set _ _ (.inl (by have := HZ6.out; omega))), .slice Av kv cv, pre.flatMap Prod.snd ++ rows.take j, ⟨pk, pbr, pep, psq, pf, pt, pv, pg⟩, rows.drop (j + 1), rfl, ?_, HBO.out, HV.out, one_set HB3.out, OVr_off (Kd.R_below HO.out HALB.out) (grownBy_setCell' _ _ _) (fun k e => by cases e; have := HZ6.out; omega), ((HF.out.step HALB.out).mono (fun k hk => List.mem_cons_of_mem _ hk)).set List.mem_cons_self _⟩
          rw [List.flatMap_append, List.flatMap_cons, List.flatMap_nil, List.append_nil, List.append_assoc, HSPL.out]
        | false =>
          obtain ⟨bl, hbl⟩ : ∃ b, bytesLess pk.toList key.toList = b := ⟨_, rfl⟩
          have HBL := Aside0.mk hbl
          have HVn : Aside0 (∀ q ∈ pre.flatMap Prod.snd ++ rows.take (j + 1), ov q.k = false) := ⟨by rw [HT.out, ← List.append_assoc]; exact ov_snoc HV.out HBO.out⟩
          cases bl with
          | true =>
            gi_wp2_with fail
            go_roundw
            case rel => exact ⟨j + 1, .slice Av kv cv, by push_cast; rfl, hlt, HB4.out, ⟨by rw [HT.out, ← List.append_assoc, filt_no (keep_lt HBL.out)]; exact Kd.R_below HO.out HALB.out⟩, ⟨HF.out.step HALB.out⟩, ⟨Kd.R_below HX.out HALB.out⟩, HA, HVn, ⟨HK.out.1.trans (Keep2.of_below HALB.out hsw), KpC_stepN HK.out.2 HALB.out HBW.out.size (by have := HZ6.out; omega)⟩⟩
            case measure => simp [intOf]; omega
          | false =>
            gi_wp2_with fail
            (with_reducible refine HISp.out.mono ?_)
            rintro e W4 ⟨rfl, hb4⟩
            have hb5 : Below wr.heap.size wr W4 := below_step HALB.out hb4
            have HB5 := Aside0.mk hb5
            have HB14 := Aside0.mk (blk_keep HB4.out hb4)
            have HVB := Aside0.mk (blk_keep (heap_alloc_new wr (vrBox pk pbr pep psq pf pt pv pg)) hb4)
            have HO4 := Aside0.mk (Kd.R_below HO.out hb5)
            have HX4 := Aside0.mk (Kd.R_below HX.out hb5)
            have HF4 := Aside0.mk (HF.out.step hb5)
            have HK4 : Aside0 (Keep2 w6.heap.size W' W4 ∧ KpC w (g + 1 + 1 + 1 + 1 + 1) W' W4) := ⟨HK.out.1.trans (Keep2.of_below hb5 hsw), KpC_stepN HK.out.2 hb5 HBW.out.size (by have := HZ6.out; omega)⟩
            have hs4 : w6.heap.size + 2 ≤ W4.heap.size := Nat.le_trans hsw hb5.size
            clear hb4 hb5
            cases bi with
            | false =>
              gi_wp2_with fail
              go_roundw
              case rel => exact ⟨j + 1, .slice Av kv cv, by push_cast; rfl, hlt, HB14.out, ⟨by rw [HT.out, ← List.append_assoc, filt_no (keep_ge HBL.out HBI.out)]; exact HO4.out⟩, HF4, HX4, HA, HVn, HK4⟩
              case measure => simp [intOf]; omega
            | true =>
              obtain ⟨p0, p1, p2, p3, p4, p5, p6, p7⟩ := vr_cells8 HVB.out
              obtain ⟨q4, r4⟩ := one_cell HB14.out
              have hlk : ((pre.flatMap Prod.snd ++ rows.take j).filter (keepS key is)).length ≤ 1000000 := by
                refine Nat.le_trans (List.length_filter_le _ _) ?_
                rw [List.length_append, List.length_take]
                have := HLEN.out
                omega
              gi_wp2_with ((with_reducible refine gateIn_dst (N := 40) rfl ?_); refine app_vr4In (B := w6.heap.size + 2) (v := .slice Av kv cv) (s := .tmp 37) (x := .tmp 39) rfl rfl rfl rfl HO4.out hs4 hlk ?_; intro v1 w1 hO1 hb1 hg1 hn1; obtain ⟨k1, hk1⟩ : ∃ k1, ((pre.flatMap Prod.snd ++ rows.take j).filter (keepS key is) ++ [(⟨pk, pbr, pep, psq, pf, pt, pv, pg⟩ : Vr)]).length = k1 := ⟨_, rfl⟩; obtain ⟨Aw, cw, rfl, hcw, _⟩ := OVr_readn hO1 k1 hk1; have hp1 := (hb1.block (g + 1 + 1 + 1 + 1) (by have := HZ6.out; omega)).trans HB14.out; obtain ⟨q5, r5⟩ := one_cell hp1; have HP1 := Aside0.mk hp1; have HO1 := Aside0.mk hO1; have HB1 := Aside0.mk hb1; have HG1 := Aside0.mk hg1; have HN1 := Aside0.mk hn1; clear hO1 hb1 hg1 hp1 hk1 hn1)
              go_roundw
              case rel =>
                have hg4 := grownBy_setCell' w1 (g + 1 + 1 + 1 + 1) (.slice Aw k1 cw)
                have HKn : Aside0 (Keep2 w6.heap.size W' (w1.setCell ⟨g + 1 + 1 + 1 + 1, 0, none⟩ (.slice Aw k1 cw)) ∧ KpC w (g + 1 + 1 + 1 + 1 + 1) W' (w1.setCell ⟨g + 1 + 1 + 1 + 1, 0, none⟩ (.slice Aw k1 cw))) := ⟨(HK4.out.1.trans (Keep2.of_below HB1.out (Nat.le_refl _))).trans (Keep2.set _ _ (.inl (by have := HZ6.out; omega))), KpC_set (KpC_stepN HK4.out.2 HB1.out (by have := HG.out; have := HZ6.out; omega) (by have := HZ6.out; omega)) _ _ (by have := HG.out; omega) (by omega)⟩
                refine ⟨j + 1, .slice Aw k1 cw, by push_cast; rfl, hlt, one_set HP1.out, ⟨?_⟩, ⟨(HF4.out.stepN HB1.out (by omega)).set List.mem_cons_self _⟩, ⟨?_⟩, ⟨Apt.nextV HA.out HX4.out HN1.out⟩, HVn, HKn⟩
                · rw [HT.out, ← List.append_assoc, filt_yes (keep_ge HBL.out HBI.out)]
                  exact OVr_off HO1.out hg4 (fun k e => by cases e; have := HZ6.out; omega)
                · exact OVr_off (OVr_grown HX4.out HG1.out HA.out.ne) hg4 (fun k e => by cases e; have := HZ6.out; have := HV00.out; omega)
              case measure => simp [intOf]; omega
      · have hjn9 : j = n := by omega
        subst hjn9
        have j1 : ¬ (j : Int) < (j : Int) := by omega
        have htk : rows.take j = rows := List.take_of_length_le (by rw [HNR.out]; exact Nat.le_refl _)
        rw [htk] at HO HV
        have e9 : (pre ++ [((.slice Au j cu : Value), rows)]).flatMap Prod.snd = pre.flatMap Prod.snd ++ rows := by rw [List.flatMap_append, List.flatMap_cons, List.flatMap_nil, List.append_nil]
        have HFIN : Aside0 (SmI ov (keepS key is) w6 (g + 1 + 1 + 1 + 1) (pre ++ [((.slice Au j cu : Value), rows)]) wr) := ⟨⟨v, HY.out.2.2.2, by rw [e9]; exact HO.out, HF.out, by rw [e9]; exact HV.out⟩⟩
        gi_wp2_with fail
        exact ⟨HK.out.1, HK.out.2, HFIN.out⟩
  case done =>
    rintro ys W' hS ⟨v, hv1, hv2, hv3, hv4⟩ hK
    have HRES : Aside0 (pickS ov (keepS key is) (cs.drop (i0 - 1)).flatten = (ys.flatMap Prod.snd).filter (keepS key is)) := ⟨by rw [← hS, ← List.flatMap_def, pickS_all hv4]⟩
    obtain ⟨kv, hkv⟩ : ∃ k, ((ys.flatMap Prod.snd).filter (keepS key is)).length = k := ⟨_, rfl⟩
    obtain ⟨Av, cv, rfl, hcv, _⟩ := OVr_readn hv2 kv hkv
    have hyr := (hv3.block (g + 1 + 1 + 1) (by have := HZ6.out; omega) (fun e => by rw [List.mem_singleton] at e; omega)).trans HX6.out.2.2.2.1
    have hbW : Below w.heap.size w W' := Frm.below HB6.out hv3 (fun k hk => by rw [List.mem_singleton] at hk; rw [hk, HG.out]; omega) (Nat.le_refl _)
    obtain ⟨p1, f1⟩ := one_cell hv1
    obtain ⟨p2, f2⟩ := one_cell hyr
    have HV2 := Aside0.mk hv2
    have HYR := Aside0.mk hyr
    have HBW := Aside0.mk hbW
    have HK := Aside0.mk hK
    clear hv1 hv2 hv3 hv4 hK hkv hyr hbW hitr hfe hS
    go_wp2_with fail
    have hK2 : (W'.setCell ⟨g + 1 + 1 + 1, 0, none⟩ (.slice Av kv cv)).heap[w6.heap.size]? = some (.deferred (some [])) := (Below.heap_setCell _ _ _ _ (fun e => by simp only at e; have := HZ6.out; omega)).trans HK.out
    refine ⟨by simp, .inl ⟨_, _, rfl, run_takeDeferred hK2, ?_⟩⟩
    have hgp := grownBy_putObj' (W'.setCell ⟨g + 1 + 1 + 1, 0, none⟩ (.slice Av kv cv)) w6.heap.size (.deferred none)
    have hr6 : ((W'.setCell ⟨g + 1 + 1 + 1, 0, none⟩ (.slice Av kv cv)).putObj w6.heap.size (.deferred none)).heap[g + 1 + 1 + 1]? = some (vcB (.slice Av kv cv)) := (World.putObj_heap_other (by have := HZ6.out; omega)).trans (one_set HYR.out)
    have hbs : Below w.heap.size w (W'.setCell ⟨g + 1 + 1 + 1, 0, none⟩ (.slice Av kv cv)) := HBW.out.setCell (p := ⟨g + 1 + 1 + 1, 0, none⟩) (by have := HG.out; show w.heap.size ≤ g + 1 + 1 + 1; omega) _
    refine ⟨_, results_cellV rfl _ _ (g + 1 + 1 + 1) Av kv cv rfl hr6, _, rfl, ?_, hbs.grown hgp hbs.size (fun k e => by cases e; have := HG.out; have := HZ6.out; omega)⟩
    rw [HRES.out]
    exact Kd.R_lower (OVr_off (OVr_off HV2.out (grownBy_setCell' _ _ _) (fun k e => by cases e; have := HZ6.out; omega)) hgp (fun k e => by cases e; omega)) (by have := HG.out; have := HZ6.out; omega)
  case stop =>
    rintro c pre W' hSp ⟨v, a, z, b, rfl, e2, e3, e4, hv1, hv2, hv3⟩ hK
    have HRES : Aside0 (pickS ov (keepS key is) (cs.drop (i0 - 1)).flatten = a.filter (keepS key is)) := ⟨by
      obtain ⟨t, ht⟩ := hSp
      rw [← ht, List.flatten_append, ← List.flatMap_def, e2, List.append_assoc, List.cons_append, pickS_stop e4 e3]⟩
    obtain ⟨kv, hkv⟩ : ∃ k, (a.filter (keepS key is)).length = k := ⟨_, rfl⟩
    obtain ⟨Av, cv, rfl, hcv, _⟩ := OVr_readn hv2 kv hkv
    have hbW : Below w.heap.size w W' := Frm.below HB6.out hv3 (fun k hk => by have := HG.out; simp only [List.mem_cons, List.not_mem_nil, or_false] at hk; omega) (Nat.le_refl _)
    have HV1 := Aside0.mk hv1
    have HV2 := Aside0.mk hv2
    have HBW := Aside0.mk hbW
    have HK := Aside0.mk hK
    clear hv1 hv2 hv3 hK hkv hbW hitr hfe hSp e2 e3 e4
    refine wpIn_ret ?_
    go_wp2_with fail
    refine ⟨by simp, .inl ⟨_, _, rfl, run_takeDeferred HK.out, ?_⟩⟩
    have hgp := grownBy_putObj' W' w6.heap.size (.deferred none)
    have hr6 : (W'.putObj w6.heap.size (.deferred none)).heap[g + 1 + 1 + 1]? = some (vcB (.slice Av kv cv)) := (World.putObj_heap_other (by have := HZ6.out; omega)).trans HV1.out
    refine ⟨_, results_cellV rfl _ _ (g + 1 + 1 + 1) Av kv cv rfl hr6, _, rfl, ?_, HBW.out.grown hgp HBW.out.size (fun k e => by cases e; have := HG.out; have := HZ6.out; omega)⟩
    rw [HRES.out]
    exact Kd.R_lower (OVr_off HV2.out hgp (fun k e => by cases e; omega)) (by have := HG.out; have := HZ6.out; omega)
end Go.Proofs.Ytmfnbkghfmeekaa.A
