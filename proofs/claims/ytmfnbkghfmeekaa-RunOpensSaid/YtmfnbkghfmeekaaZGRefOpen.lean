/- GRefOpen -/
import Derived.Test.YtmfnbkghfmeekaaZGRefRead
import Derived.Test.YtmfnbkghfmeekaaZIHeld
namespace Go.Proofs.Ytmfnbkghfmeekaa.A
open Go Go.RowKit Go.Proofs.YtmfnbkghfmeekaaW.PrintWords Go.Proofs.YtmfnbkghfmeekaaW.PrintLast Go.Proofs.YtmfnbkghfmeekaaW.PrintMore
open R C
set_option linter.unusedVariables false
set_option linter.unusedSimpArgs false
def QY (A : Option Addr) (n c : Nat) (bs : List Int) (w : World) (B : Nat) (v : Value) (out : List Vr) (W : World) : Prop := U8.C W A n bs ∧ OVr W B v out ∧ Below w.heap.size w W
theorem QY_below {A : Option Addr} {n c : Nat} {bs : List Int} {w : World} {B : Nat} {v : Value} {out : List Vr} {W W1 : World} (h : QY A n c bs w B v out W) (hb : Below W.heap.size W W1) : QY A n c bs w B v out W1 := ⟨Kd.C_below h.1 hb, Kd.R_below h.2.1 hb, below_step h.2.2 hb⟩
theorem QY_S {A : Option Addr} {n c : Nat} {bs : List Int} {w : World} {B : Nat} {v : Value} {out : List Vr} {W : World} (h : QY A n c bs w B v out W) : (convert 31 9 (.slice A n c)).run Try.prog W = .ok (.string (strOfNums bs)) W ∧ Aside0 (QY A n c bs w B v out W) := ⟨C_string' h.1, ⟨h⟩⟩
theorem QY_o {A : Option Addr} {n c : Nat} {bs : List Int} {w : World} {B : Nat} {v : Value} {out : List Vr} {W : World} (h : QY A n c bs w B v out W) : OVr W B v out := h.2.1
theorem QY_b {A : Option Addr} {n c : Nat} {bs : List Int} {w : World} {B : Nat} {v : Value} {out : List Vr} {W : World} (h : QY A n c bs w B v out W) : Below w.heap.size w W := h.2.2
set_option maxRecDepth 100000 in
set_option maxHeartbeats 8000000 in
theorem ropen_calls (A : Option Addr) (n c : Nat) (b : List Int) (w : World) (hr : U8.C w A n b) (hc : n ≤ c) (hby : ∀ x ∈ b, 0 ≤ x ∧ x ≤ 255) (hl : n ≤ 40000) :
    Calls Try.prog 20 #[.slice A n c] w fun e w' => Below w.heap.size w w' ∧ ((openB b = none ∧ ∃ v, e = .returned (.tuple #[v, .bool false])) ∨ ∃ cs v, openB b = some cs ∧ e = .returned (.tuple #[v, .bool true]) ∧ OVr w' w.heap.size v cs.flatten) := by
  have HFR := Aside0.mk (F.refframes_calls A n c b w hr hc hby (by omega))
  have HR := Aside0.mk hr
  have HN := Aside0.mk hr.1
  have HBY := Aside0.mk hby
  obtain ⟨fs, hfs⟩ : ∃ fs, F.frs (n + 1) b = fs := ⟨_, rfl⟩
  obtain ⟨fn, hfn⟩ : ∃ fn, F.frn fs = fn := ⟨_, rfl⟩
  obtain ⟨nf, hnf⟩ : ∃ nf, fs.length = nf := ⟨_, rfl⟩
  have hfs2 : F.frs (b.length + 1) b = fs := by rw [← hfs, hr.1]
  have HBK : Aside0 (blksB b = fs.take (nf - 2)) := ⟨by unfold blksB; rw [hfs2, hnf]⟩
  have HFT : Aside0 (fitB b = (decide (fn = n) && decide (2 ≤ nf))) := ⟨by unfold fitB; rw [hfs2, hfn, hnf, hr.1]⟩
  have HFN : Aside0 (fn ≤ n) := ⟨by rw [← hfn, ← hfs, ← hr.1]; exact F.frn_frs _ _ hby⟩
  have HNF : Aside0 (8 * nf ≤ fn) := ⟨by rw [← hfn, ← hnf]; exact F.frs_len fs⟩
  have HFS : Aside0 (∀ x ∈ fs, ∀ y ∈ x, 0 ≤ y ∧ y ≤ 255) := ⟨fun x hx y hy => hby y (frs_sub _ b x (by rw [hfs]; exact hx) y hy)⟩
  have HFF := Aside0.mk hfn
  have HNL := Aside0.mk hnf
  rw [hfs, hfn] at HFR
  clear hr hby hfs hfn hfs2
  go_enter Try.func20, Try.ntmps20
  go_wp2_with fail
  (with_reducible refine HFR.out.mono ?_)
  rintro e w1 ⟨v1, hs, rfl, hO1, hH1, hb1⟩
  obtain ⟨A4, c4, rfl, hc4, hC4⟩ := OR_readn hO1 nf (by rw [hH1.1, hnf])
  have HC4 := Aside0.mk hC4
  have HH1 := Aside0.mk hH1
  have HB1 := Aside0.mk hb1
  have hn8 := HNF.out
  have hfl := HFN.out
  clear hO1 hC4 hH1 hb1 hnf HFR
  by_cases hf : fn = n ∧ 2 ≤ nf
  · obtain ⟨hfn, h2⟩ := hf
    have HFB : Aside0 (fitB b = true) := ⟨by rw [HFT.out, decide_eq_true hfn, decide_eq_true h2]; rfl⟩
    have hfn2 : n = fn := hfn.symm
    subst hfn2
    obtain ⟨m, hm⟩ : ∃ m, nf = m + 2 := ⟨nf - 2, by omega⟩
    subst hm
    obtain ⟨bs, hbs⟩ : ∃ bs, fs.take m = bs := ⟨_, rfl⟩
    have HBS : Aside0 (bs = fs.take m) := ⟨hbs.symm⟩
    have HBB : Aside0 (blksB b = bs) := ⟨by rw [HBK.out, ← hbs, show m + 2 - 2 = m by omega]⟩
    have HML : Aside0 (bs.length = m) := ⟨by rw [← hbs, List.length_take]; have := HNL.out; omega⟩
    have hm5 : m ≤ 5000 := by omega
    have j1 : ¬ ((m + 2 : Nat) : Int) < 2 := by omega
    have HG : Aside0 (goodB b = (okN (csB bs).flatten (csB bs).flatten.length && decide (runB (csB bs).flatten = b))) := ⟨by unfold goodB; rw [HBB.out]⟩
    have HOB : Aside0 (openB b = if okBs bs && goodB b then some (csB bs) else none) := ⟨by unfold openB; rw [HFB.out, HBB.out]; rfl⟩
    clear hbs
    go_wp2_with fail
    go_loopw [6, 7] (fun v6 v7 w' => ∃ i : Nat, v7 = .int .i64 i ∧ i ≤ m ∧ Aside0 (okBs (bs.take i) = true) ∧ Aside0 (OVr w' w1.heap.size v6 (csB (bs.take i)).flatten) ∧ Aside0 (Below w1.heap.size w1 w')) (fun _ v7 _ => m - (intOf v7).toNat)
    case atStart => exact ⟨0, rfl, Nat.zero_le _, ⟨rfl⟩, ⟨Kd.R_nil _ _ _ _ _⟩, ⟨Below.refl _ _⟩⟩
    case round =>
      obtain ⟨i, rfl, him, HOK, HO, HB⟩ := hrel
      have k0 : IntKind.i64.wrap ((i : Int) + 2) = (i : Int) + 2 := IntWalk.i64_in _ (by omega)
      by_cases hlt : i < m
      · have hil : i < bs.length := by rw [HML.out]; exact hlt
        obtain ⟨x, hx⟩ : ∃ x, bs.getD i default = x := ⟨_, rfl⟩
        have hxm : x ∈ bs := by rw [← hx, List.getD_eq_getElem?_getD, List.getElem?_eq_getElem hil]; exact List.getElem_mem hil
        have htk := tkL bs i hil
        rw [hx] at htk
        obtain ⟨Ah, kh, ch, hhd⟩ : ∃ Ah kh ch, hs[i]? = some (Ah, kh, ch) := by
          have hih : i < hs.length := by rw [HH1.out.1, HNL.out]; omega
          exact ⟨(hs[i]'hih).1, (hs[i]'hih).2.1, (hs[i]'hih).2.2, by rw [List.getElem?_eq_getElem hih]⟩
        have hfx : fs[i]? = some x := by
          have h9 : bs[i]? = some x := by rw [List.getElem?_eq_getElem hil, ← hx, List.getD_eq_getElem?_getD, List.getElem?_eq_getElem hil]; rfl
          rw [HBS.out, List.getElem?_take] at h9
          rw [if_pos hlt] at h9
          exact h9
        have hrow := HH1.out.2 i _ x hhd hfx
        obtain ⟨hkh, hkc, hCh⟩ := hrow
        simp only at hkh hkc hCh
        rw [← hkh] at hCh hkc
        obtain ⟨ad4, hA4, q0⟩ := C_atHd HC4.out i (by omega) (Ah, kh, ch) hhd
        subst hA4
        have q0 := pw_cell_below HB.out q0
        have HXL : Aside0 (kh ≤ n) := ⟨by
          have h1 := F.frn_append (fs.take i) (fs.drop i)
          rw [List.take_append_drop] at h1
          have h2 : fs.drop i = x :: fs.drop (i + 1) := by rw [List.drop_eq_getElem_cons (List.getElem?_eq_some_iff.1 hfx).1, (List.getElem?_eq_some_iff.1 hfx).2]
          rw [h2, F.frn_cons] at h1
          have := HFF.out
          have := HFN.out
          omega⟩
        have hkh9 : kh ≤ 40000 := by have := HXL.out; omega
        have hxb : ∀ y ∈ x, 0 ≤ y ∧ y ≤ 255 := HFS.out x (List.mem_of_getElem? hfx)
        have hrd := rread8_calls Ah kh ch x wr (Kd.C_below hCh (below_step HB1.out HB.out)) hkc (by omega) hxb
        obtain ⟨er, her⟩ : ∃ er, (readB x).2 = er := ⟨_, rfl⟩
        rw [her] at hrd
        have HRD := Aside0.mk hrd
        have HXM := Aside0.mk hxm
        have HTK := Aside0.mk htk
        have HER := Aside0.mk her
        have j3 : (i : Int) + 2 < ((m + 2 : Nat) : Int) := by push_cast; omega
        have j4 : (i : Int) < ((m + 2 : Nat) : Int) := by push_cast; omega
        have j2 : (0 : Int) ≤ (i : Int) := by omega
        clear hx hxm htk hhd hfx hCh hkh hxb hrd her hil
        go_wp2_with fail
        (with_reducible refine HRD.out.mono ?_)
        rintro e w3 ⟨u3, rfl, hO3, hb3⟩
        have HO3 := Aside0.mk hO3
        have HB3 := Aside0.mk hb3
        clear hO3 hb3 q0
        by_cases he : er = 0
        · subst he
          obtain ⟨cx, hcx⟩ : ∃ cx, (readB x).1 = cx := ⟨_, rfl⟩
          rw [hcx] at HO3
          obtain ⟨nu, hnu⟩ : ∃ nu, cx.length = nu := ⟨_, rfl⟩
          have hnu8 : nu ≤ 8 := by
            have h9 := (mayBl_all (read_ok HER.out).1).2.2
            rw [hcx, hnu] at h9
            exact h9
          obtain ⟨Au, cu, rfl, hcu, hCu⟩ := OVr_readn HO3.out nu hnu
          have HCX : Aside0 (csB (bs.take (i + 1)) = csB (bs.take i) ++ [cx]) := ⟨by unfold csB; rw [HTK.out, List.map_append, List.map_cons, List.map_nil, hcx]⟩
          have HOK2 : Aside0 (okBs (bs.take (i + 1)) = true) := ⟨by
            have h9 := HOK.out
            unfold okBs at h9 ⊢
            rw [HTK.out, List.all_append, h9, List.all_cons, HER.out]
            rfl⟩
          have HLA : Aside0 ((csB (bs.take i)).flatten.length ≤ 40000) := ⟨by
            have h1 := rows_le (bs.take i) HOK.out
            have h2 := frn_take bs i
            have h3 := frn_take fs m
            rw [← HBS.out] at h3
            have := HFF.out
            have := HFN.out
            omega⟩
          have HCu := Aside0.mk hCu
          have HOa := Aside0.mk (Kd.R_below HO.out HB3.out)
          have HBa := Aside0.mk (below_step HB.out HB3.out)
          have hla : (csB (bs.take i)).flatten.length + nu ≤ 1000000 := by have := HLA.out; omega
          clear hcx hnu hCu
          go_wp2_with ((with_reducible refine gate_dst (N := 44) rfl ?_); refine app_vrs rfl rfl rfl rfl HOa.out HCu.out HBa.out.size hla ?_; intro v6 w5 hO5 hb5 _; have HO5 := Aside0.mk hO5; have HB5 := Aside0.mk (HBa.out.trans hb5); clear hO5 hb5)
          go_roundw
          case rel => exact ⟨i + 1, by push_cast; rfl, hlt, HOK2, ⟨by rw [HCX.out, List.flatten_append, List.flatten_cons, List.flatten_nil, List.append_nil]; exact HO5.out⟩, HB5⟩
          case measure => simp [intOf]; omega
        · have HOP : Aside0 (openB b = none) := ⟨by
            have h9 : okBs bs = false := by
              cases h1 : okBs bs with
              | false => rfl
              | true =>
                unfold okBs at h1
                rw [List.all_eq_true] at h1
                have h2 := of_decide_eq_true (h1 x HXM.out)
                rw [HER.out] at h2
                exact absurd h2 he
            rw [HOB.out, h9]
            rfl⟩
          have he1 : (er == 0) = false := beq_eq_false_iff_ne.2 he
          have he2 : (er != 0) = true := bne_iff_ne.2 he
          have HB4 := Aside0.mk (below_step HB1.out (below_step HB.out HB3.out))
          clear he
          go_wp2_with fail
          go_ret2
          exact ⟨HB4.out, .inl ⟨HOP.out, _, rfl⟩⟩
      · have htke : bs.take i = bs := List.take_of_length_le (by rw [HML.out]; omega)
        have HOKa : Aside0 (okBs bs = true) := ⟨by have h9 := HOK.out; rwa [htke] at h9⟩
        obtain ⟨al, hal⟩ : ∃ al, (csB bs).flatten = al := ⟨_, rfl⟩
        have HOa : Aside0 (OVr wr w1.heap.size u6 al) := ⟨by have h9 := HO.out; rwa [htke, hal] at h9⟩
        obtain ⟨na, hna⟩ : ∃ na, al.length = na := ⟨_, rfl⟩
        have hna5 : na ≤ 4500 := by
          have h1 := rows_le bs HOKa.out
          have h3 := frn_take fs m
          rw [← HBS.out] at h3
          rw [hal, hna] at h1
          have := HFF.out
          omega
        obtain ⟨A7, c7, rfl, hc7, hC7⟩ := OVr_readn HOa.out na hna
        have hsm : smallB al := by rw [← hal]; exact cs_small HOKa.out
        have his := isrun_calls A7 na c7 al wr hC7 hc7 hsm
        have HNA := Aside0.mk hna
        obtain ⟨ok, hok⟩ : ∃ b, okN al al.length = b := ⟨_, rfl⟩
        rw [hok] at his
        have HOB2 : Aside0 (openB b = if ok && decide (runB al = b) then some (csB bs) else none) := ⟨by rw [HOB.out, HG.out, HOKa.out, hal, hok, Bool.true_and]⟩
        have HOKN := Aside0.mk hok
        have HAL := Aside0.mk hal
        have HIS := Aside0.mk his
        have HC7 := Aside0.mk hC7
        have HY := Aside0.mk (show QY A n c b w w1.heap.size (.slice A7 na c7) al wr from ⟨Kd.C_below HR.out (below_step HB1.out HB.out), HOa.out, below_step HB1.out HB.out⟩)
        have j3 : ¬ (i : Int) + 2 < ((m + 2 : Nat) : Int) := by push_cast; omega
        clear hlt hal hna hC7 hsm htke his hok HOB HG
        go_wp2_with fail
        (with_reducible refine HIS.out.mono ?_)
        rintro e w5 ⟨rfl, hb5⟩
        have HY5 := Aside0.mk (QY_below HY.out hb5)
        have HY5d := Aside0.mk (QY_below HY5.out (below_drew1 (Below.refl _ _)))
        have HC5d := Aside0.mk (Kd.C_below (Kd.C_below HC7.out hb5) (below_drew1 (Below.refl w5.heap.size w5)))
        clear hb5 HY HC7
        cases ok with
        | false =>
          have HOP : Aside0 (openB b = none) := ⟨by rw [HOB2.out]; rfl⟩
          go_wp2_with fail
          refine wp_region_held_drew (S := (fun w' => (convert 31 9 (.slice A n c)).run Try.prog w' = .ok (.string (strOfNums b)) w' ∧ Aside0 (QY A n c b w w1.heap.size (.slice A7 na c7) al w'))) (by kernel_rfl) (QY_S HY5d.out) (fun hHeld => ?_)
          (refine hd_take 0 (v := ?_) rfl (by kernel_rfl) (by kernel_rfl) (fun _ _ _ h => h) (by assumption) ?_ ?_; rotate_left; (intro w hSw; (try dsimp only at hSw); go_simp; first | done | with_reducible rfl); simp only [Act.put, List.setIfInBounds_toArray, List.set_cons_zero, List.set_cons_succ])
          (refine hd_take 1 (v := ?_) rfl (by kernel_rfl) (by kernel_rfl) (fun _ _ _ h => h) (by assumption) ?_ ?_; rotate_left; (intro w hSw; (try dsimp only at hSw); go_simp; first | done | with_reducible rfl); simp only [Act.put, List.setIfInBounds_toArray, List.set_cons_zero, List.set_cons_succ])
          (refine hd_take 2 (v := ?_) rfl (by kernel_rfl) (by kernel_rfl) (fun _ _ _ h => h) (by assumption) ?_ ?_; rotate_left; (intro w hSw; (try dsimp only at hSw); go_simp; first | done | with_reducible rfl); simp only [Act.put, List.setIfInBounds_toArray, List.set_cons_zero, List.set_cons_succ])
          (refine hd_skip 3 rfl (by kernel_rfl) (by kernel_rfl) (fun _ _ _ h => h) (by assumption) ?_; simp only [Act.put, List.setIfInBounds_toArray, List.set_cons_zero, List.set_cons_succ])
          (refine hd_skip 4 rfl (by kernel_rfl) (by kernel_rfl) (fun _ _ _ h => h) (by assumption) ?_; simp only [Act.put, List.setIfInBounds_toArray, List.set_cons_zero, List.set_cons_succ])
          (refine hd_skip 5 rfl (by kernel_rfl) (by kernel_rfl) (fun _ _ _ h => h) (by assumption) ?_; simp only [Act.put, List.setIfInBounds_toArray, List.set_cons_zero, List.set_cons_succ])
          (refine hd_skip 6 rfl (by kernel_rfl) (by kernel_rfl) (fun _ _ _ h => h) (by assumption) ?_; simp only [Act.put, List.setIfInBounds_toArray, List.set_cons_zero, List.set_cons_succ])
          (refine hd_skip 7 rfl (by kernel_rfl) (by kernel_rfl) (fun _ _ _ h => h) (by assumption) ?_; simp only [Act.put, List.setIfInBounds_toArray, List.set_cons_zero, List.set_cons_succ])
          (refine hd_skip 8 rfl (by kernel_rfl) (by kernel_rfl) (fun _ _ _ h => h) (by assumption) ?_; simp only [Act.put, List.setIfInBounds_toArray, List.set_cons_zero, List.set_cons_succ])
          (refine hd_take 9 (v := ?_) rfl (by kernel_rfl) (by kernel_rfl) (fun _ _ _ h => h) (by assumption) ?_ ?_; rotate_left; (intro w hSw; (try dsimp only at hSw); go_simp; first | done | with_reducible rfl); simp only [Act.put, List.setIfInBounds_toArray, List.set_cons_zero, List.set_cons_succ])
          refine wpAnyH_done (by kernel_rfl) ?_ _
          go_wp2_with fail
          go_ret2
          exact ⟨QY_b hHeld.2.out, .inl ⟨HOP.out, _, rfl⟩⟩
        | true =>
          have hir : IsR al := (okN_iff _).1 HOKN.out
          have HRB := Aside0.mk (fun W h => rbuild_calls A7 na c7 al W h hc7 hir (by omega))
          obtain ⟨eqb, heq⟩ : ∃ q, ((strOfNums (runB al)).toList == (strOfNums b).toList) = q := ⟨_, rfl⟩
          have hde : decide (runB al = b) = eqb := by
            rw [← heq, Bool.eq_iff_iff, decide_eq_true_eq, beq_iff_eq]
            exact ⟨fun h => by rw [h], fun h => strOfNums_inj (runB_range al) HBY.out (toList_inj h)⟩
          have HOP : Aside0 (openB b = if eqb then some (csB bs) else none) := ⟨by rw [HOB2.out, hde]; rfl⟩
          obtain ⟨BB, hBB⟩ : ∃ BB, runB al = BB := ⟨_, rfl⟩
          rw [hBB] at HRB heq
          clear hde hir hBB
          cases eqb with
          | false =>
            go_wp2_with fail
            refine wp_region_held_drew (S := (fun w' => (convert 31 9 (.slice A n c)).run Try.prog w' = .ok (.string (strOfNums b)) w' ∧ Aside0 (QY A n c b w w1.heap.size (.slice A7 na c7) al w'))) (by kernel_rfl) (QY_S HY5d.out) (fun hHeld => ?_)
            (refine hd_take 0 (v := ?_) rfl (by kernel_rfl) (by kernel_rfl) (fun _ _ _ h => h) (by assumption) ?_ ?_; rotate_left; (intro w hSw; (try dsimp only at hSw); go_simp; first | done | with_reducible rfl); simp only [Act.put, List.setIfInBounds_toArray, List.set_cons_zero, List.set_cons_succ])
            (refine hd_take 1 (v := ?_) rfl (by kernel_rfl) (by kernel_rfl) (fun _ _ _ h => h) (by assumption) ?_ ?_; rotate_left; (intro w hSw; (try dsimp only at hSw); go_simp; first | done | with_reducible rfl); simp only [Act.put, List.setIfInBounds_toArray, List.set_cons_zero, List.set_cons_succ])
            (refine hd_take 2 (v := ?_) rfl (by kernel_rfl) (by kernel_rfl) (fun _ _ _ h => h) (by assumption) ?_ ?_; rotate_left; (intro w hSw; (try dsimp only at hSw); go_simp; first | done | with_reducible rfl); simp only [Act.put, List.setIfInBounds_toArray, List.set_cons_zero, List.set_cons_succ])
            (refine hd_take 3 (v := ?_) rfl (by kernel_rfl) (by kernel_rfl) (fun _ _ _ h => h) (by assumption) ?_ ?_; rotate_left; (intro w hSw; (try dsimp only at hSw); go_simp; first | done | with_reducible rfl); simp only [Act.put, List.setIfInBounds_toArray, List.set_cons_zero, List.set_cons_succ])
            (refine hd_take 6 (v := ?_) rfl (by kernel_rfl) (by kernel_rfl) (fun _ _ _ h => h) (by assumption) ?_ ?_; rotate_left; (intro w hSw; (try dsimp only at hSw); obtain ⟨s1, s2⟩ := hSw; go_simp; first | done | with_reducible rfl); simp only [Act.put, List.setIfInBounds_toArray, List.set_cons_zero, List.set_cons_succ])
            (refine hd_take 7 (v := ?_) rfl (by kernel_rfl) (by kernel_rfl) (fun _ _ _ h => h) (by assumption) ?_ ?_; rotate_left; (intro w hSw; (try dsimp only at hSw); obtain ⟨s1, s2⟩ := hSw; go_simp; first | done | with_reducible rfl); simp only [Act.put, List.setIfInBounds_toArray, List.set_cons_zero, List.set_cons_succ])
            refine hd_one 4 rfl (by kernel_rfl) (fun K hK => ?_)
            go_simp
            go_wp2_with ((go_at_call 18); (with_reducible refine (HRB.out _ HC5d.out).mono ?_); rintro e wa ⟨ua, rfl, hOa, hba⟩; have HY6 := Aside0.mk (QY_below HY5d.out hba); have hsa := OB_string hOa; clear hOa hba)
            refine hK.out _ _ (QY_S HY6.out) (fun hHeld => ?_)
            clear hK K
            refine hd_one 5 rfl (by kernel_rfl) (fun K hK => ?_)
            go_simp
            refine hK.out _ _ (QY_S HY6.out) (fun hHeld => ?_)
            clear hK K
            (refine hd_take 8 (v := ?_) rfl (by kernel_rfl) (by kernel_rfl) (fun _ _ _ h => h) (by assumption) ?_ ?_; rotate_left; (intro w hSw; (try dsimp only at hSw); obtain ⟨s1, s2⟩ := hSw; go_simp; first | done | with_reducible rfl); simp only [Act.put, List.setIfInBounds_toArray, List.set_cons_zero, List.set_cons_succ])
            (refine hd_take 9 (v := ?_) rfl (by kernel_rfl) (by kernel_rfl) (fun _ _ _ h => h) (by assumption) ?_ ?_; rotate_left; (intro w hSw; (try dsimp only at hSw); obtain ⟨s1, s2⟩ := hSw; go_simp; first | done | with_reducible rfl); simp only [Act.put, List.setIfInBounds_toArray, List.set_cons_zero, List.set_cons_succ])
            refine wpAnyH_done (by kernel_rfl) ?_ _
            go_wp2_with fail
            go_ret2
            exact ⟨QY_b HY6.out, .inl ⟨by rw [HOP.out]; rfl, _, rfl⟩⟩
          | true =>
            go_wp2_with fail
            refine wp_region_held_drew (S := (fun w' => (convert 31 9 (.slice A n c)).run Try.prog w' = .ok (.string (strOfNums b)) w' ∧ Aside0 (QY A n c b w w1.heap.size (.slice A7 na c7) al w'))) (by kernel_rfl) (QY_S HY5d.out) (fun hHeld => ?_)
            (refine hd_take 0 (v := ?_) rfl (by kernel_rfl) (by kernel_rfl) (fun _ _ _ h => h) (by assumption) ?_ ?_; rotate_left; (intro w hSw; (try dsimp only at hSw); go_simp; first | done | with_reducible rfl); simp only [Act.put, List.setIfInBounds_toArray, List.set_cons_zero, List.set_cons_succ])
            (refine hd_take 1 (v := ?_) rfl (by kernel_rfl) (by kernel_rfl) (fun _ _ _ h => h) (by assumption) ?_ ?_; rotate_left; (intro w hSw; (try dsimp only at hSw); go_simp; first | done | with_reducible rfl); simp only [Act.put, List.setIfInBounds_toArray, List.set_cons_zero, List.set_cons_succ])
            (refine hd_take 2 (v := ?_) rfl (by kernel_rfl) (by kernel_rfl) (fun _ _ _ h => h) (by assumption) ?_ ?_; rotate_left; (intro w hSw; (try dsimp only at hSw); go_simp; first | done | with_reducible rfl); simp only [Act.put, List.setIfInBounds_toArray, List.set_cons_zero, List.set_cons_succ])
            (refine hd_take 3 (v := ?_) rfl (by kernel_rfl) (by kernel_rfl) (fun _ _ _ h => h) (by assumption) ?_ ?_; rotate_left; (intro w hSw; (try dsimp only at hSw); go_simp; first | done | with_reducible rfl); simp only [Act.put, List.setIfInBounds_toArray, List.set_cons_zero, List.set_cons_succ])
            (refine hd_take 6 (v := ?_) rfl (by kernel_rfl) (by kernel_rfl) (fun _ _ _ h => h) (by assumption) ?_ ?_; rotate_left; (intro w hSw; (try dsimp only at hSw); obtain ⟨s1, s2⟩ := hSw; go_simp; first | done | with_reducible rfl); simp only [Act.put, List.setIfInBounds_toArray, List.set_cons_zero, List.set_cons_succ])
            (refine hd_take 7 (v := ?_) rfl (by kernel_rfl) (by kernel_rfl) (fun _ _ _ h => h) (by assumption) ?_ ?_; rotate_left; (intro w hSw; (try dsimp only at hSw); obtain ⟨s1, s2⟩ := hSw; go_simp; first | done | with_reducible rfl); simp only [Act.put, List.setIfInBounds_toArray, List.set_cons_zero, List.set_cons_succ])
            refine hd_one 4 rfl (by kernel_rfl) (fun K hK => ?_)
            go_simp
            go_wp2_with ((go_at_call 18); (with_reducible refine (HRB.out _ HC5d.out).mono ?_); rintro e wa ⟨ua, rfl, hOa, hba⟩; have HY6 := Aside0.mk (QY_below HY5d.out hba); have hsa := OB_string hOa; clear hOa hba)
            refine hK.out _ _ (QY_S HY6.out) (fun hHeld => ?_)
            clear hK K
            refine hd_one 5 rfl (by kernel_rfl) (fun K hK => ?_)
            go_simp
            refine hK.out _ _ (QY_S HY6.out) (fun hHeld => ?_)
            clear hK K
            (refine hd_take 8 (v := ?_) rfl (by kernel_rfl) (by kernel_rfl) (fun _ _ _ h => h) (by assumption) ?_ ?_; rotate_left; (intro w hSw; (try dsimp only at hSw); obtain ⟨s1, s2⟩ := hSw; go_simp; first | done | with_reducible rfl); simp only [Act.put, List.setIfInBounds_toArray, List.set_cons_zero, List.set_cons_succ])
            (refine hd_take 9 (v := ?_) rfl (by kernel_rfl) (by kernel_rfl) (fun _ _ _ h => h) (by assumption) ?_ ?_; rotate_left; (intro w hSw; (try dsimp only at hSw); obtain ⟨s1, s2⟩ := hSw; go_simp; first | done | with_reducible rfl); simp only [Act.put, List.setIfInBounds_toArray, List.set_cons_zero, List.set_cons_succ])
            refine wpAnyH_done (by kernel_rfl) ?_ _
            go_wp2_with fail
            go_ret2
            exact ⟨QY_b HY6.out, .inr ⟨csB bs, _, by rw [HOP.out]; rfl, rfl, by rw [HAL.out]; exact Kd.R_lower (QY_o HY6.out) HB1.out.size⟩⟩
  · have HOP : Aside0 (openB b = none) := ⟨by
      have h9 : fitB b = false := by
        rw [HFT.out]
        cases h1 : decide (fn = n) with
        | false => rfl
        | true =>
          rw [Bool.true_and, decide_eq_false_iff_not]
          exact fun h => hf ⟨of_decide_eq_true h1, h⟩
      unfold openB
      rw [h9]
      rfl⟩
    by_cases hfn : fn = n
    · have h2 : ¬ 2 ≤ nf := fun h => hf ⟨hfn, h⟩
      have j1 : (nf : Int) < 2 := by omega
      have hfn2 : n = fn := hfn.symm
      subst hfn2
      clear hf h2
      go_wp2_with fail
      go_ret2
      exact ⟨HB1.out, .inl ⟨HOP.out, _, rfl⟩⟩
    · have j1 : ((fn : Int) != (n : Int)) = true := by rw [bne_iff_ne]; omega
      have j2 : ((fn : Int) == (n : Int)) = false := by rw [beq_eq_false_iff_ne]; omega
      clear hf
      go_wp2_with fail
      go_ret2
      exact ⟨HB1.out, .inl ⟨HOP.out, _, rfl⟩⟩
end Go.Proofs.Ytmfnbkghfmeekaa.A
