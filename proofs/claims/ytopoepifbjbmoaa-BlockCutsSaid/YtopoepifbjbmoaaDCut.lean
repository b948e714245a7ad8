/- Versions cut into pieces of eight: block.Cut. -/
import Derived.Test.YtopoepifbjbmoaaDHeads
namespace Go.Proofs.Ytopoepifbjbmoaa.A
open Go Go.RowKit Go.Shelf Go.Proofs.YtopoepifbjbmoaaW.PrintWords Go.Proofs.YtopoepifbjbmoaaW.PrintLast Go.Proofs.YtopoepifbjbmoaaW.PrintMore
open R
attribute [local go_sem] Oper.semAt_some wide_fn wide_depth
set_option linter.unusedVariables false
set_option linter.unusedSimpArgs false

theorem chk_le : ∀ (f : Nat) (l x : List Vr), x ∈ chk f l → x.length ≤ 8
  | 0, _, x, h => by simp [chk] at h
  | f + 1, l, x, h => by
    rw [chk] at h
    split at h
    · simp at h
    · rcases List.mem_cons.1 h with rfl | h
      · rw [List.length_take]; omega
      · exact chk_le f _ x h
theorem chk_len : ∀ (f : Nat) (l : List Vr), (chk f l).length ≤ f
  | 0, _ => by simp [chk]
  | f + 1, l => by
    rw [chk]
    split
    · simp
    · rw [List.length_cons]
      have := chk_len f (l.drop 8)
      omega
theorem stepIn_of_step {l : Nat} {P : Program} {ops : Array Oper} {o : Oper} {a : Act} {Q : Exit → Act → World → Prop} {W : World} {Kc : Act → World → Prop} {X : Prop} (hgd : o.guard = none) (hd : ∀ c, o.op ≠ .defer c)
    (h : if Region.wanted o (yielded ops a.tmps) = true then Oper.wp P o a W Kc Q else Kc (a.put o.dst undef) W) : if Region.wanted o (yielded ops a.tmps) = true then Oper.wpIn (Fence.wide.inRound l) 0 P o a W Kc Q else X := by
  have hw : Region.wanted o (yielded ops a.tmps) = true := by simp [Region.wanted, hgd]
  rw [if_pos hw] at h ⊢
  exact opIn_of_op hd h
/-- What block.Cut has between two rounds. -/
def CuI (w : World) (pre : List (Value × List Vr)) (W : World) : Prop :=
  ∃ v hs, W.heap[w.heap.size]? = some (.cells #[v] 43) ∧ OR HdV 22 W (w.heap.size + 5) v hs ∧ HeadsV W (w.heap.size + 5) hs (pre.map Prod.snd) ∧ Below w.heap.size w W
theorem CuI_row {w A B : World} {pre : List (Value × List Vr)} {row : Option Nat} (h : CuI w pre A) (hg : A.grownBy B row) (hr : ∀ k, row = some k → w.heap.size + 1 ≤ k ∧ k < w.heap.size + 5) : CuI w pre B := by
  obtain ⟨v, hs, h1, h3, h4, h5⟩ := h
  have hb : ∀ k, row = some k → k < w.heap.size + 5 := fun k e => (hr k e).2
  exact ⟨v, hs, (hg.block _ (Array.getElem?_eq_some_iff.1 h1).1 (fun e => by have := (hr _ e.symm).1; omega)).trans h1, SC_offV h3 hg hb, HeadsV_move h4 (fun u x hu => OVr_off hu hg hb), h5.grown hg h5.size (fun k e => by have := (hr k e).1; omega)⟩
set_option maxRecDepth 100000 in
set_option maxHeartbeats 4000000 in
theorem cut8_calls (A : Option Addr) (n c : Nat) (l : List Vr) (w : World) (hr : KVr.C w A n l) (hc : n ≤ c) (hl : n ≤ 5000) :
    Calls Try.prog 18 #[.slice A n c] w fun e w' => ∃ v hs, e = .returned v ∧ OR HdV 22 w' w.heap.size v hs ∧ HeadsV w' w.heap.size hs (chk (n + 1) l) ∧ Below w.heap.size w w' := by
  have HR := Aside0.mk hr
  have HN := Aside0.mk hr.1
  clear hr
  refine (callsIn_wide (n := 0)).1 ?_
  refine callsIn_of_wp_marks Try.func18 rfl trivial ?_ rfl
  simp only [Try.ntmps18, List.size_toArray, List.length_cons, List.length_nil, Nat.reduceAdd, Nat.reduceSub, Array.replicate_succ, Array.replicate_zero, List.push_toArray, List.append_toArray, List.nil_append, List.cons_append]
  refine wpIn_wide.2 ?_
  go_wp2_with fail
  (with_reducible refine (chunk_calls A n c _).mono ?_)
  rintro e w3 ⟨rfl, hw3⟩
  go_wp2_with fail
  have hz3 : w3.heap.size = w.heap.size + 3 := by rw [← hw3]; simp only [World.size_alloc]
  have hb3 : Below w.heap.size w w3 := by rw [← hw3]; exact below_alloc (below_alloc (below_alloc (Below.refl _ _) _) _) _
  have hX0 : w3.heap[w.heap.size]? = some (.cells #[.slice none 0 0] 43) := by
    rw [← hw3]
    exact blk_keep (blk_keep (heap_alloc_new w _) (below_alloc (Below.refl _ _) _)) (below_alloc (Below.refl _ _) _)
  have hX1 : w3.heap[w.heap.size + 1]? = some (vsB A n c) := by
    have h := blk_keep (heap_alloc_new (w.alloc (.cells #[.slice none 0 0] 43)) (vsB A n c)) (below_alloc (Below.refl _ _) (niB 8))
    rw [hw3, World.size_alloc] at h
    exact h
  have hX2 : w3.heap[w.heap.size + 1 + 1]? = some (niB 8) := by
    have h := heap_alloc_new ((w.alloc (.cells #[.slice none 0 0] 43)).alloc (vsB A n c)) (niB 8)
    rw [hw3] at h
    simp only [World.size_alloc] at h
    exact h
  have HI0 : Aside0 (CuI w [] w3) := ⟨_, _, hX0, Kd.R_nil _ _ _ _ _, HeadsV_nil _ _, hb3⟩
  clear hX0
  refine (wpIn_wide (n := 0)).1 ?_
  refine range_itr (α := Value × List Vr) rfl (enters_of Try.func50 (by kernel_rfl) rfl) (chunk_itr w w3 (w.heap.size + 1) A n c l HN.out hc (by omega) (by omega) hb3 hX1 hX2)
    (fun X Y h k h1 h2 => h.block k h2) (fun h k => ⟨h.1.trans k.1, Nat.le_trans h.2.1 k.2.1, k.2.2.1.trans h.2.2.1, k.2.2.2.trans h.2.2.2⟩)
    (fun X Y row hs hg hr => ⟨(Below.refl _ X).grown hg (by omega) (fun k e => by have := (hr k e).1; omega), hg.size, hg.block _ (by omega) (fun e => by have := (hr _ e.symm).1; omega), hg.block _ (by omega) (fun e => by have := (hr _ e.symm).1; omega)⟩) (fun x => rfl)
    (CuI w) (fun _ _ _ => False) (fun s X Y row hI hg hr => CuI_row hI hg (fun k e => by have := hr k e; omega)) (fun c s X Y row hI hg hr => hI) (fun s X Y hI hb => CuI_row hI (grown_below hb none) (fun k e => by cases e)) (fun c s X Y hI hg => hI)
    (fun pre x s X Y row hI hg hr => hI) HI0.out
    (fun x => { tmps := #[.slice A n c, undef, .slice none 0 0, .pointer (some ⟨w.heap.size, 0, none⟩), x.1, .slice A n c, .func (.func 50) #[] #[.pointer (some ⟨w.heap.size + 1, 0, none⟩), .pointer (some ⟨w.heap.size + 1 + 1, 0, none⟩)], x.1, undef, undef, undef, undef, undef, undef], defers := [] }) ?assign ?body ?done ?stop
  case assign =>
    intro lp x W K hK
    gi_wp2
    exact hK
  case body =>
    rintro lp pre ⟨xv, xb⟩ W hsW hI hOk
    obtain ⟨⟨A1, m, hx1, hm, hC1⟩, hpre⟩ := hOk
    simp only at hx1 hm hC1
    subst hx1
    obtain ⟨v, hs, h1, h3, h4, h5⟩ := hI
    have hxm : xb ∈ chk (n + 1) l := by
      obtain ⟨t, ht⟩ := hpre
      rw [← ht, List.map_append]
      exact List.mem_append_left _ (List.mem_append_right _ (List.mem_cons_self))
    have hm8 := chk_le (n + 1) l xb hxm
    rw [hm] at hm8
    have hhl : hs.length ≤ n + 1 := by
      have h6 := hpre.length_le
      rw [List.map_append, List.length_append] at h6
      have h7 := chk_len (n + 1) l
      rw [h4.1]
      omega
    have hlq : hs.length ≤ 1000000000 := by omega
    obtain ⟨D, hD⟩ : ∃ D, W.drew = D := ⟨_, rfl⟩
    have hbD : Below W.heap.size W D := by rw [← hD]; exact below_drew1 (Below.refl _ _)
    have hsD : w.heap.size + 5 ≤ D.heap.size := by have := hbD.size; omega
    have HBS : Aside0 (W.heap.size ≤ D.heap.size) := ⟨hbD.size⟩
    have HBD : Aside0 (Below w.heap.size W D) := ⟨hbD.mono (by omega)⟩
    have HBK : Aside0 (∀ k, k < W.heap.size → D.heap[k]? = W.heap[k]?) := ⟨hbD.block⟩
    have hd1 := blk_keep h1 hbD
    have HD1 := Aside0.mk hd1
    have HD3 := Aside0.mk (Kd.R_below h3 hbD)
    have HD4 := Aside0.mk (HeadsV_move h4 (fun u x hu => Kd.R_below (w1 := D) hu hbD))
    have H5 := Aside0.mk h5
    have HCL := Aside0.mk (cloneVr_calls A1 m m xb D (hC1 D (Kd.C_below HR.out (h5.trans (hbD.mono (by omega))))) (Nat.le_refl _) (by omega))
    have HM := Aside0.mk hm
    obtain ⟨p, pf⟩ := one_cell hd1
    clear hd1 h1 h3 h4 h5 hC1 hm hpre hxm hbD
    dsimp only
    gi_wp2
    refine wpIn_region_any (by kernel_rfl) ?_
    change wpAnyIn _ _ _ _ _ _ _ _ _ (World.drew _)
    rw [hD]
    clear hD
    refine wpAnyIn_ready (rs := [0, 1]) (by kernel_rfl) (by simp) ?_
    refine (AllReadyIn.cons rfl (fun K hK => ?_) (AllReadyIn.cons rfl (fun K hK => ?_) AllReadyIn.nil))
    · go_simp
      refine hK _ _ ?_
      clear hK K
      refine wpAnyIn_ready (rs := [1]) (by kernel_rfl) (by simp) ?_
      refine (AllReadyIn.cons rfl (fun K hK => ?_) AllReadyIn.nil)
      go_simp
      refine hK _ _ ?_
      clear hK K
      refine wpAnyIn_ready (rs := [2]) (by kernel_rfl) (by simp) ?_
      refine (AllReadyIn.cons rfl (fun K hK => ?_) AllReadyIn.nil)
      go_simp
      gi_wp2_with (gi_at_call 35; refine CallsIn.inRound _ ((callsIn_wide.2 HCL.out).mono ?_); rintro e w1 ⟨u1, rfl, hO1, hb1⟩; obtain ⟨A2, c2, rfl, hc2, -⟩ := OVr_readn hO1 m HM.out; have HO1 := Aside0.mk hO1; have HB1 := Aside0.mk hb1; have hp1 := blk_keep HD1.out hb1; have HP1 := Aside0.mk hp1; obtain ⟨p, pf⟩ := one_cell hp1; clear hO1 hb1 hp1)
      try (refine hK _ _ ?_)
      try (clear hK K)
      refine wpAnyIn_ready (rs := [3]) (by kernel_rfl) (by simp) ?_
      refine (AllReadyIn.cons rfl (fun K hK => ?_) AllReadyIn.nil)
      go_simp
      refine hK _ _ ?_
      clear hK K
      refine wpAnyIn_ready (rs := [4]) (by kernel_rfl) (by simp) ?_
      refine (AllReadyIn.cons rfl (fun K hK => ?_) AllReadyIn.nil)
      refine stepIn_of_step rfl (by intro c hc; cases hc) (app_headV_step (B := w.heap.size + 5) (v := v) (s := .tmp 8) (x := .tmp 11) (A := A2) (n := m) (c := c2) rfl rfl rfl rfl (Kd.R_below HD3.out HB1.out) (Nat.le_trans hsD HB1.out.size) hlq ?_)
      intro v1 w2 hO2 hb2 hg2
      refine hK _ _ ?_
      clear hK K p pf
      obtain ⟨k1, hk1⟩ : ∃ k1, (hs ++ [(A2, m, c2)]).length = k1 := ⟨_, rfl⟩
      obtain ⟨Av, cv, rfl, hcv, -⟩ := OR_readn hO2 k1 hk1
      have hp2 := (hb2.block w.heap.size (by omega)).trans HP1.out
      have HP2 := Aside0.mk hp2
      obtain ⟨p, pf⟩ := one_cell hp2
      have HO2 := Aside0.mk hO2
      have HB2 := Aside0.mk hb2
      have HG2 := Aside0.mk hg2
      clear hO2 hb2 hg2 hp2 hk1
      refine wpAnyIn_ready (rs := [5]) (by kernel_rfl) (by simp) ?_
      refine (AllReadyIn.cons rfl (fun K hK => ?_) AllReadyIn.nil)
      go_simp
      refine hK _ _ ?_
      clear hK K
      refine wpAnyIn_done (by kernel_rfl) ?_ _
      have hg4 := grownBy_setCell' w2 w.heap.size (.slice Av k1 cv)
      have hb1' : Below w.heap.size W w1 := (HBD.out.trans (HB1.out.mono (by omega)))
      have hb2' : Below w.heap.size W w2 := hb1'.trans (HB2.out.mono (by omega))
      have hbW : Below w.heap.size W (w2.setCell ⟨w.heap.size, 0, none⟩ (.slice Av k1 cv)) := hb2'.setCell (p := ⟨w.heap.size, 0, none⟩) (Nat.le_refl _) _
      have o4 : ∀ k, some w.heap.size = some k → k < w.heap.size + 5 := fun k e => by cases e; omega
      have hkk : ∀ k, k < w.heap.size + 5 → w2.heap[k]? = W.heap[k]? := fun k hk => (HB2.out.block k hk).trans ((HB1.out.block k (by omega)).trans (HBK.out k (by omega)))
      have hkk2 : ∀ k, k < w.heap.size + 5 → k ≠ w.heap.size → (w2.setCell ⟨w.heap.size, 0, none⟩ (.slice Av k1 cv)).heap[k]? = W.heap[k]? := fun k hk hne => (Below.heap_setCell _ _ _ _ (fun e => by simp only at e; omega)).trans (hkk k hk)
      refine ⟨fun k h7 h8 => hkk2 k (by omega) (by omega), ⟨hbW, ?_, hkk2 _ (by omega) (by omega), hkk2 _ (by omega) (by omega)⟩, .slice Av k1 cv, hs ++ [(A2, m, c2)], one_set HP2.out, SC_offV HO2.out hg4 o4, ?_, H5.out.trans hbW⟩
      · rw [World.size_setCell]
        exact Nat.le_trans (Nat.le_trans HBS.out HB1.out.size) HB2.out.size
      · rw [List.map_append]
        have hmv : ∀ u x, OVr w1 (w.heap.size + 5) u x → OVr w2 (w.heap.size + 5) u x := fun u x hu => OVr_grownN (row := v.ownBlock) hu HG2.out (own_ne_typeV (Kd.R_below HD3.out HB1.out) hu (by decide))
        exact HeadsV_add (HeadsV_move HD4.out fun u x hu => OVr_off (hmv _ _ (Kd.R_below hu HB1.out)) hg4 o4) (OVr_off (hmv _ _ (Kd.R_lower HO1.out hsD)) hg4 o4)
    · go_simp
      refine hK _ _ ?_
      clear hK K
      refine wpAnyIn_ready (rs := [0, 2]) (by kernel_rfl) (by simp) ?_
      refine (AllReadyIn.cons rfl (fun K hK => ?_) (AllReadyIn.cons rfl (fun K hK => ?_) AllReadyIn.nil))
      · go_simp
        refine hK _ _ ?_
        clear hK K
        refine wpAnyIn_ready (rs := [2]) (by kernel_rfl) (by simp) ?_
        refine (AllReadyIn.cons rfl (fun K hK => ?_) AllReadyIn.nil)
        go_simp
        gi_wp2_with (gi_at_call 35; refine CallsIn.inRound _ ((callsIn_wide.2 HCL.out).mono ?_); rintro e w1 ⟨u1, rfl, hO1, hb1⟩; obtain ⟨A2, c2, rfl, hc2, -⟩ := OVr_readn hO1 m HM.out; have HO1 := Aside0.mk hO1; have HB1 := Aside0.mk hb1; have hp1 := blk_keep HD1.out hb1; have HP1 := Aside0.mk hp1; obtain ⟨p, pf⟩ := one_cell hp1; clear hO1 hb1 hp1)
        try (refine hK _ _ ?_)
        try (clear hK K)
        refine wpAnyIn_ready (rs := [3]) (by kernel_rfl) (by simp) ?_
        refine (AllReadyIn.cons rfl (fun K hK => ?_) AllReadyIn.nil)
        go_simp
        refine hK _ _ ?_
        clear hK K
        refine wpAnyIn_ready (rs := [4]) (by kernel_rfl) (by simp) ?_
        refine (AllReadyIn.cons rfl (fun K hK => ?_) AllReadyIn.nil)
        refine stepIn_of_step rfl (by intro c hc; cases hc) (app_headV_step (B := w.heap.size + 5) (v := v) (s := .tmp 8) (x := .tmp 11) (A := A2) (n := m) (c := c2) rfl rfl rfl rfl (Kd.R_below HD3.out HB1.out) (Nat.le_trans hsD HB1.out.size) hlq ?_)
        intro v1 w2 hO2 hb2 hg2
        refine hK _ _ ?_
        clear hK K p pf
        obtain ⟨k1, hk1⟩ : ∃ k1, (hs ++ [(A2, m, c2)]).length = k1 := ⟨_, rfl⟩
        obtain ⟨Av, cv, rfl, hcv, -⟩ := OR_readn hO2 k1 hk1
        have hp2 := (hb2.block w.heap.size (by omega)).trans HP1.out
        have HP2 := Aside0.mk hp2
        obtain ⟨p, pf⟩ := one_cell hp2
        have HO2 := Aside0.mk hO2
        have HB2 := Aside0.mk hb2
        have HG2 := Aside0.mk hg2
        clear hO2 hb2 hg2 hp2 hk1
        refine wpAnyIn_ready (rs := [5]) (by kernel_rfl) (by simp) ?_
        refine (AllReadyIn.cons rfl (fun K hK => ?_) AllReadyIn.nil)
        go_simp
        refine hK _ _ ?_
        clear hK K
        refine wpAnyIn_done (by kernel_rfl) ?_ _
        have hg4 := grownBy_setCell' w2 w.heap.size (.slice Av k1 cv)
        have hb1' : Below w.heap.size W w1 := (HBD.out.trans (HB1.out.mono (by omega)))
        have hb2' : Below w.heap.size W w2 := hb1'.trans (HB2.out.mono (by omega))
        have hbW : Below w.heap.size W (w2.setCell ⟨w.heap.size, 0, none⟩ (.slice Av k1 cv)) := hb2'.setCell (p := ⟨w.heap.size, 0, none⟩) (Nat.le_refl _) _
        have o4 : ∀ k, some w.heap.size = some k → k < w.heap.size + 5 := fun k e => by cases e; omega
        have hkk : ∀ k, k < w.heap.size + 5 → w2.heap[k]? = W.heap[k]? := fun k hk => (HB2.out.block k hk).trans ((HB1.out.block k (by omega)).trans (HBK.out k (by omega)))
        have hkk2 : ∀ k, k < w.heap.size + 5 → k ≠ w.heap.size → (w2.setCell ⟨w.heap.size, 0, none⟩ (.slice Av k1 cv)).heap[k]? = W.heap[k]? := fun k hk hne => (Below.heap_setCell _ _ _ _ (fun e => by simp only at e; omega)).trans (hkk k hk)
        refine ⟨fun k h7 h8 => hkk2 k (by omega) (by omega), ⟨hbW, ?_, hkk2 _ (by omega) (by omega), hkk2 _ (by omega) (by omega)⟩, .slice Av k1 cv, hs ++ [(A2, m, c2)], one_set HP2.out, SC_offV HO2.out hg4 o4, ?_, H5.out.trans hbW⟩
        · rw [World.size_setCell]
          exact Nat.le_trans (Nat.le_trans HBS.out HB1.out.size) HB2.out.size
        · rw [List.map_append]
          have hmv : ∀ u x, OVr w1 (w.heap.size + 5) u x → OVr w2 (w.heap.size + 5) u x := fun u x hu => OVr_grownN (row := v.ownBlock) hu HG2.out (own_ne_typeV (Kd.R_below HD3.out HB1.out) hu (by decide))
          exact HeadsV_add (HeadsV_move HD4.out fun u x hu => OVr_off (hmv _ _ (Kd.R_below hu HB1.out)) hg4 o4) (OVr_off (hmv _ _ (Kd.R_lower HO1.out hsD)) hg4 o4)
      · go_simp
        gi_wp2_with (gi_at_call 35; refine CallsIn.inRound _ ((callsIn_wide.2 HCL.out).mono ?_); rintro e w1 ⟨u1, rfl, hO1, hb1⟩; obtain ⟨A2, c2, rfl, hc2, -⟩ := OVr_readn hO1 m HM.out; have HO1 := Aside0.mk hO1; have HB1 := Aside0.mk hb1; have hp1 := blk_keep HD1.out hb1; have HP1 := Aside0.mk hp1; obtain ⟨p, pf⟩ := one_cell hp1; clear hO1 hb1 hp1)
        try (refine hK _ _ ?_)
        try (clear hK K)
        refine wpAnyIn_ready (rs := [0, 3]) (by kernel_rfl) (by simp) ?_
        refine (AllReadyIn.cons rfl (fun K hK => ?_) (AllReadyIn.cons rfl (fun K hK => ?_) AllReadyIn.nil))
        · go_simp
          refine hK _ _ ?_
          clear hK K
          refine wpAnyIn_ready (rs := [3]) (by kernel_rfl) (by simp) ?_
          refine (AllReadyIn.cons rfl (fun K hK => ?_) AllReadyIn.nil)
          go_simp
          refine hK _ _ ?_
          clear hK K
          refine wpAnyIn_ready (rs := [4]) (by kernel_rfl) (by simp) ?_
          refine (AllReadyIn.cons rfl (fun K hK => ?_) AllReadyIn.nil)
          refine stepIn_of_step rfl (by intro c hc; cases hc) (app_headV_step (B := w.heap.size + 5) (v := v) (s := .tmp 8) (x := .tmp 11) (A := A2) (n := m) (c := c2) rfl rfl rfl rfl (Kd.R_below HD3.out HB1.out) (Nat.le_trans hsD HB1.out.size) hlq ?_)
          intro v1 w2 hO2 hb2 hg2
          refine hK _ _ ?_
          clear hK K p pf
          obtain ⟨k1, hk1⟩ : ∃ k1, (hs ++ [(A2, m, c2)]).length = k1 := ⟨_, rfl⟩
          obtain ⟨Av, cv, rfl, hcv, -⟩ := OR_readn hO2 k1 hk1
          have hp2 := (hb2.block w.heap.size (by omega)).trans HP1.out
          have HP2 := Aside0.mk hp2
          obtain ⟨p, pf⟩ := one_cell hp2
          have HO2 := Aside0.mk hO2
          have HB2 := Aside0.mk hb2
          have HG2 := Aside0.mk hg2
          clear hO2 hb2 hg2 hp2 hk1
          refine wpAnyIn_ready (rs := [5]) (by kernel_rfl) (by simp) ?_
          refine (AllReadyIn.cons rfl (fun K hK => ?_) AllReadyIn.nil)
          go_simp
          refine hK _ _ ?_
          clear hK K
          refine wpAnyIn_done (by kernel_rfl) ?_ _
          have hg4 := grownBy_setCell' w2 w.heap.size (.slice Av k1 cv)
          have hb1' : Below w.heap.size W w1 := (HBD.out.trans (HB1.out.mono (by omega)))
          have hb2' : Below w.heap.size W w2 := hb1'.trans (HB2.out.mono (by omega))
          have hbW : Below w.heap.size W (w2.setCell ⟨w.heap.size, 0, none⟩ (.slice Av k1 cv)) := hb2'.setCell (p := ⟨w.heap.size, 0, none⟩) (Nat.le_refl _) _
          have o4 : ∀ k, some w.heap.size = some k → k < w.heap.size + 5 := fun k e => by cases e; omega
          have hkk : ∀ k, k < w.heap.size + 5 → w2.heap[k]? = W.heap[k]? := fun k hk => (HB2.out.block k hk).trans ((HB1.out.block k (by omega)).trans (HBK.out k (by omega)))
          have hkk2 : ∀ k, k < w.heap.size + 5 → k ≠ w.heap.size → (w2.setCell ⟨w.heap.size, 0, none⟩ (.slice Av k1 cv)).heap[k]? = W.heap[k]? := fun k hk hne => (Below.heap_setCell _ _ _ _ (fun e => by simp only at e; omega)).trans (hkk k hk)
          refine ⟨fun k h7 h8 => hkk2 k (by omega) (by omega), ⟨hbW, ?_, hkk2 _ (by omega) (by omega), hkk2 _ (by omega) (by omega)⟩, .slice Av k1 cv, hs ++ [(A2, m, c2)], one_set HP2.out, SC_offV HO2.out hg4 o4, ?_, H5.out.trans hbW⟩
          · rw [World.size_setCell]
            exact Nat.le_trans (Nat.le_trans HBS.out HB1.out.size) HB2.out.size
          · rw [List.map_append]
            have hmv : ∀ u x, OVr w1 (w.heap.size + 5) u x → OVr w2 (w.heap.size + 5) u x := fun u x hu => OVr_grownN (row := v.ownBlock) hu HG2.out (own_ne_typeV (Kd.R_below HD3.out HB1.out) hu (by decide))
            exact HeadsV_add (HeadsV_move HD4.out fun u x hu => OVr_off (hmv _ _ (Kd.R_below hu HB1.out)) hg4 o4) (OVr_off (hmv _ _ (Kd.R_lower HO1.out hsD)) hg4 o4)
        · go_simp
          refine hK _ _ ?_
          clear hK K
          refine wpAnyIn_ready (rs := [0]) (by kernel_rfl) (by simp) ?_
          refine (AllReadyIn.cons rfl (fun K hK => ?_) AllReadyIn.nil)
          obtain ⟨p9, -⟩ := one_cell (blk_keep HP1.out (below_alloc (Below.refl _ _) (.cells #[.slice A2 m c2] 22)))
          go_simp
          refine hK _ _ ?_
          clear hK K
          clear p9
          refine wpAnyIn_ready (rs := [4]) (by kernel_rfl) (by simp) ?_
          refine (AllReadyIn.cons rfl (fun K hK => ?_) AllReadyIn.nil)
          refine stepIn_of_step rfl (by intro c hc; cases hc) (app_headV_step (B := w.heap.size + 5) (v := v) (s := .tmp 8) (x := .tmp 11) (A := A2) (n := m) (c := c2) rfl rfl rfl rfl (Kd.R_below HD3.out HB1.out) (Nat.le_trans hsD HB1.out.size) hlq ?_)
          intro v1 w2 hO2 hb2 hg2
          refine hK _ _ ?_
          clear hK K p pf
          obtain ⟨k1, hk1⟩ : ∃ k1, (hs ++ [(A2, m, c2)]).length = k1 := ⟨_, rfl⟩
          obtain ⟨Av, cv, rfl, hcv, -⟩ := OR_readn hO2 k1 hk1
          have hp2 := (hb2.block w.heap.size (by omega)).trans HP1.out
          have HP2 := Aside0.mk hp2
          obtain ⟨p, pf⟩ := one_cell hp2
          have HO2 := Aside0.mk hO2
          have HB2 := Aside0.mk hb2
          have HG2 := Aside0.mk hg2
          clear hO2 hb2 hg2 hp2 hk1
          refine wpAnyIn_ready (rs := [5]) (by kernel_rfl) (by simp) ?_
          refine (AllReadyIn.cons rfl (fun K hK => ?_) AllReadyIn.nil)
          go_simp
          refine hK _ _ ?_
          clear hK K
          refine wpAnyIn_done (by kernel_rfl) ?_ _
          have hg4 := grownBy_setCell' w2 w.heap.size (.slice Av k1 cv)
          have hb1' : Below w.heap.size W w1 := (HBD.out.trans (HB1.out.mono (by omega)))
          have hb2' : Below w.heap.size W w2 := hb1'.trans (HB2.out.mono (by omega))
          have hbW : Below w.heap.size W (w2.setCell ⟨w.heap.size, 0, none⟩ (.slice Av k1 cv)) := hb2'.setCell (p := ⟨w.heap.size, 0, none⟩) (Nat.le_refl _) _
          have o4 : ∀ k, some w.heap.size = some k → k < w.heap.size + 5 := fun k e => by cases e; omega
          have hkk : ∀ k, k < w.heap.size + 5 → w2.heap[k]? = W.heap[k]? := fun k hk => (HB2.out.block k hk).trans ((HB1.out.block k (by omega)).trans (HBK.out k (by omega)))
          have hkk2 : ∀ k, k < w.heap.size + 5 → k ≠ w.heap.size → (w2.setCell ⟨w.heap.size, 0, none⟩ (.slice Av k1 cv)).heap[k]? = W.heap[k]? := fun k hk hne => (Below.heap_setCell _ _ _ _ (fun e => by simp only at e; omega)).trans (hkk k hk)
          refine ⟨fun k h7 h8 => hkk2 k (by omega) (by omega), ⟨hbW, ?_, hkk2 _ (by omega) (by omega), hkk2 _ (by omega) (by omega)⟩, .slice Av k1 cv, hs ++ [(A2, m, c2)], one_set HP2.out, SC_offV HO2.out hg4 o4, ?_, H5.out.trans hbW⟩
          · rw [World.size_setCell]
            exact Nat.le_trans (Nat.le_trans HBS.out HB1.out.size) HB2.out.size
          · rw [List.map_append]
            have hmv : ∀ u x, OVr w1 (w.heap.size + 5) u x → OVr w2 (w.heap.size + 5) u x := fun u x hu => OVr_grownN (row := v.ownBlock) hu HG2.out (own_ne_typeV (Kd.R_below HD3.out HB1.out) hu (by decide))
            exact HeadsV_add (HeadsV_move HD4.out fun u x hu => OVr_off (hmv _ _ (Kd.R_below hu HB1.out)) hg4 o4) (OVr_off (hmv _ _ (Kd.R_lower HO1.out hsD)) hg4 o4)
  case done =>
    rintro xs W hS ⟨v, hs, h1, h3, h4, h5⟩ hK
    obtain ⟨p1, f1⟩ := one_cell h1
    rw [hS] at h4
    obtain ⟨k1, hk1⟩ : ∃ k1, hs.length = k1 := ⟨_, rfl⟩
    obtain ⟨Av, cv, rfl, hcv, -⟩ := OR_readn h3 k1 hk1
    have H3 := Aside0.mk h3
    have H4 := Aside0.mk h4
    have H5 := Aside0.mk h5
    have HK := Aside0.mk hK
    clear h1 h3 h4 h5 hS hK hk1
    dsimp only
    go_wp2
    refine ⟨by simp, .inl ⟨_, _, rfl, run_takeDeferred HK.out, ?_⟩⟩
    have hgp := grownBy_putObj' W w3.heap.size (.deferred none)
    have hop : ∀ k, some w3.heap.size = some k → k < w.heap.size + 5 := fun k e => by cases e; omega
    exact ⟨_, results_tmp rfl _ _ _, _, hs, rfl, Kd.R_lower (SC_offV H3.out hgp hop) (by omega), HeadsV_move H4.out (fun u x hu => Kd.R_lower (OVr_off hu hgp hop) (by omega)), H5.out.grown hgp H5.out.size (fun k e => by cases e; omega)⟩
  case stop =>
    intro c pre W _ h _
    exact h.elim
end Go.Proofs.Ytopoepifbjbmoaa.A
