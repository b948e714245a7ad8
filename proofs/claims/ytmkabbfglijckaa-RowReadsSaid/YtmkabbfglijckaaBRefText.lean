/- The document's reader: a number and a text, wherever it stands, whatever its error. -/
import Derived.Test.YtmkabbfglijckaaBRefNum
import Derived.StillTailTactics
namespace Go.Proofs.Ytmkabbfglijckaa.A
open Go.RowKit Go.Proofs.YtmkabbfglijckaaW.PrintWords Go.Proofs.YtmkabbfglijckaaW.PrintLast Go.Proofs.YtmkabbfglijckaaW.PrintMore
set_option linter.unusedVariables false
set_option linter.unusedSimpArgs false

/-- What does not change of a reader. -/
def FS (w0 : World) (g : Nat) (A : Option Addr) (N c : Nat) (F : List Int) : Prop :=
  U8.C w0 A N F ∧ w0.heap.size ≤ g ∧ N ≤ c ∧ (∀ x ∈ F, 0 ≤ x ∧ x ≤ 255) ∧ N ≤ 100000
def RR (w0 : World) (g : Nat) (A : Option Addr) (N c : Nat) (F : List Int) (s : St) (W : World) : Prop :=
  V.RRb g A N c F s W ∧ Below w0.heap.size w0 W
section
variable {w0 W W' : World} {g : Nat} {A : Option Addr} {N c : Nat} {F : List Int} {s : St}
theorem RR_below (h : RR w0 g A N c F s W) (hb : Below W.heap.size W W') : RR w0 g A N c F s W' := by
  obtain ⟨⟨I, h1, h2⟩, h3⟩ := h
  exact ⟨⟨I, box_keep h1 hb, h2⟩, below_step h3 hb⟩
theorem RR_grown {o : Option Nat} (h : RR w0 g A N c F s W) (hg : W.grownBy W' o) (hne : some g ≠ o) (h0 : ∀ k, o = some k → w0.heap.size ≤ k) : RR w0 g A N c F s W' := by
  obtain ⟨⟨I, h1, h2⟩, h3⟩ := h
  exact ⟨⟨I, blk_grown h1 hg hne, h2⟩, h3.grown hg h3.size h0⟩
theorem RR_C (hf : FS w0 g A N c F) (h : RR w0 g A N c F s W) : U8.C W A N F := Kd.C_below hf.1 h.2
end
set_option maxRecDepth 100000 in
theorem rnumS_calls (w0 W : World) (g : Nat) (A : Option Addr) (N c : Nat) (F : List Int) (s : St) (hf : FS w0 g A N c F) (h : RR w0 g A N c F s W) :
    Calls Try.prog 39 #[.pointer (some ⟨g, 0, none⟩)] W fun e w' => e = .returned (.int .i64 (numS s).1) ∧ RR w0 g A N c F (numS s).2 w' ∧ W.grownBy w' (some g) := by
  have hC := RR_C hf h
  have HH := Aside0.mk h
  obtain ⟨hf1, hf2, hf3, hf4, hf5⟩ := hf
  obtain ⟨⟨I, h1, h2⟩, h3⟩ := h
  obtain ⟨X, er⟩ := s
  simp only at h1 h2
  by_cases he : er = 0
  · subst he
    obtain ⟨hI, hD⟩ := h2 rfl
    refine (V.refnumI_calls g W A N c F I hI h1 hC hf3 hf4 hf5).mono ?_
    rw [hD]
    rintro e w' ⟨rfl, a1, a2⟩
    have e1 : numS (X, 0) = ((V.numG 0 0 X).1, (V.numG 0 0 X).2) := by unfold numS; rw [if_pos rfl]
    rw [e1]
    exact ⟨rfl, ⟨a1, h3.grown a2 h3.size (fun k e => by cases e; exact hf2)⟩, a2⟩
  · have e1 : numS (X, er) = (0, (X, er)) := by unfold numS; rw [if_neg he]
    rw [e1]
    obtain ⟨b0, b1, b2⟩ := V.rfr_cells h1
    have hd : (er == 0) = false := beq_eq_false_iff_ne.2 he
    clear hC hf1 hf2 hf3 hf4 hf5 h1 h2 h3 e1
    go_enter Try.func39, Try.ntmps39
    go_wp2
    go_ret
    exact ⟨rfl, HH.out, World.grownBy.refl _ _⟩
set_option maxRecDepth 100000 in
set_option maxHeartbeats 2000000 in
theorem rtextS_calls (w0 W : World) (g : Nat) (A : Option Addr) (N c : Nat) (F : List Int) (s : St) (most : Int) (hf : FS w0 g A N c F) (h : RR w0 g A N c F s W) (hok : okS s) (hm : most ≤ 100000) :
    Calls Try.prog 40 #[.pointer (some ⟨g, 0, none⟩), .int .i64 most] W fun e w' => e = .returned (.string (textS most s).1) ∧ RR w0 g A N c F (textS most s).2 w' ∧ W.grownBy w' (some g) := by
  have HF := Aside0.mk hf
  have HH := Aside0.mk h
  obtain ⟨ok1, ⟨v1, v2⟩, _⟩ := okS_num hok
  unfold textS
  obtain ⟨M, hM⟩ : ∃ M, numS s = M := ⟨_, rfl⟩
  have HN := Aside0.mk hM
  rw [hM] at v1 v2 ok1 ⊢
  obtain ⟨n, X, er⟩ := M
  simp only at v1 v2 ok1 ⊢
  obtain ⟨T, hT⟩ : ∃ T : ByteArray × St, (if er ≠ 0 then (({ data := #[] } : ByteArray), (X, er)) else if most < n then ({ data := #[] }, ([], 5)) else if (X.length : Int) < n then ({ data := #[] }, ([], 3)) else (strOfNums (X.take n.toNat), (X.drop n.toNat, 0))) = T := ⟨_, rfl⟩
  rw [hT]
  have HT := Aside0.mk hT
  clear hf h hok hM hT
  go_enter Try.func40, Try.ntmps40
  go_wp2_with fail
  (with_reducible refine (rnumS_calls w0 W g A N c F s HF.out HH.out).mono ?_)
  rw [HN.out]
  rintro e w1 ⟨rfl, hR1, hg1⟩
  dsimp only
  obtain ⟨⟨I, h1, h2⟩, h3⟩ := hR1
  simp only at h1 h2
  obtain ⟨b0, b1, b2⟩ := V.rfr_cells h1
  have H1 := Aside0.mk h1
  have H3 := Aside0.mk h3
  have HG1 := Aside0.mk hg1
  by_cases he : er = 0
  · subst he
    obtain ⟨hI, hD⟩ := h2 rfl
    have hXl : X.length = N - I := by rw [← hD, List.length_drop, HF.out.1.1]
    obtain ⟨L, hL⟩ : ∃ L, X.length = L := ⟨_, rfl⟩
    have hT := HT.out
    rw [if_neg (fun h => h rfl), hL] at hT
    have HD := Aside0.mk hD
    have hN5 : N ≤ 100000 := HF.out.2.2.2.2
    have hIN : (N : Int) - (I : Int) = (L : Int) := by omega
    have hw1 : IntKind.i64.wrap ((N : Int) - (I : Int)) = (L : Int) := by rw [IntWalk.i64_in _ (by omega)]; exact hIN
    clear h1 h2 h3 hg1 hD
    by_cases hmo : most < n
    · rw [if_pos hmo] at hT
      subst hT
      clear HT
      go_wp2_with fail
      (with_reducible refine (V.rfailI_calls g _ _ _ _ _ _ H1.out).mono ?_)
      rintro e w9 ⟨⟨v9, rfl⟩, rfl⟩
      go_wp2_with fail
      go_ret
      exact ⟨rfl, ⟨⟨I, blk_put H1.out 2 _ rfl, fun h => by cases h⟩, H3.out.grown (V.set1_grown _ _ _ _) H3.out.size (fun k e => by cases e; exact HF.out.2.1)⟩, HG1.out.trans (V.set1_grown _ _ _ _)⟩
    · rw [if_neg hmo] at hT
      have hmo' : n ≤ most := by omega
      by_cases hlo : (L : Int) < n
      · rw [if_pos hlo] at hT
        subst hT
        clear HT
        go_wp2_with fail
        go_quiet (fail)
        have hbr : Below w1.heap.size w1 (w1.drewN nq) := by repeat (with_reducible first | exact Below.refl _ _ | apply pw_below_drewN)
        have H4 := Aside0.mk (box_keep H1.out hbr)
        have HBR := Aside0.mk hbr
        clear hbr
        go_wp2_with fail
        (with_reducible refine (V.rfailI_calls g _ _ _ _ _ _ H4.out).mono ?_)
        rintro e w9 ⟨⟨v9, rfl⟩, rfl⟩
        go_wp2_with fail
        go_ret
        exact ⟨rfl, ⟨⟨I, blk_put H4.out 2 _ rfl, fun h => by cases h⟩, (below_step H3.out HBR.out).grown (V.set1_grown _ _ _ _) (below_step H3.out HBR.out).size (fun k e => by cases e; exact HF.out.2.1)⟩, HG1.out.trans (V.KG HBR.out _ _)⟩
      · rw [if_neg hlo] at hT
        have hlo' : n ≤ (L : Int) := by omega
        obtain ⟨m, rfl⟩ : ∃ m : Nat, n = (m : Int) := ⟨n.toNat, by omega⟩
        have hlN : ¬ L < m := by omega
        have hlN2 : m ≤ L := by omega
        rw [Int.toNat_natCast] at hT
        subst hT
        clear HT
        obtain ⟨J, hJ', hJa, hJb⟩ : ∃ J, Aside0 (I + m = J) ∧ I + m ≤ J ∧ J ≤ I + m := ⟨_, ⟨rfl⟩, Nat.le_refl _, Nat.le_refl _⟩
        have hw2 : IntKind.i64.wrap ((I : Int) + (m : Int)) = (J : Int) := by rw [IntWalk.i64_in _ (by omega)]; omega
        have hFl : F.length = N := HF.out.1.1
        obtain ⟨A', c', hrun, hCC, hcc⟩ := cutm A c F (I : Int) (J : Int) (by omega) (by omega) (by omega) (by have := HF.out.2.2.1; omega)
        rw [Int.toNat_natCast, Int.toNat_natCast, hFl] at hrun hCC
        have ecut : (F.take J).drop I = X.take m := by rw [List.drop_take, HD.out]; exact congrArg (fun q => X.take q) (by omega)
        rw [ecut] at hrun hCC
        have hml : (X.take m).length = m := by rw [List.length_take]; omega
        rw [hml] at hrun hCC
        clear hml
        have edrop : F.drop J = X.drop m := by rw [← HD.out, List.drop_drop]; exact congrArg (fun q => F.drop q) (by omega)
        have HED := Aside0.mk edrop
        have HCC := Aside0.mk hCC
        clear hCC hcc ecut edrop
        go_wp2_with fail
        go_quiet (fail)
        have hbr : Below w1.heap.size w1 (w1.drewN nq) := by repeat (with_reducible first | exact Below.refl _ _ | apply pw_below_drewN)
        have H4 := Aside0.mk (box_keep H1.out hbr)
        have H34 := Aside0.mk (below_step H3.out hbr)
        have HG4 : Aside0 (W.grownBy (w1.drewN nq) (some g)) := ⟨HG1.out.trans ⟨hbr.os, hbr.tape, hbr.output, hbr.size, fun k hk _ => hbr.block k hk⟩⟩
        clear hbr b0 b1 b2
        obtain ⟨w2, hw⟩ : ∃ w2, w1.drewN nq = w2 := ⟨_, rfl⟩
        rw [hw] at H4 H34 HG4 ⊢
        clear hw
        obtain ⟨b0, b1, b2⟩ := V.rfr_cells (box_keep H4.out (below_drew1 (Below.refl _ w2)))
        have HCV := Aside0.mk (C_string' (c := c') (HCC.out _ (Kd.C_below HF.out.1 (below_step H34.out (below_drew1 (Below.refl _ w2))))))
        have hcv := HCV.out
        have hJN : J ≤ N := by omega
        clear hFl hJa hJb hL hXl hIN hw1 HG1 HCC HCV
        go_wp2_with fail
        go_still (by kernel_rfl)
        have H6 := Aside0.mk (box_keep H4.out (below_drew1 (Below.refl _ w2)))
        have f1 := frozen_of_row _ _ 1 _ _ H6.out
        go_wp2_with fail
        go_ret
        exact ⟨rfl, ⟨⟨J, blk_put H6.out 1 _ rfl, fun _ => ⟨by omega, HED.out⟩⟩, (below_step H34.out (below_drew1 (Below.refl _ w2))).grown (V.set1_grown _ _ _ _) (below_step H34.out (below_drew1 (Below.refl _ w2))).size (fun k e => by cases e; exact HF.out.2.1)⟩, HG4.out.trans (V.KG (below_drew1 (Below.refl _ w2)) _ _)⟩
  · have hT := HT.out
    rw [if_pos he] at hT
    subst hT
    have hd : (er == 0) = false := beq_eq_false_iff_ne.2 he
    clear h1 h2 h3 hg1 HT
    go_wp2_with fail
    go_ret
    exact ⟨rfl, ⟨⟨I, H1.out, fun h => absurd h he⟩, H3.out⟩, HG1.out⟩
end Go.Proofs.Ytmkabbfglijckaa.A
