/- A text read of bytes: the program's. -/
import Derived.Test.YtmkabbfglijckaaOAKeeps
import Derived.ScopeJumps
import Derived.WalkMore
namespace Go
/-- A scope whose run jumps back to the one label in it: what lies behind the label is walked once. -/
theorem wp_scope_goto {P : Program} {Q : Exit → Act → World → Prop} {a : Act} {w : World} {rest : Code} (pre : Code → Code) (l : Nat) (J : Act → World → Prop) (μ : Act → World → Nat)
    (hf : findLabel (pre ((Code.label l).seq rest)) l = some (Code.skip.seq rest))
    (first : ∀ (X : Code) (Q1 : Exit → Act → World → Prop), (∀ a w, J a w → X.wp P Q1 a w) → (pre X).wp P Q1 a w)
    (pass : ∀ a w, J a w → rest.wp P (Exit.jump l (fun a' w' => J a' w' ∧ μ a' w' < μ a w) Q) a w) : (Code.scope (pre ((Code.label l).seq rest))).wp P Q a w := by
  refine wp_scope_jumps l J μ hf (first _ _ fun a1 w1 hJ => ?_) (fun a1 w1 hJ => wp_seq (wp_skip (pass a1 w1 hJ)))
  refine wp_seq (wp_label (Code.wp_mono ?_ (pass a1 w1 hJ)))
  intro e a2 w2 h
  cases e <;> first | exact h | exact ⟨h.1, h.2.1⟩
end Go
namespace Go.Proofs.Ytmkabbfglijckaa.A.O
open Go.RowKit Go.Proofs.YtmkabbfglijckaaW.PrintWords Go.Proofs.YtmkabbfglijckaaW.PrintLast Go.Proofs.YtmkabbfglijckaaW.PrintMore
set_option linter.unusedVariables false
set_option linter.unusedSimpArgs false

/-- A text at the beginning of bytes: it, what is behind, the error. -/
def wordsL : List Int → List Int → List Int × List Int × Int
  | [], _ => ([], [], 3)
  | b :: r, acc => if b = 0 then (match r with
      | [] => ([], [], 3)
      | c :: r' => if c = 255 then wordsL r' (acc ++ [0]) else if c = 1 then (acc, r', 0) else ([], [], 2)) else wordsL r (acc ++ [b])
def errW (b : List Int) : Int := (wordsL b []).2.2
def restW (b : List Int) : List Int := (wordsL b []).2.1
def wordsP (b : List Int) : Pt := if errW b = 0 then ⟨true, 0, strOfNums (wordsL b []).1⟩ else ⟨false, 0, { data := #[] }⟩
theorem wordsL_cons (x : Int) (r acc : List Int) : wordsL (x :: r) acc = if x = 0 then (match r with
      | [] => ([], [], 3)
      | c :: r' => if c = 255 then wordsL r' (acc ++ [0]) else if c = 1 then (acc, r', 0) else ([], [], 2)) else wordsL r (acc ++ [x]) := by
  cases r <;> rfl
theorem wordsL_drop (b : List Int) (i : Nat) (acc : List Int) (h : i < b.length) : wordsL (b.drop i) acc = if b.getD i 0 = 0 then (if i + 1 < b.length then (if b.getD (i + 1) 0 = 255 then wordsL (b.drop (i + 2)) (acc ++ [0]) else if b.getD (i + 1) 0 = 1 then (acc, b.drop (i + 2), 0) else ([], [], 2)) else ([], [], 3)) else wordsL (b.drop (i + 1)) (acc ++ [b.getD i 0]) := by
  have e1 : b.getD i 0 = b[i] := by simp [List.getD_eq_getElem?_getD, h]
  rw [e1, List.drop_eq_getElem_cons h, wordsL_cons]
  by_cases h0 : b[i] = 0
  · rw [if_pos h0, if_pos h0]
    by_cases h2 : i + 1 < b.length
    · have e2 : b.getD (i + 1) 0 = b[i + 1] := by simp [List.getD_eq_getElem?_getD, h2]
      rw [if_pos h2, e2, List.drop_eq_getElem_cons h2]
    · rw [if_neg h2, List.drop_of_length_le (by omega)]
  · rw [if_neg h0, if_neg h0]
theorem wordsL_end (b : List Int) (i : Nat) (acc : List Int) (h : b.length ≤ i) : wordsL (b.drop i) acc = ([], [], 3) := by
  rw [List.drop_of_length_le h]
  rfl

theorem cutfN (A : Option Addr) (n c : Nat) (l : List Int) (j : Int) (hn : l.length = n) (h0 : 0 ≤ j) (hm : j ≤ n) (hc : n ≤ c) :
    ∃ (A' : Option Addr) (c' : Nat), (∀ W : World, (Instr.slice 29 (.slice A n c) (some (.int .i64 j)) none none).run Try.prog W = .ok (.slice A' (l.drop j.toNat).length c') W) ∧
      (∀ w : World, U8.C w A n l → U8.C w A' (l.drop j.toNat).length (l.drop j.toNat)) ∧ (l.drop j.toNat).length ≤ c' := by
  subst hn
  exact cutf A c l j h0 hm hc
set_option maxRecDepth 100000 in
set_option maxHeartbeats 4000000 in
theorem words_calls (A : Option Addr) (n c : Nat) (b : List Int) (w : World) (hr : U8.C w A n b) (hc : n ≤ c) (hb : ∀ x ∈ b, 0 ≤ x ∧ x ≤ 255) (hn : n ≤ 1000000) :
    Calls Try.prog 59 #[.slice A n c] w fun e w' => ∃ A' c', e = .returned (.tuple #[(wordsP b).val, .slice A' (restW b).length c', .int .i64 (errW b)]) ∧ (restW b).length ≤ c' ∧ (∀ W : World, U8.C W A n b → U8.C W A' (restW b).length (restW b)) ∧ Below w.heap.size w w' := by
  have hnl : n = b.length := hr.1.symm
  have HN := Aside0.mk hnl
  have HR := Aside0.mk hr
  have HBY := Aside0.mk hb
  clear hnl hr hb
  go_enter Try.func59, Try.ntmps59
  go_wp2
  refine wp_scope_goto (fun X => Code.seq _ (Code.seq _ X)) 0 (fun a' w' => ∃ (i : Nat) (acc : List Int) (v5 u7 u8 u9 u10 u11 u12 u13 u14 u15 u16 u17 u18 u19 u20 u21 u22 u23 u24 u25 u26 u27 u28 u29 u30 u31 u32 u33 u34 u35 u36 u37 u38 u39 u40 u41 u42 u43 u44 u45 u46 u47 u48 u49 u50 u51 u52 u53 : Value), a' = { tmps := #[.slice A n c, undef, .pointer (some ⟨w.heap.size, 0, none⟩), .slice none 0 0, .int .i64 0, v5, .int .i64 i, u7, u8, u9, u10, u11, u12, u13, u14, u15, u16, u17, u18, u19, u20, u21, u22, u23, u24, u25, u26, u27, u28, u29, u30, u31, u32, u33, u34, u35, u36, u37, u38, u39, u40, u41, u42, u43, u44, u45, u46, u47, u48, u49, u50, u51, u52, u53], defers := [] } ∧ i ≤ n ∧ acc.length ≤ i ∧ Aside0 (wordsL (b.drop i) acc = wordsL b []) ∧ Aside0 (OB w' w.heap.size v5 acc) ∧ Aside0 (w'.heap[w.heap.size]? = some (.cells #[.bool false, .int .i64 0, .string { data := #[] }] 78 (0, 0))) ∧ Aside0 (Below w.heap.size w w')) (fun a' _ => n - (intOf (a'.tmps.getD 6 undef)).toNat) rfl ?first ?pass
  case first =>
    intro X Q1 hX
    go_wp2
    refine hX _ _ ⟨0, [], _, _, _, _, _, _, _, _, _, _, _, _, _, _, _, _, _, _, _, _, _, _, _, _, _, _, _, _, _, _, _, _, _, _, _, _, _, _, _, _, _, _, _, _, _, _, _, _, rfl, Nat.zero_le _, Nat.le_refl _, ⟨by simp⟩, ⟨Kd.R_nil _ _ _ _ _⟩, ⟨heap_alloc_new w _⟩, ⟨below_alloc (Below.refl _ _) _⟩⟩
  case pass =>
    rintro a' w' ⟨i, acc, v5, u7, u8, u9, u10, u11, u12, u13, u14, u15, u16, u17, u18, u19, u20, u21, u22, u23, u24, u25, u26, u27, u28, u29, u30, u31, u32, u33, u34, u35, u36, u37, u38, u39, u40, u41, u42, u43, u44, u45, u46, u47, u48, u49, u50, u51, u52, u53, rfl, hi, hacc, HE, HO, HX, HB⟩
    obtain ⟨b0, b1, b2⟩ := box_cells HX.out
    have f0 := frozen_of_row _ _ 0 _ _ HX.out
    have f1 := frozen_of_row _ _ 1 _ _ HX.out
    have f2 := frozen_of_row _ _ 2 _ _ HX.out
    by_cases hin : i < n
    · have hd := wordsL_drop b i acc (by rw [← HN.out]; exact hin)
      rw [HE.out] at hd
      have hx := byte_of HBY.out i
      obtain ⟨ad, rfl, hcell0⟩ := C_atN HR.out i hin
      have hcell := pw_cell_below HB.out hcell0
      generalize b.getD i 0 = x at *
      clear hcell0
      have i1 : (0 : Int) ≤ (i : Int) := by omega
      have i2 : (i : Int) < (n : Int) := by omega
      have HN1 := HN.out
      by_cases hx0 : x = 0
      · rw [if_pos hx0] at hd
        subst hx0
        by_cases hi1 : i + 1 < n
        · rw [if_pos (by rw [← HN1]; exact hi1)] at hd
          have hy := byte_of HBY.out (i + 1)
          obtain ⟨ad', e', hcell1⟩ := C_atN HR.out (i + 1) hi1
          injection e' with e'
          subst e'
          have hcely := pw_cell_below HB.out hcell1
          rw [Addr.add_succ'] at hcely
          generalize b.getD (i + 1) 0 = y at *
          clear hcell1
          have i3 : (i : Int) + 1 < (n : Int) := by omega
          have i4 : ¬ (i : Int) + 1 = (n : Int) := by omega
          have i5 : (0 : Int) ≤ (i : Int) + 1 := by omega
          by_cases hy255 : y = 255
          · rw [if_pos hy255] at hd
            subst hy255
            have HD := Aside0.mk hd
            clear hd HN1
            go_wp2_with ((with_reducible refine gate_dst (N := 41) rfl ?_); refine app_byte rfl rfl rfl rfl HO.out HB.out.size (by omega) ?_; intro v6 w6 HO6 hb6 hg6; have HX6 := Aside0.mk (box_grown HX.out hg6 (Kd.R_ne HO.out HX.out (by decide))))
            go_step3
            refine ⟨rfl, ⟨i + 2, acc ++ [0], v6, _, _, _, _, _, _, _, _, _, _, _, _, _, _, _, _, _, _, _, _, _, _, _, _, _, _, _, _, _, _, _, _, _, _, _, _, _, _, _, _, _, _, _, _, _, _, _, rfl, by omega, by simp; omega, ⟨HD.out.symm⟩, ⟨HO6⟩, HX6, ⟨HB.out.trans hb6⟩⟩, ?_⟩
            simp [intOf]
            omega
          · rw [if_neg hy255] at hd
            by_cases hy1 : y = 1
            · rw [if_pos hy1] at hd
              subst hy1
              obtain ⟨A2, c2, hrun, hC2, hl2⟩ := cutfN (some ad) n c b ((i : Int) + 2) HN1.symm (by omega) (by omega) hc
              have e2 : ((i : Int) + 2).toNat = i + 2 := by omega
              simp only [e2] at hrun hC2 hl2
              have HD := Aside0.mk hd
              have HC2 := Aside0.mk hC2
              have hE5 := OB_string (Kd.R_drew HO.out)
              obtain ⟨m, hm⟩ : ∃ m, (b.drop (i + 2)).length = m := ⟨_, rfl⟩
              rw [hm] at hl2
              simp only [hm] at hrun
              have HM := Aside0.mk hm
              clear hd HN1 e2 hC2 hm
              go_wp2_with fail
              go_region
              go_wp2
              simp only [Exit.jump]
              refine bodyPost_ret (v := .tuple #[.agg #[.bool true, .int .i64 0, .string (strOfNums acc)], .slice A2 m c2, .int .i64 0]) (by simp [results, Try.results59, go_sem, *]) rfl ?_
              have hE := HD.out
              have hb3 := ((HB.out.drew.setCell (p := ⟨w.heap.size, 0, none⟩) (Nat.le_refl _) (.bool true)).setCell (p := ⟨w.heap.size, 1, none⟩) (Nat.le_refl _) (.int .i64 0)).setCell (p := ⟨w.heap.size, 2, none⟩) (Nat.le_refl _) (.string (strOfNums acc))
              refine ⟨A2, c2, ?_, ?_, ?_, hb3⟩
              · rw [wordsP, errW, restW, hE, HM.out]; rfl
              · rw [restW, hE, HM.out]; exact hl2
              · rw [restW, hE]; exact HC2.out
            · rw [if_neg hy1] at hd
              have HD := Aside0.mk hd
              clear hd HN1
              go_wp2_with fail
              simp only [Exit.jump]
              refine bodyPost_ret (v := .tuple #[.agg #[.bool false, .int .i64 0, .string { data := #[] }], .slice none 0 0, .int .i64 2]) (by simp [results, Try.results59, go_sem, *]) rfl ?_
              have hE : wordsL b [] = ([], [], 2) := HD.out
              refine ⟨none, 0, ?_, ?_, ?_, ?_⟩
              · rw [wordsP, errW, restW, hE]; rfl
              · rw [restW, hE]; exact Nat.le_refl _
              · rw [restW, hE]; exact fun W _ => Kd.C_nil _ _
              · exact (HB.out.setCell (Nat.le_refl _) _ |>.setCell (Nat.le_refl _) _ |>.setCell (Nat.le_refl _) _)
        · rw [if_neg (by rw [← HN1]; omega)] at hd
          have i4 : (i : Int) + 1 = (n : Int) := by omega
          have HD := Aside0.mk hd
          clear hd HN1
          go_wp2_with fail
          simp only [Exit.jump]
          refine bodyPost_ret (v := .tuple #[.agg #[.bool false, .int .i64 0, .string { data := #[] }], .slice none 0 0, .int .i64 3]) (by simp [results, Try.results59, go_sem, *]) rfl ?_
          have hE : wordsL b [] = ([], [], 3) := HD.out
          refine ⟨none, 0, ?_, ?_, ?_, ?_⟩
          · rw [wordsP, errW, restW, hE]; rfl
          · rw [restW, hE]; exact Nat.le_refl _
          · rw [restW, hE]; exact fun W _ => Kd.C_nil _ _
          · exact (HB.out.setCell (Nat.le_refl _) _ |>.setCell (Nat.le_refl _) _ |>.setCell (Nat.le_refl _) _)
      · rw [if_neg hx0] at hd
        have HD := Aside0.mk hd
        clear hd HN1
        have hne : ¬ (i : Int) = (n : Int) := by omega
        go_wp2_with ((with_reducible refine gate_dst (N := 23) rfl ?_); refine app_byte rfl rfl rfl rfl HO.out HB.out.size (by omega) ?_; intro v6 w6 HO6 hb6 hg6; have HX6 := Aside0.mk (box_grown HX.out hg6 (Kd.R_ne HO.out HX.out (by decide))))
        go_step3
        refine ⟨rfl, ⟨i + 1, acc ++ [x], v6, _, _, _, _, _, _, _, _, _, _, _, _, _, _, _, _, _, _, _, _, _, _, _, _, _, _, _, _, _, _, _, _, _, _, _, _, _, _, _, _, _, _, _, _, _, _, _, rfl, by omega, by simp; omega, ⟨HD.out.symm⟩, ⟨HO6⟩, HX6, ⟨HB.out.trans hb6⟩⟩, ?_⟩
        simp [intOf]
        omega
    · obtain rfl : i = n := by omega
      have hd := wordsL_end b i acc (by rw [← HN.out]; exact Nat.le_refl _)
      rw [HE.out] at hd
      have HD := Aside0.mk hd
      clear hd
      go_wp2_with fail
      simp only [Exit.jump]
      refine bodyPost_ret (v := .tuple #[.agg #[.bool false, .int .i64 0, .string { data := #[] }], .slice none 0 0, .int .i64 3]) (by simp [results, Try.results59, go_sem, *]) rfl ?_
      have hE : wordsL b [] = ([], [], 3) := HD.out
      refine ⟨none, 0, ?_, ?_, ?_, ?_⟩
      · rw [wordsP, errW, restW, hE]; rfl
      · rw [restW, hE]; exact Nat.le_refl _
      · rw [restW, hE]; exact fun W _ => Kd.C_nil _ _
      · exact (HB.out.setCell (Nat.le_refl _) _ |>.setCell (Nat.le_refl _) _ |>.setCell (Nat.le_refl _) _)

end Go.Proofs.Ytmkabbfglijckaa.A.O
