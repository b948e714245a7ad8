/- OTwo -/
import Derived.Test.YtmfnbkghfmeekaaZOOne
import Derived.ScopeJumps
import Derived.WalkMore
namespace Go
theorem wp_scope_goto {P : Program} {Q : Exit → Act → World → Prop} {a : Act} {w : World} {rest : Code} (pre : Code → Code) (l : Nat) (J : Act → World → Prop) (μ : Act → World → Nat)
    (hf : findLabel (pre ((Code.label l).seq rest)) l = some (Code.skip.seq rest))
    (first : ∀ (X : Code) (Q1 : Exit → Act → World → Prop), (∀ a w, J a w → X.wp P Q1 a w) → (pre X).wp P Q1 a w)
    (pass : ∀ a w, J a w → rest.wp P (Exit.jump l (fun a' w' => J a' w' ∧ μ a' w' < μ a w) Q) a w) : (Code.scope (pre ((Code.label l).seq rest))).wp P Q a w := by
  refine wp_scope_jumps l J μ hf (first _ _ fun a1 w1 hJ => ?_) (fun a1 w1 hJ => wp_seq (wp_skip (pass a1 w1 hJ)))
  refine wp_seq (wp_label (Code.wp_mono ?_ (pass a1 w1 hJ)))
  intro e a2 w2 h
  cases e <;> first | exact h | exact ⟨h.1, h.2.1⟩
end Go
namespace Go.Proofs.Ytmfnbkghfmeekaa.A.O
open Go.RowKit Go.Proofs.YtmfnbkghfmeekaaW.PrintWords Go.Proofs.YtmfnbkghfmeekaaW.PrintLast Go.Proofs.YtmfnbkghfmeekaaW.PrintMore
set_option linter.unusedVariables false
set_option linter.unusedSimpArgs false
def wordsL : List Int → List Int → List Int × List Int × Int
  | [], _ => ([], [], 3)
  | b :: r, acc => if b = 0 then (match r with
      | [] => ([], [], 3)
      | c :: r' => if c = 255 then wordsL r' (acc ++ [0]) else if c = 1 then (acc, r', 0) else ([], [], 2)) else wordsL r (acc ++ [b])
def errW (b : List Int) : Int := (wordsL b []).2.2
def restW (b : List Int) : List Int := (wordsL b []).2.1
def wordsP (b : List Int) : Pt := if errW b = 0 then ⟨true, 0, strOfNums (wordsL b []).1⟩ else ⟨false, 0, { data := #[] }⟩
theorem wordsL_cons (x : Int) (r acc : List Int) : wordsL (x :: r) acc = if x = 0 then (match r with
      | [] => ([], [], 3)
      | c :: r' => if c = 255 then wordsL r' (acc ++ [0]) else if c = 1 then (acc, r', 0) else ([], [], 2)) else wordsL r (acc ++ [x]) := by
  cases r <;> rfl
theorem wordsL_drop (b : List Int) (i : Nat) (acc : List Int) (h : i < b.length) : wordsL (b.drop i) acc = if b.getD i 0 = 0 then (if i + 1 < b.length then (if b.getD (i + 1) 0 = 255 then wordsL (b.drop (i + 2)) (acc ++ [0]) else if b.getD (i + 1) 0 = 1 then (acc, b.drop (i + 2), 0) else ([], [], 2)) else ([], [], 3)) else wordsL (b.drop (i + 1)) (acc ++ [b.getD i 0]) := by
  have e1 : b.getD i 0 = b[i] := by simp [List.getD_eq_getElem?_getD, h]
  rw [e1, List.drop_eq_getElem_cons h, wordsL_cons]
  by_cases h0 : b[i] = 0
  · rw [if_pos h0, if_pos h0]
    by_cases h2 : i + 1 < b.length
    · have e2 : b.getD (i + 1) 0 = b[i + 1] := by simp [List.getD_eq_getElem?_getD, h2]
      rw [if_pos h2, e2, List.drop_eq_getElem_cons h2]
    · rw [if_neg h2, List.drop_of_length_le (by omega)]
  · rw [if_neg h0, if_neg h0]
theorem wordsL_end (b : List Int) (i : Nat) (acc : List Int) (h : b.length ≤ i) : wordsL (b.drop i) acc = ([], [], 3) := by
  rw [List.drop_of_length_le h]
  rfl
theorem cutfN (A : Option Addr) (n c : Nat) (l : List Int) (j : Int) (hn : l.length = n) (h0 : 0 ≤ j) (hm : j ≤ n) (hc : n ≤ c) :
    ∃ (A' : Option Addr) (c' : Nat), (∀ W : World, (Instr.slice 31 (.slice A n c) (some (.int .i64 j)) none none).run Try.prog W = .ok (.slice A' (l.drop j.toNat).length c') W) ∧
      (∀ w : World, U8.C w A n l → U8.C w A' (l.drop j.toNat).length (l.drop j.toNat)) ∧ (l.drop j.toNat).length ≤ c' := by
  subst hn
  exact cutf A c l j h0 hm hc
set_option maxRecDepth 100000 in
set_option maxHeartbeats 4000000 in
theorem words_calls (A : Option Addr) (n c : Nat) (b : List Int) (w : World) (hr : U8.C w A n b) (hc : n ≤ c) (hb : ∀ x ∈ b, 0 ≤ x ∧ x ≤ 255) (hn : n ≤ 1000000) :
    Calls Try.prog 108 #[.slice A n c] w fun e w' => ∃ A' c', e = .returned (.tuple #[(wordsP b).val, .slice A' (restW b).length c', .int .i64 (errW b)]) ∧ (restW b).length ≤ c' ∧ (∀ W : World, U8.C W A n b → U8.C W A' (restW b).length (restW b)) ∧ Below w.heap.size w w' := by
  have hnl : n = b.length := hr.1.symm
  have HN := Aside0.mk hnl
  have HR := Aside0.mk hr
  have HBY := Aside0.mk hb
  clear hnl hr hb
  go_enter Try.func108, Try.ntmps108
  go_wp2
  refine wp_scope_goto (fun X => Code.seq _ (Code.seq _ X)) 0 (fun a' w' => ∃ (i : Nat) (acc : List Int) (v5 u7 u8 u9 u10 u11 u12 u13 u14 u15 u16 u17 u18 u19 u20 u21 u22 u23 u24 u25 u26 u27 u28 u29 u30 u31 u32 u33 u34 u35 u36 u37 u38 u39 u40 u41 u42 u43 u44 u45 u46 u47 u48 u49 u50 u51 u52 u53 : Value), a' = { tmps := #[.slice A n c, undef, .pointer (some ⟨w.heap.size, 0, none⟩), .slice none 0 0, .int .i64 0, v5, .int .i64 i, u7, u8, u9, u10, u11, u12, u13, u14, u15, u16, u17, u18, u19, u20, u21, u22, u23, u24, u25, u26, u27, u28, u29, u30, u31, u32, u33, u34, u35, u36, u37, u38, u39, u40, u41, u42, u43, u44, u45, u46, u47, u48, u49, u50, u51, u52, u53], defers := [] } ∧ i ≤ n ∧ acc.length ≤ i ∧ Aside0 (wordsL (b.drop i) acc = wordsL b []) ∧ Aside0 (OB w' w.heap.size v5 acc) ∧ Aside0 (w'.heap[w.heap.size]? = some (.cells #[.bool false, .int .i64 0, .string { data := #[] }] 94 (0, 0))) ∧ Aside0 (Below w.heap.size w w')) (fun a' _ => n - (intOf (a'.tmps.getD 6 undef)).toNat) rfl ?first ?pass
  case first =>
    intro X Q1 hX
    go_wp2
    refine hX _ _ ⟨0, [], _, _, _, _, _, _, _, _, _, _, _, _, _, _, _, _, _, _, _, _, _, _, _, _, _, _, _, _, _, _, _, _, _, _, _, _, _, _, _, _, _, _, _, _, _, _, _, _, rfl, Nat.zero_le _, Nat.le_refl _, ⟨by simp⟩, ⟨Kd.R_nil _ _ _ _ _⟩, ⟨heap_alloc_new w _⟩, ⟨below_alloc (Below.refl _ _) _⟩⟩
  case pass =>
    rintro a' w' ⟨i, acc, v5, u7, u8, u9, u10, u11, u12, u13, u14, u15, u16, u17, u18, u19, u20, u21, u22, u23, u24, u25, u26, u27, u28, u29, u30, u31, u32, u33, u34, u35, u36, u37, u38, u39, u40, u41, u42, u43, u44, u45, u46, u47, u48, u49, u50, u51, u52, u53, rfl, hi, hacc, HE, HO, HX, HB⟩
    obtain ⟨b0, b1, b2⟩ := box_cells HX.out
    have f0 := frozen_of_row _ _ 0 _ _ HX.out
    have f1 := frozen_of_row _ _ 1 _ _ HX.out
    have f2 := frozen_of_row _ _ 2 _ _ HX.out
    by_cases hin : i < n
    · have hd := wordsL_drop b i acc (by rw [← HN.out]; exact hin)
      rw [HE.out] at hd
      have hx := byte_of HBY.out i
      obtain ⟨ad, rfl, hcell0⟩ := C_atN HR.out i hin
      have hcell := pw_cell_below HB.out hcell0
      generalize b.getD i 0 = x at *
      clear hcell0
      have i1 : (0 : Int) ≤ (i : Int) := by omega
      have i2 : (i : Int) < (n : Int) := by omega
      have HN1 := HN.out
      by_cases hx0 : x = 0
      · rw [if_pos hx0] at hd
        subst hx0
        by_cases hi1 : i + 1 < n
        · rw [if_pos (by rw [← HN1]; exact hi1)] at hd
          have hy := byte_of HBY.out (i + 1)
          obtain ⟨ad', e', hcell1⟩ := C_atN HR.out (i + 1) hi1
          injection e' with e'
          subst e'
          have hcely := pw_cell_below HB.out hcell1
          rw [Addr.add_succ'] at hcely
          generalize b.getD (i + 1) 0 = y at *
          clear hcell1
          have i3 : (i : Int) + 1 < (n : Int) := by omega
          have i4 : ¬ (i : Int) + 1 = (n : Int) := by omega
          have i5 : (0 : Int) ≤ (i : Int) + 1 := by omega
          by_cases hy255 : y = 255
          · rw [if_pos hy255] at hd
            subst hy255
            have HD := Aside0.mk hd
            clear hd HN1
            go_wp2_with ((with_reducible refine gate_dst (N := 41) rfl ?_); refine app_byte rfl rfl rfl rfl HO.out HB.out.size (by omega) ?_; intro v6 w6 HO6 hb6 hg6; have HX6 := Aside0.mk (box_grown HX.out hg6 (Kd.R_ne HO.out HX.out (by decide))))
            go_step3
            refine ⟨rfl, ⟨i + 2, acc ++ [0], v6, _, _, _, _, _, _, _, _, _, _, _, _, _, _, _, _, _, _, _, _, _, _, _, _, _, _, _, _, _, _, _, _, _, _, _, _, _, _, _, _, _, _, _, _, _, _, _, rfl, by omega, by simp; omega, ⟨HD.out.symm⟩, ⟨HO6⟩, HX6, ⟨HB.out.trans hb6⟩⟩, ?_⟩
            simp [intOf]
            omega
          · rw [if_neg hy255] at hd
            by_cases hy1 : y = 1
            · rw [if_pos hy1] at hd
              subst hy1
              obtain ⟨A2, c2, hrun, hC2, hl2⟩ := cutfN (some ad) n c b ((i : Int) + 2) HN1.symm (by omega) (by omega) hc
              have e2 : ((i : Int) + 2).toNat = i + 2 := by omega
              simp only [e2] at hrun hC2 hl2
              have HD := Aside0.mk hd
              have HC2 := Aside0.mk hC2
              have hE5 := OB_string (Kd.R_drew HO.out)
              obtain ⟨m, hm⟩ : ∃ m, (b.drop (i + 2)).length = m := ⟨_, rfl⟩
              rw [hm] at hl2
              simp only [hm] at hrun
              have HM := Aside0.mk hm
              clear hd HN1 e2 hC2 hm
              go_wp2_with fail
              go_region
              go_wp2
              simp only [Exit.jump]
              refine bodyPost_ret (v := .tuple #[.agg #[.bool true, .int .i64 0, .string (strOfNums acc)], .slice A2 m c2, .int .i64 0]) (by simp [results, Try.results108, go_sem, *]) rfl ?_
              have hE := HD.out
              have hb3 := ((HB.out.drew.setCell (p := ⟨w.heap.size, 0, none⟩) (Nat.le_refl _) (.bool true)).setCell (p := ⟨w.heap.size, 1, none⟩) (Nat.le_refl _) (.int .i64 0)).setCell (p := ⟨w.heap.size, 2, none⟩) (Nat.le_refl _) (.string (strOfNums acc))
              refine ⟨A2, c2, ?_, ?_, ?_, hb3⟩
              · rw [wordsP, errW, restW, hE, HM.out]; rfl
              · rw [restW, hE, HM.out]; exact hl2
              · rw [restW, hE]; exact HC2.out
            · rw [if_neg hy1] at hd
              have HD := Aside0.mk hd
              clear hd HN1
              go_wp2_with fail
              simp only [Exit.jump]
              refine bodyPost_ret (v := .tuple #[.agg #[.bool false, .int .i64 0, .string { data := #[] }], .slice none 0 0, .int .i64 2]) (by simp [results, Try.results108, go_sem, *]) rfl ?_
              have hE : wordsL b [] = ([], [], 2) := HD.out
              refine ⟨none, 0, ?_, ?_, ?_, ?_⟩
              · rw [wordsP, errW, restW, hE]; rfl
              · rw [restW, hE]; exact Nat.le_refl _
              · rw [restW, hE]; exact fun W _ => Kd.C_nil _ _
              · exact (HB.out.setCell (Nat.le_refl _) _ |>.setCell (Nat.le_refl _) _ |>.setCell (Nat.le_refl _) _)
        · rw [if_neg (by rw [← HN1]; omega)] at hd
          have i4 : (i : Int) + 1 = (n : Int) := by omega
          have HD := Aside0.mk hd
          clear hd HN1
          go_wp2_with fail
          simp only [Exit.jump]
          refine bodyPost_ret (v := .tuple #[.agg #[.bool false, .int .i64 0, .string { data := #[] }], .slice none 0 0, .int .i64 3]) (by simp [results, Try.results108, go_sem, *]) rfl ?_
          have hE : wordsL b [] = ([], [], 3) := HD.out
          refine ⟨none, 0, ?_, ?_, ?_, ?_⟩
          · rw [wordsP, errW, restW, hE]; rfl
          · rw [restW, hE]; exact Nat.le_refl _
          · rw [restW, hE]; exact fun W _ => Kd.C_nil _ _
          · exact (HB.out.setCell (Nat.le_refl _) _ |>.setCell (Nat.le_refl _) _ |>.setCell (Nat.le_refl _) _)
      · rw [if_neg hx0] at hd
        have HD := Aside0.mk hd
        clear hd HN1
        have hne : ¬ (i : Int) = (n : Int) := by omega
        go_wp2_with ((with_reducible refine gate_dst (N := 23) rfl ?_); refine app_byte rfl rfl rfl rfl HO.out HB.out.size (by omega) ?_; intro v6 w6 HO6 hb6 hg6; have HX6 := Aside0.mk (box_grown HX.out hg6 (Kd.R_ne HO.out HX.out (by decide))))
        go_step3
        refine ⟨rfl, ⟨i + 1, acc ++ [x], v6, _, _, _, _, _, _, _, _, _, _, _, _, _, _, _, _, _, _, _, _, _, _, _, _, _, _, _, _, _, _, _, _, _, _, _, _, _, _, _, _, _, _, _, _, _, _, _, rfl, by omega, by simp; omega, ⟨HD.out.symm⟩, ⟨HO6⟩, HX6, ⟨HB.out.trans hb6⟩⟩, ?_⟩
        simp [intOf]
        omega
    · obtain rfl : i = n := by omega
      have hd := wordsL_end b i acc (by rw [← HN.out]; exact Nat.le_refl _)
      rw [HE.out] at hd
      have HD := Aside0.mk hd
      clear hd
      go_wp2_with fail
      simp only [Exit.jump]
      refine bodyPost_ret (v := .tuple #[.agg #[.bool false, .int .i64 0, .string { data := #[] }], .slice none 0 0, .int .i64 3]) (by simp [results, Try.results108, go_sem, *]) rfl ?_
      have hE : wordsL b [] = ([], [], 3) := HD.out
      refine ⟨none, 0, ?_, ?_, ?_, ?_⟩
      · rw [wordsP, errW, restW, hE]; rfl
      · rw [restW, hE]; exact Nat.le_refl _
      · rw [restW, hE]; exact fun W _ => Kd.C_nil _ _
      · exact (HB.out.setCell (Nat.le_refl _) _ |>.setCell (Nat.le_refl _) _ |>.setCell (Nat.le_refl _) _)
end Go.Proofs.Ytmfnbkghfmeekaa.A.O
namespace Go.Proofs.Ytmfnbkghfmeekaa.A.O
open Go.RowKit Go.Proofs.YtmfnbkghfmeekaaW.PrintWords Go.Proofs.YtmfnbkghfmeekaaW.PrintLast Go.Proofs.YtmfnbkghfmeekaaW.PrintMore
set_option linter.unusedVariables false
set_option linter.unusedSimpArgs false
def valK (l : List Int) : Int := l.foldl (fun a x => 256 * a + x) 0
theorem valK_snoc (l : List Int) (x : Int) : valK (l ++ [x]) = 256 * valK l + x := by simp [valK, List.foldl_append]
theorem fold_bound : ∀ (l : List Int) (a : Int), 0 ≤ a → (∀ x ∈ l, 0 ≤ x ∧ x ≤ 255) → 0 ≤ l.foldl (fun a x => 256 * a + x) a ∧ l.foldl (fun a x => 256 * a + x) a < (a + 1) * 256 ^ l.length
  | [], a, h0, _ => by simp; omega
  | x :: l, a, h0, h => by
    have hx := h x (by simp)
    have ih := fold_bound l (256 * a + x) (by omega) (fun y hy => h y (by simp [hy]))
    refine ⟨ih.1, Int.lt_of_lt_of_le ih.2 ?_⟩
    rw [List.length_cons, Int.pow_succ, Int.mul_comm (256 ^ l.length) 256, ← Int.mul_assoc]
    refine Int.mul_le_mul_of_nonneg_right (by omega) ?_
    exact Int.le_of_lt (Int.pow_pos (by decide))
theorem valK_bound (l : List Int) (h : ∀ x ∈ l, 0 ≤ x ∧ x ≤ 255) : 0 ≤ valK l ∧ valK l < 256 ^ l.length := by
  have := fold_bound l 0 (by omega) h
  simpa [valK] using this
theorem valK_take (b : List Int) (k : Nat) (h : k < b.length) : valK (b.take (k + 1)) = 256 * valK (b.take k) + b.getD k 0 := by
  rw [List.take_succ_eq_append_getElem h, valK_snoc]
  simp [List.getD_eq_getElem?_getD, h]
theorem valK_lt (b : List Int) (hb : ∀ x ∈ b, 0 ≤ x ∧ x ≤ 255) (k : Nat) (h : k < 8) : 0 ≤ valK (b.take k) ∧ valK (b.take k) < 72057594037927936 := by
  have h1 := valK_bound (b.take k) (fun x hx => hb x (List.mem_of_mem_take hx))
  refine ⟨h1.1, Int.lt_of_lt_of_le h1.2 ?_⟩
  have hl : (b.take k).length ≤ 7 := by rw [List.length_take]; omega
  generalize (b.take k).length = m at *
  rcases (by omega : m = 0 ∨ m = 1 ∨ m = 2 ∨ m = 3 ∨ m = 4 ∨ m = 5 ∨ m = 6 ∨ m = 7) with rfl | rfl | rfl | rfl | rfl | rfl | rfl | rfl <;> decide
theorem or_step (u x : Int) (h0 : 0 ≤ u) (h1 : u < 72057594037927936) (hx : 0 ≤ x ∧ x ≤ 255) : bits .or .u64 (u * 256) x = 256 * u + x := by
  obtain ⟨m, rfl⟩ := Int.eq_ofNat_of_zero_le h0
  obtain ⟨y, rfl⟩ := Int.eq_ofNat_of_zero_le hx.1
  have h2 := u64_or_nat (m * 256) y (by omega) (by omega)
  have h3 := Nat.two_pow_add_eq_or_of_lt (i := 8) (b := y) (by omega) m
  rw [show ((m : Int) * 256) = ((m * 256 : Nat) : Int) by omega, h2]
  have h4 : m * 256 ||| y = 256 * m + y := by
    rw [Nat.mul_comm m 256]
    exact h3.symm
  rw [h4]
  omega
theorem xor_back (u : Int) (h0 : 0 ≤ u) (h1 : u < 18446744073709551616) : IntKind.i64.wrap (bits .xor .u64 u 9223372036854775808) = u - 9223372036854775808 := by
  obtain ⟨m, rfl⟩ := Int.eq_ofNat_of_zero_le h0
  have h2 := u64_xor_nat m 9223372036854775808 (by omega) (by omega)
  rw [show (9223372036854775808 : Int) = ((9223372036854775808 : Nat) : Int) from rfl, h2]
  have e : (9223372036854775808 : Nat) = 2 ^ 63 := rfl
  by_cases h : m < 2 ^ 63
  · rw [e, top_lt m h, IntKind.wrap_i64]
    omega
  · obtain ⟨k, rfl⟩ : ∃ k, m = 2 ^ 63 + k := ⟨m - 2 ^ 63, by omega⟩
    have hk : k < 2 ^ 63 := by omega
    rw [e, ← top_lt k hk, Nat.xor_assoc, Nat.xor_self, Nat.xor_zero, IntKind.wrap_i64, top_lt k hk]
    omega
def wordP (b : List Int) : Pt := ⟨false, valK (b.take 8) - 9223372036854775808, { data := #[] }⟩
set_option maxRecDepth 100000 in
set_option maxHeartbeats 2000000 in
theorem word_short (A : Option Addr) (n c : Nat) (w : World) (hn : n < 8) :
    Calls Try.prog 107 #[.slice A n c] w fun e w' => e = .returned (.tuple #[.agg #[.bool false, .int .i64 0, .string { data := #[] }], .slice none 0 0, .int .i64 3]) ∧ Below w.heap.size w w' := by
  have h1 : (n : Int) < 8 := by omega
  go_enter Try.func107, Try.ntmps107
  go_wp2
  exact bodyPost_ret (v := .tuple #[.agg #[.bool false, .int .i64 0, .string { data := #[] }], .slice none 0 0, .int .i64 3]) (by simp [results, Try.results107, go_sem, *]) rfl ⟨rfl, below_alloc (Below.refl w.heap.size w) _⟩
set_option maxRecDepth 100000 in
set_option maxHeartbeats 2000000 in
theorem word_calls (A : Option Addr) (n c : Nat) (b : List Int) (w : World) (hr : U8.C w A n b) (hc : n ≤ c) (hb : ∀ x ∈ b, 0 ≤ x ∧ x ≤ 255) (hn : 8 ≤ n) (hn2 : n ≤ 1000000) :
    Calls Try.prog 107 #[.slice A n c] w fun e w' => ∃ A' c', e = .returned (.tuple #[(wordP b).val, .slice A' (b.drop 8).length c', .int .i64 0]) ∧ (b.drop 8).length ≤ c' ∧ (∀ W : World, U8.C W A n b → U8.C W A' (b.drop 8).length (b.drop 8)) ∧ Below w.heap.size w w' := by
  have hnl : n = b.length := hr.1.symm
  have HN := Aside0.mk hnl
  have HR := Aside0.mk hr
  have HBY := Aside0.mk hb
  clear hnl hr hb
  have h8 : ¬ (n : Int) < 8 := by omega
  have h8' : (8 : Int) ≤ (n : Int) := by omega
  go_enter Try.func107, Try.ntmps107
  go_wp2
  go_loop [5, 15] (fun v5 v15 => ∃ k : Nat, k ≤ 8 ∧ v15 = .int .i64 k ∧ v5 = .int .u64 (valK (b.take k))) (fun _ v15 => 8 - (intOf v15).toNat)
  case atStart => exact ⟨0, Nat.zero_le _, rfl, by simp [valK]⟩
  case round =>
    obtain ⟨k, hk, rfl, rfl⟩ := hrel
    by_cases hlt : k < 8
    · obtain ⟨ad, rfl, hcell0⟩ := C_atN HR.out k (by omega)
      have hcell := pw_cell_below (below_alloc (Below.refl _ _) (.cells #[.bool false, .int .i64 0, .string { data := #[] }] 94)) hcell0
      have hvl := valK_lt b HBY.out k hlt
      have hvt := valK_take b k (by rw [← HN.out]; omega)
      have hx := byte_of HBY.out k
      have hst := or_step (valK (b.take k)) (b.getD k 0) hvl.1 hvl.2 hx
      generalize valK (b.take k) = u at *
      generalize b.getD k 0 = x at *
      obtain ⟨hu0, hu1⟩ := hvl
      have HVT := Aside0.mk hvt
      have HST := Aside0.mk hst
      have i1 : (k : Int) < 8 := by omega
      have i2 : (0 : Int) ≤ (k : Int) := by omega
      clear hcell0 hvt hst
      go_wp2_with fail
      go_round
      case rel =>
        refine ⟨k + 1, by omega, rfl, ?_⟩
        rw [HST.out, HVT.out]
      case measure => simp [intOf]; omega
    · obtain rfl : k = 8 := by omega
      have hvl := valK_bound (b.take 8) (fun x hx => HBY.out x (List.mem_of_mem_take hx))
      have hl8 : (b.take 8).length = 8 := by rw [List.length_take, ← HN.out]; omega
      have hp8 : (256 : Int) ^ 8 = 18446744073709551616 := by decide
      rw [hl8, hp8] at hvl
      have hxb := xor_back (valK (b.take 8)) hvl.1 hvl.2
      obtain ⟨A2, c2, hrun, hC2, hl2⟩ := cutfN A n c b 8 HN.out.symm (by omega) (by omega) hc
      simp only [show (8 : Int).toNat = 8 from rfl] at hrun hC2 hl2
      obtain ⟨m, hm⟩ : ∃ m, (b.drop 8).length = m := ⟨_, rfl⟩
      rw [hm] at hl2
      simp only [hm] at hrun
      have HM := Aside0.mk hm
      have HC2 := Aside0.mk hC2
      obtain ⟨u, hu⟩ : ∃ u, valK (b.take 8) = u := ⟨_, rfl⟩
      rw [hu] at hxb ⊢
      have HU := Aside0.mk hu
      clear hC2 hm hvl hl8 hp8 hu
      go_wp2_with fail
      go_region
      go_wp2
      refine bodyPost_ret (v := .tuple #[.agg #[.bool false, .int .i64 (u - 9223372036854775808), .string { data := #[] }], .slice A2 m c2, .int .i64 0]) (by simp [results, Try.results107, go_sem, *]) rfl ?_
      have hb3 : Below w.heap.size w _ := (below_alloc (Below.refl w.heap.size w) (.cells #[.bool false, .int .i64 (u - 9223372036854775808), .string { data := #[] }] 94)).drew
      refine ⟨A2, c2, ?_, ?_, ?_, hb3⟩
      · rw [wordP, HU.out, HM.out]
      · rw [HM.out]; exact hl2
      · exact HC2.out
end Go.Proofs.Ytmfnbkghfmeekaa.A.O
namespace Go.Proofs.Ytmfnbkghfmeekaa.A.O
open Go.RowKit Go.Proofs.YtmfnbkghfmeekaaW.PrintWords Go.Proofs.YtmfnbkghfmeekaaW.PrintLast Go.Proofs.YtmfnbkghfmeekaaW.PrintMore
set_option linter.unusedVariables false
set_option linter.unusedSimpArgs false
def readL : Nat → List Int → List Pt → List Pt × Int
  | 0, _, acc => (acc, 0)
  | _ + 1, [], acc => (acc, 0)
  | f + 1, k :: r, acc => if k = 1 then (if r.length < 8 then ([], 3) else readL f (r.drop 8) (acc ++ [wordP r])) else if k = 2 then (if errW r = 0 then readL f (restW r) (acc ++ [wordsP r]) else ([], errW r)) else ([], 2)
def readB (b : List Int) : List Pt × Int := readL (b.length + 1) b []
theorem words_suffix : ∀ (l acc : List Int), ∃ k, (wordsL l acc).2.1 = l.drop k
  | [], acc => ⟨0, rfl⟩
  | b :: [], acc => by
    rw [wordsL_cons]
    split
    · exact ⟨1, rfl⟩
    · obtain ⟨k, hk⟩ := words_suffix [] (acc ++ [b])
      exact ⟨k + 1, hk⟩
  | b :: c :: r, acc => by
    rw [wordsL_cons]
    by_cases h : b = 0
    · rw [if_pos h]
      show ∃ k, (if c = 255 then wordsL r (acc ++ [0]) else if c = 1 then (acc, r, 0) else ([], [], 2)).2.1 = _
      split
      · obtain ⟨k, hk⟩ := words_suffix r (acc ++ [0])
        exact ⟨k + 2, hk⟩
      · split
        · exact ⟨2, rfl⟩
        · exact ⟨r.length + 2, by simp⟩
    · rw [if_neg h]
      obtain ⟨k, hk⟩ := words_suffix (c :: r) (acc ++ [b])
      exact ⟨k + 1, hk⟩
theorem restW_drop (r : List Int) : ∃ k, restW r = r.drop k := words_suffix r []
theorem box_below {W w1 : World} {g : Nat} {o : Obj} (h : W.heap[g]? = some o) (hb : Below W.heap.size W w1) : w1.heap[g]? = some o :=
  (hb.block g (Array.getElem?_eq_some_iff.1 h).1).trans h
theorem far3 {w : World} {B g : Nat} {v x y z : Value} {xs : List Pt} (h : KPt.R 94 w B (fun j => j < g) v xs) : OPt (((w.setCell ⟨g, 0, none⟩ x).setCell ⟨g, 1, none⟩ y).setCell ⟨g, 2, none⟩ z) B v xs := by
  have h1 := Kd.R_far (p := ⟨g, 0, none⟩) h (fun k hk => Nat.ne_of_lt hk) x
  have h2 := Kd.R_far (p := ⟨g, 1, none⟩) h1 (fun k hk => Nat.ne_of_lt hk) y
  have h3 := Kd.R_far (p := ⟨g, 2, none⟩) h2 (fun k hk => Nat.ne_of_lt hk) z
  exact Kd.R_mono h3 (fun _ _ => trivial)
theorem below3 {a w : World} {B g : Nat} {x y z : Value} (h : Below B a w) (hg : B ≤ g) : Below B a (((w.setCell ⟨g, 0, none⟩ x).setCell ⟨g, 1, none⟩ y).setCell ⟨g, 2, none⟩ z) :=
  ((h.setCell (p := ⟨g, 0, none⟩) hg x).setCell (p := ⟨g, 1, none⟩) hg y).setCell (p := ⟨g, 2, none⟩) hg z
def lenOf : Value → Nat | .slice _ n _ => n | _ => 0
set_option maxRecDepth 100000 in
set_option maxHeartbeats 4000000 in
theorem read_calls (A : Option Addr) (n c : Nat) (b : List Int) (w : World) (hr : U8.C w A n b) (hc : n ≤ c) (hb : ∀ x ∈ b, 0 ≤ x ∧ x ≤ 255) (hn : n ≤ 100000) :
    Calls Try.prog 100 #[.slice A n c] w fun e w' => ∃ v, e = .returned (.tuple #[v, .int .i64 (readB b).2]) ∧ OPt w' w.heap.size v (readB b).1 ∧ Below w.heap.size w w' := by
  have hnl : n = b.length := hr.1.symm
  have HN := Aside0.mk hnl
  have HR := Aside0.mk hr
  have HBY := Aside0.mk hb
  clear hnl hr hb
  go_enter Try.func100, Try.ntmps100
  go_wp2
  go_loopw [0, 4] (fun v0 v4 w' => ∃ (f m c1 : Nat) (A1 : Option Addr) (r : List Int) (acc : List Pt), v0 = .slice A1 m c1 ∧ m ≤ c1 ∧ m < f ∧ acc.length + m ≤ n ∧ Aside0 (U8.C w A1 m r) ∧ Aside0 (∀ x ∈ r, 0 ≤ x ∧ x ≤ 255) ∧ Aside0 (readL f r acc = readB b) ∧ Aside0 (OPt w' w.heap.size v4 acc) ∧ Aside0 (Below w.heap.size w w')) (fun v0 _ _ => lenOf v0)
  case atStart => exact ⟨n + 1, n, c, A, b, [], rfl, hc, by omega, by simp, HR, HBY, ⟨by rw [readB, HN.out]⟩, ⟨Kd.R_nil _ _ _ _ _⟩, ⟨Below.refl _ _⟩⟩
  case round =>
    clear HR HBY
    obtain ⟨f, m, c1, A1, r, acc, rfl, hc1, hmf, hacc, HC, HBY, HE, HO, HB⟩ := hrel
    obtain ⟨f, rfl⟩ : ∃ g, f = g + 1 := ⟨f - 1, by omega⟩
    have hml := HC.out.1
    by_cases h0 : m = 0
    · subst h0
      have hr0 : r = [] := List.eq_nil_of_length_eq_zero hml
      subst hr0
      go_wp2_with fail
      go_ret2
      have hE := HE.out
      rw [readL] at hE
      refine ⟨u4, ?_, ?_, HB.out⟩
      · rw [← hE]; rfl
      · rw [← hE]
        exact HO.out
    · obtain ⟨k, r', rfl⟩ : ∃ k r', r = k :: r' := by
        cases r with
        | nil => simp at hml; omega
        | cons k r' => exact ⟨k, r', rfl⟩
      obtain ⟨ad, rfl, hcell⟩ := C_atN HC.out 0 (by omega)
      rw [Addr.add_zero', List.getD_cons_zero] at hcell
      have hcell := pw_cell_below HB.out hcell
      have hk := HBY.out k (by simp)
      have hm0 : (0 : Int) < (m : Int) := by omega
      have hm1 : (1 : Int) ≤ (m : Int) := by omega
      obtain ⟨A2, c2, hrun, hC2, hl2⟩ := cutfN (some ad) m c1 (k :: r') 1 hml (by omega) (by omega) hc1
      simp only [show (1 : Int).toNat = 1 from rfl, List.drop_succ_cons, List.drop_zero] at hrun hC2 hl2
      obtain ⟨m', hm'⟩ : ∃ m', r'.length = m' := ⟨_, rfl⟩
      have HMM : Aside0 (m = m' + 1) := ⟨by rw [← hml, ← hm']; rfl⟩
      rw [hm'] at hl2
      simp only [hm'] at hrun
      have HC2 := Aside0.mk (hC2 w HC.out)
      rw [hm'] at HC2
      have HM := Aside0.mk hm'
      have HBY2 : Aside0 (∀ x ∈ r', 0 ≤ x ∧ x ≤ 255) := ⟨fun x hx => HBY.out x (by simp [hx])⟩
      have hmm' : m' + 1 ≤ m := Nat.le_of_eq HMM.out.symm
      have hE := HE.out
      rw [readL] at hE
      have hOg : KPt.R 94 wr w.heap.size (fun j => j < wr.heap.size) u4 acc := Kd.R_mono (Kd.R_bound HO.out) (fun j hj => hj.2.2.1)
      have HOg := Aside0.mk hOg
      clear hC2 hm' hml HC HBY HE HO hOg
      have hcell2 := pw_cell_below (below_alloc (Below.refl wr.heap.size wr) (.cells #[.bool false, .int .i64 0, .string { data := #[] }] 94)) hcell
      have HX : Aside0 ((wr.alloc (.cells #[.bool false, .int .i64 0, .string { data := #[] }] 94)).drew.heap[wr.heap.size]? = some (.cells #[.bool false, .int .i64 0, .string { data := #[] }] 94 (0, 0))) := ⟨heap_alloc_new wr _⟩
      have hgB := HB.out.size
      have HB1 := Aside0.mk ((below_alloc HB.out (.cells #[.bool false, .int .i64 0, .string { data := #[] }] 94)).drew)
      have HO1 := Aside0.mk (Kd.R_drew (Kd.R_alloc HOg.out (.cells #[.bool false, .int .i64 0, .string { data := #[] }] 94)))
      have HC3 := HC2
      clear hcell HB HOg HC2
      by_cases hk1 : k = 1
      · subst hk1
        rw [if_pos rfl] at hE
        have HD := Aside0.mk hE
        clear hE
        go_wp2_with fail
        go_region
        go_wp2_with fail
        generalize wr.heap.size = g at *
        generalize (wr.alloc (.cells #[.bool false, .int .i64 0, .string { data := #[] }] 94)).drew = w1 at *
        by_cases h8 : m' < 8
        · have HD2 := HD.out
          rw [if_pos (by rw [HM.out]; exact h8)] at HD2
          have HD3 := Aside0.mk HD2
          clear HD2 HD
          (with_reducible refine (word_short _ _ _ _ h8).mono ?_)
          rintro e w2 ⟨rfl, hb2⟩
          have HX2 := box_below HX.out hb2
          obtain ⟨b0, b1, b2⟩ := box_cells HX2
          have f0 := frozen_of_row _ _ 0 _ _ HX2
          have f1 := frozen_of_row _ _ 1 _ _ HX2
          have f2 := frozen_of_row _ _ 2 _ _ HX2
          have HB2 := Aside0.mk (below_step HB1.out hb2)
          clear hb2 HX2
          go_wp2_with fail
          go_ret2
          refine ⟨.slice none 0 0, ?_, ?_, ?_⟩
          · rw [← HD3.out]; rfl
          · rw [← HD3.out]; exact Kd.R_nil _ _ _ _ _
          · exact below3 HB2.out hgB
        · have HD2 := HD.out
          rw [if_neg (by rw [HM.out]; exact h8)] at HD2
          have HD3 := Aside0.mk HD2
          clear HD2 HD
          (with_reducible refine (word_calls _ _ _ r' _ (Kd.C_below HC3.out HB1.out) hl2 HBY2.out (by omega) (by omega)).mono ?_)
          rintro e w2 ⟨A3, c3, rfl, hl3, hC3, hb2⟩
          have HX2 := box_below HX.out hb2
          obtain ⟨b0, b1, b2⟩ := box_cells HX2
          have f0 := frozen_of_row _ _ 0 _ _ HX2
          have f1 := frozen_of_row _ _ 1 _ _ HX2
          have f2 := frozen_of_row _ _ 2 _ _ HX2
          have HB2 := Aside0.mk (below_step HB1.out hb2)
          have HO2 := Aside0.mk (Kd.R_below HO1.out hb2)
          have HC4 := Aside0.mk (hC3 w HC3.out)
          obtain ⟨q, hq⟩ : ∃ q, (r'.drop 8).length = q := ⟨_, rfl⟩
          have hq2 : q + 8 = m' := by rw [← hq, List.length_drop, HM.out]; omega
          rw [hq] at hl3 HC4 ⊢
          have HQ := Aside0.mk hq2
          have hqm : q + 9 ≤ m := by rw [HMM.out]; omega
          obtain ⟨pt, pn, ps, hP⟩ : ∃ pt pn ps, wordP r' = ⟨pt, pn, ps⟩ := ⟨_, _, _, rfl⟩
          rw [hP] at HD3 ⊢
          dsimp only [Pt.val]
          clear hb2 HX2 HX HO1 HC3 hC3 hq2 hP
          go_wp2_with ((with_reducible refine gate_dst (N := 39) rfl ?_); refine app_pt rfl rfl rfl ?_ (far3 HO2.out) (below3 HB2.out hgB).size (by omega) ?_; go_simp; intro v4 w4 HO4 hb4 _)
          go_roundw
          case rel =>
            have hB4 := (below3 HB2.out hgB).trans hb4
            refine ⟨f, q, c3, A3, r'.drop 8, acc ++ [⟨pt, pn, ps⟩], rfl, hl3, by omega, by rw [List.length_append, List.length_singleton]; omega, ?_, ⟨fun x hx => HBY2.out x (List.mem_of_mem_drop hx)⟩, HD3, ⟨HO4⟩, ⟨hB4⟩⟩
            exact HC4
          case measure => simp [lenOf]; omega
      · rw [if_neg hk1] at hE
        by_cases hk2 : k = 2
        · subst hk2
          rw [if_pos rfl] at hE
          have HD := Aside0.mk hE
          clear hE
          go_wp2_with fail
          go_region
          go_wp2_with fail
          generalize wr.heap.size = g at *
          generalize (wr.alloc (.cells #[.bool false, .int .i64 0, .string { data := #[] }] 94)).drew = w1 at *
          (with_reducible refine (words_calls _ _ _ r' _ (Kd.C_below HC3.out HB1.out) hl2 HBY2.out (by omega)).mono ?_)
          rintro e w2 ⟨A3, c3, rfl, hl3, hC3, hb2⟩
          have HX2 := box_below HX.out hb2
          obtain ⟨b0, b1, b2⟩ := box_cells HX2
          have f0 := frozen_of_row _ _ 0 _ _ HX2
          have f1 := frozen_of_row _ _ 1 _ _ HX2
          have f2 := frozen_of_row _ _ 2 _ _ HX2
          have HB2 := Aside0.mk (below_step HB1.out hb2)
          have HO2 := Aside0.mk (Kd.R_below HO1.out hb2)
          have HC4 := Aside0.mk (hC3 w HC3.out)
          obtain ⟨z, hz⟩ := restW_drop r'
          have hqm : (restW r').length + 1 ≤ m := by rw [hz, List.length_drop, HM.out]; omega
          have HBY3 : Aside0 (∀ x ∈ restW r', 0 ≤ x ∧ x ≤ 255) := ⟨fun x hx => HBY2.out x (by rw [hz] at hx; exact List.mem_of_mem_drop hx)⟩
          clear hz hC3
          generalize restW r' = rr at *
          obtain ⟨q, hq⟩ : ∃ q, rr.length = q := ⟨_, rfl⟩
          rw [hq] at hl3 HC4 hqm ⊢
          obtain ⟨pt, pn, ps, hP⟩ : ∃ pt pn ps, wordsP r' = ⟨pt, pn, ps⟩ := ⟨_, _, _, rfl⟩
          have HD2 := HD.out
          rw [hP] at HD2 ⊢
          dsimp only [Pt.val]
          obtain ⟨er, her⟩ : ∃ er, errW r' = er := ⟨_, rfl⟩
          rw [her] at HD2 ⊢
          clear hb2 HX2 HX HO1 HC3 hP her HD hq
          by_cases he : er = 0
          · rw [if_pos he] at HD2
            subst he
            have HD3 := Aside0.mk HD2
            clear HD2
            go_wp2_with ((with_reducible refine gate_dst (N := 39) rfl ?_); refine app_pt rfl rfl rfl ?_ (far3 HO2.out) (below3 HB2.out hgB).size (by omega) ?_; go_simp; intro v4 w4 HO4 hb4 _)
            go_roundw
            case rel =>
              have hB4 := (below3 HB2.out hgB).trans hb4
              exact ⟨f, q, c3, A3, rr, acc ++ [⟨pt, pn, ps⟩], rfl, hl3, by omega, by rw [List.length_append, List.length_singleton]; omega, HC4, HBY3, HD3, ⟨HO4⟩, ⟨hB4⟩⟩
            case measure => simp [lenOf]; omega
          · rw [if_neg he] at HD2
            have HD3 := Aside0.mk HD2
            clear HD2
            go_wp2_with fail
            go_ret2
            refine ⟨.slice none 0 0, ?_, ?_, ?_⟩
            · rw [← HD3.out]; rfl
            · rw [← HD3.out]; exact Kd.R_nil _ _ _ _ _
            · exact below3 HB2.out hgB
        · rw [if_neg hk2] at hE
          have HD3 := Aside0.mk hE
          clear hE
          go_wp2_with fail
          go_region
          go_wp2_with fail
          go_ret2
          refine ⟨.slice none 0 0, ?_, ?_, ?_⟩
          · rw [← HD3.out]; rfl
          · rw [← HD3.out]; exact Kd.R_nil _ _ _ _ _
          · exact HB1.out
end Go.Proofs.Ytmfnbkghfmeekaa.A.O
