/- The program's reader in every state: numbers and texts. -/
import Derived.Test.YtmkabbfglijckaaVTwo
namespace Go.Proofs.Ytmkabbfglijckaa.A
open Go.RowKit Go.Proofs.YtmkabbfglijckaaW.PrintWords Go.Proofs.YtmkabbfglijckaaW.PrintLast Go.Proofs.YtmkabbfglijckaaW.PrintMore
set_option linter.unusedVariables false
set_option linter.unusedSimpArgs false

/-- What is left, and the first error. -/
abbrev St := List Int × Int
def numS (s : St) : Int × St := if s.2 = 0 then ((V.numG 0 0 s.1).1, (V.numG 0 0 s.1).2) else (0, s)
def textS (most : Int) (s : St) : ByteArray × St :=
  if (numS s).2.2 ≠ 0 then ({ data := #[] }, (numS s).2)
  else if most < (numS s).1 then ({ data := #[] }, ([], 5))
  else if ((numS s).2.1.length : Int) < (numS s).1 then ({ data := #[] }, ([], 3))
  else (strOfNums ((numS s).2.1.take (numS s).1.toNat), ((numS s).2.1.drop (numS s).1.toNat, 0))
/-- A reader at g in W, that was made behind w0. -/
def RS (w0 : World) (g : Nat) (W : World) (s : St) : Prop := ∃ A c, W.heap[g]? = some (V.rdr A s.1.length c s.2) ∧ s.1.length ≤ c ∧ U8.C w0 A s.1.length s.1 ∧ Below w0.heap.size w0 W
theorem RS_grown {w0 W W' : World} {g : Nat} {s : St} {o : Option Nat} (h : RS w0 g W s) (hg : W.grownBy W' o) (hne : some g ≠ o) (h0 : ∀ k, o = some k → w0.heap.size ≤ k) : RS w0 g W' s := by
  obtain ⟨A, c, h1, h2, h3, h4⟩ := h
  exact ⟨A, c, blk_grown h1 hg hne, h2, h3, h4.grown hg h4.size h0⟩
theorem RS_below {w0 W W' : World} {g : Nat} {s : St} (h : RS w0 g W s) (hb : Below W.heap.size W W') : RS w0 g W' s := by
  obtain ⟨A, c, h1, h2, h3, h4⟩ := h
  exact ⟨A, c, (hb.block _ (Array.getElem?_eq_some_iff.1 h1).1).trans h1, h2, h3, below_step h4 hb⟩
theorem numS_calls (w0 W : World) (g : Nat) (s : St) (h : RS w0 g W s) (h0 : w0.heap.size ≤ g) (hb : ∀ x ∈ s.1, 0 ≤ x ∧ x ≤ 255) :
    Calls Try.prog 42 #[.pointer (some ⟨g, 0, none⟩)] W fun e w' => e = .returned (.int .i64 (numS s).1) ∧ RS w0 g w' (numS s).2 ∧ W.grownBy w' (some g) := by
  obtain ⟨A, c, h1, h2, h3, h4⟩ := h
  unfold numS
  by_cases he : s.2 = 0
  · rw [if_pos he]
    rw [he] at h1
    have H4 := Aside0.mk h4
    have H3 := Aside0.mk h3
    refine (V.number_calls g W A s.1.length c s.1 h1 (Kd.C_below h3 h4) h2 hb).mono ?_
    rintro e w' ⟨A', c', rfl, g1, g2, g3, g4⟩
    exact ⟨rfl, ⟨A', c', g1, g2, g3 w0 H3.out, H4.out.grown g4 H4.out.size (fun k e => by cases e; exact h0)⟩, g4⟩
  · rw [if_neg he]
    obtain ⟨b0, b1⟩ := V.rdr_cells h1
    have HR : Aside0 (RS w0 g W s) := ⟨A, c, h1, h2, h3, h4⟩
    obtain ⟨bs, er⟩ := s
    simp only at he b0 b1
    have hd : (er == 0) = false := beq_eq_false_iff_ne.2 he
    clear h1 h2 h3 h4 hb
    go_enter Try.func42, Try.ntmps42
    go_wp2
    refine wp_scope_straight ?_
    go_wp2
    simp only [Exit.noGoto]
    go_ret
    exact ⟨rfl, HR.out, World.grownBy.refl _ _⟩
theorem numG_suffix : ∀ (bs : List Int) (i : Nat) (n : Int), (∃ k, (V.numG i n bs).2.1 = bs.drop k) ∧ ((V.numG i n bs).2.2 ≠ 0 → (V.numG i n bs).2.1 = [])
  | [], i, n => by
    unfold V.numG
    split <;> exact ⟨⟨0, rfl⟩, fun _ => rfl⟩
  | c :: r, i, n => by
    unfold V.numG
    split
    · exact ⟨⟨(c :: r).length, by simp⟩, fun _ => rfl⟩
    · split
      · obtain ⟨⟨k, hk⟩, h2⟩ := numG_suffix r (i + 1) (n + c % 128 * 128 ^ i)
        exact ⟨⟨k + 1, by rw [hk]; rfl⟩, h2⟩
      · split
        · exact ⟨⟨(c :: r).length, by simp⟩, fun _ => rfl⟩
        · exact ⟨⟨1, rfl⟩, fun h => absurd rfl h⟩
theorem numG_val : ∀ (bs : List Int) (i : Nat) (n : Int), 0 ≤ n → (∀ x ∈ bs, 0 ≤ x ∧ x ≤ 255) → 0 ≤ (V.numG i n bs).1 ∧ (V.numG i n bs).1 < 4611686018427387904
  | [], i, n, h, _ => by unfold V.numG; split <;> decide
  | c :: r, i, n, h, hb => by
    have hc := hb c (List.mem_cons_self ..)
    have hn : 0 ≤ n + c % 128 * 128 ^ i := by
      have : 0 ≤ c % 128 * 128 ^ i := Int.mul_nonneg (by omega) (Int.pow_nonneg (by decide))
      omega
    unfold V.numG
    split
    · decide
    · split
      · exact numG_val r (i + 1) _ hn (fun x hx => hb x (List.mem_cons_of_mem _ hx))
      · split
        · decide
        · rename_i h3
          exact ⟨hn, by simp only; omega⟩
/-- A state whose bytes are bytes, and which has none where there is an error. -/
def okS (s : St) : Prop := (∀ x ∈ s.1, 0 ≤ x ∧ x ≤ 255) ∧ (s.2 ≠ 0 → s.1 = [])
theorem okS_num {s : St} (h : okS s) : okS (numS s).2 ∧ (0 ≤ (numS s).1 ∧ (numS s).1 < 4611686018427387904) ∧ ∃ k, (numS s).2.1 = s.1.drop k := by
  unfold numS
  split
  · obtain ⟨⟨k, hk⟩, h2⟩ := numG_suffix s.1 0 0
    refine ⟨⟨fun x hx => ?_, h2⟩, numG_val s.1 0 0 (Int.le_refl _) h.1, ⟨k, hk⟩⟩
    simp only at hx
    rw [hk] at hx
    exact h.1 x (List.mem_of_mem_drop hx)
  · exact ⟨h, ⟨Int.le_refl _, by show (0 : Int) < _; decide⟩, ⟨0, rfl⟩⟩
theorem okS_text {s : St} (most : Int) (h : okS s) : okS (textS most s).2 ∧ ∃ k, (textS most s).2.1 = s.1.drop k := by
  obtain ⟨h1, h2, k, hk⟩ := okS_num h
  unfold textS
  split
  · exact ⟨h1, k, hk⟩
  · split
    · exact ⟨⟨by simp, fun _ => rfl⟩, s.1.length, by simp⟩
    · split
      · exact ⟨⟨by simp, fun _ => rfl⟩, s.1.length, by simp⟩
      · refine ⟨⟨fun x hx => h1.1 x (List.mem_of_mem_drop hx), fun h => absurd rfl h⟩, k + (numS s).1.toNat, ?_⟩
        simp only
        rw [hk, List.drop_drop]
set_option maxRecDepth 100000 in
set_option maxHeartbeats 4000000 in
/-- The next text. -/
theorem textS_calls (w0 W : World) (g : Nat) (s : St) (most : Int) (h : RS w0 g W s) (h0 : w0.heap.size ≤ g) (hok : okS s) :
    Calls Try.prog 52 #[.pointer (some ⟨g, 0, none⟩), .int .i64 most] W fun e w' => e = .returned (.string (textS most s).1) ∧ RS w0 g w' (textS most s).2 ∧ W.grownBy w' (some g) := by
  obtain ⟨o1, ⟨o2, o3⟩, _⟩ := okS_num hok
  have H := Aside0.mk h
  have HB := Aside0.mk hok.1
  have HT : Aside0 (textS most s = if (numS s).2.2 ≠ 0 then ({ data := #[] }, (numS s).2) else if most < (numS s).1 then ({ data := #[] }, ([], 5)) else if ((numS s).2.1.length : Int) < (numS s).1 then ({ data := #[] }, ([], 3)) else (strOfNums ((numS s).2.1.take (numS s).1.toNat), ((numS s).2.1.drop (numS s).1.toNat, 0))) := ⟨rfl⟩
  obtain ⟨T, hT⟩ : ∃ T, textS most s = T := ⟨_, rfl⟩
  rw [hT] at HT ⊢
  clear h hok hT
  go_enter Try.func52, Try.ntmps52
  go_wp2_with fail
  (with_reducible refine (numS_calls w0 W g s H.out h0 HB.out).mono ?_)
  rintro e w1 ⟨rfl, hR, hg1⟩
  clear H HB
  generalize numS s = ns at *
  obtain ⟨k, X, er⟩ := ns
  simp only at o2 o3 hR ⊢
  obtain ⟨A, c, g1, g2, g3, g4⟩ := hR
  simp only at g1 g2 g3
  obtain ⟨b0, b1⟩ := V.rdr_cells g1
  have f0 := frozen_of_row _ _ 0 _ _ g1
  have f1 := frozen_of_row _ _ 1 _ _ g1
  obtain ⟨n, hnX⟩ : ∃ n, X.length = n := ⟨_, rfl⟩
  have HNX := Aside0.mk hnX
  rw [hnX] at g2 b0 g1 g3
  have hm : n ≤ 9223372036854775807 := g3.2.1
  have G1 := Aside0.mk g1
  have G3 := Aside0.mk g3
  have G4 := Aside0.mk g4
  have GR := Aside0.mk hg1
  clear g1 g3 g4 hg1 o1
  by_cases he : er = 0
  · subst he
    have hT := HT.out
    simp only [ne_eq, not_true, if_false] at hT
    by_cases hm1 : most < k
    · rw [if_pos hm1] at hT
      have HD := Aside0.mk hT
      clear hT HT
      go_wp2_with fail
      (with_reducible refine (V.fail_calls g _ _ _ _ _ G1.out).mono ?_)
      rintro e w2 ⟨⟨v2, rfl⟩, rfl⟩
      go_wp2_with fail
      go_ret
      rw [HD.out]
      exact ⟨rfl, ⟨none, 0, blk_put (blk_set G1.out 1 _) 0 _ rfl, Nat.le_refl _, Kd.C_nil _ _, G4.out.grown (V.set2_grown _ _ _ _ _ _) G4.out.size (fun k e => by cases e; exact h0)⟩, GR.out.trans (V.set2_grown _ _ _ _ _ _)⟩
    · rw [if_neg hm1] at hT
      have hk1 : decide (most < k) = false := decide_eq_false hm1
      by_cases hn1 : (n : Int) < k
      · rw [if_pos (by rw [HNX.out]; exact hn1)] at hT
        have HD := Aside0.mk hT
        clear hT HT
        go_wp2_with fail
        (with_reducible refine (V.fail_calls g _ _ _ _ _ G1.out).mono ?_)
        rintro e w2 ⟨⟨v2, rfl⟩, rfl⟩
        go_wp2_with fail
        go_ret
        rw [HD.out]
        exact ⟨rfl, ⟨none, 0, blk_put (blk_set G1.out 1 _) 0 _ rfl, Nat.le_refl _, Kd.C_nil _ _, G4.out.grown (V.set2_grown _ _ _ _ _ _) G4.out.size (fun k e => by cases e; exact h0)⟩, GR.out.trans (V.set2_grown _ _ _ _ _ _)⟩
      · rw [if_neg (by rw [HNX.out]; exact hn1)] at hT
        have HD := Aside0.mk hT
        obtain ⟨i0, hi0, _, _, _⟩ := info_parts infoU8
        have hct := cut_to 29 5 .i64 Try.underlying29 hi0 A n c k o2 (by omega) g2
        obtain ⟨A2, c2, hrun, hC2, hl2⟩ := V.cutfN' A n c X k HNX.out o2 (by omega) g2
        obtain ⟨k', hk'⟩ : ∃ k', k.toNat = k' := ⟨_, rfl⟩
        simp only [hk'] at hct hrun hC2 hl2
        have hkk : (k' : Int) = k := by omega
        have hcx : U8.C w1 A k' (X.take k') := by
          have h7 := Kd.C_take (m := k') (show U8.C w1 A X.length X by rw [HNX.out]; exact Kd.C_below G3.out G4.out) (by rw [HNX.out]; omega)
          rwa [show (X.take k').length = k' by rw [List.length_take, HNX.out]; omega] at h7
        have hE := C_string' (c := c) hcx
        obtain ⟨q, hq⟩ : ∃ q, (X.drop k').length = q := ⟨_, rfl⟩
        simp only [hq] at hrun
        rw [hq] at hl2
        have HQ := Aside0.mk hq
        have HK := Aside0.mk hk'
        have HC2 := Aside0.mk hC2
        have hk2 : ¬ (n : Int) < k := by omega
        have hk3 : decide ((n : Int) < k) = false := decide_eq_false hk2
        clear hq hC2 hcx hk' hkk hT HT
        go_wp2_with fail
        go_ret
        rw [HD.out, HK.out]
        refine ⟨rfl, ⟨A2, c2, ?_, ?_, ?_, G4.out.setCell (p := ⟨g, 0, none⟩) h0 _⟩, GR.out.trans (V.set1_grown _ _ _ _)⟩
        · show _ = some (V.rdr A2 (X.drop k').length c2 0)
          rw [HQ.out]; exact blk_put G1.out 0 _ rfl
        · show (X.drop k').length ≤ c2
          rw [HQ.out]; exact hl2
        · exact HC2.out w0 G3.out
  · have hT := HT.out
    rw [if_pos he] at hT
    have HD := Aside0.mk hT
    have hd : (er == 0) = false := beq_eq_false_iff_ne.2 he
    have hd2 : (er != 0) = true := bne_iff_ne.2 he
    clear hT HT
    go_wp2_with fail
    go_ret
    rw [HD.out]
    exact ⟨rfl, ⟨A, c, by show _ = some (V.rdr A X.length c er); rw [HNX.out]; exact G1.out, by show X.length ≤ c; rw [HNX.out]; exact g2, by show U8.C w0 A X.length X; rw [HNX.out]; exact G3.out, G4.out⟩, GR.out⟩
end Go.Proofs.Ytmkabbfglijckaa.A
