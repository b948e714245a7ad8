/- A version's bytes: row.Write; the document's example. -/
import Derived.Test.YtopoepifbjbmoaaROne
import Derived.Test.YtopoepifbjbmoaaOThree
import Derived.Test.YtopoepifbjbmoaaVTwo
import Derived.Deep.RegionHeldLaw
namespace Go.Proofs.Ytopoepifbjbmoaa.A.R
open Go.RowKit Go.Proofs.YtopoepifbjbmoaaW.PrintWords Go.Proofs.YtopoepifbjbmoaaW.PrintLast Go.Proofs.YtopoepifbjbmoaaW.PrintMore
set_option linter.unusedVariables false
set_option linter.unusedSimpArgs false

def writeE (p : Vr) : Int := if mayV p then 0 else 1
def writeB (p : Vr) : List Int := if mayV p then bytesV p else []
abbrev exK : ByteArray := O.keyStr 0 { data := #[97] }
theorem exK_split : O.splitK exK = (0, { data := #[97] }, 0) := O.split_key 0 { data := #[97] } (by omega) (by omega) (by decide)
theorem ex_may : mayV ⟨exK, 0, 1, 2, 5, 7, { data := #[120] }, false⟩ = true := by
  rw [mayV_iff, exK_split]
  refine ⟨rfl, ⟨⟨⟨by decide, by decide⟩, ⟨by decide, by decide⟩⟩, ⟨by decide, by decide⟩⟩, ⟨by decide, by decide, by decide⟩, by decide, ?_⟩
  intro h
  cases h
theorem exK_len : exK.size ≤ 100000 := by
  have h := O.writeL_len (O.keyParts 0 { data := #[97] }) 40 (O.keyParts_size 0 { data := #[97] } 40 (by decide))
  have e1 : O.keyErr 0 { data := #[97] } = 0 := by decide
  have e2 : exK = strOfNums (O.writeL (O.keyParts 0 { data := #[97] })) := by unfold exK O.keyStr; rw [if_pos e1]
  have hl : (O.keyParts 0 { data := #[97] }).length = 2 := rfl
  rw [e2, strOfNums_size]
  omega
theorem ex_bytes : bytesV ⟨exK, 0, 1, 2, 5, 7, { data := #[120] }, false⟩ = [0, 1, 2, 5, 2, 0] ++ (V.vtext exK ++ V.vtext { data := #[120] }) := by
  unfold bytesV
  have e : ([0, 1, 2, 5, 7 - 5, goneI false].flatMap V.vput : List Int) = [0, 1, 2, 5, 2, 0] := by
    simp [V.vput, goneI, V.vnat_small]
  rw [e]
theorem ex_str : strOfNums [0, 1, 2, 5, 2, 0] = { data := #[0, 1, 2, 5, 2, 0] } := by
  apply ByteArray.ext
  rfl
end Go.Proofs.Ytopoepifbjbmoaa.A.R

/- The program's reader in every state: numbers and texts. -/
namespace Go.Proofs.Ytopoepifbjbmoaa.A.R
open Go.RowKit Go.Proofs.YtopoepifbjbmoaaW.PrintWords Go.Proofs.YtopoepifbjbmoaaW.PrintLast Go.Proofs.YtopoepifbjbmoaaW.PrintMore
set_option linter.unusedVariables false
set_option linter.unusedSimpArgs false

/-- What is left, and the first error. -/
abbrev St := List Int × Int
def numS (s : St) : Int × St := if s.2 = 0 then ((V.numG 0 0 s.1).1, (V.numG 0 0 s.1).2) else (0, s)
def textS (most : Int) (s : St) : ByteArray × St :=
  if (numS s).2.2 ≠ 0 then ({ data := #[] }, (numS s).2)
  else if most < (numS s).1 then ({ data := #[] }, ([], 5))
  else if ((numS s).2.1.length : Int) < (numS s).1 then ({ data := #[] }, ([], 3))
  else (strOfNums ((numS s).2.1.take (numS s).1.toNat), ((numS s).2.1.drop (numS s).1.toNat, 0))
/-- A reader at g in W, that was made behind w0. -/
def RS (w0 : World) (g : Nat) (W : World) (s : St) : Prop := ∃ A c, W.heap[g]? = some (V.rdr A s.1.length c s.2) ∧ s.1.length ≤ c ∧ U8.C w0 A s.1.length s.1 ∧ Below w0.heap.size w0 W
theorem RS_grown {w0 W W' : World} {g : Nat} {s : St} {o : Option Nat} (h : RS w0 g W s) (hg : W.grownBy W' o) (hne : some g ≠ o) (h0 : ∀ k, o = some k → w0.heap.size ≤ k) : RS w0 g W' s := by
  obtain ⟨A, c, h1, h2, h3, h4⟩ := h
  exact ⟨A, c, blk_grown h1 hg hne, h2, h3, h4.grown hg h4.size h0⟩
theorem RS_below {w0 W W' : World} {g : Nat} {s : St} (h : RS w0 g W s) (hb : Below W.heap.size W W') : RS w0 g W' s := by
  obtain ⟨A, c, h1, h2, h3, h4⟩ := h
  exact ⟨A, c, (hb.block _ (Array.getElem?_eq_some_iff.1 h1).1).trans h1, h2, h3, below_step h4 hb⟩
theorem numS_calls (w0 W : World) (g : Nat) (s : St) (h : RS w0 g W s) (h0 : w0.heap.size ≤ g) (hb : ∀ x ∈ s.1, 0 ≤ x ∧ x ≤ 255) :
    Calls Try.prog 25 #[.pointer (some ⟨g, 0, none⟩)] W fun e w' => e = .returned (.int .i64 (numS s).1) ∧ RS w0 g w' (numS s).2 ∧ W.grownBy w' (some g) := by
  obtain ⟨A, c, h1, h2, h3, h4⟩ := h
  unfold numS
  by_cases he : s.2 = 0
  · rw [if_pos he]
    rw [he] at h1
    have H4 := Aside0.mk h4
    have H3 := Aside0.mk h3
    refine (V.number_calls g W A s.1.length c s.1 h1 (Kd.C_below h3 h4) h2 hb).mono ?_
    rintro e w' ⟨A', c', rfl, g1, g2, g3, g4⟩
    exact ⟨rfl, ⟨A', c', g1, g2, g3 w0 H3.out, H4.out.grown g4 H4.out.size (fun k e => by cases e; exact h0)⟩, g4⟩
  · rw [if_neg he]
    obtain ⟨b0, b1⟩ := V.rdr_cells h1
    have HR : Aside0 (RS w0 g W s) := ⟨A, c, h1, h2, h3, h4⟩
    obtain ⟨bs, er⟩ := s
    simp only at he b0 b1
    have hd : (er == 0) = false := beq_eq_false_iff_ne.2 he
    clear h1 h2 h3 h4 hb
    go_enter Try.func25, Try.ntmps25
    go_wp2
    refine wp_scope_straight ?_
    go_wp2
    simp only [Exit.noGoto]
    go_ret
    exact ⟨rfl, HR.out, World.grownBy.refl _ _⟩
theorem numG_suffix : ∀ (bs : List Int) (i : Nat) (n : Int), (∃ k, (V.numG i n bs).2.1 = bs.drop k) ∧ ((V.numG i n bs).2.2 ≠ 0 → (V.numG i n bs).2.1 = [])
  | [], i, n => by
    unfold V.numG
    split <;> exact ⟨⟨0, rfl⟩, fun _ => rfl⟩
  | c :: r, i, n => by
    unfold V.numG
    split
    · exact ⟨⟨(c :: r).length, by simp⟩, fun _ => rfl⟩
    · split
      · obtain ⟨⟨k, hk⟩, h2⟩ := numG_suffix r (i + 1) (n + c % 128 * 128 ^ i)
        exact ⟨⟨k + 1, by rw [hk]; rfl⟩, h2⟩
      · split
        · exact ⟨⟨(c :: r).length, by simp⟩, fun _ => rfl⟩
        · exact ⟨⟨1, rfl⟩, fun h => absurd rfl h⟩
theorem numG_val : ∀ (bs : List Int) (i : Nat) (n : Int), 0 ≤ n → (∀ x ∈ bs, 0 ≤ x ∧ x ≤ 255) → 0 ≤ (V.numG i n bs).1 ∧ (V.numG i n bs).1 < 4611686018427387904
  | [], i, n, h, _ => by unfold V.numG; split <;> decide
  | c :: r, i, n, h, hb => by
    have hc := hb c (List.mem_cons_self ..)
    have hn : 0 ≤ n + c % 128 * 128 ^ i := by
      have : 0 ≤ c % 128 * 128 ^ i := Int.mul_nonneg (by omega) (Int.pow_nonneg (by decide))
      omega
    unfold V.numG
    split
    · decide
    · split
      · exact numG_val r (i + 1) _ hn (fun x hx => hb x (List.mem_cons_of_mem _ hx))
      · split
        · decide
        · rename_i h3
          exact ⟨hn, by simp only; omega⟩
/-- A state whose bytes are bytes, and which has none where there is an error. -/
def okS (s : St) : Prop := (∀ x ∈ s.1, 0 ≤ x ∧ x ≤ 255) ∧ (s.2 ≠ 0 → s.1 = [])
theorem okS_num {s : St} (h : okS s) : okS (numS s).2 ∧ (0 ≤ (numS s).1 ∧ (numS s).1 < 4611686018427387904) ∧ ∃ k, (numS s).2.1 = s.1.drop k := by
  unfold numS
  split
  · obtain ⟨⟨k, hk⟩, h2⟩ := numG_suffix s.1 0 0
    refine ⟨⟨fun x hx => ?_, h2⟩, numG_val s.1 0 0 (Int.le_refl _) h.1, ⟨k, hk⟩⟩
    simp only at hx
    rw [hk] at hx
    exact h.1 x (List.mem_of_mem_drop hx)
  · exact ⟨h, ⟨Int.le_refl _, by show (0 : Int) < _; decide⟩, ⟨0, rfl⟩⟩
theorem okS_text {s : St} (most : Int) (h : okS s) : okS (textS most s).2 ∧ ∃ k, (textS most s).2.1 = s.1.drop k := by
  obtain ⟨h1, h2, k, hk⟩ := okS_num h
  unfold textS
  split
  · exact ⟨h1, k, hk⟩
  · split
    · exact ⟨⟨by simp, fun _ => rfl⟩, s.1.length, by simp⟩
    · split
      · exact ⟨⟨by simp, fun _ => rfl⟩, s.1.length, by simp⟩
      · refine ⟨⟨fun x hx => h1.1 x (List.mem_of_mem_drop hx), fun h => absurd rfl h⟩, k + (numS s).1.toNat, ?_⟩
        simp only
        rw [hk, List.drop_drop]
set_option maxRecDepth 100000 in
set_option maxHeartbeats 4000000 in
/-- The next text. -/
theorem textS_calls (w0 W : World) (g : Nat) (s : St) (most : Int) (h : RS w0 g W s) (h0 : w0.heap.size ≤ g) (hok : okS s) :
    Calls Try.prog 27 #[.pointer (some ⟨g, 0, none⟩), .int .i64 most] W fun e w' => e = .returned (.string (textS most s).1) ∧ RS w0 g w' (textS most s).2 ∧ W.grownBy w' (some g) := by
  obtain ⟨o1, ⟨o2, o3⟩, _⟩ := okS_num hok
  have H := Aside0.mk h
  have HB := Aside0.mk hok.1
  have HT : Aside0 (textS most s = if (numS s).2.2 ≠ 0 then ({ data := #[] }, (numS s).2) else if most < (numS s).1 then ({ data := #[] }, ([], 5)) else if ((numS s).2.1.length : Int) < (numS s).1 then ({ data := #[] }, ([], 3)) else (strOfNums ((numS s).2.1.take (numS s).1.toNat), ((numS s).2.1.drop (numS s).1.toNat, 0))) := ⟨rfl⟩
  obtain ⟨T, hT⟩ : ∃ T, textS most s = T := ⟨_, rfl⟩
  rw [hT] at HT ⊢
  clear h hok hT
  go_enter Try.func27, Try.ntmps27
  go_wp2_with fail
  (with_reducible refine (numS_calls w0 W g s H.out h0 HB.out).mono ?_)
  rintro e w1 ⟨rfl, hR, hg1⟩
  clear H HB
  generalize numS s = ns at *
  obtain ⟨k, X, er⟩ := ns
  simp only at o2 o3 hR ⊢
  obtain ⟨A, c, g1, g2, g3, g4⟩ := hR
  simp only at g1 g2 g3
  obtain ⟨b0, b1⟩ := V.rdr_cells g1
  have f0 := frozen_of_row _ _ 0 _ _ g1
  have f1 := frozen_of_row _ _ 1 _ _ g1
  obtain ⟨n, hnX⟩ : ∃ n, X.length = n := ⟨_, rfl⟩
  have HNX := Aside0.mk hnX
  rw [hnX] at g2 b0 g1 g3
  have hm : n ≤ 9223372036854775807 := g3.2.1
  have G1 := Aside0.mk g1
  have G3 := Aside0.mk g3
  have G4 := Aside0.mk g4
  have GR := Aside0.mk hg1
  clear g1 g3 g4 hg1 o1
  by_cases he : er = 0
  · subst he
    have hT := HT.out
    simp only [ne_eq, not_true, if_false] at hT
    by_cases hm1 : most < k
    · rw [if_pos hm1] at hT
      have HD := Aside0.mk hT
      clear hT HT
      go_wp2_with fail
      (with_reducible refine (V.fail_calls g _ _ _ _ _ G1.out).mono ?_)
      rintro e w2 ⟨⟨v2, rfl⟩, rfl⟩
      go_wp2_with fail
      go_ret
      rw [HD.out]
      exact ⟨rfl, ⟨none, 0, blk_put (blk_set G1.out 1 _) 0 _ rfl, Nat.le_refl _, Kd.C_nil _ _, G4.out.grown (V.set2_grown _ _ _ _ _ _) G4.out.size (fun k e => by cases e; exact h0)⟩, GR.out.trans (V.set2_grown _ _ _ _ _ _)⟩
    · rw [if_neg hm1] at hT
      have hk1 : decide (most < k) = false := decide_eq_false hm1
      by_cases hn1 : (n : Int) < k
      · rw [if_pos (by rw [HNX.out]; exact hn1)] at hT
        have HD := Aside0.mk hT
        clear hT HT
        go_wp2_with fail
        (with_reducible refine (V.fail_calls g _ _ _ _ _ G1.out).mono ?_)
        rintro e w2 ⟨⟨v2, rfl⟩, rfl⟩
        go_wp2_with fail
        go_ret
        rw [HD.out]
        exact ⟨rfl, ⟨none, 0, blk_put (blk_set G1.out 1 _) 0 _ rfl, Nat.le_refl _, Kd.C_nil _ _, G4.out.grown (V.set2_grown _ _ _ _ _ _) G4.out.size (fun k e => by cases e; exact h0)⟩, GR.out.trans (V.set2_grown _ _ _ _ _ _)⟩
      · rw [if_neg (by rw [HNX.out]; exact hn1)] at hT
        have HD := Aside0.mk hT
        obtain ⟨i0, hi0, _, _, _⟩ := info_parts infoU8
        have hct := cut_to 24 5 .i64 Try.underlying24 hi0 A n c k o2 (by omega) g2
        obtain ⟨A2, c2, hrun, hC2, hl2⟩ := V.cutfN' A n c X k HNX.out o2 (by omega) g2
        obtain ⟨k', hk'⟩ : ∃ k', k.toNat = k' := ⟨_, rfl⟩
        simp only [hk'] at hct hrun hC2 hl2
        have hkk : (k' : Int) = k := by omega
        have hcx : U8.C w1 A k' (X.take k') := by
          have h7 := Kd.C_take (m := k') (show U8.C w1 A X.length X by rw [HNX.out]; exact Kd.C_below G3.out G4.out) (by rw [HNX.out]; omega)
          rwa [show (X.take k').length = k' by rw [List.length_take, HNX.out]; omega] at h7
        have hE := C_string' (c := c) hcx
        obtain ⟨q, hq⟩ : ∃ q, (X.drop k').length = q := ⟨_, rfl⟩
        simp only [hq] at hrun
        rw [hq] at hl2
        have HQ := Aside0.mk hq
        have HK := Aside0.mk hk'
        have HC2 := Aside0.mk hC2
        have hk2 : ¬ (n : Int) < k := by omega
        have hk3 : decide ((n : Int) < k) = false := decide_eq_false hk2
        clear hq hC2 hcx hk' hkk hT HT
        go_wp2_with fail
        go_ret
        rw [HD.out, HK.out]
        refine ⟨rfl, ⟨A2, c2, ?_, ?_, ?_, G4.out.setCell (p := ⟨g, 0, none⟩) h0 _⟩, GR.out.trans (V.set1_grown _ _ _ _)⟩
        · show _ = some (V.rdr A2 (X.drop k').length c2 0)
          rw [HQ.out]; exact blk_put G1.out 0 _ rfl
        · show (X.drop k').length ≤ c2
          rw [HQ.out]; exact hl2
        · exact HC2.out w0 G3.out
  · have hT := HT.out
    rw [if_pos he] at hT
    have HD := Aside0.mk hT
    have hd : (er == 0) = false := beq_eq_false_iff_ne.2 he
    have hd2 : (er != 0) = true := bne_iff_ne.2 he
    clear hT HT
    go_wp2_with fail
    go_ret
    rw [HD.out]
    exact ⟨rfl, ⟨A, c, by show _ = some (V.rdr A X.length c er); rw [HNX.out]; exact G1.out, by show X.length ≤ c; rw [HNX.out]; exact g2, by show U8.C w0 A X.length X; rw [HNX.out]; exact G3.out, G4.out⟩, GR.out⟩
end Go.Proofs.Ytopoepifbjbmoaa.A.R

/- A version read of bytes: the program's. -/
namespace Go.Proofs.Ytopoepifbjbmoaa.A.R
open Go.RowKit Go.Proofs.YtopoepifbjbmoaaW.PrintWords Go.Proofs.YtopoepifbjbmoaaW.PrintLast Go.Proofs.YtopoepifbjbmoaaW.PrintMore
set_option linter.unusedVariables false
set_option linter.unusedSimpArgs false

def zeroV : Vr := ⟨{ data := #[] }, 0, 0, 0, 0, 0, { data := #[] }, false⟩
def n1S (s : St) := numS s
def n2S (s : St) := numS (n1S s).2
def n3S (s : St) := numS (n2S s).2
def n4S (s : St) := numS (n3S s).2
def n5S (s : St) := numS (n4S s).2
def n6S (s : St) := numS (n5S s).2
def t1S (s : St) := textS 100 (n6S s).2
def t2S (s : St) := textS 200 (t1S s).2
def verS (s : St) : Vr := ⟨(t1S s).1, (n1S s).1, (n2S s).1, (n3S s).1, (n4S s).1, (n4S s).1 + (n5S s).1, (t2S s).1, decide ((n6S s).1 = 1)⟩
def readV (s : St) : Vr × Int × St :=
  if (t2S s).2.2 ≠ 0 then (zeroV, (t2S s).2.2, (t2S s).2)
  else if 1 < (n6S s).1 ∨ mayV (verS s) = false then (zeroV, 2, (t2S s).2)
  else (verS s, 0, (t2S s).2)
theorem textS_size (most : Int) (hm : 0 ≤ most) {s : St} (h : okS s) : ((textS most s).1.size : Int) ≤ most := by
  obtain ⟨_, ⟨h0, _⟩, _⟩ := okS_num h
  unfold textS
  split
  · exact hm
  · split
    · exact hm
    · split
      · exact hm
      · simp only
        rw [strOfNums_size, List.length_take]
        omega
theorem grownBy_set {W W1 : World} {o : Option Nat} (h : W.grownBy W1 o) {y : Nat} (hy : W.heap.size ≤ y) (j : Nat) (v : Value) : W.grownBy (W1.setCell ⟨y, j, none⟩ v) o :=
  ⟨h.os, h.tape, h.output, by rw [World.size_setCell]; exact h.size, fun i hi ho => (Below.heap_setCell _ _ v i (fun e => by simp only at e; omega)).trans (h.block i hi ho)⟩
theorem RS_set {w0 W : World} {g : Nat} {s : St} (h : RS w0 g W s) {y : Nat} (hy : y ≠ g) (h0 : w0.heap.size ≤ y) (j : Nat) (v : Value) : RS w0 g (W.setCell ⟨y, j, none⟩ v) s := by
  obtain ⟨A, c, h1, h2, h3, h4⟩ := h
  exact ⟨A, c, (Below.heap_setCell _ _ v g (fun e => hy e.symm)).trans h1, h2, h3, h4.setCell (p := ⟨y, j, none⟩) h0 _⟩
theorem errS_calls (w0 W : World) (g : Nat) (s : St) (h : RS w0 g W s) :
    Calls Try.prog 26 #[.pointer (some ⟨g, 0, none⟩)] W fun e w' => e = .returned (.int .i64 s.2) ∧ w' = W := by
  obtain ⟨A, c, h1, h2, h3, h4⟩ := h
  obtain ⟨b0, b1⟩ := V.rdr_cells h1
  clear h1 h3 h4
  go_enter Try.func26, Try.ntmps26
  go_wp2
  go_ret
  exact ⟨rfl, rfl⟩
/-- The walk's state: the reader, the box of what is told, what else is as it was. -/
def RV (w0 : World) (g : Nat) (W0 W : World) (s : St) : Prop := RS w0 g W s ∧ W.heap[W0.heap.size]? = some (vrBox { data := #[] } 0 0 0 0 0 { data := #[] } false) ∧ W0.grownBy W (some g)
theorem RV_rs {w0 W0 W : World} {g : Nat} {s : St} (h : RV w0 g W0 W s) : RS w0 g W s := h.1
theorem RV_num {w0 W0 W W1 : World} {g : Nat} {s s1 : St} (h : RV w0 g W0 W s) (hg0 : g < W0.heap.size) (hR : RS w0 g W1 s1) (hg : W.grownBy W1 (some g)) : RV w0 g W0 W1 s1 :=
  ⟨hR, blk_grown h.2.1 hg (by intro e; injection e with e; omega), h.2.2.trans hg⟩
theorem RV_below {w0 W0 W W1 : World} {g : Nat} {s : St} (h : RV w0 g W0 W s) (hb : Below W.heap.size W W1) : RV w0 g W0 W1 s :=
  ⟨RS_below h.1 hb, box_keep h.2.1 hb, h.2.2.trans (grown_of_below hb _)⟩
/-- .. and the version's own box. -/
def RW (w0 : World) (g : Nat) (W0 : World) (y : Nat) (W : World) (s : St) (p : Vr) : Prop := RV w0 g W0 W s ∧ W.heap[y]? = some (vrB p)
theorem RW_rs {w0 W0 W : World} {g y : Nat} {s : St} {p : Vr} (h : RW w0 g W0 y W s p) : RS w0 g W s := h.1.1
theorem RW_num {w0 W0 W W1 : World} {g y : Nat} {s s1 : St} {p : Vr} (h : RW w0 g W0 y W s p) (hg0 : g < W0.heap.size) (hy : W0.heap.size < y) (hR : RS w0 g W1 s1) (hg : W.grownBy W1 (some g)) : RW w0 g W0 y W1 s1 p :=
  ⟨RV_num h.1 hg0 hR hg, blk_grown h.2 hg (by intro e; injection e with e; omega)⟩
theorem RW_set {w0 W0 W : World} {g y : Nat} {s : St} {p p' : Vr} (h : RW w0 g W0 y W s p) (h0 : w0.heap.size ≤ g) (hg0 : g < W0.heap.size) (hy : W0.heap.size < y) (j : Nat) (u : Value)
    (e : (#[.string p.k, .int .i64 p.br, .int .i64 p.ep, .int .i64 p.sq, .int .i64 p.f, .int .i64 p.t, .string p.v, .bool p.g] : Array Value).setIfInBounds j u = #[.string p'.k, .int .i64 p'.br, .int .i64 p'.ep, .int .i64 p'.sq, .int .i64 p'.f, .int .i64 p'.t, .string p'.v, .bool p'.g]) : RW w0 g W0 y (W.setCell ⟨y, j, none⟩ u) s p' :=
  ⟨⟨RS_set h.1.1 (by omega) (by omega) j u, (Below.heap_setCell _ _ u _ (fun e => by simp only at e; omega)).trans h.1.2.1, grownBy_set h.1.2.2 (by omega) j u⟩, blk_put h.2 j u e⟩
theorem RW_drew {w0 W0 W : World} {g y : Nat} {s : St} {p : Vr} (h : RW w0 g W0 y W s p) : RW w0 g W0 y W.drew s p :=
  ⟨RV_below h.1 (below_drew1 (Below.refl _ _)), h.2⟩
theorem RW_alloc {w0 W0 W : World} {g y : Nat} {s : St} {p : Vr} (h : RW w0 g W0 y W s p) (o : Obj) : RW w0 g W0 y (W.alloc o) s p :=
  ⟨RV_below h.1 (below_alloc (Below.refl _ _) o), box_keep h.2 (below_alloc (Below.refl _ _) o)⟩
theorem RW_below {w0 W0 W W1 : World} {g y : Nat} {s : St} {p : Vr} (h : RW w0 g W0 y W s p) (hb : Below W.heap.size W W1) : RW w0 g W0 y W1 s p :=
  ⟨RV_below h.1 hb, box_keep h.2 hb⟩
set_option maxHeartbeats 2000000 in
theorem RW_fin {w0 W0 W : World} {g y : Nat} {s : St} {p : Vr} (h : RW w0 g W0 y W s p) (h0 : w0.heap.size ≤ g) (hg0 : g < W0.heap.size) (k : ByteArray) (br ep sq f t : Int) (v : ByteArray) (b : Bool) :
    ((((((((W.setCell ⟨W0.heap.size, 0, none⟩ (.string k)).setCell ⟨W0.heap.size, 1, none⟩ (.int .i64 br)).setCell ⟨W0.heap.size, 2, none⟩ (.int .i64 ep)).setCell ⟨W0.heap.size, 3, none⟩ (.int .i64 sq)).setCell ⟨W0.heap.size, 4, none⟩ (.int .i64 f)).setCell ⟨W0.heap.size, 5, none⟩ (.int .i64 t)).setCell ⟨W0.heap.size, 6, none⟩ (.string v)).setCell ⟨W0.heap.size, 7, none⟩ (.bool b)).heap[W0.heap.size]? = some (vrBox k br ep sq f t v b) ∧
    RS w0 g ((((((((W.setCell ⟨W0.heap.size, 0, none⟩ (.string k)).setCell ⟨W0.heap.size, 1, none⟩ (.int .i64 br)).setCell ⟨W0.heap.size, 2, none⟩ (.int .i64 ep)).setCell ⟨W0.heap.size, 3, none⟩ (.int .i64 sq)).setCell ⟨W0.heap.size, 4, none⟩ (.int .i64 f)).setCell ⟨W0.heap.size, 5, none⟩ (.int .i64 t)).setCell ⟨W0.heap.size, 6, none⟩ (.string v)).setCell ⟨W0.heap.size, 7, none⟩ (.bool b)) s ∧
    W0.grownBy ((((((((W.setCell ⟨W0.heap.size, 0, none⟩ (.string k)).setCell ⟨W0.heap.size, 1, none⟩ (.int .i64 br)).setCell ⟨W0.heap.size, 2, none⟩ (.int .i64 ep)).setCell ⟨W0.heap.size, 3, none⟩ (.int .i64 sq)).setCell ⟨W0.heap.size, 4, none⟩ (.int .i64 f)).setCell ⟨W0.heap.size, 5, none⟩ (.int .i64 t)).setCell ⟨W0.heap.size, 6, none⟩ (.string v)).setCell ⟨W0.heap.size, 7, none⟩ (.bool b)) (some g) := by
  refine ⟨?_, ?_, ?_⟩
  · have h1 : (W.setCell ⟨W0.heap.size, 0, none⟩ (.string k)).heap[W0.heap.size]? = some (vrBox k 0 0 0 0 0 { data := #[] } false) := blk_put h.1.2.1 0 _ rfl
    have h2 := blk_set h1 1 (.int .i64 br)
    have h3 := blk_set h2 2 (.int .i64 ep)
    have h4 := blk_set h3 3 (.int .i64 sq)
    have h5 := blk_set h4 4 (.int .i64 f)
    have h6 := blk_set h5 5 (.int .i64 t)
    have h7 := blk_set h6 6 (.string v)
    exact blk_put h7 7 _ rfl
  · have hx : W0.heap.size ≠ g := by omega
    have hx0 : w0.heap.size ≤ W0.heap.size := by omega
    have h1 := h.1.1
    clear h
    have h1 := RS_set h1 hx hx0 0 (.string k)
    have h1 := RS_set h1 hx hx0 1 (.int .i64 br)
    have h1 := RS_set h1 hx hx0 2 (.int .i64 ep)
    have h1 := RS_set h1 hx hx0 3 (.int .i64 sq)
    have h1 := RS_set h1 hx hx0 4 (.int .i64 f)
    have h1 := RS_set h1 hx hx0 5 (.int .i64 t)
    have h1 := RS_set h1 hx hx0 6 (.string v)
    exact RS_set h1 hx hx0 7 (.bool b)
  · have h1 := h.1.2.2
    clear h
    have h1 := grownBy_set h1 (Nat.le_refl _) 0 (.string k)
    have h1 := grownBy_set h1 (Nat.le_refl _) 1 (.int .i64 br)
    have h1 := grownBy_set h1 (Nat.le_refl _) 2 (.int .i64 ep)
    have h1 := grownBy_set h1 (Nat.le_refl _) 3 (.int .i64 sq)
    have h1 := grownBy_set h1 (Nat.le_refl _) 4 (.int .i64 f)
    have h1 := grownBy_set h1 (Nat.le_refl _) 5 (.int .i64 t)
    have h1 := grownBy_set h1 (Nat.le_refl _) 6 (.string v)
    exact grownBy_set h1 (Nat.le_refl _) 7 (.bool b)
theorem vr_frozen {w : World} {x : Nat} {p : Vr} (h : w.heap[x]? = some (vrB p)) (i : Nat) : w.frozen? ⟨x, i, none⟩ = false := blk_frozen h i
end Go.Proofs.Ytopoepifbjbmoaa.A.R

/- The version at the beginning of bytes: row.Read. -/
namespace Go.Proofs.Ytopoepifbjbmoaa.A.R
open Go.RowKit Go.Proofs.YtopoepifbjbmoaaW.PrintWords Go.Proofs.YtopoepifbjbmoaaW.PrintLast Go.Proofs.YtopoepifbjbmoaaW.PrintMore
set_option linter.unusedVariables false
set_option linter.unusedSimpArgs false

section
variable {ops : Array Oper} {rest : List Oper} {o : Oper} {a : Act} {Q : Exit → Act → World → Prop} {W : World} {B : Nat}
theorem app_bytes_step {s x : Operand} (hgd : o.guard = none) (ho : o.op = .call { callee := .builtin .append, args := #[s, x], argTypes := #[24, 24] }) {v : Value} {xs ys : List Int} {A : Option Addr} {m c : Nat} {Kc : Act → World → Prop}
    (hs : a.eval s = v) (hx : a.eval x = .slice A m c) (HO : OB W B v xs) (HR : U8.C W A m ys) (hB : B ≤ W.heap.size) (hl : xs.length + m ≤ 140737488355328)
    (h : ∀ v1 w1, OB w1 B v1 (xs ++ ys) → Below B W w1 → Kc (a.put o.dst v1) w1) :
    if Region.wanted o (yielded ops a.tmps) = true then Oper.wp Try.prog o a W Kc Q else Kc (a.put o.dst undef) W :=
  Kd.R_append_rows_step U8 (Rr := U8.K W) (w0 := W) B (by simp [Region.wanted, hgd]) s x 24 5 (.int .u8 0) 1 ho Try.underlying24 infoU8 rfl (by decide) (by decide) v xs ys A m c (fun _ => True) (fun _ => False) hs hx HO HR (fun _ _ h => h) (fun _ h => h.elim) (fun _ _ => trivial) (Below.refl B W) hB (by omega) (fun v1 w1 h1 h2 _ _ => h v1 w1 h1 h2)
end
theorem OB_lit0d (W : World) (B : Nat) (hB : B ≤ W.heap.size) : OB (W.alloc (.cells #[] 5)).drew B (.slice (some ⟨W.heap.size, 0, none⟩) 0 0) [] := Kd.R_drew (OB_lit (W := W) (B := B) [] hB (by simp))
theorem size_lit0d (W : World) : W.heap.size ≤ (W.alloc (.cells #[] 5)).drew.heap.size := by
  show W.heap.size ≤ (W.alloc (.cells #[] 5)).heap.size
  rw [World.size_alloc]
  exact Nat.le_succ _
def RY (g : Nat) (W0 : World) (z : Nat) (p : Vr) (s : St) (W : World) : Prop := (∃ A c, W.heap[g]? = some (V.rdr A s.1.length c s.2)) ∧ (∃ q : Vr, W.heap[W0.heap.size]? = some (vrB q)) ∧ W.heap[z]? = some (vrB p) ∧ Below W0.heap.size W0 W
theorem RY_below {W0 W W1 : World} {g z : Nat} {p : Vr} {s : St} (h : RY g W0 z p s W) (hb : Below W.heap.size W W1) : RY g W0 z p s W1 := by
  obtain ⟨⟨A, c, h1⟩, ⟨q, h2⟩, h3, h4⟩ := h
  exact ⟨⟨A, c, box_keep h1 hb⟩, ⟨q, box_keep h2 hb⟩, box_keep h3 hb, below_step h4 hb⟩
theorem RY_belowN {W0 W W1 : World} {g z N : Nat} {p : Vr} {s : St} (h : RY g W0 z p s W) (hb : Below N W W1) (hg : g < N) (hx : W0.heap.size < N) (hz : z < N) : RY g W0 z p s W1 := by
  obtain ⟨⟨A, c, a1⟩, ⟨q, h2⟩, h3, h4⟩ := h
  exact ⟨⟨A, c, (hb.block _ hg).trans a1⟩, ⟨q, (hb.block _ hx).trans h2⟩, (hb.block _ hz).trans h3, h4.trans ⟨hb.os, hb.tape, hb.output, hb.size, fun k hk => hb.block k (by omega)⟩⟩
def set8 (W : World) (x : Nat) (p : Vr) : World := W.setCells x 0 (vrCells p)
theorem set8_eq (W : World) (x : Nat) (k : ByteArray) (br ep sq f t : Int) (v : ByteArray) (b : Bool) : (((((((W.setCell ⟨x, 0, none⟩ (.string k)).setCell ⟨x, 1, none⟩ (.int .i64 br)).setCell ⟨x, 2, none⟩ (.int .i64 ep)).setCell ⟨x, 3, none⟩ (.int .i64 sq)).setCell ⟨x, 4, none⟩ (.int .i64 f)).setCell ⟨x, 5, none⟩ (.int .i64 t)).setCell ⟨x, 6, none⟩ (.string v)).setCell ⟨x, 7, none⟩ (.bool b) = set8 W x ⟨k, br, ep, sq, f, t, v, b⟩ := by
  unfold set8
  simp only [World.setCells, vrCells]
theorem set8_heap {W : World} {x : Nat} {q : Vr} (h : W.heap[x]? = some (vrB q)) (p : Vr) : (set8 W x p).heap[x]? = some (vrB p) := by
  obtain ⟨cur', h1, h2, h3⟩ := setCells_row (vrCells p) 0 W _ h (by simp)
  have e : cur' = #[.string p.k, .int .i64 p.br, .int .i64 p.ep, .int .i64 p.sq, .int .i64 p.f, .int .i64 p.t, .string p.v, .bool p.g] := by
    apply Array.ext'
    rw [h3]
    simp
  rw [e] at h1
  exact h1
theorem set8_far (W : World) {x k : Nat} (p : Vr) (hk : k ≠ x) : (set8 W x p).heap[k]? = W.heap[k]? := setCells_far (vrCells p) 0 k hk
theorem set8_same (W : World) (x : Nat) (p : Vr) : (set8 W x p).os = W.os ∧ (set8 W x p).tape = W.tape ∧ (set8 W x p).output = W.output ∧ (set8 W x p).heap.size = W.heap.size := setCells_same x (vrCells p) 0 W
theorem set8_below {N : Nat} {W0 W : World} (h : Below N W0 W) {x : Nat} (hx : N ≤ x) (p : Vr) : Below N W0 (set8 W x p) := by
  obtain ⟨a1, a2, a3, a4⟩ := set8_same W x p
  exact ⟨a1.trans h.os, a2.trans h.tape, a3.trans h.output, by rw [a4]; exact h.size, fun k hk => (set8_far W p (by omega)).trans (h.block k hk)⟩
theorem OB_set8 {W : World} {B : Nat} {u : Value} {l : List Int} (h : OB W B u l) {x : Nat} (hx : x < B) (p : Vr) : OB (set8 W x p) B u l := by
  obtain ⟨h0, inner, ho, hr⟩ := h
  refine ⟨h0, inner, own_move ho (fun k hk => set8_far W p ?_), hr⟩
  have := own_base ho _ hk
  omega
theorem readV_zero (s : St) (h : (readV s).2.1 ≠ 0) : (readV s).1 = zeroV := by
  unfold readV at h ⊢
  split
  · rfl
  · rename_i h1
    rw [if_neg h1] at h
    split
    · rfl
    · rename_i h2
      rw [if_neg h2] at h
      exact absurd rfl h
theorem readV_suffix (s : St) (h : okS s) : (∃ k, (readV s).2.2.1 = s.1.drop k) := by
  obtain ⟨a1, _, k1, e1⟩ := okS_num h
  obtain ⟨a2, _, k2, e2⟩ := okS_num a1
  obtain ⟨a3, _, k3, e3⟩ := okS_num a2
  obtain ⟨a4, _, k4, e4⟩ := okS_num a3
  obtain ⟨a5, _, k5, e5⟩ := okS_num a4
  obtain ⟨a6, _, k6, e6⟩ := okS_num a5
  obtain ⟨a7, k7, e7⟩ := okS_text 100 a6
  obtain ⟨a8, k8, e8⟩ := okS_text 200 a7
  have e : (readV s).2.2 = (t2S s).2 := by 
    unfold readV
    split
    · rfl
    · split <;> rfl
  rw [e]
  unfold t2S t1S n6S n5S n4S n3S n2S n1S
  rw [e8, e7, e6, e5, e4, e3, e2, e1]
  simp only [List.drop_drop]
  exact ⟨_, rfl⟩
theorem RY_S {W0 w' : World} {g z : Nat} {p : Vr} {s : St} (h : RY g W0 z p s w') : w'.cell? ⟨z, 0, none⟩ = some (.string p.k) ∧ w'.cell? ⟨z, 1, none⟩ = some (.int .i64 p.br) ∧ w'.cell? ⟨z, 2, none⟩ = some (.int .i64 p.ep) ∧ w'.cell? ⟨z, 3, none⟩ = some (.int .i64 p.sq) ∧ w'.cell? ⟨z, 4, none⟩ = some (.int .i64 p.f) ∧ w'.cell? ⟨z, 5, none⟩ = some (.int .i64 p.t) ∧ w'.cell? ⟨z, 6, none⟩ = some (.string p.v) ∧ w'.cell? ⟨z, 7, none⟩ = some (.bool p.g) ∧ Aside0 (RY g W0 z p s w') := by
  obtain ⟨a0, a1, a2, a3, a4, a5, a6, a7⟩ := vr_cells h.2.2.1
  exact ⟨a0, a1, a2, a3, a4, a5, a6, a7, ⟨h⟩⟩
theorem RY_set8 {W0 W : World} {g z : Nat} {p : Vr} {s : St} (h : RY g W0 z p s W) (hg : g ≠ W0.heap.size) (hz : z ≠ W0.heap.size) (q : Vr) : RY g W0 z p s (set8 W W0.heap.size q) := by
  obtain ⟨⟨A, c, a1⟩, ⟨q0, h2⟩, h3, h4⟩ := h
  exact ⟨⟨A, c, (set8_far W q hg).trans a1⟩, ⟨q, set8_heap h2 q⟩, (set8_far W q hz).trans h3, set8_below h4 (Nat.le_refl _) q⟩
theorem RY_bel {W0 W : World} {g z : Nat} {p : Vr} {s : St} (h : RY g W0 z p s W) : Below W0.heap.size W0 W := h.2.2.2
end Go.Proofs.Ytopoepifbjbmoaa.A.R

/- A version's bytes are read as it: the plain law. -/
namespace Go.Proofs.Ytopoepifbjbmoaa.A.R
open Go.RowKit Go.Proofs.YtopoepifbjbmoaaW.PrintWords Go.Proofs.YtopoepifbjbmoaaW.PrintLast Go.Proofs.YtopoepifbjbmoaaW.PrintMore
set_option linter.unusedVariables false
set_option linter.unusedSimpArgs false

theorem numS_put (a : Int) (X : List Int) (h0 : 0 ≤ a) (h1 : a < 4611686018427387904) : numS (V.vput a ++ X, 0) = (a, (X, 0)) := by
  unfold numS
  rw [if_pos rfl]
  simp only
  rw [V.numG_put a X h0 h1]
theorem str_bytes (s : ByteArray) : strOfNums (bytesOf s) = s := by
  have e : (bytesOf s).map (fun n => UInt8.ofNat n.toNat) = s.data.toList := by
    unfold bytesOf
    rw [List.map_map]
    refine (List.map_congr_left (g := id) fun x hx => ?_).trans (List.map_id _)
    show UInt8.ofNat ((x.toNat : Int)).toNat = x
    rw [Int.toNat_natCast]
    exact UInt8.ofNat_toNat
  unfold strOfNums
  rw [e]
theorem textS_put (most : Int) (s : ByteArray) (X : List Int) (h : (s.size : Int) ≤ most) (hm : most ≤ 1000000) : textS most (V.vtext s ++ X, 0) = (s, (X, 0)) := by
  unfold textS V.vtext
  rw [List.append_assoc, numS_put _ _ (by omega) (by omega)]
  have hl : (bytesOf s).length = s.size := bytesOf_length s
  rw [if_neg (by simp), if_neg (by simp only; omega), if_neg (by simp only [List.length_append]; omega)]
  simp only [Int.toNat_natCast]
  rw [← hl, List.take_left, List.drop_left, str_bytes]
theorem key_size {k : ByteArray} (h : (O.splitK k).2.2 = 0) : k.size ≤ 92 := by
  unfold O.splitK at h
  split at h
  · split at h
    · rename_i p q _
      split at h
      · rename_i h2
        obtain ⟨_, _, h3, h4⟩ := h2
        have h40 : q.s.size ≤ 40 := by
          unfold O.keyErr at h3
          split at h3
          · omega
          · split at h3
            · omega
            · omega
        rw [← h4]
        unfold O.keyStr
        rw [if_pos h3, strOfNums_size]
        have hf := O.flat_text_len (bytesOf q.s)
        rw [bytesOf_length] at hf
        simp [O.keyParts, O.writeL, O.wpart, O.num8, O.wtext, -List.length_flatMap]
        omega
      · simp at h
    · simp at h
  · rename_i h1
    exact absurd h h1
theorem readV_bytes (p : Vr) (X : List Int) (hm : mayV p = true) : readV (bytesV p ++ X, 0) = (p, 0, (X, 0)) := by
  obtain ⟨h1, ⟨⟨⟨r1, r2⟩, ⟨r3, r4⟩⟩, ⟨r5, r6⟩⟩, ⟨r7, r8, r9⟩, r10, r11⟩ := (mayV_iff p).1 hm
  have hks := key_size h1
  have hg : 0 ≤ goneI p.g ∧ goneI p.g ≤ 1 := by unfold goneI; split <;> omega
  have e0 : (bytesV p ++ X, (0 : Int)) = (V.vput p.br ++ (V.vput p.ep ++ (V.vput p.sq ++ (V.vput p.f ++ (V.vput (p.t - p.f) ++ (V.vput (goneI p.g) ++ (V.vtext p.k ++ (V.vtext p.v ++ X))))))), 0) := by
    unfold bytesV
    simp [List.append_assoc]
  rw [e0]
  have e1 := numS_put p.br (V.vput p.ep ++ (V.vput p.sq ++ (V.vput p.f ++ (V.vput (p.t - p.f) ++ (V.vput (goneI p.g) ++ (V.vtext p.k ++ (V.vtext p.v ++ X))))))) r1 (by omega)
  have e2 := numS_put p.ep (V.vput p.sq ++ (V.vput p.f ++ (V.vput (p.t - p.f) ++ (V.vput (goneI p.g) ++ (V.vtext p.k ++ (V.vtext p.v ++ X)))))) (by omega) (by omega)
  have e3 := numS_put p.sq (V.vput p.f ++ (V.vput (p.t - p.f) ++ (V.vput (goneI p.g) ++ (V.vtext p.k ++ (V.vtext p.v ++ X))))) (by omega) (by omega)
  have e4 := numS_put p.f (V.vput (p.t - p.f) ++ (V.vput (goneI p.g) ++ (V.vtext p.k ++ (V.vtext p.v ++ X)))) r7 (by omega)
  have e5 := numS_put (p.t - p.f) (V.vput (goneI p.g) ++ (V.vtext p.k ++ (V.vtext p.v ++ X))) (by omega) (by omega)
  have e6 := numS_put (goneI p.g) (V.vtext p.k ++ (V.vtext p.v ++ X)) hg.1 (by omega)
  have e7 := textS_put 100 p.k (V.vtext p.v ++ X) (by omega) (by omega)
  have e8 := textS_put 200 p.v X (by omega) (by omega)
  have hv : verS (V.vput p.br ++ (V.vput p.ep ++ (V.vput p.sq ++ (V.vput p.f ++ (V.vput (p.t - p.f) ++ (V.vput (goneI p.g) ++ (V.vtext p.k ++ (V.vtext p.v ++ X))))))), 0) = p := by
    unfold verS t2S t1S n6S n5S n4S n3S n2S n1S
    rw [e1]; simp only
    rw [e2]; simp only
    rw [e3]; simp only
    rw [e4]; simp only
    rw [e5]; simp only
    rw [e6]; simp only
    rw [e7]; simp only
    rw [e8]; simp only
    have hgg : decide (goneI p.g = 1) = p.g := by unfold goneI; cases p.g <;> simp
    have htt : p.f + (p.t - p.f) = p.t := by omega
    rw [hgg, htt]
  unfold readV
  rw [hv, hm]
  have ht : (t2S (V.vput p.br ++ (V.vput p.ep ++ (V.vput p.sq ++ (V.vput p.f ++ (V.vput (p.t - p.f) ++ (V.vput (goneI p.g) ++ (V.vtext p.k ++ (V.vtext p.v ++ X))))))), 0)).2 = (X, 0) ∧ (n6S (V.vput p.br ++ (V.vput p.ep ++ (V.vput p.sq ++ (V.vput p.f ++ (V.vput (p.t - p.f) ++ (V.vput (goneI p.g) ++ (V.vtext p.k ++ (V.vtext p.v ++ X))))))), 0)).1 = goneI p.g := by
    unfold t2S t1S n6S n5S n4S n3S n2S n1S
    rw [e1]; simp only
    rw [e2]; simp only
    rw [e3]; simp only
    rw [e4]; simp only
    rw [e5]; simp only
    rw [e6]; simp only
    rw [e7]; simp only
    rw [e8]; simp only
    exact ⟨trivial, trivial⟩
  rw [ht.1, ht.2, if_neg (by simp), if_neg (by 
    rintro (h | h)
    · omega
    · cases h)]
theorem vput_range (n : Int) : ∀ x ∈ V.vput n, 0 ≤ x ∧ x ≤ 255 := by
  have h : ∀ (N m : Nat), m ≤ N → ∀ x ∈ V.vnat m, 0 ≤ x ∧ x ≤ 255 := by
    intro N
    induction N with
    | zero =>
      intro m hm x hx
      rw [V.vnat_small (by omega), List.mem_singleton] at hx
      omega
    | succ N ih =>
      intro m hm x hx
      by_cases hs : m < 128
      · rw [V.vnat_small hs, List.mem_singleton] at hx
        omega
      · rw [V.vnat_big hs, List.mem_cons] at hx
        rcases hx with rfl | hx
        · omega
        · exact ih (m / 128) (by omega) x hx
  exact h _ _ (Nat.le_refl _)
theorem bytes_range (s : ByteArray) : ∀ x ∈ bytesOf s, 0 ≤ x ∧ x ≤ 255 := by
  intro x hx
  obtain ⟨c, _, rfl⟩ := List.mem_map.1 hx
  have := UInt8.toNat_lt c
  omega
theorem vtext_range (s : ByteArray) : ∀ x ∈ V.vtext s, 0 ≤ x ∧ x ≤ 255 := by
  intro x hx
  unfold V.vtext at hx
  rcases List.mem_append.1 hx with hx | hx
  · exact vput_range _ x hx
  · exact bytes_range s x hx
/-- Two that may be have the same bytes just if they are the same. -/
theorem bytesV_inj {p q : Vr} (hp : mayV p = true) (hq : mayV q = true) (h : bytesV p = bytesV q) : p = q := by
  have h1 := readV_bytes p [] hp
  have h2 := readV_bytes q [] hq
  rw [h] at h1
  rw [h1] at h2
  injection h2
theorem bytesV_range (p : Vr) : ∀ x ∈ bytesV p, 0 ≤ x ∧ x ≤ 255 := by
  intro x hx
  unfold bytesV at hx
  rcases List.mem_append.1 hx with hx | hx
  · obtain ⟨n, _, hx⟩ := List.mem_flatMap.1 hx
    exact vput_range n x hx
  · rcases List.mem_append.1 hx with hx | hx <;> exact vtext_range _ x hx
theorem bytesV_len (p : Vr) (hm : mayV p = true) : (bytesV p).length ≤ 400 := by
  obtain ⟨h1, ⟨⟨⟨r1, r2⟩, ⟨r3, r4⟩⟩, ⟨r5, r6⟩⟩, ⟨r7, r8, r9⟩, r10, r11⟩ := (mayV_iff p).1 hm
  have hks := key_size h1
  have hg : 0 ≤ goneI p.g ∧ goneI p.g ≤ 1 := by unfold goneI; split <;> omega
  have l1 := V.flat_put_len [p.br, p.ep, p.sq, p.f, p.t - p.f, goneI p.g] (by intro y hy; simp only [List.mem_cons, List.not_mem_nil, or_false] at hy; rcases hy with rfl | rfl | rfl | rfl | rfl | rfl <;> omega)
  have l2 := V.vput_le (p.k.size : Int) (by omega)
  have l3 := V.vput_le (p.v.size : Int) (by omega)
  simp only [List.length_cons, List.length_nil] at l1
  unfold bytesV
  rw [List.length_append, List.length_append, V.vtext_len, V.vtext_len]
  omega
end Go.Proofs.Ytopoepifbjbmoaa.A.R
