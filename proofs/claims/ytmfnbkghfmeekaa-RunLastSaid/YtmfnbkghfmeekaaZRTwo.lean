/- RTwo -/
import Derived.Test.YtmfnbkghfmeekaaZROne
import Derived.Test.YtmfnbkghfmeekaaZOThree
import Derived.Test.YtmfnbkghfmeekaaZVTwo
import Derived.Deep.RegionHeldLaw
namespace Go.Proofs.Ytmfnbkghfmeekaa.A.R
open Go.RowKit Go.Proofs.YtmfnbkghfmeekaaW.PrintWords Go.Proofs.YtmfnbkghfmeekaaW.PrintLast Go.Proofs.YtmfnbkghfmeekaaW.PrintMore
set_option linter.unusedVariables false
set_option linter.unusedSimpArgs false
end Go.Proofs.Ytmfnbkghfmeekaa.A.R
namespace Go.Proofs.Ytmfnbkghfmeekaa.A.R
open Go.RowKit Go.Proofs.YtmfnbkghfmeekaaW.PrintWords Go.Proofs.YtmfnbkghfmeekaaW.PrintLast Go.Proofs.YtmfnbkghfmeekaaW.PrintMore
set_option linter.unusedVariables false
set_option linter.unusedSimpArgs false
abbrev St := List Int × Int
def numS (s : St) : Int × St := if s.2 = 0 then ((V.numG 0 0 s.1).1, (V.numG 0 0 s.1).2) else (0, s)
def textS (most : Int) (s : St) : ByteArray × St :=
  if (numS s).2.2 ≠ 0 then ({ data := #[] }, (numS s).2)
  else if most < (numS s).1 then ({ data := #[] }, ([], 5))
  else if ((numS s).2.1.length : Int) < (numS s).1 then ({ data := #[] }, ([], 3))
  else (strOfNums ((numS s).2.1.take (numS s).1.toNat), ((numS s).2.1.drop (numS s).1.toNat, 0))
def RS (w0 : World) (g : Nat) (W : World) (s : St) : Prop := ∃ A c, W.heap[g]? = some (V.rdr A s.1.length c s.2) ∧ s.1.length ≤ c ∧ U8.C w0 A s.1.length s.1 ∧ Below w0.heap.size w0 W
theorem RS_below {w0 W W' : World} {g : Nat} {s : St} (h : RS w0 g W s) (hb : Below W.heap.size W W') : RS w0 g W' s := by
  obtain ⟨A, c, h1, h2, h3, h4⟩ := h
  exact ⟨A, c, (hb.block _ (Array.getElem?_eq_some_iff.1 h1).1).trans h1, h2, h3, below_step h4 hb⟩
theorem numS_calls (w0 W : World) (g : Nat) (s : St) (h : RS w0 g W s) (h0 : w0.heap.size ≤ g) (hb : ∀ x ∈ s.1, 0 ≤ x ∧ x ≤ 255) :
    Calls Try.prog 70 #[.pointer (some ⟨g, 0, none⟩)] W fun e w' => e = .returned (.int .i64 (numS s).1) ∧ RS w0 g w' (numS s).2 ∧ W.grownBy w' (some g) := by
  obtain ⟨A, c, h1, h2, h3, h4⟩ := h
  unfold numS
  by_cases he : s.2 = 0
  · rw [if_pos he]
    rw [he] at h1
    have H4 := Aside0.mk h4
    have H3 := Aside0.mk h3
    refine (V.number_calls g W A s.1.length c s.1 h1 (Kd.C_below h3 h4) h2 hb).mono ?_
    rintro e w' ⟨A', c', rfl, g1, g2, g3, g4⟩
    exact ⟨rfl, ⟨A', c', g1, g2, g3 w0 H3.out, H4.out.grown g4 H4.out.size (fun k e => by cases e; exact h0)⟩, g4⟩
  · rw [if_neg he]
    obtain ⟨b0, b1⟩ := V.rdr_cells h1
    have HR : Aside0 (RS w0 g W s) := ⟨A, c, h1, h2, h3, h4⟩
    obtain ⟨bs, er⟩ := s
    simp only at he b0 b1
    have hd : (er == 0) = false := beq_eq_false_iff_ne.2 he
    clear h1 h2 h3 h4 hb
    go_enter Try.func70, Try.ntmps70
    go_wp2
    refine wp_scope_straight ?_
    go_wp2
    simp only [Exit.noGoto]
    go_ret
    exact ⟨rfl, HR.out, World.grownBy.refl _ _⟩
theorem numG_suffix : ∀ (bs : List Int) (i : Nat) (n : Int), (∃ k, (V.numG i n bs).2.1 = bs.drop k) ∧ ((V.numG i n bs).2.2 ≠ 0 → (V.numG i n bs).2.1 = [])
  | [], i, n => by
    unfold V.numG
    split <;> exact ⟨⟨0, rfl⟩, fun _ => rfl⟩
  | c :: r, i, n => by
    unfold V.numG
    split
    · exact ⟨⟨(c :: r).length, by simp⟩, fun _ => rfl⟩
    · split
      · obtain ⟨⟨k, hk⟩, h2⟩ := numG_suffix r (i + 1) (n + c % 128 * 128 ^ i)
        exact ⟨⟨k + 1, by rw [hk]; rfl⟩, h2⟩
      · split
        · exact ⟨⟨(c :: r).length, by simp⟩, fun _ => rfl⟩
        · exact ⟨⟨1, rfl⟩, fun h => absurd rfl h⟩
theorem numG_val : ∀ (bs : List Int) (i : Nat) (n : Int), 0 ≤ n → (∀ x ∈ bs, 0 ≤ x ∧ x ≤ 255) → 0 ≤ (V.numG i n bs).1 ∧ (V.numG i n bs).1 < 4611686018427387904
  | [], i, n, h, _ => by unfold V.numG; split <;> decide
  | c :: r, i, n, h, hb => by
    have hc := hb c (List.mem_cons_self ..)
    have hn : 0 ≤ n + c % 128 * 128 ^ i := by
      have : 0 ≤ c % 128 * 128 ^ i := Int.mul_nonneg (by omega) (Int.pow_nonneg (by decide))
      omega
    unfold V.numG
    split
    · decide
    · split
      · exact numG_val r (i + 1) _ hn (fun x hx => hb x (List.mem_cons_of_mem _ hx))
      · split
        · decide
        · rename_i h3
          exact ⟨hn, by simp only; omega⟩
def okS (s : St) : Prop := (∀ x ∈ s.1, 0 ≤ x ∧ x ≤ 255) ∧ (s.2 ≠ 0 → s.1 = [])
theorem okS_num {s : St} (h : okS s) : okS (numS s).2 ∧ (0 ≤ (numS s).1 ∧ (numS s).1 < 4611686018427387904) ∧ ∃ k, (numS s).2.1 = s.1.drop k := by
  unfold numS
  split
  · obtain ⟨⟨k, hk⟩, h2⟩ := numG_suffix s.1 0 0
    refine ⟨⟨fun x hx => ?_, h2⟩, numG_val s.1 0 0 (Int.le_refl _) h.1, ⟨k, hk⟩⟩
    simp only at hx
    rw [hk] at hx
    exact h.1 x (List.mem_of_mem_drop hx)
  · exact ⟨h, ⟨Int.le_refl _, by show (0 : Int) < _; decide⟩, ⟨0, rfl⟩⟩
theorem okS_text {s : St} (most : Int) (h : okS s) : okS (textS most s).2 ∧ ∃ k, (textS most s).2.1 = s.1.drop k := by
  obtain ⟨h1, h2, k, hk⟩ := okS_num h
  unfold textS
  split
  · exact ⟨h1, k, hk⟩
  · split
    · exact ⟨⟨by simp, fun _ => rfl⟩, s.1.length, by simp⟩
    · split
      · exact ⟨⟨by simp, fun _ => rfl⟩, s.1.length, by simp⟩
      · refine ⟨⟨fun x hx => h1.1 x (List.mem_of_mem_drop hx), fun h => absurd rfl h⟩, k + (numS s).1.toNat, ?_⟩
        simp only
        rw [hk, List.drop_drop]
set_option maxRecDepth 100000 in
set_option maxHeartbeats 4000000 in
theorem textS_calls (w0 W : World) (g : Nat) (s : St) (most : Int) (h : RS w0 g W s) (h0 : w0.heap.size ≤ g) (hok : okS s) :
    Calls Try.prog 72 #[.pointer (some ⟨g, 0, none⟩), .int .i64 most] W fun e w' => e = .returned (.string (textS most s).1) ∧ RS w0 g w' (textS most s).2 ∧ W.grownBy w' (some g) := by
  obtain ⟨o1, ⟨o2, o3⟩, _⟩ := okS_num hok
  have H := Aside0.mk h
  have HB := Aside0.mk hok.1
  have HT : Aside0 (textS most s = if (numS s).2.2 ≠ 0 then ({ data := #[] }, (numS s).2) else if most < (numS s).1 then ({ data := #[] }, ([], 5)) else if ((numS s).2.1.length : Int) < (numS s).1 then ({ data := #[] }, ([], 3)) else (strOfNums ((numS s).2.1.take (numS s).1.toNat), ((numS s).2.1.drop (numS s).1.toNat, 0))) := ⟨rfl⟩
  obtain ⟨T, hT⟩ : ∃ T, textS most s = T := ⟨_, rfl⟩
  rw [hT] at HT ⊢
  clear h hok hT
  go_enter Try.func72, Try.ntmps72
  go_wp2_with fail
  (with_reducible refine (numS_calls w0 W g s H.out h0 HB.out).mono ?_)
  rintro e w1 ⟨rfl, hR, hg1⟩
  clear H HB
  generalize numS s = ns at *
  obtain ⟨k, X, er⟩ := ns
  simp only at o2 o3 hR ⊢
  obtain ⟨A, c, g1, g2, g3, g4⟩ := hR
  simp only at g1 g2 g3
  obtain ⟨b0, b1⟩ := V.rdr_cells g1
  have f0 := frozen_of_row _ _ 0 _ _ g1
  have f1 := frozen_of_row _ _ 1 _ _ g1
  obtain ⟨n, hnX⟩ : ∃ n, X.length = n := ⟨_, rfl⟩
  have HNX := Aside0.mk hnX
  rw [hnX] at g2 b0 g1 g3
  have hm : n ≤ 9223372036854775807 := g3.2.1
  have G1 := Aside0.mk g1
  have G3 := Aside0.mk g3
  have G4 := Aside0.mk g4
  have GR := Aside0.mk hg1
  clear g1 g3 g4 hg1 o1
  by_cases he : er = 0
  · subst he
    have hT := HT.out
    simp only [ne_eq, not_true, if_false] at hT
    by_cases hm1 : most < k
    · rw [if_pos hm1] at hT
      have HD := Aside0.mk hT
      clear hT HT
      go_wp2_with fail
      (with_reducible refine (V.fail_calls g _ _ _ _ _ G1.out).mono ?_)
      rintro e w2 ⟨⟨v2, rfl⟩, rfl⟩
      go_wp2_with fail
      go_ret
      rw [HD.out]
      exact ⟨rfl, ⟨none, 0, blk_put (blk_set G1.out 1 _) 0 _ rfl, Nat.le_refl _, Kd.C_nil _ _, G4.out.grown (V.set2_grown _ _ _ _ _ _) G4.out.size (fun k e => by cases e; exact h0)⟩, GR.out.trans (V.set2_grown _ _ _ _ _ _)⟩
    · rw [if_neg hm1] at hT
      have hk1 : decide (most < k) = false := decide_eq_false hm1
      by_cases hn1 : (n : Int) < k
      · rw [if_pos (by rw [HNX.out]; exact hn1)] at hT
        have HD := Aside0.mk hT
        clear hT HT
        go_wp2_with fail
        (with_reducible refine (V.fail_calls g _ _ _ _ _ G1.out).mono ?_)
        rintro e w2 ⟨⟨v2, rfl⟩, rfl⟩
        go_wp2_with fail
        go_ret
        rw [HD.out]
        exact ⟨rfl, ⟨none, 0, blk_put (blk_set G1.out 1 _) 0 _ rfl, Nat.le_refl _, Kd.C_nil _ _, G4.out.grown (V.set2_grown _ _ _ _ _ _) G4.out.size (fun k e => by cases e; exact h0)⟩, GR.out.trans (V.set2_grown _ _ _ _ _ _)⟩
      · rw [if_neg (by rw [HNX.out]; exact hn1)] at hT
        have HD := Aside0.mk hT
        obtain ⟨i0, hi0, _, _, _⟩ := info_parts infoU8
        have hct := cut_to 31 5 .i64 Try.underlying31 hi0 A n c k o2 (by omega) g2
        obtain ⟨A2, c2, hrun, hC2, hl2⟩ := V.cutfN' A n c X k HNX.out o2 (by omega) g2
        obtain ⟨k', hk'⟩ : ∃ k', k.toNat = k' := ⟨_, rfl⟩
        simp only [hk'] at hct hrun hC2 hl2
        have hkk : (k' : Int) = k := by omega
        have hcx : U8.C w1 A k' (X.take k') := by
          have h7 := Kd.C_take (m := k') (show U8.C w1 A X.length X by rw [HNX.out]; exact Kd.C_below G3.out G4.out) (by rw [HNX.out]; omega)
          rwa [show (X.take k').length = k' by rw [List.length_take, HNX.out]; omega] at h7
        have hE := C_string' (c := c) hcx
        obtain ⟨q, hq⟩ : ∃ q, (X.drop k').length = q := ⟨_, rfl⟩
        simp only [hq] at hrun
        rw [hq] at hl2
        have HQ := Aside0.mk hq
        have HK := Aside0.mk hk'
        have HC2 := Aside0.mk hC2
        have hk2 : ¬ (n : Int) < k := by omega
        have hk3 : decide ((n : Int) < k) = false := decide_eq_false hk2
        clear hq hC2 hcx hk' hkk hT HT
        go_wp2_with fail
        go_ret
        rw [HD.out, HK.out]
        refine ⟨rfl, ⟨A2, c2, ?_, ?_, ?_, G4.out.setCell (p := ⟨g, 0, none⟩) h0 _⟩, GR.out.trans (V.set1_grown _ _ _ _)⟩
        · show _ = some (V.rdr A2 (X.drop k').length c2 0)
          rw [HQ.out]; exact blk_put G1.out 0 _ rfl
        · show (X.drop k').length ≤ c2
          rw [HQ.out]; exact hl2
        · exact HC2.out w0 G3.out
  · have hT := HT.out
    rw [if_pos he] at hT
    have HD := Aside0.mk hT
    have hd : (er == 0) = false := beq_eq_false_iff_ne.2 he
    have hd2 : (er != 0) = true := bne_iff_ne.2 he
    clear hT HT
    go_wp2_with fail
    go_ret
    rw [HD.out]
    exact ⟨rfl, ⟨A, c, by show _ = some (V.rdr A X.length c er); rw [HNX.out]; exact G1.out, by show X.length ≤ c; rw [HNX.out]; exact g2, by show U8.C w0 A X.length X; rw [HNX.out]; exact G3.out, G4.out⟩, GR.out⟩
end Go.Proofs.Ytmfnbkghfmeekaa.A.R
namespace Go.Proofs.Ytmfnbkghfmeekaa.A.R
open Go.RowKit Go.Proofs.YtmfnbkghfmeekaaW.PrintWords Go.Proofs.YtmfnbkghfmeekaaW.PrintLast Go.Proofs.YtmfnbkghfmeekaaW.PrintMore
set_option linter.unusedVariables false
set_option linter.unusedSimpArgs false
def zeroV : Vr := ⟨{ data := #[] }, 0, 0, 0, 0, 0, { data := #[] }, false⟩
theorem textS_size (most : Int) (hm : 0 ≤ most) {s : St} (h : okS s) : ((textS most s).1.size : Int) ≤ most := by
  obtain ⟨_, ⟨h0, _⟩, _⟩ := okS_num h
  unfold textS
  split
  · exact hm
  · split
    · exact hm
    · split
      · exact hm
      · simp only
        rw [strOfNums_size, List.length_take]
        omega
theorem RS_set {w0 W : World} {g : Nat} {s : St} (h : RS w0 g W s) {y : Nat} (hy : y ≠ g) (h0 : w0.heap.size ≤ y) (j : Nat) (v : Value) : RS w0 g (W.setCell ⟨y, j, none⟩ v) s := by
  obtain ⟨A, c, h1, h2, h3, h4⟩ := h
  exact ⟨A, c, (Below.heap_setCell _ _ v g (fun e => hy e.symm)).trans h1, h2, h3, h4.setCell (p := ⟨y, j, none⟩) h0 _⟩
theorem errS_calls (w0 W : World) (g : Nat) (s : St) (h : RS w0 g W s) :
    Calls Try.prog 71 #[.pointer (some ⟨g, 0, none⟩)] W fun e w' => e = .returned (.int .i64 s.2) ∧ w' = W := by
  obtain ⟨A, c, h1, h2, h3, h4⟩ := h
  obtain ⟨b0, b1⟩ := V.rdr_cells h1
  clear h1 h3 h4
  go_enter Try.func71, Try.ntmps71
  go_wp2
  go_ret
  exact ⟨rfl, rfl⟩
theorem vr_frozen {w : World} {x : Nat} {p : Vr} (h : w.heap[x]? = some (vrB p)) (i : Nat) : w.frozen? ⟨x, i, none⟩ = false := blk_frozen h i
end Go.Proofs.Ytmfnbkghfmeekaa.A.R
namespace Go.Proofs.Ytmfnbkghfmeekaa.A.R
open Go.RowKit Go.Proofs.YtmfnbkghfmeekaaW.PrintWords Go.Proofs.YtmfnbkghfmeekaaW.PrintLast Go.Proofs.YtmfnbkghfmeekaaW.PrintMore
set_option linter.unusedVariables false
set_option linter.unusedSimpArgs false
section
variable {ops : Array Oper} {rest : List Oper} {o : Oper} {a : Act} {Q : Exit → Act → World → Prop} {W : World} {B : Nat}
end
def set8 (W : World) (x : Nat) (p : Vr) : World := W.setCells x 0 (vrCells p)
theorem set8_eq (W : World) (x : Nat) (k : ByteArray) (br ep sq f t : Int) (v : ByteArray) (b : Bool) : (((((((W.setCell ⟨x, 0, none⟩ (.string k)).setCell ⟨x, 1, none⟩ (.int .i64 br)).setCell ⟨x, 2, none⟩ (.int .i64 ep)).setCell ⟨x, 3, none⟩ (.int .i64 sq)).setCell ⟨x, 4, none⟩ (.int .i64 f)).setCell ⟨x, 5, none⟩ (.int .i64 t)).setCell ⟨x, 6, none⟩ (.string v)).setCell ⟨x, 7, none⟩ (.bool b) = set8 W x ⟨k, br, ep, sq, f, t, v, b⟩ := by
  unfold set8
  simp only [World.setCells, vrCells]
theorem set8_heap {W : World} {x : Nat} {q : Vr} (h : W.heap[x]? = some (vrB q)) (p : Vr) : (set8 W x p).heap[x]? = some (vrB p) := by
  obtain ⟨cur', h1, h2, h3⟩ := setCells_row (vrCells p) 0 W _ h (by simp)
  have e : cur' = #[.string p.k, .int .i64 p.br, .int .i64 p.ep, .int .i64 p.sq, .int .i64 p.f, .int .i64 p.t, .string p.v, .bool p.g] := by
    apply Array.ext'
    rw [h3]
    simp
  rw [e] at h1
  exact h1
theorem set8_far (W : World) {x k : Nat} (p : Vr) (hk : k ≠ x) : (set8 W x p).heap[k]? = W.heap[k]? := setCells_far (vrCells p) 0 k hk
theorem set8_same (W : World) (x : Nat) (p : Vr) : (set8 W x p).os = W.os ∧ (set8 W x p).tape = W.tape ∧ (set8 W x p).output = W.output ∧ (set8 W x p).heap.size = W.heap.size := setCells_same x (vrCells p) 0 W
theorem set8_below {N : Nat} {W0 W : World} (h : Below N W0 W) {x : Nat} (hx : N ≤ x) (p : Vr) : Below N W0 (set8 W x p) := by
  obtain ⟨a1, a2, a3, a4⟩ := set8_same W x p
  exact ⟨a1.trans h.os, a2.trans h.tape, a3.trans h.output, by rw [a4]; exact h.size, fun k hk => (set8_far W p (by omega)).trans (h.block k hk)⟩
end Go.Proofs.Ytmfnbkghfmeekaa.A.R
namespace Go.Proofs.Ytmfnbkghfmeekaa.A.R
open Go.RowKit Go.Proofs.YtmfnbkghfmeekaaW.PrintWords Go.Proofs.YtmfnbkghfmeekaaW.PrintLast Go.Proofs.YtmfnbkghfmeekaaW.PrintMore
set_option linter.unusedVariables false
set_option linter.unusedSimpArgs false
theorem numS_put (a : Int) (X : List Int) (h0 : 0 ≤ a) (h1 : a < 4611686018427387904) : numS (V.vput a ++ X, 0) = (a, (X, 0)) := by
  unfold numS
  rw [if_pos rfl]
  simp only
  rw [V.numG_put a X h0 h1]
theorem str_bytes (s : ByteArray) : strOfNums (bytesOf s) = s := by
  have e : (bytesOf s).map (fun n => UInt8.ofNat n.toNat) = s.data.toList := by
    unfold bytesOf
    rw [List.map_map]
    refine (List.map_congr_left (g := id) fun x hx => ?_).trans (List.map_id _)
    show UInt8.ofNat ((x.toNat : Int)).toNat = x
    rw [Int.toNat_natCast]
    exact UInt8.ofNat_toNat
  unfold strOfNums
  rw [e]
theorem textS_put (most : Int) (s : ByteArray) (X : List Int) (h : (s.size : Int) ≤ most) (hm : most ≤ 1000000) : textS most (V.vtext s ++ X, 0) = (s, (X, 0)) := by
  unfold textS V.vtext
  rw [List.append_assoc, numS_put _ _ (by omega) (by omega)]
  have hl : (bytesOf s).length = s.size := bytesOf_length s
  rw [if_neg (by simp), if_neg (by simp only; omega), if_neg (by simp only [List.length_append]; omega)]
  simp only [Int.toNat_natCast]
  rw [← hl, List.take_left, List.drop_left, str_bytes]
theorem key_size {k : ByteArray} (h : (O.splitK k).2.2 = 0) : k.size ≤ 92 := by
  unfold O.splitK at h
  split at h
  · split at h
    · rename_i p q _
      split at h
      · rename_i h2
        obtain ⟨_, _, h3, h4⟩ := h2
        have h40 : q.s.size ≤ 40 := by
          unfold O.keyErr at h3
          split at h3
          · omega
          · split at h3
            · omega
            · omega
        rw [← h4]
        unfold O.keyStr
        rw [if_pos h3, strOfNums_size]
        have hf := O.flat_text_len (bytesOf q.s)
        rw [bytesOf_length] at hf
        simp [O.keyParts, O.writeL, O.wpart, O.num8, O.wtext, -List.length_flatMap]
        omega
      · simp at h
    · simp at h
  · rename_i h1
    exact absurd h h1
theorem vput_range (n : Int) : ∀ x ∈ V.vput n, 0 ≤ x ∧ x ≤ 255 := by
  have h : ∀ (N m : Nat), m ≤ N → ∀ x ∈ V.vnat m, 0 ≤ x ∧ x ≤ 255 := by
    intro N
    induction N with
    | zero =>
      intro m hm x hx
      rw [V.vnat_small (by omega), List.mem_singleton] at hx
      omega
    | succ N ih =>
      intro m hm x hx
      by_cases hs : m < 128
      · rw [V.vnat_small hs, List.mem_singleton] at hx
        omega
      · rw [V.vnat_big hs, List.mem_cons] at hx
        rcases hx with rfl | hx
        · omega
        · exact ih (m / 128) (by omega) x hx
  exact h _ _ (Nat.le_refl _)
theorem bytes_range (s : ByteArray) : ∀ x ∈ bytesOf s, 0 ≤ x ∧ x ≤ 255 := by
  intro x hx
  obtain ⟨c, _, rfl⟩ := List.mem_map.1 hx
  have := UInt8.toNat_lt c
  omega
theorem vtext_range (s : ByteArray) : ∀ x ∈ V.vtext s, 0 ≤ x ∧ x ≤ 255 := by
  intro x hx
  unfold V.vtext at hx
  rcases List.mem_append.1 hx with hx | hx
  · exact vput_range _ x hx
  · exact bytes_range s x hx
theorem bytesV_len (p : Vr) (hm : mayV p = true) : (bytesV p).length ≤ 400 := by
  obtain ⟨h1, ⟨⟨⟨r1, r2⟩, ⟨r3, r4⟩⟩, ⟨r5, r6⟩⟩, ⟨r7, r8, r9⟩, r10, r11⟩ := (mayV_iff p).1 hm
  have hks := key_size h1
  have hg : 0 ≤ goneI p.g ∧ goneI p.g ≤ 1 := by unfold goneI; split <;> omega
  have l1 := V.flat_put_len [p.br, p.ep, p.sq, p.f, p.t - p.f, goneI p.g] (by intro y hy; simp only [List.mem_cons, List.not_mem_nil, or_false] at hy; rcases hy with rfl | rfl | rfl | rfl | rfl | rfl <;> omega)
  have l2 := V.vput_le (p.k.size : Int) (by omega)
  have l3 := V.vput_le (p.v.size : Int) (by omega)
  simp only [List.length_cons, List.length_nil] at l1
  unfold bytesV
  rw [List.length_append, List.length_append, V.vtext_len, V.vtext_len]
  omega
end Go.Proofs.Ytmfnbkghfmeekaa.A.R
