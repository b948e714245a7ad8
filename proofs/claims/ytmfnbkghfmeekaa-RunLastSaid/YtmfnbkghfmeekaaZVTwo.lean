/- VTwo -/
import Derived.Test.YtmfnbkghfmeekaaZVOne
import Derived.ScopeJumps
import Derived.WalkMore
import Derived.Lib.Zigzag
namespace Go
theorem wp_scope_goto {P : Program} {Q : Exit → Act → World → Prop} {a : Act} {w : World} {rest : Code} (pre : Code → Code) (l : Nat) (J : Act → World → Prop) (μ : Act → World → Nat)
    (hf : findLabel (pre ((Code.label l).seq rest)) l = some (Code.skip.seq rest))
    (first : ∀ (X : Code) (Q1 : Exit → Act → World → Prop), (∀ a w, J a w → X.wp P Q1 a w) → (pre X).wp P Q1 a w)
    (pass : ∀ a w, J a w → rest.wp P (Exit.jump l (fun a' w' => J a' w' ∧ μ a' w' < μ a w) Q) a w) : (Code.scope (pre ((Code.label l).seq rest))).wp P Q a w := by
  refine wp_scope_jumps l J μ hf (first _ _ fun a1 w1 hJ => ?_) (fun a1 w1 hJ => wp_seq (wp_skip (pass a1 w1 hJ)))
  refine wp_seq (wp_label (Code.wp_mono ?_ (pass a1 w1 hJ)))
  intro e a2 w2 h
  cases e <;> first | exact h | exact ⟨h.1, h.2.1⟩
end Go
namespace Go.Proofs.Ytmfnbkghfmeekaa.A.V
open Go.RowKit Go.Proofs.YtmfnbkghfmeekaaW.PrintWords Go.Proofs.YtmfnbkghfmeekaaW.PrintLast Go.Proofs.YtmfnbkghfmeekaaW.PrintMore
set_option linter.unusedVariables false
set_option linter.unusedSimpArgs false
def numG : Nat → Int → List Int → Int × List Int × Int
  | i, _, [] => if i = 9 then (0, [], 2) else (0, [], 3)
  | i, n, c :: r => if i = 9 then (0, [], 2) else if 128 ≤ c then numG (i + 1) (n + c % 128 * 128 ^ i) r else if 4611686018427387904 ≤ n + c % 128 * 128 ^ i ∨ (c = 0 ∧ 0 < i) then (0, [], 2) else (n + c % 128 * 128 ^ i, r, 0)
abbrev rdr (A : Option Addr) (n c : Nat) (e : Int) : Obj := .cells #[.slice A n c, .int .i64 e] 119 (0, 0)
theorem rdr_cells {w : World} {g n c : Nat} {A : Option Addr} {e : Int} (h : w.heap[g]? = some (rdr A n c e)) : w.cell? ⟨g, 0, none⟩ = some (.slice A n c) ∧ w.cell? ⟨g, 1, none⟩ = some (.int .i64 e) := by
  refine ⟨?_, ?_⟩
  · rw [cell_of_row _ _ _ _ _ _ h]; rfl
  · rw [cell_of_row _ _ _ _ _ _ h]; rfl
set_option maxRecDepth 100000 in
theorem fail_calls (g : Nat) (e : Int) (w : World) (A : Option Addr) (n c : Nat) (hX : w.heap[g]? = some (rdr A n c 0)) :
    Calls Try.prog 93 #[.pointer (some ⟨g, 0, none⟩), .int .i64 e] w fun x w' => (∃ v, x = .returned v) ∧ w' = (w.setCell ⟨g, 1, none⟩ (.int .i64 e)).setCell ⟨g, 0, none⟩ (.slice none 0 0) := by
  obtain ⟨b0, b1⟩ := rdr_cells hX
  have f0 := frozen_of_row _ _ 0 _ _ hX
  have f1 := frozen_of_row _ _ 1 _ _ hX
  have HX := Aside0.mk hX
  clear hX
  go_enter Try.func93, Try.ntmps93
  go_wp2
  go_end0
  exact ⟨⟨_, rfl⟩, rfl⟩
theorem set1_grown (w : World) (g j : Nat) (v : Value) : w.grownBy (w.setCell ⟨g, j, none⟩ v) (some g) :=
  ⟨rfl, rfl, rfl, by simp, fun k _ hne => Below.heap_setCell w _ v k (fun e => hne (by rw [e]))⟩
theorem set2_grown (w : World) (g j j' : Nat) (v v' : Value) : w.grownBy ((w.setCell ⟨g, j, none⟩ v).setCell ⟨g, j', none⟩ v') (some g) :=
  ⟨rfl, rfl, rfl, by simp, fun k _ hne => (Below.heap_setCell _ _ v' k (fun e => hne (by rw [e]))).trans (Below.heap_setCell w _ v k (fun e => hne (by rw [e])))⟩
theorem and127_all : ∀ r : Fin 256, bits .and .u8 (r.val : Int) 127 = (r.val : Int) % 128 := by decide +kernel
theorem and127 (x : Int) (h0 : 0 ≤ x) (h1 : x < 256) : bits .and .u8 x 127 = x % 128 := by
  obtain ⟨n, rfl⟩ := Int.eq_ofNat_of_zero_le h0
  exact and127_all ⟨n, by omega⟩
theorem or_lo_hi (x y : Int) (i : Nat) (hx : 0 ≤ x) (hx1 : x < 2 ^ i) (hy : 0 ≤ y) (hy1 : y % 2 ^ i = 0) (hi : i < 63) (hs : x + y < 9223372036854775808) : bits .or .i64 x y = x + y := by
  have h63 : (2 : Int) ^ 63 = 9223372036854775808 := by decide
  have hp : (0 : Int) < 2 ^ i := Int.pow_pos (by omega)
  have h := bits_join .i64 63 (by decide) (fun n h0 h1 => by rw [IntKind.wrap_i64]; omega) i y x hy hy1 (by omega) hx hx1 (by omega)
  have hc : bits .or .i64 x y = bits .or .i64 y x := by
    simp only [bits]
    rw [BitVec.or_comm]
  rw [hc, h]
  omega
theorem pow7 (i : Nat) : (2 : Int) ^ (7 * i) = 128 ^ i := by rw [Int.pow_mul]; rfl
theorem num_bound (m x : Int) (i : Nat) (hm0 : 0 ≤ m) (hm1 : m < 128 ^ i) (hx : 0 ≤ x ∧ x ≤ 255) : 0 ≤ m + x % 128 * 128 ^ i ∧ m + x % 128 * 128 ^ i < 128 ^ (i + 1) := by
  rw [Int.pow_succ]
  have hp : (0 : Int) < 128 ^ i := Int.pow_pos (by decide)
  generalize (128 : Int) ^ i = p at *
  have h1 : x % 128 * p ≤ 127 * p := Int.mul_le_mul_of_nonneg_right (by omega) (by omega)
  have h2 : 0 ≤ x % 128 * p := Int.mul_nonneg (by omega) (by omega)
  omega
theorem num_step (m x : Int) (i : Nat) (hm0 : 0 ≤ m) (hm1 : m < 128 ^ i) (hx : 0 ≤ x ∧ x ≤ 255) (hi : i ≤ 8) : bits .or .i64 m (wrap64 (wrap64 (bits .and .u8 x 127) * 2 ^ (7 * i))) = m + x % 128 * 128 ^ i := by
  have hb := num_bound m x i hm0 hm1 hx
  have hp : (0 : Int) < 128 ^ i := Int.pow_pos (by decide)
  have h9 : (128 : Int) ^ (i + 1) ≤ 9223372036854775808 := by
    rcases (by omega : i = 0 ∨ i = 1 ∨ i = 2 ∨ i = 3 ∨ i = 4 ∨ i = 5 ∨ i = 6 ∨ i = 7 ∨ i = 8) with rfl | rfl | rfl | rfl | rfl | rfl | rfl | rfl | rfl <;> decide
  have h2 : 0 ≤ x % 128 * 128 ^ i := Int.mul_nonneg (by omega) (by omega)
  have e1 : wrap64 (x % 128) = x % 128 := by unfold wrap64; omega
  have e2 : wrap64 (x % 128 * 128 ^ i) = x % 128 * 128 ^ i := by
    unfold wrap64
    generalize x % 128 * 128 ^ i = d at *
    omega
  rw [and127 x hx.1 (by omega), e1, pow7, e2]
  refine or_lo_hi m _ (7 * i) hm0 (by rw [pow7]; exact hm1) h2 ?_ (by omega) (by omega)
  rw [pow7]
  exact Int.mul_emod_left _ _
theorem cutfN' (A : Option Addr) (n c : Nat) (l : List Int) (j : Int) (hn : l.length = n) (h0 : 0 ≤ j) (hm : j ≤ n) (hc : n ≤ c) :
    ∃ (A' : Option Addr) (c' : Nat), (∀ W : World, (Instr.slice 31 (.slice A n c) (some (.int .i64 j)) none none).run Try.prog W = .ok (.slice A' (l.drop j.toNat).length c') W) ∧
      (∀ w : World, U8.C w A n l → U8.C w A' (l.drop j.toNat).length (l.drop j.toNat)) ∧ (l.drop j.toNat).length ≤ c' := by
  subst hn
  exact cutf A c l j h0 hm hc
theorem byteOf {l : List Int} (hb : ∀ x ∈ l, 0 ≤ x ∧ x ≤ 255) (i : Nat) : 0 ≤ l.getD i 0 ∧ l.getD i 0 ≤ 255 := by
  rw [List.getD_eq_getElem?_getD]
  cases h : l[i]? with
  | none => simp
  | some x => exact hb x (List.mem_of_getElem? h)
theorem C_atNN {k : IntKind} {A : Option Addr} {n : Nat} {l : List Int} {w : World} (h : Kd.C (Kd.int k) w A n l) (i : Nat) (hi : i < n) : ∃ ad, A = some ad ∧ w.cell? (ad.add i) = some (.int k (l.getD i 0)) := by
  have hn := h.1
  subst hn
  exact C_at h i hi
theorem drop_cons (bs : List Int) (i : Nat) (h : i < bs.length) : bs.drop i = bs.getD i 0 :: bs.drop (i + 1) := by
  rw [List.drop_eq_getElem_cons h]
  simp [List.getD_eq_getElem?_getD, h]
set_option maxRecDepth 100000 in
set_option maxHeartbeats 4000000 in
theorem number_calls (g : Nat) (w : World) (A : Option Addr) (n c : Nat) (bs : List Int) (hX : w.heap[g]? = some (rdr A n c 0)) (hr : U8.C w A n bs) (hc : n ≤ c) (hb : ∀ x ∈ bs, 0 ≤ x ∧ x ≤ 255) :
    Calls Try.prog 70 #[.pointer (some ⟨g, 0, none⟩)] w fun e w' => ∃ A' c', e = .returned (.int .i64 (numG 0 0 bs).1) ∧ w'.heap[g]? = some (rdr A' (numG 0 0 bs).2.1.length c' (numG 0 0 bs).2.2) ∧ (numG 0 0 bs).2.1.length ≤ c' ∧ (∀ W : World, U8.C W A n bs → U8.C W A' (numG 0 0 bs).2.1.length (numG 0 0 bs).2.1) ∧ w.grownBy w' (some g) := by
  have hn : n = bs.length := hr.1.symm
  obtain ⟨b0, b1⟩ := rdr_cells hX
  have f0 := frozen_of_row _ _ 0 _ _ hX
  have f1 := frozen_of_row _ _ 1 _ _ hX
  have HX := Aside0.mk hX
  have HN := Aside0.mk hn
  have HR := Aside0.mk hr
  have HBY := Aside0.mk hb
  clear hX hn hr hb
  go_enter Try.func70, Try.ntmps70
  go_wp2
  refine wp_scope_goto (fun X => Code.seq _ (Code.seq _ X)) 0 (fun a' w' => ∃ (i : Nat) (m : Int) (u5 u6 u7 u8 u9 u10 u11 u12 u13 u14 u15 u16 u17 u18 u19 u20 u21 u22 u23 u24 u25 u26 u27 u28 u29 u30 u31 u32 u33 u34 u35 u36 u37 u38 u39 u40 u41 u42 u43 u44 u45 u46 u47 u48 u49 u50 u51 u52 u53 u54 u55 u56 u57 u58 u59 u60 u61 u62 u63 u64 u65 u66 : Value), a' = { tmps := #[.pointer (some ⟨g, 0, none⟩), undef, .int .i64 0, .int .i64 m, .int .i64 i, u5, u6, u7, u8, u9, u10, u11, u12, u13, u14, u15, u16, u17, u18, u19, u20, u21, u22, u23, u24, u25, u26, u27, u28, u29, u30, u31, u32, u33, u34, u35, u36, u37, u38, u39, u40, u41, u42, u43, u44, u45, u46, u47, u48, u49, u50, u51, u52, u53, u54, u55, u56, u57, u58, u59, u60, u61, u62, u63, u64, u65, u66], defers := [] } ∧ i ≤ 9 ∧ i ≤ n ∧ 0 ≤ m ∧ m < 128 ^ i ∧ Aside0 (numG i m (bs.drop i) = numG 0 0 bs) ∧ w' = w) (fun a' _ => 9 - (intOf (a'.tmps.getD 4 undef)).toNat) rfl ?first ?pass
  case first =>
    intro X Q1 hX
    go_wp2
    refine hX _ _ ⟨0, 0, _, _, _, _, _, _, _, _, _, _, _, _, _, _, _, _, _, _, _, _, _, _, _, _, _, _, _, _, _, _, _, _, _, _, _, _, _, _, _, _, _, _, _, _, _, _, _, _, _, _, _, _, _, _, _, _, _, _, _, _, _, _, rfl, by omega, by omega, by omega, by decide, ⟨rfl⟩, rfl⟩
  case pass =>
    rintro a' w' ⟨i, m, u5, u6, u7, u8, u9, u10, u11, u12, u13, u14, u15, u16, u17, u18, u19, u20, u21, u22, u23, u24, u25, u26, u27, u28, u29, u30, u31, u32, u33, u34, u35, u36, u37, u38, u39, u40, u41, u42, u43, u44, u45, u46, u47, u48, u49, u50, u51, u52, u53, u54, u55, u56, u57, u58, u59, u60, u61, u62, u63, u64, u65, u66, rfl, hi9, hin, hm0, hm1, HE, rfl⟩
    by_cases h9 : i < 9
    · by_cases hlt : i < n
      · obtain ⟨ad, rfl, hcell⟩ := C_atNN HR.out i hlt
        have hx := byteOf HBY.out i
        have hd := drop_cons bs i (by rw [← HN.out]; exact hlt)
        generalize bs.getD i 0 = x at *
        have i1 : (0 : Int) ≤ (i : Int) := by omega
        have i2 : (i : Int) < (n : Int) := by omega
        have i3 : ¬ (i : Int) = 9 := by omega
        have i4 : ¬ (i : Int) = (n : Int) := by omega
        have i5 : (i : Int) < 9 := by omega
        have hor := num_step m x i hm0 hm1 hx (by omega)
        obtain ⟨m', hm'⟩ : ∃ m', m + x % 128 * 128 ^ i = m' := ⟨_, rfl⟩
        have hbd := num_bound m x i hm0 hm1 hx
        rw [hm'] at hor hbd
        have hE := HE.out
        rw [hd, numG, if_neg (by omega), hm'] at hE
        obtain ⟨hx0, hx1⟩ := hx
        obtain ⟨hm2, hm3⟩ := hbd
        have HM3 := Aside0.mk hm3
        clear hd hm1 hm' HE hm3
        by_cases h128 : 128 ≤ x
        · rw [if_pos h128] at hE
          have HD := Aside0.mk hE
          clear hE
          go_wp2_with fail
          go_step3
          refine ⟨rfl, ⟨i + 1, m', _, _, _, _, _, _, _, _, _, _, _, _, _, _, _, _, _, _, _, _, _, _, _, _, _, _, _, _, _, _, _, _, _, _, _, _, _, _, _, _, _, _, _, _, _, _, _, _, _, _, _, _, _, _, _, _, _, _, _, _, _, _, rfl, by omega, by omega, hm2, HM3.out, HD, rfl⟩, ?_⟩
          simp [intOf]
          omega
        · rw [if_neg h128] at hE
          by_cases hbad : 4611686018427387904 ≤ m' ∨ (x = 0 ∧ 0 < i)
          · rw [if_pos hbad] at hE
            have HD := Aside0.mk hE
            clear hE
            by_cases hbig : 4611686018427387904 ≤ m'
            · clear hbad
              go_wp2_with fail
              have HD2 := HD.out
              (with_reducible refine (fail_calls g _ _ _ _ _ HX.out).mono ?_)
              rintro e w2 ⟨⟨v2, rfl⟩, rfl⟩
              go_wp2_with fail
              simp only [Exit.jump]
              go_ret
              rw [← HD2]
              exact ⟨none, 0, rfl, blk_put (blk_set HX.out 1 _) 0 _ rfl, Nat.le_refl _, fun W _ => Kd.C_nil _ _, set2_grown _ _ _ _ _ _⟩
            · obtain ⟨hz, hi0⟩ : x = 0 ∧ 0 < i := by omega
              subst hz
              have hi1 : (1 : Int) < (i : Int) + 1 := by omega
              clear hbad
              go_wp2_with fail
              have HD2 := HD.out
              (with_reducible refine (fail_calls g _ _ _ _ _ HX.out).mono ?_)
              rintro e w2 ⟨⟨v2, rfl⟩, rfl⟩
              go_wp2_with fail
              simp only [Exit.jump]
              go_ret
              rw [← HD2]
              exact ⟨none, 0, rfl, blk_put (blk_set HX.out 1 _) 0 _ rfl, Nat.le_refl _, fun W _ => Kd.C_nil _ _, set2_grown _ _ _ _ _ _⟩
          · rw [if_neg hbad] at hE
            have HD := Aside0.mk hE
            have hsm : ¬ 4611686018427387904 ≤ m' := by omega
            have hzz : x = 0 → ¬ (1 : Int) < (i : Int) + 1 := by omega
            obtain ⟨A2, c2, hrun, hC2, hl2⟩ := cutfN' (some ad) n c bs ((i : Int) + 1) HN.out.symm (by omega) (by omega) hc
            have e2 : ((i : Int) + 1).toNat = i + 1 := by omega
            simp only [e2] at hrun hC2 hl2
            obtain ⟨q, hq⟩ : ∃ q, (bs.drop (i + 1)).length = q := ⟨_, rfl⟩
            rw [hq] at hl2
            simp only [hq] at hrun
            have HQ := Aside0.mk hq
            have HC2 := Aside0.mk hC2
            clear hE hbad e2 hq hC2
            by_cases hz : x = 0
            · have hi1 := hzz hz
              subst hz
              clear hzz
              go_wp2_with fail
              simp only [Exit.jump]
              go_ret
              have HD2 := HD.out
              rw [← HD2]
              refine ⟨A2, c2, rfl, ?_, ?_, ?_, set1_grown _ _ _ _⟩
              · rw [HQ.out]; exact blk_put HX.out 0 _ rfl
              · rw [HQ.out]; exact hl2
              · exact HC2.out
            · clear hzz
              go_wp2_with fail
              simp only [Exit.jump]
              go_ret
              have HD2 := HD.out
              rw [← HD2]
              refine ⟨A2, c2, rfl, ?_, ?_, ?_, set1_grown _ _ _ _⟩
              · rw [HQ.out]; exact blk_put HX.out 0 _ rfl
              · rw [HQ.out]; exact hl2
              · exact HC2.out
      · have hiN : i = n := by omega
        have hE := HE.out
        rw [List.drop_of_length_le (by rw [← HN.out]; omega), numG, if_neg (by omega)] at hE
        have HD := Aside0.mk hE
        have i3 : ¬ (i : Int) = 9 := by omega
        have i4 : (i : Int) = (n : Int) := by omega
        clear hE HE hm1
        go_wp2_with fail
        have HD2 := HD.out
        (with_reducible refine (fail_calls g _ _ _ _ _ HX.out).mono ?_)
        rintro e w2 ⟨⟨v2, rfl⟩, rfl⟩
        go_wp2_with fail
        simp only [Exit.jump]
        go_ret
        rw [← HD2]
        exact ⟨none, 0, rfl, blk_put (blk_set HX.out 1 _) 0 _ rfl, Nat.le_refl _, fun W _ => Kd.C_nil _ _, set2_grown _ _ _ _ _ _⟩
    · have hi : i = 9 := by omega
      subst hi
      have hE : ([] : List Int) = [] ∧ (0, ([] : List Int), (2 : Int)) = numG 0 0 bs := by
        have h := HE.out
        cases hbs : bs.drop 9 with
        | nil => rw [hbs, numG, if_pos rfl] at h; exact ⟨rfl, h⟩
        | cons c r => rw [hbs, numG, if_pos rfl] at h; exact ⟨rfl, h⟩
      have HD := Aside0.mk hE.2
      clear hE HE hm1
      go_wp2_with fail
      have HD2 := HD.out
      (with_reducible refine (fail_calls g _ _ _ _ _ HX.out).mono ?_)
      rintro e w2 ⟨⟨v2, rfl⟩, rfl⟩
      go_wp2_with fail
      simp only [Exit.jump]
      go_ret
      rw [← HD2]
      exact ⟨none, 0, rfl, blk_put (blk_set HX.out 1 _) 0 _ rfl, Nat.le_refl _, fun W _ => Kd.C_nil _ _, set2_grown _ _ _ _ _ _⟩
end Go.Proofs.Ytmfnbkghfmeekaa.A.V
namespace Go.Proofs.Ytmfnbkghfmeekaa.A.V
open Go.RowKit Go.Proofs.YtmfnbkghfmeekaaW.PrintWords Go.Proofs.YtmfnbkghfmeekaaW.PrintLast Go.Proofs.YtmfnbkghfmeekaaW.PrintMore
set_option linter.unusedVariables false
set_option linter.unusedSimpArgs false
def RD (w2 W : World) (bs : List Int) (e : Int) : Prop := ∃ A c, W.heap[w2.heap.size]? = some (rdr A bs.length c e) ∧ bs.length ≤ c ∧ U8.C w2 A bs.length bs ∧ Below w2.heap.size w2 W
theorem numG_nat : ∀ (N q i : Nat) (m : Int) (X : List Int), q ≤ N → 0 ≤ m → m + (q : Int) * 128 ^ i < 4611686018427387904 → (q = 0 → i = 0) → i ≤ 8 → numG i m (vnat q ++ X) = (m + (q : Int) * 128 ^ i, X, 0)
  | N, q, i, m, X, hN, hm, hlt, h0, hi => by
    have hp : (0 : Int) < 128 ^ i := Int.pow_pos (by decide)
    by_cases hs : q < 128
    · rw [vnat_small hs]
      show numG i m ((q : Int) :: X) = _
      rw [numG, if_neg (by omega), if_neg (by omega), Int.emod_eq_of_lt (by omega) (by omega), if_neg (by
        rintro (h | ⟨h1, h2⟩)
        · omega
        · have := h0 (by omega)
          omega)]
    · rw [vnat_big hs]
      show numG i m (((q % 128 + 128 : Nat) : Int) :: (vnat (q / 128) ++ X)) = _
      rw [numG, if_neg (by omega), if_pos (by omega)]
      have e1 : ((q % 128 + 128 : Nat) : Int) % 128 = ((q % 128 : Nat) : Int) := by omega
      have e2 : m + ((q % 128 : Nat) : Int) * 128 ^ i + ((q / 128 : Nat) : Int) * 128 ^ (i + 1) = m + (q : Int) * 128 ^ i := by
        rw [Int.pow_succ]
        generalize (128 : Int) ^ i = p at *
        have e3 : (q : Int) = ((q % 128 : Nat) : Int) + 128 * ((q / 128 : Nat) : Int) := by omega
        rw [e3, Int.add_mul, Int.mul_comm p 128, ← Int.mul_assoc, Int.mul_comm ((q / 128 : Nat) : Int) 128]
        have e4 : ((q % 128 : Nat) : Int) + 128 * ((q / 128 : Nat) : Int) = (q : Int) := by omega
        omega
      have hi8 : i + 1 ≤ 8 := by
        rcases (by omega : i ≤ 7 ∨ i = 8) with h | h
        · omega
        · subst h
          have p8 : (128 : Int) ^ 8 = 72057594037927936 := by decide
          rw [p8] at hlt
          omega
      have hnn : 0 ≤ ((q % 128 : Nat) : Int) * 128 ^ i := Int.mul_nonneg (by omega) (by omega)
      rw [e1]
      cases N with
      | zero => omega
      | succ N =>
        rw [numG_nat N (q / 128) (i + 1) _ X (by omega) (by omega) (by rw [e2]; exact hlt) (by omega) hi8, e2]
theorem numG_put (a : Int) (X : List Int) (h0 : 0 ≤ a) (h1 : a < 4611686018427387904) : numG 0 0 (vput a ++ X) = (a, X, 0) := by
  have h := numG_nat a.toNat a.toNat 0 0 X (Nat.le_refl _) (Int.le_refl _) (by rw [Int.pow_zero]; omega) (fun _ => rfl) (by omega)
  rw [Int.pow_zero] at h
  have e : (0 : Int) + (a.toNat : Int) * 1 = a := by omega
  rw [e] at h
  exact h
set_option maxRecDepth 100000 in
theorem read_calls (A : Option Addr) (n c : Nat) (bs : List Int) (w : World) (hr : U8.C w A n bs) (hc : n ≤ c) (hl : n ≤ 100000) :
    Calls Try.prog 69 #[.slice A n c] w fun e w' => ∃ w2 : World, e = .returned (.pointer (some ⟨w2.heap.size, 0, none⟩)) ∧ RD w2 w' bs 0 ∧ Below w.heap.size w w2 := by
  have HR := Aside0.mk hr
  have hn := hr.1
  have HN := Aside0.mk hn
  clear hr hn
  go_enter Try.func69, Try.ntmps69
  go_wp2_with fail
  (with_reducible refine (cloneN_calls _ _ _ bs _ HR.out hc (by omega)).mono ?_)
  rintro e w2 ⟨v2, rfl, HO2, hb2⟩
  obtain ⟨A2, c2, rfl, hc2, HC2⟩ := OB_readn HO2 n HN.out
  have HB2 := Aside0.mk hb2
  have HC := Aside0.mk HC2
  clear HO2 HC2 hb2
  go_wp2
  go_ret
  refine ⟨w2, rfl, ⟨A2, c2, ?_, ?_, ?_, below_alloc (Below.refl _ _) _⟩, HB2.out⟩
  · rw [HN.out]; exact heap_alloc_new w2 _
  · rw [HN.out]; exact hc2
  · rw [HN.out]; exact HC.out
end Go.Proofs.Ytmfnbkghfmeekaa.A.V
