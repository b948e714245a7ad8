/- VaryRound: what is put is read. -/
import Derived.Test.YthfpbaaefncamaaAReader
import Derived.Test.YthfpbaaefncamaaALawMany
namespace Go
/-- Whatever comes behind a beginning of seven parts: what holds at its end. -/
theorem wp_prefix7 {P : Program} {Q : Exit → Act → World → Prop} {a : Act} {w : World} {r1 r2 r3 r4 r5 r6 r7 Y : Code} (J : Act → World → Prop)
    (first : ∀ (X : Code) (Q1 : Exit → Act → World → Prop), (∀ a w, J a w → X.wp P Q1 a w) → (r1.seq (r2.seq (r3.seq (r4.seq (r5.seq (r6.seq (r7.seq X))))))).wp P Q1 a w)
    (rest : ∀ a w, J a w → Y.wp P Q a w) : (r1.seq (r2.seq (r3.seq (r4.seq (r5.seq (r6.seq (r7.seq Y))))))).wp P Q a w := first Y Q rest
end Go
namespace Go.Proofs.Ythfpbaaefncamaa.A
open Go.RowKit Go.Proofs.YthfpbaaefncamaaW.PrintWords Go.Proofs.YthfpbaaefncamaaW.PrintLast Go.Proofs.YthfpbaaefncamaaW.PrintMore
set_option linter.unusedVariables false
set_option linter.unusedSimpArgs false

theorem vput_range (n : Int) : ∀ x ∈ vput n, 0 ≤ x ∧ x ≤ 255 := by
  have h : ∀ (N m : Nat), m ≤ N → ∀ x ∈ vnat m, 0 ≤ x ∧ x ≤ 255 := by
    intro N
    induction N with
    | zero =>
      intro m hm x hx
      rw [vnat_small (by omega), List.mem_singleton] at hx
      omega
    | succ N ih =>
      intro m hm x hx
      by_cases hs : m < 128
      · rw [vnat_small hs, List.mem_singleton] at hx
        omega
      · rw [vnat_big hs, List.mem_cons] at hx
        rcases hx with rfl | hx
        · omega
        · exact ih (m / 128) (by omega) x hx
  exact h _ _ (Nat.le_refl _)
theorem bytes_range (s : ByteArray) : ∀ x ∈ bytesOf s, 0 ≤ x ∧ x ≤ 255 := by
  intro x hx
  obtain ⟨c, _, rfl⟩ := List.mem_map.1 hx
  have := UInt8.toNat_lt c
  omega
theorem app_range {x y : List Int} (hx : ∀ z ∈ x, 0 ≤ z ∧ z ≤ 255) (hy : ∀ z ∈ y, 0 ≤ z ∧ z ≤ 255) : ∀ z ∈ x ++ y, 0 ≤ z ∧ z ≤ 255 := by
  intro z hz
  rcases List.mem_append.1 hz with h | h
  · exact hx z h
  · exact hy z h
theorem str_bytes (s : ByteArray) : strOfNums (bytesOf s) = s := by
  have e : (bytesOf s).map (fun n => UInt8.ofNat n.toNat) = s.data.toList := by
    unfold bytesOf
    rw [List.map_map]
    refine (List.map_congr_left (g := id) fun x hx => ?_).trans (List.map_id _)
    show UInt8.ofNat ((x.toNat : Int)).toNat = x
    rw [Int.toNat_natCast]
    exact UInt8.ofNat_toNat
  unfold strOfNums
  rw [e]
theorem tmod_lt (x m : Int) (hm : 0 < m) : -m < x.tmod m ∧ x.tmod m < m := by
  rcases Int.lt_or_le x 0 with h | h
  · have e : x.tmod m = -((-x).tmod m) := by rw [Int.neg_tmod, Int.neg_neg]
    rw [e, Int.tmod_eq_emod_of_nonneg (by omega)]
    have h1 := Int.emod_nonneg (-x) (show m ≠ 0 by omega)
    have h2 := Int.emod_lt_of_pos (-x) hm
    omega
  · rw [Int.tmod_eq_emod_of_nonneg h]
    have h1 := Int.emod_nonneg x (show m ≠ 0 by omega)
    have h2 := Int.emod_lt_of_pos x hm
    omega
theorem neg_tmod (a : Int) (h : a < 0) (h2 : -9223372036854775808 ≤ a) : 0 ≤ -((a + 1).tmod 4611686018427387904) ∧ -((a + 1).tmod 4611686018427387904) < 4611686018427387904 := by
  have e : -((a + 1).tmod 4611686018427387904) = (-(a + 1)).tmod 4611686018427387904 := by rw [Int.neg_tmod]
  rw [e, Int.tmod_eq_emod_of_nonneg (by omega)]
  omega
/-- vary.Put(b, x, y) -/
theorem put2_calls (A : Option Addr) (n c : Nat) (b : List Int) (x y : Int) (w : World) (e : Nat) (hr : U8.C w A n b) (hc : n ≤ c) (hx : x ≤ 9223372036854775807) (hy : y ≤ 9223372036854775807) (hl : n + 18 ≤ 140737488000000) :
    Calls Try.prog 8 #[.slice A n c, .slice (some ⟨w.heap.size, 0, none⟩) 2 2] (w.alloc (.cells #[.int .i64 x, .int .i64 y] e)) fun e w' => ∃ v, e = .returned v ∧ OB w' w.heap.size v (b ++ (vput x ++ vput y)) ∧ Below w.heap.size w w' := by
  have h1 := vput_le x hx
  have h2 := vput_le y hy
  have hn := hr.1
  have hf : [x, y].flatMap vput = vput x ++ vput y := by simp
  refine (put_calls A n c b _ 2 2 [x, y] _ (Kd.C_alloc hr _) hc (lit_CK w [x, y] e (by simp) (0, 0)) (by omega) (by
    intro z hz
    simp only [List.mem_cons, List.not_mem_nil, or_false] at hz
    rcases hz with rfl | rfl <;> omega) (by rw [hf, List.length_append]; omega)).mono ?_
  rintro e w' ⟨v, rfl, HO, hb⟩
  rw [hf] at HO
  exact ⟨v, rfl, Kd.R_lower HO (by simp), below_step (below_alloc (Below.refl _ _) _) hb⟩
theorem back_turn (z : Int) (h0 : -2305843009213693952 < z) (h1 : z < 2305843009213693952) : 0 ≤ turn z ∧ turn z < 4611686018427387904 ∧ back (turn z) = z := by
  unfold turn back
  rw [if_neg (by omega)]
  by_cases h : z < 0
  · rw [if_pos h, if_neg (by omega)]
    omega
  · rw [if_neg h, if_pos (by omega)]
    omega

set_option maxRecDepth 100000 in
set_option maxHeartbeats 6400000 in
theorem round_calls (w : World) (a : Int) (ga : IntKind.i64.min ≤ a ∧ a ≤ IntKind.i64.max) (b : Int) (gb : IntKind.i64.min ≤ b ∧ b ≤ IntKind.i64.max) (c : Int) (gc : IntKind.i64.min ≤ c ∧ c ≤ IntKind.i64.max) (s : ByteArray) (gs : s.size ≤ maxLen) :
    Calls Try.prog 7 #[.int .i64 a, .int .i64 b, .int .i64 c, .string s] w fun e w' => e = .returned (.bool true) ∧ Below w.heap.size w w' := by
  have ga0 : -9223372036854775808 ≤ a := ga.1
  have ga1 : a ≤ 9223372036854775807 := ga.2
  have gb0 : -9223372036854775808 ≤ b := gb.1
  have gb1 : b ≤ 9223372036854775807 := gb.2
  have gc0 : -9223372036854775808 ≤ c := gc.1
  have gc1 : c ≤ 9223372036854775807 := gc.2
  have gs0 : s.size ≤ 9223372036854775807 := gs
  clear ga gb gc gs
  go_enter Try.func7, Try.ntmps7
  refine wp_prefix7 (fun a' w' => ∃ (p q z : Int) (S : ByteArray) (u4 u5 u6 u7 u9 u10 u11 u12 u13 u14 u15 u16 u17 u18 u19 u20 u21 u22 u23 u24 u25 u26 u27 u28 u29 u30 u31 u32 u33 u34 u35 u36 u37 u38 u39 u40 u41 u42 u43 u44 u45 u46 u47 u48 u49 u50 u51 u52 u53 u54 u55 u56 u57 u58 u59 u60 u61 u62 u63 u64 u65 u66 u67 u68 u69 u70 u71 u72 u73 u74 u75 u76 u77 u78 u79 u80 u81 : Value), a' = { tmps := #[.int .i64 p, .int .i64 q, .int .i64 z, .string S, u4, u5, u6, u7, .bool false, u9, u10, u11, u12, u13, u14, u15, u16, u17, u18, u19, u20, u21, u22, u23, u24, u25, u26, u27, u28, u29, u30, u31, u32, u33, u34, u35, u36, u37, u38, u39, u40, u41, u42, u43, u44, u45, u46, u47, u48, u49, u50, u51, u52, u53, u54, u55, u56, u57, u58, u59, u60, u61, u62, u63, u64, u65, u66, u67, u68, u69, u70, u71, u72, u73, u74, u75, u76, u77, u78, u79, u80, u81], defers := [] } ∧ (0 ≤ p ∧ p < 4611686018427387904) ∧ (0 ≤ q ∧ q < 4611686018427387904) ∧ (-2305843009213693952 < z ∧ z < 2305843009213693952) ∧ S.size ≤ 100 ∧ w' = w) ?first ?rest
  case first =>
    intro X Q1 hX
    have hz : -2305843009213693952 < c.tmod 2305843009213693952 ∧ c.tmod 2305843009213693952 < 2305843009213693952 := tmod_lt c _ (by decide)
    have hx : (s.extract 0 100).size ≤ 100 := by rw [ByteArray.size_extract]; omega
    rcases Int.lt_or_le a 0 with sa | sa <;> rcases Int.lt_or_le b 0 with sb | sb <;> rcases Nat.lt_or_ge 100 s.size with c1 | c1
    all_goals
      have hpa : ∀ t : Int, 0 ≤ t → 0 ≤ t % 4611686018427387904 ∧ t % 4611686018427387904 < 4611686018427387904 := fun t _ => by omega
      have HPA := Aside0.mk hpa
      have HNA := Aside0.mk (neg_tmod a)
      have HNB := Aside0.mk (neg_tmod b)
      clear hpa
      first
        | (have h1 : (100 : Int) < (s.size : Int) := by omega)
        | (have h1 : ¬ (100 : Int) < (s.size : Int) := by omega)
      have HZ := Aside0.mk hz
      have HXS := Aside0.mk hx
      clear hz hx
      go_wp2
      refine hX _ _ ⟨_, _, _, _, _, _, _, _, _, _, _, _, _, _, _, _, _, _, _, _, _, _, _, _, _, _, _, _, _, _, _, _, _, _, _, _, _, _, _, _, _, _, _, _, _, _, _, _, _, _, _, _, _, _, _, _, _, _, _, _, _, _, _, _, _, _, _, _, _, _, _, _, _, _, _, _, _, _, _, _, _, rfl, ?_, ?_, HZ.out, ?_, rfl⟩
      · first | exact HNA.out (by omega) (by omega) | omega
      · first | exact HNB.out (by omega) (by omega) | omega
      · first | exact HXS.out | omega
  case rest =>
    rintro a' w' ⟨p, q, z, S, u4, u5, u6, u7, u9, u10, u11, u12, u13, u14, u15, u16, u17, u18, u19, u20, u21, u22, u23, u24, u25, u26, u27, u28, u29, u30, u31, u32, u33, u34, u35, u36, u37, u38, u39, u40, u41, u42, u43, u44, u45, u46, u47, u48, u49, u50, u51, u52, u53, u54, u55, u56, u57, u58, u59, u60, u61, u62, u63, u64, u65, u66, u67, u68, u69, u70, u71, u72, u73, u74, u75, u76, u77, u78, u79, u80, u81, rfl, ⟨hp0, hp1⟩, ⟨hq0, hq1⟩, ⟨hz0, hz1⟩, hS, rfl⟩
    obtain ⟨ht0, ht1, ht2⟩ := back_turn z hz0 hz1
    have hvp := vput_le p (by omega)
    have hvq := vput_le q (by omega)
    have hvs := vput_le (S.size : Int) (by omega)
    have hvt := vtext_len S
    have hvz := vput_le (turn z) (by omega)
    have l1 : ([] ++ (vput p ++ vput q)).length ≤ 18 := by rw [List.nil_append, List.length_append]; omega
    have HT2 := Aside0.mk ht2
    have HVT := Aside0.mk hvt
    clear ht2 hvt
    go_wp2_with fail
    (with_reducible refine (put2_calls none 0 0 [] p q _ _ (Kd.C_nil _ _) (by omega) (by omega) (by omega) (by omega)).mono ?_)
    rintro e w1 ⟨v1, rfl, HO1, hb1⟩
    rw [List.nil_append] at HO1 l1
    obtain ⟨n1, hn1⟩ : ∃ n, (vput p ++ vput q).length = n := ⟨_, rfl⟩
    obtain ⟨A1, c1, rfl, hc1, HC1⟩ := OB_readn HO1 n1 hn1
    rw [hn1] at l1
    have HC := Aside0.mk HC1
    have HB1 := Aside0.mk hb1
    have HN1 := Aside0.mk hn1
    clear HO1 HC1 hb1 hn1
    go_wp2_with fail
    (with_reducible refine (text1_calls _ _ _ (vput p ++ vput q) S _ _ HC.out hc1 (by omega) (by omega)).mono ?_)
    rintro e w3 ⟨v3, rfl, HO3, hb3⟩
    obtain ⟨n3, hn3⟩ : ∃ n, (vput p ++ vput q ++ vtext S).length = n := ⟨_, rfl⟩
    have hn32 : n3 ≤ 150 := by rw [← hn3, List.length_append, HN1.out, HVT.out]; omega
    obtain ⟨A3, c3, rfl, hc3, HC3⟩ := OB_readn HO3 n3 hn3
    have HC2 := Aside0.mk HC3
    have HB3 := Aside0.mk (below_step HB1.out hb3)
    have HN3 := Aside0.mk hn3
    clear HO3 HC3 hb3 hn3 HC HB1
    go_wp2_with fail
    (with_reducible refine (turn_calls z _ (by omega) (by omega)).mono ?_)
    rintro e w4 ⟨rfl, rfl⟩
    go_wp2_with fail
    (with_reducible refine (put1_calls _ _ _ (vput p ++ vput q ++ vtext S) (turn z) _ _ HC2.out hc3 (by omega) (by omega)).mono ?_)
    rintro e w5 ⟨v5, rfl, HO5, hb5⟩
    have eT : vput p ++ vput q ++ vtext S ++ vput (turn z) = vput p ++ (vput q ++ (vput S.size ++ (bytesOf S ++ (vput (turn z) ++ [])))) := by
      unfold vtext
      simp only [List.append_assoc, List.append_nil]
    rw [eT] at HO5
    obtain ⟨n5, hn5⟩ : ∃ n, (vput p ++ (vput q ++ (vput S.size ++ (bytesOf S ++ (vput (turn z) ++ []))))).length = n := ⟨_, rfl⟩
    have hn52 : n5 ≤ 200 := by rw [← hn5, ← eT, List.length_append, HN3.out]; omega
    obtain ⟨A5, c5, rfl, hc5, HC5⟩ := OB_readn HO5 n5 hn5
    have HC6 := Aside0.mk HC5
    have HB5 := Aside0.mk (below_step HB3.out hb5)
    have r5 : ∀ x ∈ vput (turn z) ++ [], 0 ≤ x ∧ x ≤ 255 := app_range (vput_range _) (by simp)
    have r4 := app_range (bytes_range S) r5
    have r3 := app_range (vput_range S.size) r4
    have r2 := app_range (vput_range q) r3
    have r1 := app_range (vput_range p) r2
    have R1 := Aside0.mk r1
    have R2 := Aside0.mk r2
    have R3 := Aside0.mk r3
    have R5 := Aside0.mk r5
    clear HO5 HC5 hb5 hn5 eT r1 r2 r3 r4 r5 HC2 HB3
    go_wp2_with fail
    (with_reducible refine (read_calls _ _ _ (vput p ++ (vput q ++ (vput S.size ++ (bytesOf S ++ (vput (turn z) ++ []))))) _ HC6.out hc5 (by omega)).mono ?_)
    rintro e w7 ⟨wr, rfl, hR7, hb7⟩
    have HB7 := Aside0.mk (below_step HB5.out hb7)
    have HR7 := Aside0.mk hR7
    clear hR7 hb7 HB5 HC6
    go_wp2_with fail
    (with_reducible refine (num_calls wr _ _ _ p HR7.out R1.out (numG_put p _ hp0 hp1)).mono ?_)
    rintro e w8 ⟨rfl, hR8, _⟩
    have HR8 := Aside0.mk hR8
    clear hR8 HR7
    go_wp2_with fail
    (with_reducible refine (num_calls wr _ _ _ q HR8.out R2.out (numG_put q _ hq0 hq1)).mono ?_)
    rintro e w9 ⟨rfl, hR9, _⟩
    have HR9 := Aside0.mk hR9
    clear hR9 HR8
    go_wp2_with fail
    (with_reducible refine (rtext_calls wr _ _ _ (S.size : Int) _ HR9.out R3.out (numG_put (S.size : Int) _ (by omega) (by omega)) (by omega) (by omega) (by rw [List.length_append, bytesOf_length]; omega)).mono ?_)
    have e1 : ((S.size : Int)).toNat = S.size := Int.toNat_natCast _
    have e2 : (bytesOf S ++ (vput (turn z) ++ [])).take S.size = bytesOf S := by rw [← bytesOf_length S]; exact List.take_left
    have e3 : (bytesOf S ++ (vput (turn z) ++ [])).drop S.size = vput (turn z) ++ [] := by rw [← bytesOf_length S]; exact List.drop_left
    rw [e1, e2, e3, str_bytes]
    rintro e w10 ⟨rfl, hR10⟩
    have HR10 := Aside0.mk hR10
    clear hR10 HR9 e1 e2 e3
    go_wp2_with fail
    (with_reducible refine (turned_calls wr _ _ _ (turn z) HR10.out R5.out (numG_put (turn z) _ ht0 ht1) ht0 (by omega)).mono ?_)
    rw [HT2.out]
    rintro e w11 ⟨rfl, hR11⟩
    have HR11 := Aside0.mk hR11
    clear hR11 HR10
    go_wp2_with fail
    (with_reducible refine (rest_calls wr _ _ HR11.out).mono ?_)
    rintro e w12 ⟨rfl, rfl⟩
    go_wp2_with fail
    (with_reducible refine (err_calls wr _ _ HR11.out).mono ?_)
    rintro e w13 ⟨rfl, rfl⟩
    go_wp2_with fail
    (with_reducible refine (lives_calls _).mono ?_)
    rintro e w14 ⟨rfl, hb14⟩
    obtain ⟨A14, c14, _, _, _, hb11⟩ := HR11.out
    have HB14 := Aside0.mk (below_step (below_step HB7.out hb11) hb14)
    clear hb11 hb14
    go_wp2_with fail
    go_ret
    exact ⟨rfl, HB14.out⟩

end Go.Proofs.Ythfpbaaefncamaa.A
