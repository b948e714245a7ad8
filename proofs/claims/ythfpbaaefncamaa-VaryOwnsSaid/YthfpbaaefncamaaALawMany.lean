/- VaryMany: numbers, texts put at once are put one by one. -/
import Derived.Test.YthfpbaaefncamaaARefVary
import Derived.Deep.RegionHeld
namespace Go.Proofs.Ythfpbaaefncamaa.A
open Go.RowKit Go.Proofs.YthfpbaaefncamaaW.PrintWords Go.Proofs.YthfpbaaefncamaaW.PrintLast Go.Proofs.YthfpbaaefncamaaW.PrintMore
set_option linter.unusedVariables false
set_option linter.unusedSimpArgs false

theorem flat_put_len (L : List Int) (h : ∀ y ∈ L, y ≤ 9223372036854775807) : (L.flatMap vput).length ≤ 9 * L.length := by
  induction L with
  | nil => simp
  | cons x L ih =>
    rw [List.flatMap_cons, List.length_append, List.length_cons]
    have h1 := vput_le x (h x (by simp))
    have h2 := ih (fun y hy => h y (by simp [hy]))
    omega
/-- vary.Text(b, s) -/
theorem text1_calls (A : Option Addr) (n c : Nat) (b : List Int) (x : ByteArray) (w : World) (e : Nat) (hr : U8.C w A n b) (hc : n ≤ c) (hx : x.size ≤ 100000) (hl : n ≤ 100000) :
    Calls Try.prog 13 #[.slice A n c, .slice (some ⟨w.heap.size, 0, none⟩) 1 1] (w.alloc (.cells #[.string x] e)) fun e w' => ∃ v, e = .returned v ∧ OB w' w.heap.size v (b ++ vtext x) ∧ Below w.heap.size w w' := by
  have h9 := vput_le x.size (by omega)
  have hn := hr.1
  have ht := vtext_len x
  have hf : [x].flatMap vtext = vtext x := by simp
  refine (text_calls A n c b _ 1 1 [x] _ (Kd.C_alloc hr _) hc (lit_CT w [x] e (by simp) (0, 0)) (by omega) (by rw [hf]; omega)).mono ?_
  rintro e w' ⟨v, rfl, HO, hb⟩
  rw [hf] at HO
  exact ⟨v, rfl, Kd.R_lower HO (by simp), below_step (below_alloc (Below.refl _ _) _) hb⟩
/-- vary.Text(b, s, t) -/
theorem text2_calls (A : Option Addr) (n c : Nat) (b : List Int) (x y : ByteArray) (w : World) (e : Nat) (hr : U8.C w A n b) (hc : n ≤ c) (hx : x.size ≤ 100000) (hy : y.size ≤ 100000) (hl : n ≤ 100000) :
    Calls Try.prog 13 #[.slice A n c, .slice (some ⟨w.heap.size, 0, none⟩) 2 2] (w.alloc (.cells #[.string x, .string y] e)) fun e w' => ∃ v, e = .returned v ∧ OB w' w.heap.size v (b ++ (vtext x ++ vtext y)) ∧ Below w.heap.size w w' := by
  have h9 := vput_le x.size (by omega)
  have h9' := vput_le y.size (by omega)
  have hn := hr.1
  have ht := vtext_len x
  have ht' := vtext_len y
  have hf : [x, y].flatMap vtext = vtext x ++ vtext y := by simp
  refine (text_calls A n c b _ 2 2 [x, y] _ (Kd.C_alloc hr _) hc (lit_CT w [x, y] e (by simp) (0, 0)) (by omega) (by rw [hf, List.length_append]; omega)).mono ?_
  rintro e w' ⟨v, rfl, HO, hb⟩
  rw [hf] at HO
  exact ⟨v, rfl, Kd.R_lower HO (by simp), below_step (below_alloc (Below.refl _ _) _) hb⟩

/-- The same, the world that it began in. -/
theorem text2a_calls (A : Option Addr) (n c : Nat) (b : List Int) (x y : ByteArray) (w : World) (te : Nat) (hr : U8.C w A n b) (hc : n ≤ c) (hx : x.size ≤ 100000) (hy : y.size ≤ 100000) (hl : n ≤ 100000) :
    Calls Try.prog 13 #[.slice A n c, .slice (some ⟨w.heap.size, 0, none⟩) 2 2] (w.alloc (.cells #[.string x, .string y] te)) fun e w' => ∃ v, e = .returned v ∧ OB w' w.heap.size v (b ++ (vtext x ++ vtext y)) ∧ Below (w.alloc (.cells #[.string x, .string y] te)).heap.size (w.alloc (.cells #[.string x, .string y] te)) w' := by
  have h9 := vput_le x.size (by omega)
  have h9' := vput_le y.size (by omega)
  have hn := hr.1
  have ht := vtext_len x
  have ht' := vtext_len y
  have hf : [x, y].flatMap vtext = vtext x ++ vtext y := by simp
  refine (text_calls A n c b _ 2 2 [x, y] _ (Kd.C_alloc hr _) hc (lit_CT w [x, y] te (by simp) (0, 0)) (by omega) (by rw [hf, List.length_append]; omega)).mono ?_
  rintro e w' ⟨v, rfl, HO, hb⟩
  rw [hf] at HO
  exact ⟨v, rfl, Kd.R_lower HO (by simp), hb⟩

set_option maxRecDepth 100000 in
set_option maxHeartbeats 3200000 in
theorem many_calls (w : World) (A : Option Addr) (c : Nat) (l : List Int) (hr : (Kd.int .i64).C w A l.length l) (hc : l.length ≤ c) (hg : ∀ x ∈ l, IntKind.i64.min ≤ x ∧ x ≤ IntKind.i64.max) (s : ByteArray) (hs : s.size ≤ maxLen) :
    Calls Try.prog 5 #[.slice A l.length c, .string s] w fun e w' => e = .returned (.bool true) ∧ Below w.heap.size w w' := by
  have hm : l.length ≤ 9223372036854775807 := hr.2.1
  have hs2 : s.size ≤ 9223372036854775807 := hs
  have HR := Aside0.mk hr
  have hg2 : ∀ x ∈ l, x ≤ 9223372036854775807 := fun x hx => (hg x hx).2
  have HG := Aside0.mk hg2
  clear hr hg hg2 hs
  obtain ⟨ll, hll⟩ : ∃ n, l.length = n := ⟨_, rfl⟩
  have HLL := Aside0.mk hll
  rw [hll] at hm hc ⊢
  clear hll
  go_enter Try.func5, Try.ntmps5
  rcases Nat.lt_or_ge 8 ll with c1 | c1
  · have h1 : (8 : Int) < (ll : Int) := by omega
    have e8 : (l.take 8).length = 8 := by rw [List.length_take, HLL.out]; omega
    have HX1 := C_take_any HR.out 8
    rw [e8] at HX1
    have HXB1 : ∀ x ∈ l.take 8, x ≤ 9223372036854775807 := fun x hx => HG.out x (List.mem_of_mem_take hx)
    generalize l.take 8 = X at *
    have HX := Aside0.mk HX1
    have HXB := Aside0.mk HXB1
    have hcx : 8 ≤ c := by omega
    have hnx : 8 ≤ 8 := by omega
    clear HX1 HXB1 e8
    rcases Nat.lt_or_ge 30 s.size with c2 | c2
    · have h2 : (30 : Int) < (s.size : Int) := by omega
      go_wp2_with fail
      obtain ⟨S, hS⟩ : ∃ S, s.extract 0 30 = S := ⟨_, rfl⟩
      have hS30 : S.size ≤ 30 := by rw [← hS, ByteArray.size_extract]; omega
      rw [hS]
      clear hS
      have hxn : X.length = 8 := HX.out.1
      go_loopw [5, 6] (fun v5 v6 w' => ∃ k : Nat, k ≤ 8 ∧ v6 = .int .i64 k ∧ Aside0 (OB w' w.heap.size v5 ((X.take k).flatMap vput)) ∧ Aside0 (Below w.heap.size w w')) (fun _ v6 _ => 8 - (intOf v6).toNat)
      case atStart => exact ⟨0, Nat.zero_le _, rfl, ⟨by simpa using OB_nil _ _⟩, ⟨Below.refl _ _⟩⟩
      case round =>
        obtain ⟨k, hk, rfl, HO, HB⟩ := hrel
        by_cases hlt : k < 8
        · obtain ⟨ad, rfl, hcell0⟩ := C_at (by rw [hxn]; exact HX.out) k (by omega)
          have hcell := pw_cell_below HB.out hcell0
          have hxm : X.getD k 0 ≤ 9223372036854775807 := by
            have : X.getD k 0 = X[k]'(by omega) := by simp [List.getD_eq_getElem?_getD, show k < X.length by omega]
            rw [this]
            exact HXB.out _ (List.getElem_mem _)
          have hfl := flat_take vput X 0 k (by omega)
          have hlen := flat_put_len (X.take k) (fun y hy => HXB.out y (List.mem_of_mem_take hy))
          rw [List.length_take] at hlen
          generalize X.getD k 0 = x at *
          generalize (X.take k).flatMap vput = pre at *
          obtain ⟨n0, hn0⟩ : ∃ n0, pre.length = n0 := ⟨_, rfl⟩
          obtain ⟨A0, cp0, rfl, hcp0, HC0⟩ := OB_readn HO.out n0 hn0
          have HC := Aside0.mk HC0
          have HFL := Aside0.mk hfl
          have hn9 : n0 ≤ 100 := by omega
          clear hfl hlen hcell0 HC0 hn0 HO hxn
          go_wp2_with fail
          (with_reducible refine (put1_calls _ _ _ pre _ _ _ HC.out hcp0 hxm (by omega)).mono ?_)
          rintro e w2 ⟨v2, rfl, HO2, hb2⟩
          go_wp2
          go_roundw
          case rel =>
            refine ⟨k + 1, hlt, rfl, ⟨?_⟩, ⟨below_step HB.out hb2⟩⟩
            rw [HFL.out]
            exact Kd.R_lower HO2 HB.out.size
          case measure => simp [intOf]; omega
        · obtain rfl : k = 8 := by omega
          have HO5 := HO.out
          rw [List.take_of_length_le (by omega)] at HO5
          have HP := Aside0.mk HO5
          have hlen := flat_put_len X HXB.out
          have hv9 := vput_le (S.size : Int) (by omega)
          have hvt := vtext_len S
          have hl72 : (X.flatMap vput).length ≤ 100 := by omega
          clear HO HO5 hxn hlen
          go_wp2_with fail
          (with_reducible refine (text1_calls none 0 0 [] S _ _ (Kd.C_nil _ _) (by omega) (by omega) (by simp)).mono ?_)
          rintro e w2 ⟨v2, rfl, HO2, hb2⟩
          rw [List.nil_append] at HO2
          obtain ⟨n2, hn2⟩ : ∃ n2, (vtext S).length = n2 := ⟨_, rfl⟩
          obtain ⟨A2, c2, rfl, hc2, HC2⟩ := OB_readn HO2 n2 hn2
          have HC := Aside0.mk HC2
          have HP2 := Aside0.mk (Kd.R_below HP.out hb2)
          have HB2 := Aside0.mk (below_step HB.out hb2)
          have hn40 : n2 ≤ 40 := by omega
          clear HO2 HC2 hb2 HP HB hn2
          go_wp2_with fail
          (with_reducible refine (text1_calls _ _ _ (vtext S) S _ _ HC.out hc2 (by omega) (by omega)).mono ?_)
          rintro e w3 ⟨v3, rfl, HO3, hb3⟩
          have hP5 : Aside0 (OB w3.drew 0 u5 (X.flatMap vput)) := ⟨Kd.R_lower (Kd.R_drew (Kd.R_below HP2.out hb3)) (Nat.zero_le _)⟩
          have hP7 : Aside0 (OB w3.drew 0 v3 (vtext S ++ vtext S)) := ⟨Kd.R_lower (Kd.R_drew HO3) (Nat.zero_le _)⟩
          have hHB := below_drew1 (below_step HB2.out hb3)
          have hE5 := OB_string hP5.out
          have hE7 := OB_string hP7.out
          clear HP2 HB2 hb3 HO3 HC
          go_wp2_with fail
          go_region_held (fun w' => Aside0 (OB w' 0 u5 (X.flatMap vput)) ∧ Aside0 (OB w' 0 v3 (vtext S ++ vtext S)) ∧ Below w.heap.size w w' ∧ (convert 22 9 u5).run Try.prog w' = .ok (.string (strOfNums (X.flatMap vput))) w' ∧ (convert 22 9 v3).run Try.prog w' = .ok (.string (strOfNums (vtext S ++ vtext S))) w')
            (first
              | (go_split_ands; exact ⟨by assumption, by assumption, by assumption, by assumption, by assumption⟩)
              | (go_split_ands; have r5 : OB _ 0 u5 (X.flatMap vput) := Kd.R_below (Aside0.out (by assumption)) hb; have r7 : OB _ 0 v3 (vtext S ++ vtext S) := Kd.R_below (Aside0.out (by assumption)) hb; exact ⟨⟨r5⟩, ⟨r7⟩, below_step (by assumption) hb, OB_string r5, OB_string r7⟩)
              | (go_split_ands; refine ⟨⟨?_⟩, ⟨?_⟩, ?_, OB_string (B := 0) ?_, OB_string (B := 0) ?_⟩ <;> first | exact Kd.R_alloc (Aside0.out (by assumption)) _ | exact below_alloc (by assumption) _))
            (first | ((go_at_call 8); (with_reducible refine (put_calls none 0 0 [] _ _ _ X _ (Kd.C_nil _ _) (by omega) (Kd.C_below HX.out (by go_split_ands; assumption)) hcx HXB.out (by rw [List.length_nil]; omega)).mono ?_); rintro e w9 ⟨v9, rfl, HO9, hb⟩; rw [List.nil_append] at HO9; have E38 := OB_string HO9) | ((go_at_call 13); (with_reducible refine (text2a_calls none 0 0 [] S S _ _ (Kd.C_nil _ _) (by omega) (by omega) (by omega) (by simp)).mono ?_); rintro e w10 ⟨v10, rfl, HO10, hb⟩; rw [List.nil_append] at HO10; have E47 := OB_string HO10) | ((go_at_call 9); (with_reducible refine (lives_calls _).mono ?_); rintro e w8 ⟨rfl, hb⟩))
          all_goals go_wp2
          all_goals go_ret
          all_goals exact ⟨by first | rfl | kernel_rfl, by first | assumption | (go_split_ands; assumption)⟩

    · have h2 : ¬ (30 : Int) < (s.size : Int) := by omega
      have hS30 : s.size ≤ 30 := by omega
      go_wp2_with fail
      have hxn : X.length = 8 := HX.out.1
      go_loopw [5, 6] (fun v5 v6 w' => ∃ k : Nat, k ≤ 8 ∧ v6 = .int .i64 k ∧ Aside0 (OB w' w.heap.size v5 ((X.take k).flatMap vput)) ∧ Aside0 (Below w.heap.size w w')) (fun _ v6 _ => 8 - (intOf v6).toNat)
      case atStart => exact ⟨0, Nat.zero_le _, rfl, ⟨by simpa using OB_nil _ _⟩, ⟨Below.refl _ _⟩⟩
      case round =>
        obtain ⟨k, hk, rfl, HO, HB⟩ := hrel
        by_cases hlt : k < 8
        · obtain ⟨ad, rfl, hcell0⟩ := C_at (by rw [hxn]; exact HX.out) k (by omega)
          have hcell := pw_cell_below HB.out hcell0
          have hxm : X.getD k 0 ≤ 9223372036854775807 := by
            have : X.getD k 0 = X[k]'(by omega) := by simp [List.getD_eq_getElem?_getD, show k < X.length by omega]
            rw [this]
            exact HXB.out _ (List.getElem_mem _)
          have hfl := flat_take vput X 0 k (by omega)
          have hlen := flat_put_len (X.take k) (fun y hy => HXB.out y (List.mem_of_mem_take hy))
          rw [List.length_take] at hlen
          generalize X.getD k 0 = x at *
          generalize (X.take k).flatMap vput = pre at *
          obtain ⟨n0, hn0⟩ : ∃ n0, pre.length = n0 := ⟨_, rfl⟩
          obtain ⟨A0, cp0, rfl, hcp0, HC0⟩ := OB_readn HO.out n0 hn0
          have HC := Aside0.mk HC0
          have HFL := Aside0.mk hfl
          have hn9 : n0 ≤ 100 := by omega
          clear hfl hlen hcell0 HC0 hn0 HO hxn
          go_wp2_with fail
          (with_reducible refine (put1_calls _ _ _ pre _ _ _ HC.out hcp0 hxm (by omega)).mono ?_)
          rintro e w2 ⟨v2, rfl, HO2, hb2⟩
          go_wp2
          go_roundw
          case rel =>
            refine ⟨k + 1, hlt, rfl, ⟨?_⟩, ⟨below_step HB.out hb2⟩⟩
            rw [HFL.out]
            exact Kd.R_lower HO2 HB.out.size
          case measure => simp [intOf]; omega
        · obtain rfl : k = 8 := by omega
          have HO5 := HO.out
          rw [List.take_of_length_le (by omega)] at HO5
          have HP := Aside0.mk HO5
          have hlen := flat_put_len X HXB.out
          have hv9 := vput_le (s.size : Int) (by omega)
          have hvt := vtext_len s
          have hl72 : (X.flatMap vput).length ≤ 100 := by omega
          clear HO HO5 hxn hlen
          go_wp2_with fail
          (with_reducible refine (text1_calls none 0 0 [] s _ _ (Kd.C_nil _ _) (by omega) (by omega) (by simp)).mono ?_)
          rintro e w2 ⟨v2, rfl, HO2, hb2⟩
          rw [List.nil_append] at HO2
          obtain ⟨n2, hn2⟩ : ∃ n2, (vtext s).length = n2 := ⟨_, rfl⟩
          obtain ⟨A2, c2, rfl, hc2, HC2⟩ := OB_readn HO2 n2 hn2
          have HC := Aside0.mk HC2
          have HP2 := Aside0.mk (Kd.R_below HP.out hb2)
          have HB2 := Aside0.mk (below_step HB.out hb2)
          have hn40 : n2 ≤ 40 := by omega
          clear HO2 HC2 hb2 HP HB hn2
          go_wp2_with fail
          (with_reducible refine (text1_calls _ _ _ (vtext s) s _ _ HC.out hc2 (by omega) (by omega)).mono ?_)
          rintro e w3 ⟨v3, rfl, HO3, hb3⟩
          have hP5 : Aside0 (OB w3.drew 0 u5 (X.flatMap vput)) := ⟨Kd.R_lower (Kd.R_drew (Kd.R_below HP2.out hb3)) (Nat.zero_le _)⟩
          have hP7 : Aside0 (OB w3.drew 0 v3 (vtext s ++ vtext s)) := ⟨Kd.R_lower (Kd.R_drew HO3) (Nat.zero_le _)⟩
          have hHB := below_drew1 (below_step HB2.out hb3)
          have hE5 := OB_string hP5.out
          have hE7 := OB_string hP7.out
          clear HP2 HB2 hb3 HO3 HC
          go_wp2_with fail
          go_region_held (fun w' => Aside0 (OB w' 0 u5 (X.flatMap vput)) ∧ Aside0 (OB w' 0 v3 (vtext s ++ vtext s)) ∧ Below w.heap.size w w' ∧ (convert 22 9 u5).run Try.prog w' = .ok (.string (strOfNums (X.flatMap vput))) w' ∧ (convert 22 9 v3).run Try.prog w' = .ok (.string (strOfNums (vtext s ++ vtext s))) w')
            (first
              | (go_split_ands; exact ⟨by assumption, by assumption, by assumption, by assumption, by assumption⟩)
              | (go_split_ands; have r5 : OB _ 0 u5 (X.flatMap vput) := Kd.R_below (Aside0.out (by assumption)) hb; have r7 : OB _ 0 v3 (vtext s ++ vtext s) := Kd.R_below (Aside0.out (by assumption)) hb; exact ⟨⟨r5⟩, ⟨r7⟩, below_step (by assumption) hb, OB_string r5, OB_string r7⟩)
              | (go_split_ands; refine ⟨⟨?_⟩, ⟨?_⟩, ?_, OB_string (B := 0) ?_, OB_string (B := 0) ?_⟩ <;> first | exact Kd.R_alloc (Aside0.out (by assumption)) _ | exact below_alloc (by assumption) _))
            (first | ((go_at_call 8); (with_reducible refine (put_calls none 0 0 [] _ _ _ X _ (Kd.C_nil _ _) (by omega) (Kd.C_below HX.out (by go_split_ands; assumption)) hcx HXB.out (by rw [List.length_nil]; omega)).mono ?_); rintro e w9 ⟨v9, rfl, HO9, hb⟩; rw [List.nil_append] at HO9; have E38 := OB_string HO9) | ((go_at_call 13); (with_reducible refine (text2a_calls none 0 0 [] s s _ _ (Kd.C_nil _ _) (by omega) (by omega) (by omega) (by simp)).mono ?_); rintro e w10 ⟨v10, rfl, HO10, hb⟩; rw [List.nil_append] at HO10; have E47 := OB_string HO10) | ((go_at_call 9); (with_reducible refine (lives_calls _).mono ?_); rintro e w8 ⟨rfl, hb⟩))
          all_goals go_wp2
          all_goals go_ret
          all_goals exact ⟨by first | rfl | kernel_rfl, by first | assumption | (go_split_ands; assumption)⟩

  · have h1 : ¬ (8 : Int) < (ll : Int) := by omega
    have HX1 := HR.out
    rw [HLL.out] at HX1
    have HX := Aside0.mk HX1
    have HXB := HG
    have hcx := hc
    have hnx : ll ≤ 8 := by omega
    clear HX1
    rcases Nat.lt_or_ge 30 s.size with c2 | c2
    · have h2 : (30 : Int) < (s.size : Int) := by omega
      go_wp2_with fail
      obtain ⟨S, hS⟩ : ∃ S, s.extract 0 30 = S := ⟨_, rfl⟩
      have hS30 : S.size ≤ 30 := by rw [← hS, ByteArray.size_extract]; omega
      rw [hS]
      clear hS
      have hxn : l.length = ll := HX.out.1
      go_loopw [5, 6] (fun v5 v6 w' => ∃ k : Nat, k ≤ ll ∧ v6 = .int .i64 k ∧ Aside0 (OB w' w.heap.size v5 ((l.take k).flatMap vput)) ∧ Aside0 (Below w.heap.size w w')) (fun _ v6 _ => ll - (intOf v6).toNat)
      case atStart => exact ⟨0, Nat.zero_le _, rfl, ⟨by simpa using OB_nil _ _⟩, ⟨Below.refl _ _⟩⟩
      case round =>
        obtain ⟨k, hk, rfl, HO, HB⟩ := hrel
        by_cases hlt : k < ll
        · obtain ⟨ad, rfl, hcell0⟩ := C_at (by rw [hxn]; exact HX.out) k (by omega)
          have hcell := pw_cell_below HB.out hcell0
          have hxm : l.getD k 0 ≤ 9223372036854775807 := by
            have : l.getD k 0 = l[k]'(by omega) := by simp [List.getD_eq_getElem?_getD, show k < l.length by omega]
            rw [this]
            exact HXB.out _ (List.getElem_mem _)
          have hfl := flat_take vput l 0 k (by omega)
          have hlen := flat_put_len (l.take k) (fun y hy => HXB.out y (List.mem_of_mem_take hy))
          rw [List.length_take] at hlen
          generalize l.getD k 0 = x at *
          generalize (l.take k).flatMap vput = pre at *
          obtain ⟨n0, hn0⟩ : ∃ n0, pre.length = n0 := ⟨_, rfl⟩
          obtain ⟨A0, cp0, rfl, hcp0, HC0⟩ := OB_readn HO.out n0 hn0
          have HC := Aside0.mk HC0
          have HFL := Aside0.mk hfl
          have hn9 : n0 ≤ 100 := by omega
          clear hfl hlen hcell0 HC0 hn0 HO hxn
          go_wp2_with fail
          (with_reducible refine (put1_calls _ _ _ pre _ _ _ HC.out hcp0 hxm (by omega)).mono ?_)
          rintro e w2 ⟨v2, rfl, HO2, hb2⟩
          go_wp2
          go_roundw
          case rel =>
            refine ⟨k + 1, hlt, rfl, ⟨?_⟩, ⟨below_step HB.out hb2⟩⟩
            rw [HFL.out]
            exact Kd.R_lower HO2 HB.out.size
          case measure => simp [intOf]; omega
        · obtain rfl : k = ll := by omega
          have HO5 := HO.out
          rw [List.take_of_length_le (by omega)] at HO5
          have HP := Aside0.mk HO5
          have hlen := flat_put_len l HXB.out
          have hv9 := vput_le (S.size : Int) (by omega)
          have hvt := vtext_len S
          have hl72 : (l.flatMap vput).length ≤ 100 := by omega
          clear HO HO5 hxn hlen
          go_wp2_with fail
          (with_reducible refine (text1_calls none 0 0 [] S _ _ (Kd.C_nil _ _) (by omega) (by omega) (by simp)).mono ?_)
          rintro e w2 ⟨v2, rfl, HO2, hb2⟩
          rw [List.nil_append] at HO2
          obtain ⟨n2, hn2⟩ : ∃ n2, (vtext S).length = n2 := ⟨_, rfl⟩
          obtain ⟨A2, c2, rfl, hc2, HC2⟩ := OB_readn HO2 n2 hn2
          have HC := Aside0.mk HC2
          have HP2 := Aside0.mk (Kd.R_below HP.out hb2)
          have HB2 := Aside0.mk (below_step HB.out hb2)
          have hn40 : n2 ≤ 40 := by omega
          clear HO2 HC2 hb2 HP HB hn2
          go_wp2_with fail
          (with_reducible refine (text1_calls _ _ _ (vtext S) S _ _ HC.out hc2 (by omega) (by omega)).mono ?_)
          rintro e w3 ⟨v3, rfl, HO3, hb3⟩
          have hP5 : Aside0 (OB w3.drew 0 u5 (l.flatMap vput)) := ⟨Kd.R_lower (Kd.R_drew (Kd.R_below HP2.out hb3)) (Nat.zero_le _)⟩
          have hP7 : Aside0 (OB w3.drew 0 v3 (vtext S ++ vtext S)) := ⟨Kd.R_lower (Kd.R_drew HO3) (Nat.zero_le _)⟩
          have hHB := below_drew1 (below_step HB2.out hb3)
          have hE5 := OB_string hP5.out
          have hE7 := OB_string hP7.out
          clear HP2 HB2 hb3 HO3 HC
          go_wp2_with fail
          go_region_held (fun w' => Aside0 (OB w' 0 u5 (l.flatMap vput)) ∧ Aside0 (OB w' 0 v3 (vtext S ++ vtext S)) ∧ Below w.heap.size w w' ∧ (convert 22 9 u5).run Try.prog w' = .ok (.string (strOfNums (l.flatMap vput))) w' ∧ (convert 22 9 v3).run Try.prog w' = .ok (.string (strOfNums (vtext S ++ vtext S))) w')
            (first
              | (go_split_ands; exact ⟨by assumption, by assumption, by assumption, by assumption, by assumption⟩)
              | (go_split_ands; have r5 : OB _ 0 u5 (l.flatMap vput) := Kd.R_below (Aside0.out (by assumption)) hb; have r7 : OB _ 0 v3 (vtext S ++ vtext S) := Kd.R_below (Aside0.out (by assumption)) hb; exact ⟨⟨r5⟩, ⟨r7⟩, below_step (by assumption) hb, OB_string r5, OB_string r7⟩)
              | (go_split_ands; refine ⟨⟨?_⟩, ⟨?_⟩, ?_, OB_string (B := 0) ?_, OB_string (B := 0) ?_⟩ <;> first | exact Kd.R_alloc (Aside0.out (by assumption)) _ | exact below_alloc (by assumption) _))
            (first | ((go_at_call 8); (with_reducible refine (put_calls none 0 0 [] _ _ _ l _ (Kd.C_nil _ _) (by omega) (Kd.C_below HX.out (by go_split_ands; assumption)) hcx HXB.out (by rw [List.length_nil]; omega)).mono ?_); rintro e w9 ⟨v9, rfl, HO9, hb⟩; rw [List.nil_append] at HO9; have E38 := OB_string HO9) | ((go_at_call 13); (with_reducible refine (text2a_calls none 0 0 [] S S _ _ (Kd.C_nil _ _) (by omega) (by omega) (by omega) (by simp)).mono ?_); rintro e w10 ⟨v10, rfl, HO10, hb⟩; rw [List.nil_append] at HO10; have E47 := OB_string HO10) | ((go_at_call 9); (with_reducible refine (lives_calls _).mono ?_); rintro e w8 ⟨rfl, hb⟩))
          all_goals go_wp2
          all_goals go_ret
          all_goals exact ⟨by first | rfl | kernel_rfl, by first | assumption | (go_split_ands; assumption)⟩

    · have h2 : ¬ (30 : Int) < (s.size : Int) := by omega
      have hS30 : s.size ≤ 30 := by omega
      go_wp2_with fail
      have hxn : l.length = ll := HX.out.1
      go_loopw [5, 6] (fun v5 v6 w' => ∃ k : Nat, k ≤ ll ∧ v6 = .int .i64 k ∧ Aside0 (OB w' w.heap.size v5 ((l.take k).flatMap vput)) ∧ Aside0 (Below w.heap.size w w')) (fun _ v6 _ => ll - (intOf v6).toNat)
      case atStart => exact ⟨0, Nat.zero_le _, rfl, ⟨by simpa using OB_nil _ _⟩, ⟨Below.refl _ _⟩⟩
      case round =>
        obtain ⟨k, hk, rfl, HO, HB⟩ := hrel
        by_cases hlt : k < ll
        · obtain ⟨ad, rfl, hcell0⟩ := C_at (by rw [hxn]; exact HX.out) k (by omega)
          have hcell := pw_cell_below HB.out hcell0
          have hxm : l.getD k 0 ≤ 9223372036854775807 := by
            have : l.getD k 0 = l[k]'(by omega) := by simp [List.getD_eq_getElem?_getD, show k < l.length by omega]
            rw [this]
            exact HXB.out _ (List.getElem_mem _)
          have hfl := flat_take vput l 0 k (by omega)
          have hlen := flat_put_len (l.take k) (fun y hy => HXB.out y (List.mem_of_mem_take hy))
          rw [List.length_take] at hlen
          generalize l.getD k 0 = x at *
          generalize (l.take k).flatMap vput = pre at *
          obtain ⟨n0, hn0⟩ : ∃ n0, pre.length = n0 := ⟨_, rfl⟩
          obtain ⟨A0, cp0, rfl, hcp0, HC0⟩ := OB_readn HO.out n0 hn0
          have HC := Aside0.mk HC0
          have HFL := Aside0.mk hfl
          have hn9 : n0 ≤ 100 := by omega
          clear hfl hlen hcell0 HC0 hn0 HO hxn
          go_wp2_with fail
          (with_reducible refine (put1_calls _ _ _ pre _ _ _ HC.out hcp0 hxm (by omega)).mono ?_)
          rintro e w2 ⟨v2, rfl, HO2, hb2⟩
          go_wp2
          go_roundw
          case rel =>
            refine ⟨k + 1, hlt, rfl, ⟨?_⟩, ⟨below_step HB.out hb2⟩⟩
            rw [HFL.out]
            exact Kd.R_lower HO2 HB.out.size
          case measure => simp [intOf]; omega
        · obtain rfl : k = ll := by omega
          have HO5 := HO.out
          rw [List.take_of_length_le (by omega)] at HO5
          have HP := Aside0.mk HO5
          have hlen := flat_put_len l HXB.out
          have hv9 := vput_le (s.size : Int) (by omega)
          have hvt := vtext_len s
          have hl72 : (l.flatMap vput).length ≤ 100 := by omega
          clear HO HO5 hxn hlen
          go_wp2_with fail
          (with_reducible refine (text1_calls none 0 0 [] s _ _ (Kd.C_nil _ _) (by omega) (by omega) (by simp)).mono ?_)
          rintro e w2 ⟨v2, rfl, HO2, hb2⟩
          rw [List.nil_append] at HO2
          obtain ⟨n2, hn2⟩ : ∃ n2, (vtext s).length = n2 := ⟨_, rfl⟩
          obtain ⟨A2, c2, rfl, hc2, HC2⟩ := OB_readn HO2 n2 hn2
          have HC := Aside0.mk HC2
          have HP2 := Aside0.mk (Kd.R_below HP.out hb2)
          have HB2 := Aside0.mk (below_step HB.out hb2)
          have hn40 : n2 ≤ 40 := by omega
          clear HO2 HC2 hb2 HP HB hn2
          go_wp2_with fail
          (with_reducible refine (text1_calls _ _ _ (vtext s) s _ _ HC.out hc2 (by omega) (by omega)).mono ?_)
          rintro e w3 ⟨v3, rfl, HO3, hb3⟩
          have hP5 : Aside0 (OB w3.drew 0 u5 (l.flatMap vput)) := ⟨Kd.R_lower (Kd.R_drew (Kd.R_below HP2.out hb3)) (Nat.zero_le _)⟩
          have hP7 : Aside0 (OB w3.drew 0 v3 (vtext s ++ vtext s)) := ⟨Kd.R_lower (Kd.R_drew HO3) (Nat.zero_le _)⟩
          have hHB := below_drew1 (below_step HB2.out hb3)
          have hE5 := OB_string hP5.out
          have hE7 := OB_string hP7.out
          clear HP2 HB2 hb3 HO3 HC
          go_wp2_with fail
          go_region_held (fun w' => Aside0 (OB w' 0 u5 (l.flatMap vput)) ∧ Aside0 (OB w' 0 v3 (vtext s ++ vtext s)) ∧ Below w.heap.size w w' ∧ (convert 22 9 u5).run Try.prog w' = .ok (.string (strOfNums (l.flatMap vput))) w' ∧ (convert 22 9 v3).run Try.prog w' = .ok (.string (strOfNums (vtext s ++ vtext s))) w')
            (first
              | (go_split_ands; exact ⟨by assumption, by assumption, by assumption, by assumption, by assumption⟩)
              | (go_split_ands; have r5 : OB _ 0 u5 (l.flatMap vput) := Kd.R_below (Aside0.out (by assumption)) hb; have r7 : OB _ 0 v3 (vtext s ++ vtext s) := Kd.R_below (Aside0.out (by assumption)) hb; exact ⟨⟨r5⟩, ⟨r7⟩, below_step (by assumption) hb, OB_string r5, OB_string r7⟩)
              | (go_split_ands; refine ⟨⟨?_⟩, ⟨?_⟩, ?_, OB_string (B := 0) ?_, OB_string (B := 0) ?_⟩ <;> first | exact Kd.R_alloc (Aside0.out (by assumption)) _ | exact below_alloc (by assumption) _))
            (first | ((go_at_call 8); (with_reducible refine (put_calls none 0 0 [] _ _ _ l _ (Kd.C_nil _ _) (by omega) (Kd.C_below HX.out (by go_split_ands; assumption)) hcx HXB.out (by rw [List.length_nil]; omega)).mono ?_); rintro e w9 ⟨v9, rfl, HO9, hb⟩; rw [List.nil_append] at HO9; have E38 := OB_string HO9) | ((go_at_call 13); (with_reducible refine (text2a_calls none 0 0 [] s s _ _ (Kd.C_nil _ _) (by omega) (by omega) (by omega) (by simp)).mono ?_); rintro e w10 ⟨v10, rfl, HO10, hb⟩; rw [List.nil_append] at HO10; have E47 := OB_string HO10) | ((go_at_call 9); (with_reducible refine (lives_calls _).mono ?_); rintro e w8 ⟨rfl, hb⟩))
          all_goals go_wp2
          all_goals go_ret
          all_goals exact ⟨by first | rfl | kernel_rfl, by first | assumption | (go_split_ands; assumption)⟩


end Go.Proofs.Ythfpbaaefncamaa.A
