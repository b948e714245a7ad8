/- VaryPuts: what is put is the document's. -/
import Derived.Test.YthfpbaaefncamaaALawMany
namespace Go.Proofs.Ythfpbaaefncamaa.A
open Go.RowKit Go.Proofs.YthfpbaaefncamaaW.PrintWords Go.Proofs.YthfpbaaefncamaaW.PrintLast Go.Proofs.YthfpbaaefncamaaW.PrintMore
set_option linter.unusedVariables false
set_option linter.unusedSimpArgs false

/-- The first 100 bytes. -/
theorem few_calls (A : Option Addr) (n c : Nat) (l : List Int) (w : World) (hr : U8.C w A n l) (hc : n ≤ c) :
    Calls Try.prog 10 #[.slice A n c] w fun e w' => e = .returned (.slice A (l.take 100).length c) ∧ w = w' := by
  have hn := hr.1
  subst hn
  have hm : l.length ≤ 9223372036854775807 := hr.2.1
  clear hr
  by_cases h : 100 < l.length
  · have e1 : (l.take 100).length = 100 := by rw [List.length_take]; omega
    rw [e1]
    have h1 : (100 : Int) < (l.length : Int) := by omega
    go_enter Try.func10, Try.ntmps10
    go_wp2
    go_ret
    exact ⟨rfl, rfl⟩
  · have e1 : l.take 100 = l := List.take_of_length_le (by omega)
    rw [e1]
    have h1 : ¬ (100 : Int) < (l.length : Int) := by omega
    go_enter Try.func10, Try.ntmps10
    go_wp2
    go_ret
    exact ⟨rfl, rfl⟩

/-- Two texts, behind a draw. -/
theorem text2d_calls (A : Option Addr) (n c : Nat) (b : List Int) (x y : ByteArray) (w : World) (te : Nat) (hr : U8.C w.drew A n b) (hc : n ≤ c) (hx : x.size ≤ 100000) (hy : y.size ≤ 100000) (hl : n ≤ 100000) :
    Calls Try.prog 13 #[.slice A n c, .slice (some ⟨w.heap.size, 0, none⟩) 2 2] (w.alloc (.cells #[.string x, .string y] te)).drew fun e w' => ∃ v, e = .returned v ∧ OB w' w.heap.size v (b ++ (vtext x ++ vtext y)) ∧ Below (w.alloc (.cells #[.string x, .string y] te)).drew.heap.size (w.alloc (.cells #[.string x, .string y] te)).drew w' :=
  text2a_calls A n c b x y w.drew te hr hc hx hy hl
set_option maxRecDepth 100000 in
set_option maxHeartbeats 6400000 in
theorem puts_calls (w : World) (Ab : Option Addr) (cb : Nat) (b : List Int) (hrb : U8.C w Ab b.length b) (hcb0 : b.length ≤ cb) (_hgb : ∀ x ∈ b, IntKind.u8.min ≤ x ∧ x ≤ IntKind.u8.max) (A : Option Addr) (c : Nat) (l : List Int) (hr : (Kd.int .i64).C w A l.length l) (hc : l.length ≤ c) (hg : ∀ x ∈ l, IntKind.i64.min ≤ x ∧ x ≤ IntKind.i64.max) (s : ByteArray) (hs : s.size ≤ maxLen) :
    Calls Try.prog 4 #[.slice Ab b.length cb, .slice A l.length c, .string s] w fun e w' => e = .returned (.bool true) ∧ Below w.heap.size w w' := by
  have hm : l.length ≤ 9223372036854775807 := hr.2.1
  have hs2 : s.size ≤ 9223372036854775807 := hs
  have HR := Aside0.mk hr
  have hg2 : ∀ x ∈ l, x ≤ 9223372036854775807 := fun x hx => (hg x hx).2
  have HG := Aside0.mk hg2
  have HRB := Aside0.mk hrb
  clear hr hg hg2 hs hrb _hgb
  obtain ⟨ll, hll⟩ : ∃ n, l.length = n := ⟨_, rfl⟩
  have HLL := Aside0.mk hll
  rw [hll] at hm hc ⊢
  clear hll
  obtain ⟨bl, hbl⟩ : ∃ n, b.length = n := ⟨_, rfl⟩
  rw [hbl] at hcb0 HRB ⊢
  have hbx : (b.take 100).length ≤ 100 ∧ (b.take 100).length ≤ cb := by rw [List.length_take]; omega
  have HBB0 := Aside0.mk (C_take_any (by rw [hbl]; exact HRB.out) 100 : U8.C w Ab (b.take 100).length (b.take 100))
  clear hbl
  go_enter Try.func4, Try.ntmps4
  go_wp2_with fail
  (with_reducible refine (few_calls _ _ _ b _ HRB.out hcb0).mono ?_)
  rintro e w1 ⟨rfl, rfl⟩
  obtain ⟨hnb, hcb⟩ := hbx
  generalize b.take 100 = bb at *
  obtain ⟨nb, hnb2⟩ : ∃ n, bb.length = n := ⟨_, rfl⟩
  have HBB := HBB0
  rw [hnb2] at HBB hnb hcb ⊢
  clear hnb2 HBB0 HRB
  rcases Nat.lt_or_ge 8 ll with c1 | c1
  · have h1 : (8 : Int) < (ll : Int) := by omega
    have e8 : (l.take 8).length = 8 := by rw [List.length_take, HLL.out]; omega
    have HX1 := C_take_any HR.out 8
    rw [e8] at HX1
    have HXB1 : ∀ x ∈ l.take 8, x ≤ 9223372036854775807 := fun x hx => HG.out x (List.mem_of_mem_take hx)
    generalize l.take 8 = X at *
    have HX := Aside0.mk HX1
    have HXB := Aside0.mk HXB1
    have hcx : 8 ≤ c := by omega
    have hnx : 8 ≤ 8 := by omega
    clear HX1 HXB1 e8
    rcases Nat.lt_or_ge 100 s.size with c2 | c2
    · have h2 : (100 : Int) < (s.size : Int) := by omega
      obtain ⟨S, hS⟩ : ∃ S, s.extract 0 100 = S := ⟨_, rfl⟩
      have hS30 : S.size ≤ 100 := by rw [← hS, ByteArray.size_extract]; omega
      have HS := Aside0.mk hS
      clear hS
      have hxn : X.length = 8 := HX.out.1
      have hbl : bb.length = nb := HBB.out.1
      go_wp2_with ((with_reducible refine gate_dst (N := 25) rfl ?_); refine app_bytes rfl rfl rfl rfl (OB_nil _ _) HBB.out (Nat.le_refl _) (by rw [List.length_nil]; omega) ?_; intro v2 w2 HO2 hb2 _ _)
      rw [HS.out]
      rw [List.nil_append] at HO2
      have HP := Aside0.mk HO2
      have HB0 := Aside0.mk hb2
      clear HO2 hb2
      go_loopw [7, 8] (fun v7 v8 w' => ∃ k : Nat, k ≤ 8 ∧ v8 = .int .i64 k ∧ Aside0 (OB w' w.heap.size v7 (bb ++ (X.take k).flatMap vput)) ∧ Aside0 (Below w.heap.size w w')) (fun _ v8 _ => 8 - (intOf v8).toNat)
      case atStart => exact ⟨0, Nat.zero_le _, rfl, ⟨by simpa using HP.out⟩, HB0⟩
      case round =>
        clear HP HB0
        obtain ⟨k, hk, rfl, HO, HB⟩ := hrel
        by_cases hlt : k < 8
        · obtain ⟨ad, rfl, hcell0⟩ := C_at (by rw [hxn]; exact HX.out) k (by omega)
          have hcell := pw_cell_below HB.out hcell0
          have hxm : X.getD k 0 ≤ 9223372036854775807 := by
            have : X.getD k 0 = X[k]'(by omega) := by simp [List.getD_eq_getElem?_getD, show k < X.length by omega]
            rw [this]
            exact HXB.out _ (List.getElem_mem _)
          have hfl := flat_take vput X 0 k (by omega)
          have hlen := flat_put_len (X.take k) (fun y hy => HXB.out y (List.mem_of_mem_take hy))
          rw [List.length_take] at hlen
          generalize X.getD k 0 = x at *
          generalize (X.take k).flatMap vput = pre at *
          have hv9 := vput_le x hxm
          have hpl : (bb ++ pre).length ≤ 300 := by rw [List.length_append]; omega
          have HFL := Aside0.mk hfl
          clear hfl hlen hcell0 hxn
          go_wp2_with fail
          (with_reducible refine (refput_calls _ _ hxm).mono ?_)
          rintro e w2 ⟨v2, rfl, HO2, hb2⟩
          obtain ⟨n2, hn2, hn9⟩ : ∃ n2, (vput x).length = n2 ∧ n2 ≤ 9 := ⟨_, rfl, hv9⟩
          obtain ⟨A2, c2, rfl, hc2, HC2⟩ := OB_readn HO2 n2 hn2
          have HC := Aside0.mk HC2
          have HO3 := Aside0.mk (Kd.R_below HO.out hb2)
          have HB3 := Aside0.mk (below_step HB.out hb2)
          clear HO2 HC2 hb2 HO HB hn2 hv9 hcell
          go_wp2_with ((with_reducible refine gate_dst (N := 38) rfl ?_); refine app_bytes rfl rfl rfl rfl HO3.out HC.out HB3.out.size (by omega) ?_; intro v4 w4 HO4 hb4 _ _)
          go_roundw
          case rel =>
            refine ⟨k + 1, hlt, rfl, ⟨?_⟩, ⟨HB3.out.trans hb4⟩⟩
            rw [HFL.out, ← List.append_assoc]
            exact HO4
          case measure => simp [intOf]; omega
        · obtain rfl : k = 8 := by omega
          have HO5 := HO.out
          rw [List.take_of_length_le (by omega)] at HO5
          have hlen := flat_put_len X HXB.out
          have hv9 := vput_le (S.size : Int) (by omega)
          have hvt := vtext_len S
          have hl72 : bb.length + (X.flatMap vput).length ≤ 1000 := by omega
          have hP5 : Aside0 (OB wr.drew w.heap.size u7 (bb ++ X.flatMap vput)) := ⟨Kd.R_drew HO5⟩
          have hHB := below_drew1 HB.out
          have hE5 := OB_string hP5.out
          clear HO5 hxn hlen HO HB
          go_wp2_with fail
          go_region_held (fun w' => Aside0 (OB w' w.heap.size u7 (bb ++ X.flatMap vput)) ∧ Below w.heap.size w w' ∧ (convert 22 9 u7).run Try.prog w' = .ok (.string (strOfNums (bb ++ X.flatMap vput))) w')
            (first
              | (go_split_ands; exact ⟨by assumption, by assumption, by assumption⟩)
              | (go_split_ands; have r5 : OB _ w.heap.size u7 (bb ++ X.flatMap vput) := Kd.R_below (Aside0.out (by assumption)) hb; exact ⟨⟨r5⟩, below_step (by assumption) hb, OB_string r5⟩))
            (first | ((go_at_call 8); (with_reducible refine (put_calls _ _ _ bb _ _ _ X _ (Kd.C_below HBB.out (by go_split_ands; assumption)) hcb (Kd.C_below HX.out (by go_split_ands; assumption)) hcx HXB.out (by omega)).mono ?_); rintro e w9 ⟨v9, rfl, HO9, hb⟩; have E38 := OB_string HO9))
          go_split_ands
          rename_i wq HOq HBq Eq
          clear Eq
          go_wp2_with ((with_reducible refine gate_dst (N := 48) rfl ?_); refine app_bytes rfl rfl rfl rfl (OB_nil _ _) (Kd.C_below HBB.out HBq) HBq.size (by rw [List.length_nil]; omega) ?_; intro v2 w2 HO2 hb2 _ _)
          rw [List.nil_append] at HO2
          have HP2 := Aside0.mk HO2
          have HB2 := Aside0.mk (HBq.trans hb2)
          clear HO2 hb2 HOq HBq hP5 hHB hE5 hb E38 HO9
          go_wp2_with fail
          (with_reducible refine (reftext_calls _ _ (by omega)).mono ?_)
          rintro e w3 ⟨v3, rfl, HO3, hb3⟩
          obtain ⟨n3, hn3, hn39⟩ : ∃ n3, (vtext S).length = n3 ∧ n3 ≤ 200 := ⟨_, rfl, by omega⟩
          obtain ⟨A3, c3, rfl, hc3, HC3⟩ := OB_readn HO3 n3 hn3
          have HP3 := Aside0.mk (Kd.R_below HP2.out hb3)
          have HB3 := Aside0.mk (below_step HB2.out hb3)
          have HC := Aside0.mk HC3
          have HN3 := Aside0.mk hn3
          clear HO3 hb3 HC3 HP2 HB2 hn3 hvt hv9
          go_wp2_with ((with_reducible refine gate_dst (N := 52) rfl ?_); refine app_bytes rfl rfl rfl rfl HP3.out HC.out HB3.out.size (by omega) ?_; intro v4 w4 HO4 hb4 _ _)
          have HP4 := Aside0.mk HO4
          have HB4 := Aside0.mk (HB3.out.trans hb4)
          clear HO4 hb4 HP3 HB3 HC
          go_wp2_with fail
          (with_reducible refine (reftext_calls { data := #[120] } _ (by decide)).mono ?_)
          rintro e w5 ⟨v5, rfl, HO5, hb5⟩
          obtain ⟨tx, htx, htl⟩ : ∃ tx, vtext { data := #[120] } = tx ∧ tx.length ≤ 20 := ⟨_, rfl, by rw [vtext_len]; have := vput_le ((({ data := #[120] } : ByteArray).size : Nat) : Int) (by decide); have e : ({ data := #[120] } : ByteArray).size = 1 := rfl; omega⟩
          rw [htx] at HO5
          obtain ⟨n5, hn5⟩ : ∃ n5, tx.length = n5 := ⟨_, rfl⟩
          obtain ⟨A5, c5, rfl, hc5, HC5⟩ := OB_readn HO5 n5 hn5
          have HP5 := Aside0.mk (Kd.R_below HP4.out hb5)
          have HB5 := Aside0.mk (below_step HB4.out hb5)
          have HC := Aside0.mk HC5
          have hl5 : (bb ++ vtext S).length + n5 ≤ 1000 := by rw [List.length_append, HN3.out]; omega
          have HTX := Aside0.mk htx
          clear HO5 hb5 HC5 HP4 HB4 hn5 htx
          go_wp2_with ((with_reducible refine gate_dst (N := 55) rfl ?_); refine app_bytes rfl rfl rfl rfl HP5.out HC.out HB5.out.size (by omega) ?_; intro v6 w6 HO6 hb6 _ _)
          rw [List.append_assoc] at HO6
          have hP7 : Aside0 (OB w6.drew w.heap.size v6 (bb ++ (vtext S ++ tx))) := ⟨Kd.R_drew HO6⟩
          have hHB := below_drew1 (HB5.out.trans hb6)
          have hE7 := OB_string hP7.out
          clear HO6 hb6 HP5 HB5 HC hl5
          go_wp2_with fail
          go_region_held (fun w' => Aside0 (OB w' w.heap.size v6 (bb ++ (vtext S ++ tx))) ∧ Below w.heap.size w w' ∧ (convert 22 9 v6).run Try.prog w' = .ok (.string (strOfNums (bb ++ (vtext S ++ tx)))) w')
            (first
              | (go_split_ands; exact ⟨by assumption, by assumption, by assumption⟩)
              | (go_split_ands; have r5 : OB _ w.heap.size v6 (bb ++ (vtext S ++ tx)) := Kd.R_below (Aside0.out (by assumption)) hb; exact ⟨⟨r5⟩, below_step (by assumption) hb, OB_string r5⟩)
              | (go_split_ands; refine ⟨⟨?_⟩, ?_, OB_string (B := w.heap.size) ?_⟩ <;> first | exact Kd.R_alloc (Aside0.out (by assumption)) _ | exact below_alloc (by assumption) _))
            (first | ((go_at_call 13); (with_reducible refine (text2d_calls _ _ _ bb S { data := #[120] } _ _ (Kd.C_below HBB.out hHB) hcb (by omega) (by decide) (by omega)).mono ?_); rintro e w10 ⟨v10, rfl, HO10, hb⟩; rw [HTX.out] at HO10; have E47 := OB_string HO10) | ((go_at_call 9); (with_reducible refine (lives_calls _).mono ?_); rintro e w8 ⟨rfl, hb⟩))
          all_goals go_wp2
          all_goals go_ret
          all_goals exact ⟨by first | rfl | kernel_rfl, by first | assumption | (go_split_ands; assumption)⟩

    · have h2 : ¬ (100 : Int) < (s.size : Int) := by omega
      have hS30 : s.size ≤ 100 := by omega
      have hxn : X.length = 8 := HX.out.1
      have hbl : bb.length = nb := HBB.out.1
      go_wp2_with ((with_reducible refine gate_dst (N := 25) rfl ?_); refine app_bytes rfl rfl rfl rfl (OB_nil _ _) HBB.out (Nat.le_refl _) (by rw [List.length_nil]; omega) ?_; intro v2 w2 HO2 hb2 _ _)
      skip
      rw [List.nil_append] at HO2
      have HP := Aside0.mk HO2
      have HB0 := Aside0.mk hb2
      clear HO2 hb2
      go_loopw [7, 8] (fun v7 v8 w' => ∃ k : Nat, k ≤ 8 ∧ v8 = .int .i64 k ∧ Aside0 (OB w' w.heap.size v7 (bb ++ (X.take k).flatMap vput)) ∧ Aside0 (Below w.heap.size w w')) (fun _ v8 _ => 8 - (intOf v8).toNat)
      case atStart => exact ⟨0, Nat.zero_le _, rfl, ⟨by simpa using HP.out⟩, HB0⟩
      case round =>
        clear HP HB0
        obtain ⟨k, hk, rfl, HO, HB⟩ := hrel
        by_cases hlt : k < 8
        · obtain ⟨ad, rfl, hcell0⟩ := C_at (by rw [hxn]; exact HX.out) k (by omega)
          have hcell := pw_cell_below HB.out hcell0
          have hxm : X.getD k 0 ≤ 9223372036854775807 := by
            have : X.getD k 0 = X[k]'(by omega) := by simp [List.getD_eq_getElem?_getD, show k < X.length by omega]
            rw [this]
            exact HXB.out _ (List.getElem_mem _)
          have hfl := flat_take vput X 0 k (by omega)
          have hlen := flat_put_len (X.take k) (fun y hy => HXB.out y (List.mem_of_mem_take hy))
          rw [List.length_take] at hlen
          generalize X.getD k 0 = x at *
          generalize (X.take k).flatMap vput = pre at *
          have hv9 := vput_le x hxm
          have hpl : (bb ++ pre).length ≤ 300 := by rw [List.length_append]; omega
          have HFL := Aside0.mk hfl
          clear hfl hlen hcell0 hxn
          go_wp2_with fail
          (with_reducible refine (refput_calls _ _ hxm).mono ?_)
          rintro e w2 ⟨v2, rfl, HO2, hb2⟩
          obtain ⟨n2, hn2, hn9⟩ : ∃ n2, (vput x).length = n2 ∧ n2 ≤ 9 := ⟨_, rfl, hv9⟩
          obtain ⟨A2, c2, rfl, hc2, HC2⟩ := OB_readn HO2 n2 hn2
          have HC := Aside0.mk HC2
          have HO3 := Aside0.mk (Kd.R_below HO.out hb2)
          have HB3 := Aside0.mk (below_step HB.out hb2)
          clear HO2 HC2 hb2 HO HB hn2 hv9 hcell
          go_wp2_with ((with_reducible refine gate_dst (N := 38) rfl ?_); refine app_bytes rfl rfl rfl rfl HO3.out HC.out HB3.out.size (by omega) ?_; intro v4 w4 HO4 hb4 _ _)
          go_roundw
          case rel =>
            refine ⟨k + 1, hlt, rfl, ⟨?_⟩, ⟨HB3.out.trans hb4⟩⟩
            rw [HFL.out, ← List.append_assoc]
            exact HO4
          case measure => simp [intOf]; omega
        · obtain rfl : k = 8 := by omega
          have HO5 := HO.out
          rw [List.take_of_length_le (by omega)] at HO5
          have hlen := flat_put_len X HXB.out
          have hv9 := vput_le (s.size : Int) (by omega)
          have hvt := vtext_len s
          have hl72 : bb.length + (X.flatMap vput).length ≤ 1000 := by omega
          have hP5 : Aside0 (OB wr.drew w.heap.size u7 (bb ++ X.flatMap vput)) := ⟨Kd.R_drew HO5⟩
          have hHB := below_drew1 HB.out
          have hE5 := OB_string hP5.out
          clear HO5 hxn hlen HO HB
          go_wp2_with fail
          go_region_held (fun w' => Aside0 (OB w' w.heap.size u7 (bb ++ X.flatMap vput)) ∧ Below w.heap.size w w' ∧ (convert 22 9 u7).run Try.prog w' = .ok (.string (strOfNums (bb ++ X.flatMap vput))) w')
            (first
              | (go_split_ands; exact ⟨by assumption, by assumption, by assumption⟩)
              | (go_split_ands; have r5 : OB _ w.heap.size u7 (bb ++ X.flatMap vput) := Kd.R_below (Aside0.out (by assumption)) hb; exact ⟨⟨r5⟩, below_step (by assumption) hb, OB_string r5⟩))
            (first | ((go_at_call 8); (with_reducible refine (put_calls _ _ _ bb _ _ _ X _ (Kd.C_below HBB.out (by go_split_ands; assumption)) hcb (Kd.C_below HX.out (by go_split_ands; assumption)) hcx HXB.out (by omega)).mono ?_); rintro e w9 ⟨v9, rfl, HO9, hb⟩; have E38 := OB_string HO9))
          go_split_ands
          rename_i wq HOq HBq Eq
          clear Eq
          go_wp2_with ((with_reducible refine gate_dst (N := 48) rfl ?_); refine app_bytes rfl rfl rfl rfl (OB_nil _ _) (Kd.C_below HBB.out HBq) HBq.size (by rw [List.length_nil]; omega) ?_; intro v2 w2 HO2 hb2 _ _)
          rw [List.nil_append] at HO2
          have HP2 := Aside0.mk HO2
          have HB2 := Aside0.mk (HBq.trans hb2)
          clear HO2 hb2 HOq HBq hP5 hHB hE5 hb E38 HO9
          go_wp2_with fail
          (with_reducible refine (reftext_calls _ _ (by omega)).mono ?_)
          rintro e w3 ⟨v3, rfl, HO3, hb3⟩
          obtain ⟨n3, hn3, hn39⟩ : ∃ n3, (vtext s).length = n3 ∧ n3 ≤ 200 := ⟨_, rfl, by omega⟩
          obtain ⟨A3, c3, rfl, hc3, HC3⟩ := OB_readn HO3 n3 hn3
          have HP3 := Aside0.mk (Kd.R_below HP2.out hb3)
          have HB3 := Aside0.mk (below_step HB2.out hb3)
          have HC := Aside0.mk HC3
          have HN3 := Aside0.mk hn3
          clear HO3 hb3 HC3 HP2 HB2 hn3 hvt hv9
          go_wp2_with ((with_reducible refine gate_dst (N := 52) rfl ?_); refine app_bytes rfl rfl rfl rfl HP3.out HC.out HB3.out.size (by omega) ?_; intro v4 w4 HO4 hb4 _ _)
          have HP4 := Aside0.mk HO4
          have HB4 := Aside0.mk (HB3.out.trans hb4)
          clear HO4 hb4 HP3 HB3 HC
          go_wp2_with fail
          (with_reducible refine (reftext_calls { data := #[120] } _ (by decide)).mono ?_)
          rintro e w5 ⟨v5, rfl, HO5, hb5⟩
          obtain ⟨tx, htx, htl⟩ : ∃ tx, vtext { data := #[120] } = tx ∧ tx.length ≤ 20 := ⟨_, rfl, by rw [vtext_len]; have := vput_le ((({ data := #[120] } : ByteArray).size : Nat) : Int) (by decide); have e : ({ data := #[120] } : ByteArray).size = 1 := rfl; omega⟩
          rw [htx] at HO5
          obtain ⟨n5, hn5⟩ : ∃ n5, tx.length = n5 := ⟨_, rfl⟩
          obtain ⟨A5, c5, rfl, hc5, HC5⟩ := OB_readn HO5 n5 hn5
          have HP5 := Aside0.mk (Kd.R_below HP4.out hb5)
          have HB5 := Aside0.mk (below_step HB4.out hb5)
          have HC := Aside0.mk HC5
          have hl5 : (bb ++ vtext s).length + n5 ≤ 1000 := by rw [List.length_append, HN3.out]; omega
          have HTX := Aside0.mk htx
          clear HO5 hb5 HC5 HP4 HB4 hn5 htx
          go_wp2_with ((with_reducible refine gate_dst (N := 55) rfl ?_); refine app_bytes rfl rfl rfl rfl HP5.out HC.out HB5.out.size (by omega) ?_; intro v6 w6 HO6 hb6 _ _)
          rw [List.append_assoc] at HO6
          have hP7 : Aside0 (OB w6.drew w.heap.size v6 (bb ++ (vtext s ++ tx))) := ⟨Kd.R_drew HO6⟩
          have hHB := below_drew1 (HB5.out.trans hb6)
          have hE7 := OB_string hP7.out
          clear HO6 hb6 HP5 HB5 HC hl5
          go_wp2_with fail
          go_region_held (fun w' => Aside0 (OB w' w.heap.size v6 (bb ++ (vtext s ++ tx))) ∧ Below w.heap.size w w' ∧ (convert 22 9 v6).run Try.prog w' = .ok (.string (strOfNums (bb ++ (vtext s ++ tx)))) w')
            (first
              | (go_split_ands; exact ⟨by assumption, by assumption, by assumption⟩)
              | (go_split_ands; have r5 : OB _ w.heap.size v6 (bb ++ (vtext s ++ tx)) := Kd.R_below (Aside0.out (by assumption)) hb; exact ⟨⟨r5⟩, below_step (by assumption) hb, OB_string r5⟩)
              | (go_split_ands; refine ⟨⟨?_⟩, ?_, OB_string (B := w.heap.size) ?_⟩ <;> first | exact Kd.R_alloc (Aside0.out (by assumption)) _ | exact below_alloc (by assumption) _))
            (first | ((go_at_call 13); (with_reducible refine (text2d_calls _ _ _ bb s { data := #[120] } _ _ (Kd.C_below HBB.out hHB) hcb (by omega) (by decide) (by omega)).mono ?_); rintro e w10 ⟨v10, rfl, HO10, hb⟩; rw [HTX.out] at HO10; have E47 := OB_string HO10) | ((go_at_call 9); (with_reducible refine (lives_calls _).mono ?_); rintro e w8 ⟨rfl, hb⟩))
          all_goals go_wp2
          all_goals go_ret
          all_goals exact ⟨by first | rfl | kernel_rfl, by first | assumption | (go_split_ands; assumption)⟩

  · have h1 : ¬ (8 : Int) < (ll : Int) := by omega
    have HX1 := HR.out
    rw [HLL.out] at HX1
    have HX := Aside0.mk HX1
    have HXB := HG
    have hcx := hc
    have hnx : ll ≤ 8 := by omega
    clear HX1
    rcases Nat.lt_or_ge 100 s.size with c2 | c2
    · have h2 : (100 : Int) < (s.size : Int) := by omega
      obtain ⟨S, hS⟩ : ∃ S, s.extract 0 100 = S := ⟨_, rfl⟩
      have hS30 : S.size ≤ 100 := by rw [← hS, ByteArray.size_extract]; omega
      have HS := Aside0.mk hS
      clear hS
      have hxn : l.length = ll := HX.out.1
      have hbl : bb.length = nb := HBB.out.1
      go_wp2_with ((with_reducible refine gate_dst (N := 25) rfl ?_); refine app_bytes rfl rfl rfl rfl (OB_nil _ _) HBB.out (Nat.le_refl _) (by rw [List.length_nil]; omega) ?_; intro v2 w2 HO2 hb2 _ _)
      rw [HS.out]
      rw [List.nil_append] at HO2
      have HP := Aside0.mk HO2
      have HB0 := Aside0.mk hb2
      clear HO2 hb2
      go_loopw [7, 8] (fun v7 v8 w' => ∃ k : Nat, k ≤ ll ∧ v8 = .int .i64 k ∧ Aside0 (OB w' w.heap.size v7 (bb ++ (l.take k).flatMap vput)) ∧ Aside0 (Below w.heap.size w w')) (fun _ v8 _ => ll - (intOf v8).toNat)
      case atStart => exact ⟨0, Nat.zero_le _, rfl, ⟨by simpa using HP.out⟩, HB0⟩
      case round =>
        clear HP HB0
        obtain ⟨k, hk, rfl, HO, HB⟩ := hrel
        by_cases hlt : k < ll
        · obtain ⟨ad, rfl, hcell0⟩ := C_at (by rw [hxn]; exact HX.out) k (by omega)
          have hcell := pw_cell_below HB.out hcell0
          have hxm : l.getD k 0 ≤ 9223372036854775807 := by
            have : l.getD k 0 = l[k]'(by omega) := by simp [List.getD_eq_getElem?_getD, show k < l.length by omega]
            rw [this]
            exact HXB.out _ (List.getElem_mem _)
          have hfl := flat_take vput l 0 k (by omega)
          have hlen := flat_put_len (l.take k) (fun y hy => HXB.out y (List.mem_of_mem_take hy))
          rw [List.length_take] at hlen
          generalize l.getD k 0 = x at *
          generalize (l.take k).flatMap vput = pre at *
          have hv9 := vput_le x hxm
          have hpl : (bb ++ pre).length ≤ 300 := by rw [List.length_append]; omega
          have HFL := Aside0.mk hfl
          clear hfl hlen hcell0 hxn
          go_wp2_with fail
          (with_reducible refine (refput_calls _ _ hxm).mono ?_)
          rintro e w2 ⟨v2, rfl, HO2, hb2⟩
          obtain ⟨n2, hn2, hn9⟩ : ∃ n2, (vput x).length = n2 ∧ n2 ≤ 9 := ⟨_, rfl, hv9⟩
          obtain ⟨A2, c2, rfl, hc2, HC2⟩ := OB_readn HO2 n2 hn2
          have HC := Aside0.mk HC2
          have HO3 := Aside0.mk (Kd.R_below HO.out hb2)
          have HB3 := Aside0.mk (below_step HB.out hb2)
          clear HO2 HC2 hb2 HO HB hn2 hv9 hcell
          go_wp2_with ((with_reducible refine gate_dst (N := 38) rfl ?_); refine app_bytes rfl rfl rfl rfl HO3.out HC.out HB3.out.size (by omega) ?_; intro v4 w4 HO4 hb4 _ _)
          go_roundw
          case rel =>
            refine ⟨k + 1, hlt, rfl, ⟨?_⟩, ⟨HB3.out.trans hb4⟩⟩
            rw [HFL.out, ← List.append_assoc]
            exact HO4
          case measure => simp [intOf]; omega
        · obtain rfl : k = ll := by omega
          have HO5 := HO.out
          rw [List.take_of_length_le (by omega)] at HO5
          have hlen := flat_put_len l HXB.out
          have hv9 := vput_le (S.size : Int) (by omega)
          have hvt := vtext_len S
          have hl72 : bb.length + (l.flatMap vput).length ≤ 1000 := by omega
          have hP5 : Aside0 (OB wr.drew w.heap.size u7 (bb ++ l.flatMap vput)) := ⟨Kd.R_drew HO5⟩
          have hHB := below_drew1 HB.out
          have hE5 := OB_string hP5.out
          clear HO5 hxn hlen HO HB
          go_wp2_with fail
          go_region_held (fun w' => Aside0 (OB w' w.heap.size u7 (bb ++ l.flatMap vput)) ∧ Below w.heap.size w w' ∧ (convert 22 9 u7).run Try.prog w' = .ok (.string (strOfNums (bb ++ l.flatMap vput))) w')
            (first
              | (go_split_ands; exact ⟨by assumption, by assumption, by assumption⟩)
              | (go_split_ands; have r5 : OB _ w.heap.size u7 (bb ++ l.flatMap vput) := Kd.R_below (Aside0.out (by assumption)) hb; exact ⟨⟨r5⟩, below_step (by assumption) hb, OB_string r5⟩))
            (first | ((go_at_call 8); (with_reducible refine (put_calls _ _ _ bb _ _ _ l _ (Kd.C_below HBB.out (by go_split_ands; assumption)) hcb (Kd.C_below HX.out (by go_split_ands; assumption)) hcx HXB.out (by omega)).mono ?_); rintro e w9 ⟨v9, rfl, HO9, hb⟩; have E38 := OB_string HO9))
          go_split_ands
          rename_i wq HOq HBq Eq
          clear Eq
          go_wp2_with ((with_reducible refine gate_dst (N := 48) rfl ?_); refine app_bytes rfl rfl rfl rfl (OB_nil _ _) (Kd.C_below HBB.out HBq) HBq.size (by rw [List.length_nil]; omega) ?_; intro v2 w2 HO2 hb2 _ _)
          rw [List.nil_append] at HO2
          have HP2 := Aside0.mk HO2
          have HB2 := Aside0.mk (HBq.trans hb2)
          clear HO2 hb2 HOq HBq hP5 hHB hE5 hb E38 HO9
          go_wp2_with fail
          (with_reducible refine (reftext_calls _ _ (by omega)).mono ?_)
          rintro e w3 ⟨v3, rfl, HO3, hb3⟩
          obtain ⟨n3, hn3, hn39⟩ : ∃ n3, (vtext S).length = n3 ∧ n3 ≤ 200 := ⟨_, rfl, by omega⟩
          obtain ⟨A3, c3, rfl, hc3, HC3⟩ := OB_readn HO3 n3 hn3
          have HP3 := Aside0.mk (Kd.R_below HP2.out hb3)
          have HB3 := Aside0.mk (below_step HB2.out hb3)
          have HC := Aside0.mk HC3
          have HN3 := Aside0.mk hn3
          clear HO3 hb3 HC3 HP2 HB2 hn3 hvt hv9
          go_wp2_with ((with_reducible refine gate_dst (N := 52) rfl ?_); refine app_bytes rfl rfl rfl rfl HP3.out HC.out HB3.out.size (by omega) ?_; intro v4 w4 HO4 hb4 _ _)
          have HP4 := Aside0.mk HO4
          have HB4 := Aside0.mk (HB3.out.trans hb4)
          clear HO4 hb4 HP3 HB3 HC
          go_wp2_with fail
          (with_reducible refine (reftext_calls { data := #[120] } _ (by decide)).mono ?_)
          rintro e w5 ⟨v5, rfl, HO5, hb5⟩
          obtain ⟨tx, htx, htl⟩ : ∃ tx, vtext { data := #[120] } = tx ∧ tx.length ≤ 20 := ⟨_, rfl, by rw [vtext_len]; have := vput_le ((({ data := #[120] } : ByteArray).size : Nat) : Int) (by decide); have e : ({ data := #[120] } : ByteArray).size = 1 := rfl; omega⟩
          rw [htx] at HO5
          obtain ⟨n5, hn5⟩ : ∃ n5, tx.length = n5 := ⟨_, rfl⟩
          obtain ⟨A5, c5, rfl, hc5, HC5⟩ := OB_readn HO5 n5 hn5
          have HP5 := Aside0.mk (Kd.R_below HP4.out hb5)
          have HB5 := Aside0.mk (below_step HB4.out hb5)
          have HC := Aside0.mk HC5
          have hl5 : (bb ++ vtext S).length + n5 ≤ 1000 := by rw [List.length_append, HN3.out]; omega
          have HTX := Aside0.mk htx
          clear HO5 hb5 HC5 HP4 HB4 hn5 htx
          go_wp2_with ((with_reducible refine gate_dst (N := 55) rfl ?_); refine app_bytes rfl rfl rfl rfl HP5.out HC.out HB5.out.size (by omega) ?_; intro v6 w6 HO6 hb6 _ _)
          rw [List.append_assoc] at HO6
          have hP7 : Aside0 (OB w6.drew w.heap.size v6 (bb ++ (vtext S ++ tx))) := ⟨Kd.R_drew HO6⟩
          have hHB := below_drew1 (HB5.out.trans hb6)
          have hE7 := OB_string hP7.out
          clear HO6 hb6 HP5 HB5 HC hl5
          go_wp2_with fail
          go_region_held (fun w' => Aside0 (OB w' w.heap.size v6 (bb ++ (vtext S ++ tx))) ∧ Below w.heap.size w w' ∧ (convert 22 9 v6).run Try.prog w' = .ok (.string (strOfNums (bb ++ (vtext S ++ tx)))) w')
            (first
              | (go_split_ands; exact ⟨by assumption, by assumption, by assumption⟩)
              | (go_split_ands; have r5 : OB _ w.heap.size v6 (bb ++ (vtext S ++ tx)) := Kd.R_below (Aside0.out (by assumption)) hb; exact ⟨⟨r5⟩, below_step (by assumption) hb, OB_string r5⟩)
              | (go_split_ands; refine ⟨⟨?_⟩, ?_, OB_string (B := w.heap.size) ?_⟩ <;> first | exact Kd.R_alloc (Aside0.out (by assumption)) _ | exact below_alloc (by assumption) _))
            (first | ((go_at_call 13); (with_reducible refine (text2d_calls _ _ _ bb S { data := #[120] } _ _ (Kd.C_below HBB.out hHB) hcb (by omega) (by decide) (by omega)).mono ?_); rintro e w10 ⟨v10, rfl, HO10, hb⟩; rw [HTX.out] at HO10; have E47 := OB_string HO10) | ((go_at_call 9); (with_reducible refine (lives_calls _).mono ?_); rintro e w8 ⟨rfl, hb⟩))
          all_goals go_wp2
          all_goals go_ret
          all_goals exact ⟨by first | rfl | kernel_rfl, by first | assumption | (go_split_ands; assumption)⟩

    · have h2 : ¬ (100 : Int) < (s.size : Int) := by omega
      have hS30 : s.size ≤ 100 := by omega
      have hxn : l.length = ll := HX.out.1
      have hbl : bb.length = nb := HBB.out.1
      go_wp2_with ((with_reducible refine gate_dst (N := 25) rfl ?_); refine app_bytes rfl rfl rfl rfl (OB_nil _ _) HBB.out (Nat.le_refl _) (by rw [List.length_nil]; omega) ?_; intro v2 w2 HO2 hb2 _ _)
      skip
      rw [List.nil_append] at HO2
      have HP := Aside0.mk HO2
      have HB0 := Aside0.mk hb2
      clear HO2 hb2
      go_loopw [7, 8] (fun v7 v8 w' => ∃ k : Nat, k ≤ ll ∧ v8 = .int .i64 k ∧ Aside0 (OB w' w.heap.size v7 (bb ++ (l.take k).flatMap vput)) ∧ Aside0 (Below w.heap.size w w')) (fun _ v8 _ => ll - (intOf v8).toNat)
      case atStart => exact ⟨0, Nat.zero_le _, rfl, ⟨by simpa using HP.out⟩, HB0⟩
      case round =>
        clear HP HB0
        obtain ⟨k, hk, rfl, HO, HB⟩ := hrel
        by_cases hlt : k < ll
        · obtain ⟨ad, rfl, hcell0⟩ := C_at (by rw [hxn]; exact HX.out) k (by omega)
          have hcell := pw_cell_below HB.out hcell0
          have hxm : l.getD k 0 ≤ 9223372036854775807 := by
            have : l.getD k 0 = l[k]'(by omega) := by simp [List.getD_eq_getElem?_getD, show k < l.length by omega]
            rw [this]
            exact HXB.out _ (List.getElem_mem _)
          have hfl := flat_take vput l 0 k (by omega)
          have hlen := flat_put_len (l.take k) (fun y hy => HXB.out y (List.mem_of_mem_take hy))
          rw [List.length_take] at hlen
          generalize l.getD k 0 = x at *
          generalize (l.take k).flatMap vput = pre at *
          have hv9 := vput_le x hxm
          have hpl : (bb ++ pre).length ≤ 300 := by rw [List.length_append]; omega
          have HFL := Aside0.mk hfl
          clear hfl hlen hcell0 hxn
          go_wp2_with fail
          (with_reducible refine (refput_calls _ _ hxm).mono ?_)
          rintro e w2 ⟨v2, rfl, HO2, hb2⟩
          obtain ⟨n2, hn2, hn9⟩ : ∃ n2, (vput x).length = n2 ∧ n2 ≤ 9 := ⟨_, rfl, hv9⟩
          obtain ⟨A2, c2, rfl, hc2, HC2⟩ := OB_readn HO2 n2 hn2
          have HC := Aside0.mk HC2
          have HO3 := Aside0.mk (Kd.R_below HO.out hb2)
          have HB3 := Aside0.mk (below_step HB.out hb2)
          clear HO2 HC2 hb2 HO HB hn2 hv9 hcell
          go_wp2_with ((with_reducible refine gate_dst (N := 38) rfl ?_); refine app_bytes rfl rfl rfl rfl HO3.out HC.out HB3.out.size (by omega) ?_; intro v4 w4 HO4 hb4 _ _)
          go_roundw
          case rel =>
            refine ⟨k + 1, hlt, rfl, ⟨?_⟩, ⟨HB3.out.trans hb4⟩⟩
            rw [HFL.out, ← List.append_assoc]
            exact HO4
          case measure => simp [intOf]; omega
        · obtain rfl : k = ll := by omega
          have HO5 := HO.out
          rw [List.take_of_length_le (by omega)] at HO5
          have hlen := flat_put_len l HXB.out
          have hv9 := vput_le (s.size : Int) (by omega)
          have hvt := vtext_len s
          have hl72 : bb.length + (l.flatMap vput).length ≤ 1000 := by omega
          have hP5 : Aside0 (OB wr.drew w.heap.size u7 (bb ++ l.flatMap vput)) := ⟨Kd.R_drew HO5⟩
          have hHB := below_drew1 HB.out
          have hE5 := OB_string hP5.out
          clear HO5 hxn hlen HO HB
          go_wp2_with fail
          go_region_held (fun w' => Aside0 (OB w' w.heap.size u7 (bb ++ l.flatMap vput)) ∧ Below w.heap.size w w' ∧ (convert 22 9 u7).run Try.prog w' = .ok (.string (strOfNums (bb ++ l.flatMap vput))) w')
            (first
              | (go_split_ands; exact ⟨by assumption, by assumption, by assumption⟩)
              | (go_split_ands; have r5 : OB _ w.heap.size u7 (bb ++ l.flatMap vput) := Kd.R_below (Aside0.out (by assumption)) hb; exact ⟨⟨r5⟩, below_step (by assumption) hb, OB_string r5⟩))
            (first | ((go_at_call 8); (with_reducible refine (put_calls _ _ _ bb _ _ _ l _ (Kd.C_below HBB.out (by go_split_ands; assumption)) hcb (Kd.C_below HX.out (by go_split_ands; assumption)) hcx HXB.out (by omega)).mono ?_); rintro e w9 ⟨v9, rfl, HO9, hb⟩; have E38 := OB_string HO9))
          go_split_ands
          rename_i wq HOq HBq Eq
          clear Eq
          go_wp2_with ((with_reducible refine gate_dst (N := 48) rfl ?_); refine app_bytes rfl rfl rfl rfl (OB_nil _ _) (Kd.C_below HBB.out HBq) HBq.size (by rw [List.length_nil]; omega) ?_; intro v2 w2 HO2 hb2 _ _)
          rw [List.nil_append] at HO2
          have HP2 := Aside0.mk HO2
          have HB2 := Aside0.mk (HBq.trans hb2)
          clear HO2 hb2 HOq HBq hP5 hHB hE5 hb E38 HO9
          go_wp2_with fail
          (with_reducible refine (reftext_calls _ _ (by omega)).mono ?_)
          rintro e w3 ⟨v3, rfl, HO3, hb3⟩
          obtain ⟨n3, hn3, hn39⟩ : ∃ n3, (vtext s).length = n3 ∧ n3 ≤ 200 := ⟨_, rfl, by omega⟩
          obtain ⟨A3, c3, rfl, hc3, HC3⟩ := OB_readn HO3 n3 hn3
          have HP3 := Aside0.mk (Kd.R_below HP2.out hb3)
          have HB3 := Aside0.mk (below_step HB2.out hb3)
          have HC := Aside0.mk HC3
          have HN3 := Aside0.mk hn3
          clear HO3 hb3 HC3 HP2 HB2 hn3 hvt hv9
          go_wp2_with ((with_reducible refine gate_dst (N := 52) rfl ?_); refine app_bytes rfl rfl rfl rfl HP3.out HC.out HB3.out.size (by omega) ?_; intro v4 w4 HO4 hb4 _ _)
          have HP4 := Aside0.mk HO4
          have HB4 := Aside0.mk (HB3.out.trans hb4)
          clear HO4 hb4 HP3 HB3 HC
          go_wp2_with fail
          (with_reducible refine (reftext_calls { data := #[120] } _ (by decide)).mono ?_)
          rintro e w5 ⟨v5, rfl, HO5, hb5⟩
          obtain ⟨tx, htx, htl⟩ : ∃ tx, vtext { data := #[120] } = tx ∧ tx.length ≤ 20 := ⟨_, rfl, by rw [vtext_len]; have := vput_le ((({ data := #[120] } : ByteArray).size : Nat) : Int) (by decide); have e : ({ data := #[120] } : ByteArray).size = 1 := rfl; omega⟩
          rw [htx] at HO5
          obtain ⟨n5, hn5⟩ : ∃ n5, tx.length = n5 := ⟨_, rfl⟩
          obtain ⟨A5, c5, rfl, hc5, HC5⟩ := OB_readn HO5 n5 hn5
          have HP5 := Aside0.mk (Kd.R_below HP4.out hb5)
          have HB5 := Aside0.mk (below_step HB4.out hb5)
          have HC := Aside0.mk HC5
          have hl5 : (bb ++ vtext s).length + n5 ≤ 1000 := by rw [List.length_append, HN3.out]; omega
          have HTX := Aside0.mk htx
          clear HO5 hb5 HC5 HP4 HB4 hn5 htx
          go_wp2_with ((with_reducible refine gate_dst (N := 55) rfl ?_); refine app_bytes rfl rfl rfl rfl HP5.out HC.out HB5.out.size (by omega) ?_; intro v6 w6 HO6 hb6 _ _)
          rw [List.append_assoc] at HO6
          have hP7 : Aside0 (OB w6.drew w.heap.size v6 (bb ++ (vtext s ++ tx))) := ⟨Kd.R_drew HO6⟩
          have hHB := below_drew1 (HB5.out.trans hb6)
          have hE7 := OB_string hP7.out
          clear HO6 hb6 HP5 HB5 HC hl5
          go_wp2_with fail
          go_region_held (fun w' => Aside0 (OB w' w.heap.size v6 (bb ++ (vtext s ++ tx))) ∧ Below w.heap.size w w' ∧ (convert 22 9 v6).run Try.prog w' = .ok (.string (strOfNums (bb ++ (vtext s ++ tx)))) w')
            (first
              | (go_split_ands; exact ⟨by assumption, by assumption, by assumption⟩)
              | (go_split_ands; have r5 : OB _ w.heap.size v6 (bb ++ (vtext s ++ tx)) := Kd.R_below (Aside0.out (by assumption)) hb; exact ⟨⟨r5⟩, below_step (by assumption) hb, OB_string r5⟩)
              | (go_split_ands; refine ⟨⟨?_⟩, ?_, OB_string (B := w.heap.size) ?_⟩ <;> first | exact Kd.R_alloc (Aside0.out (by assumption)) _ | exact below_alloc (by assumption) _))
            (first | ((go_at_call 13); (with_reducible refine (text2d_calls _ _ _ bb s { data := #[120] } _ _ (Kd.C_below HBB.out hHB) hcb (by omega) (by decide) (by omega)).mono ?_); rintro e w10 ⟨v10, rfl, HO10, hb⟩; rw [HTX.out] at HO10; have E47 := OB_string HO10) | ((go_at_call 9); (with_reducible refine (lives_calls _).mono ?_); rintro e w8 ⟨rfl, hb⟩))
          all_goals go_wp2
          all_goals go_ret
          all_goals exact ⟨by first | rfl | kernel_rfl, by first | assumption | (go_split_ands; assumption)⟩


end Go.Proofs.Ythfpbaaefncamaa.A
