/- OFour -/
import Derived.Test.YtmfnbkghfmeekaaZABytes
import Derived.Test.YtmfnbkghfmeekaaZOTwo
import Derived.Test.YtmfnbkghfmeekaaZOThree
namespace Go.Proofs.Ytmfnbkghfmeekaa.A.O
open Go.RowKit Go.Proofs.YtmfnbkghfmeekaaW.PrintWords Go.Proofs.YtmfnbkghfmeekaaW.PrintLast Go.Proofs.YtmfnbkghfmeekaaW.PrintMore
set_option linter.unusedVariables false
set_option linter.unusedSimpArgs false
section
variable {α β : Type} {d : Kd α} {d' : Kd β} {e e' : Nat} {W W1 : World} {B B' : Nat} {ok ok' : Nat → Prop} {v u : Value} {xs : List α} {ys : List β}
theorem own_ne_type (h : d.R e W B ok v xs) (h' : d'.R e' W B' ok' u ys) (hne : e ≠ e') : u.ownBlock = none ∨ u.ownBlock ≠ v.ownBlock := by
  obtain ⟨_, inner, ho, _⟩ := h
  obtain ⟨_, inner', ho', _⟩ := h'
  cases hu : u.ownBlock with
  | none => exact .inl rfl
  | some k =>
    refine .inr fun e1 => ?_
    obtain ⟨cells, hc⟩ := own_typed ho k e1.symm
    obtain ⟨cells', hc'⟩ := own_typed ho' k hu
    rw [hc] at hc'
    injection hc' with h1
    injection h1 with _ h2
    exact hne h2
end
theorem OR_grown {α : Type} {enc : α → Value} {h1 : ∀ x, (enc x).oneCell' = true} {e : Nat} {W w1 : World} {B : Nat} {ok : Nat → Prop} {u : Value} {xs : List α} {row : Option Nat} (h : (Kd.scalar enc h1).R e W B ok u xs) (hg : W.grownBy w1 row) (hne : u.ownBlock = none ∨ u.ownBlock ≠ row) : (Kd.scalar enc h1).R e w1 B ok u xs := by
  obtain ⟨h0, inner, ho, hr⟩ := h
  exact ⟨h0, inner, ho.kept hg hne, hr⟩
end Go.Proofs.Ytmfnbkghfmeekaa.A.O
namespace Go.Proofs.Ytmfnbkghfmeekaa.A.O
open Go.RowKit Go.Proofs.YtmfnbkghfmeekaaW.PrintWords Go.Proofs.YtmfnbkghfmeekaaW.PrintLast Go.Proofs.YtmfnbkghfmeekaaW.PrintMore
set_option linter.unusedVariables false
set_option linter.unusedSimpArgs false
theorem OPt_grown {W w1 : World} {B : Nat} {u : Value} {xs : List Pt} {row : Option Nat} (h : OPt W B u xs) (hg : W.grownBy w1 row) (hne : u.ownBlock = none ∨ u.ownBlock ≠ row) : OPt w1 B u xs := by
  obtain ⟨h0, inner, ho, hr⟩ := h
  exact ⟨h0, inner, ho.kept hg hne, hr⟩
def valV (l : List Int) (k : Nat) : Int := ((l.drop 1).take (k - 1)).foldl (fun a x => 256 * a + x) (l.getD 0 0 % 128)
theorem valV_succ (l : List Int) (k : Nat) (h1 : 1 ≤ k) (h : k < l.length) : valV l (k + 1) = 256 * valV l k + l.getD k 0 := by
  unfold valV
  have e : k + 1 - 1 = (k - 1) + 1 := by omega
  have hl : k - 1 < (l.drop 1).length := by rw [List.length_drop]; omega
  rw [e, List.take_succ_eq_append_getElem hl, List.foldl_append, List.getElem_drop]
  have e2 : 1 + (k - 1) = k := by omega
  simp [List.getD_eq_getElem?_getD, h, e2]
theorem valV_lt (l : List Int) (hb : ∀ x ∈ l, 0 ≤ x ∧ x ≤ 255) (k : Nat) (h : k ≤ 8) : 0 ≤ valV l k ∧ valV l k < 9223372036854775808 ∧ (k ≤ 7 → valV l k < 36028797018963968) := by
  have ha : 0 ≤ l.getD 0 0 % 128 ∧ l.getD 0 0 % 128 ≤ 127 := by omega
  have h1 := fold_bound ((l.drop 1).take (k - 1)) (l.getD 0 0 % 128) ha.1 (fun x hx => hb x (List.mem_of_mem_drop (List.mem_of_mem_take hx)))
  have hl : ((l.drop 1).take (k - 1)).length ≤ k - 1 := by rw [List.length_take]; exact Nat.min_le_left _ _
  unfold valV
  generalize ((l.drop 1).take (k - 1)).length = m at *
  generalize ((l.drop 1).take (k - 1)).foldl (fun a x => 256 * a + x) (l.getD 0 0 % 128) = u at *
  generalize l.getD 0 0 % 128 = a at *
  have p2 : (256 : Int) ^ 2 = 65536 := by decide
  have p3 : (256 : Int) ^ 3 = 16777216 := by decide
  have p4 : (256 : Int) ^ 4 = 4294967296 := by decide
  have p5 : (256 : Int) ^ 5 = 1099511627776 := by decide
  have p6 : (256 : Int) ^ 6 = 281474976710656 := by decide
  have p7 : (256 : Int) ^ 7 = 72057594037927936 := by decide
  obtain ⟨h2, h3⟩ := h1
  rcases (by omega : m = 0 ∨ m = 1 ∨ m = 2 ∨ m = 3 ∨ m = 4 ∨ m = 5 ∨ m = 6 ∨ m = 7) with rfl | rfl | rfl | rfl | rfl | rfl | rfl | rfl
  · rw [Int.pow_zero] at h3; omega
  · rw [Int.pow_one] at h3; omega
  · rw [p2] at h3; omega
  · rw [p3] at h3; omega
  · rw [p4] at h3; omega
  · rw [p5] at h3; omega
  · rw [p6] at h3; omega
  · rw [p7] at h3; omega
theorem fold_lin : ∀ (l : List Int) (a : Int), l.foldl (fun a x => 256 * a + x) a = a * 256 ^ l.length + l.foldl (fun a x => 256 * a + x) 0
  | [], a => by simp
  | x :: l, a => by
    have h1 := fold_lin l (256 * a + x)
    have h2 := fold_lin l (256 * 0 + x)
    rw [List.foldl_cons, List.foldl_cons, h1, h2, List.length_cons, Int.pow_succ]
    generalize (256 : Int) ^ l.length = m
    rw [Int.add_mul, Int.mul_zero, Int.zero_add, Int.mul_comm 256 a, Int.mul_assoc, Int.mul_comm 256 m, Int.add_assoc]
theorem valV_end (l : List Int) (hl : l.length = 8) (hb : ∀ x ∈ l, 0 ≤ x ∧ x ≤ 255) : valK l = if l.getD 0 0 < 128 then valV l 8 else valV l 8 + 9223372036854775808 := by
  match l, hl with
  | [x0, x1, x2, x3, x4, x5, x6, x7], _ =>
    have h0 := hb x0 (by simp)
    have e1 : valK [x0, x1, x2, x3, x4, x5, x6, x7] = [x1, x2, x3, x4, x5, x6, x7].foldl (fun a x => 256 * a + x) x0 := by
      show [x1, x2, x3, x4, x5, x6, x7].foldl (fun a x => 256 * a + x) (256 * 0 + x0) = _
      rw [Int.mul_zero, Int.zero_add]
    have e2 : valV [x0, x1, x2, x3, x4, x5, x6, x7] 8 = [x1, x2, x3, x4, x5, x6, x7].foldl (fun a x => 256 * a + x) (x0 % 128) := rfl
    have e3 : [x0, x1, x2, x3, x4, x5, x6, x7].getD 0 0 = x0 := rfl
    have p7 : (256 : Int) ^ [x1, x2, x3, x4, x5, x6, x7].length = 72057594037927936 := by show (256 : Int) ^ 7 = _; decide
    rw [e1, e2, e3, fold_lin _ x0, fold_lin _ (x0 % 128), p7]
    generalize [x1, x2, x3, x4, x5, x6, x7].foldl (fun a x => 256 * a + x) 0 = r
    split
    · rw [Int.emod_eq_of_lt h0.1 (by omega)]
    · omega
set_option maxRecDepth 100000 in
set_option maxHeartbeats 2000000 in
theorem value_calls (A : Option Addr) (c : Nat) (l : List Int) (w : World) (hr : U8.C w A 8 l) (hc : 8 ≤ c) (hb : ∀ x ∈ l, 0 ≤ x ∧ x ≤ 255) :
    Calls Try.prog 99 #[.slice A 8 c] w fun e w' => e = .returned (.int .i64 (valK l - 9223372036854775808)) ∧ w = w' := by
  have hl : l.length = 8 := hr.1
  have hend := Aside0.mk (valV_end l hl hb)
  have HL := Aside0.mk hl
  have HR := Aside0.mk hr
  have HBY := Aside0.mk hb
  obtain ⟨ad, rfl, hcell0⟩ := C_atN hr 0 (by omega)
  rw [Addr.add_zero'] at hcell0
  have hx0 := byte_of hb 0
  have hv1 : Aside0 (valV l 1 = l.getD 0 0 % 128) := ⟨rfl⟩
  clear hl hr hb
  obtain ⟨x0, hx⟩ : ∃ x0, l.getD 0 0 = x0 := ⟨_, rfl⟩
  rw [hx] at hcell0 hx0 hv1
  have HX := Aside0.mk hx
  clear hx
  go_enter Try.func99, Try.ntmps99
  go_wp2
  go_loop [3, 4] (fun v3 v4 => ∃ k : Nat, 1 ≤ k ∧ k ≤ 8 ∧ v4 = .int .i64 k ∧ v3 = .int .i64 (valV l k)) (fun _ v4 => 8 - (intOf v4).toNat)
  case atStart => exact ⟨1, Nat.le_refl _, by omega, rfl, by rw [hv1.out]⟩
  case round =>
    obtain ⟨k, hk1, hk, rfl, rfl⟩ := hrel
    have hlt2 := valV_lt l HBY.out k hk
    by_cases hlt : k < 8
    · obtain ⟨ad', e', hcell⟩ := C_atN HR.out k (by omega)
      injection e' with e'
      subst e'
      have hs := valV_succ l k hk1 (by rw [HL.out]; exact hlt)
      have hxk := byte_of HBY.out k
      have hv7 := hlt2.2.2 (by omega)
      obtain ⟨hv0, _, _⟩ := hlt2
      generalize valV l k = u at *
      generalize l.getD k 0 = x at *
      have HS := Aside0.mk hs
      have i1 : (k : Int) < 8 := by omega
      have i2 : (0 : Int) ≤ (k : Int) := by omega
      clear hs hend
      go_wp2_with fail
      go_round
      case rel =>
        refine ⟨k + 1, by omega, by omega, rfl, ?_⟩
        rw [HS.out]
      case measure => simp [intOf]; omega
    · obtain rfl : k = 8 := by omega
      have hE := hend.out
      rw [HX.out] at hE
      obtain ⟨hv0, hv9, _⟩ := hlt2
      generalize valV l 8 = u at *
      by_cases h128 : x0 < 128
      · rw [if_pos h128] at hE
        have HE := Aside0.mk hE
        clear hE hend
        go_wp2_with fail
        go_ret
        exact ⟨by rw [HE.out, show u - 9223372036854775808 = u - 9223372036854775807 - 1 by omega]; rfl, rfl⟩
      · rw [if_neg h128] at hE
        have HE := Aside0.mk hE
        clear hE hend
        go_wp2_with fail
        go_ret
        exact ⟨by rw [HE.out, show u + 9223372036854775808 - 9223372036854775808 = u by omega]; rfl, rfl⟩
theorem cutmN (A : Option Addr) (n c : Nat) (l : List Int) (lo hi : Int) (hn : l.length = n) (h0 : 0 ≤ lo) (h1 : lo ≤ hi) (hm : hi ≤ n) (hc : n ≤ c) :
    ∃ (A' : Option Addr) (c' : Nat), (∀ W : World, (Instr.slice 31 (.slice A n c) (some (.int .i64 lo)) (some (.int .i64 hi)) none).run Try.prog W = .ok (.slice A' ((l.take hi.toNat).drop lo.toNat).length c') W) ∧
      (∀ w : World, U8.C w A n l → U8.C w A' ((l.take hi.toNat).drop lo.toNat).length ((l.take hi.toNat).drop lo.toNat)) ∧ ((l.take hi.toNat).drop lo.toNat).length ≤ c' := by
  subst hn
  exact cutm A c l lo hi h0 h1 hm hc
theorem readL_num (f : Nat) (b : List Int) (i : Nat) (acc : List Pt) (h : i < b.length) (hk : b.getD i 0 = 1) : readL (f + 1) (b.drop i) acc = if i + 9 ≤ b.length then readL f (b.drop (i + 9)) (acc ++ [wordP (b.drop (i + 1))]) else ([], 3) := by
  have e1 : b.getD i 0 = b[i] := by simp [List.getD_eq_getElem?_getD, h]
  rw [e1] at hk
  rw [List.drop_eq_getElem_cons h, readL, if_pos hk]
  by_cases h9 : i + 9 ≤ b.length
  · rw [if_pos h9, if_neg (by rw [List.length_drop]; omega), List.drop_drop, Nat.add_assoc]
  · rw [if_neg h9, if_pos (by rw [List.length_drop]; omega)]
theorem readL_text (f : Nat) (b : List Int) (i : Nat) (acc : List Pt) (h : i < b.length) (hk : b.getD i 0 = 2) : readL (f + 1) (b.drop i) acc = if errW (b.drop (i + 1)) = 0 then readL f (restW (b.drop (i + 1))) (acc ++ [wordsP (b.drop (i + 1))]) else ([], errW (b.drop (i + 1))) := by
  have e1 : b.getD i 0 = b[i] := by simp [List.getD_eq_getElem?_getD, h]
  rw [e1] at hk
  rw [List.drop_eq_getElem_cons h, readL, if_neg (by omega), if_pos hk]
theorem readL_bad (f : Nat) (b : List Int) (i : Nat) (acc : List Pt) (h : i < b.length) (hk : ¬ b.getD i 0 = 1) (hk2 : ¬ b.getD i 0 = 2) : readL (f + 1) (b.drop i) acc = ([], 2) := by
  have e1 : b.getD i 0 = b[i] := by simp [List.getD_eq_getElem?_getD, h]
  rw [e1] at hk hk2
  rw [List.drop_eq_getElem_cons h, readL, if_neg hk, if_neg hk2]
set_option maxRecDepth 100000 in
set_option maxHeartbeats 6400000 in
theorem refread_calls (A : Option Addr) (n c : Nat) (b : List Int) (w : World) (hr : U8.C w A n b) (hc : n ≤ c) (hb : ∀ x ∈ b, 0 ≤ x ∧ x ≤ 255) (hn : n ≤ 100000) :
    Calls Try.prog 80 #[.slice A n c] w fun e w' => ∃ v, e = .returned (.tuple #[v, .int .i64 (readB b).2]) ∧ OPt w' w.heap.size v (readB b).1 ∧ Below w.heap.size w w' := by
  have hnl : n = b.length := hr.1.symm
  have HN := Aside0.mk hnl
  have HR := Aside0.mk hr
  have HBY := Aside0.mk hb
  clear hnl hr hb
  go_enter Try.func80, Try.ntmps80
  go_wp2
  go_loopw [4, 5] (fun v4 v5 w' => ∃ (f i : Nat) (acc : List Pt), v5 = .int .i64 i ∧ i ≤ n ∧ n < f + i ∧ acc.length ≤ i ∧ Aside0 (readL f (b.drop i) acc = readB b) ∧ Aside0 (OPt w' w.heap.size v4 acc) ∧ Aside0 (Below w.heap.size w w')) (fun _ v5 _ => n - (intOf v5).toNat)
  case atStart => exact ⟨n + 1, 0, [], rfl, Nat.zero_le _, by omega, Nat.le_refl _, ⟨by rw [readB, HN.out]; rfl⟩, ⟨Kd.R_nil _ _ _ _ _⟩, ⟨Below.refl _ _⟩⟩
  case round =>
    obtain ⟨f, i, acc, rfl, hi, hf, hacc, HE, HO, HB⟩ := hrel
    obtain ⟨f, rfl⟩ : ∃ g, f = g + 1 := ⟨f - 1, by omega⟩
    by_cases hin : i < n
    · obtain ⟨ad, rfl, hcell0⟩ := C_atN HR.out i hin
      have hcell := pw_cell_below HB.out hcell0
      have hE := HE.out
      have hbl : i < b.length := by rw [← HN.out]; exact hin
      have i1 : (0 : Int) ≤ (i : Int) := by omega
      have i2 : (i : Int) < (n : Int) := by omega
      by_cases hk1 : b.getD i 0 = 1
      · rw [readL_num f b i acc hbl hk1] at hE
        rw [hk1] at hcell
        clear hcell0 hk1 HE hbl
        by_cases h9 : i + 9 ≤ n
        · rw [if_pos (by rw [← HN.out]; exact h9)] at hE
          have HD := Aside0.mk hE
          obtain ⟨A2, c2, hrun, hC2, hl2⟩ := cutmN (some ad) n c b ((i : Int) + 1) ((i : Int) + 1 + 8) HN.out.symm (by omega) (by omega) (by omega) hc
          have e1 : ((i : Int) + 1).toNat = i + 1 := by omega
          have e2 : ((i : Int) + 1 + 8).toNat = i + 9 := by omega
          have e3 : ((b.take (i + 9)).drop (i + 1)).length = 8 := by rw [List.length_drop, List.length_take, ← HN.out]; omega
          have e4 : (b.take (i + 9)).drop (i + 1) = (b.drop (i + 1)).take 8 := by rw [List.drop_take]; congr 1; omega
          simp only [e1, e2, e3] at hrun hC2 hl2
          have HC2 := Aside0.mk (hC2 w HR.out)
          have HBY2 : Aside0 (∀ x ∈ (b.take (i + 9)).drop (i + 1), 0 ≤ x ∧ x ≤ 255) := ⟨fun x hx => HBY.out x (List.mem_of_mem_take (List.mem_of_mem_drop hx))⟩
          have h9' : ¬ (n : Int) < (i : Int) + 1 + 8 := by omega
          have HP : Aside0 (wordP (b.drop (i + 1)) = ⟨false, valK ((b.take (i + 9)).drop (i + 1)) - 9223372036854775808, { data := #[] }⟩) := ⟨by rw [e4]; rfl⟩
          clear hC2 e1 e2 e3 e4 hE
          go_wp2_with fail
          (with_reducible refine (value_calls _ _ _ _ (Kd.C_below HC2.out HB.out) hl2 HBY2.out).mono ?_)
          rintro e w2 ⟨rfl, rfl⟩
          generalize valK ((b.take (i + 9)).drop (i + 1)) - 9223372036854775808 = u at *
          clear hrun hcell
          go_wp2_with ((with_reducible refine gate_dst (N := 35) rfl ?_); refine app_pt rfl rfl rfl rfl HO.out HB.out.size (by omega) ?_; intro v4 w4 HO4 hb4 _)
          go_roundw
          case rel =>
            refine ⟨f, i + 9, acc ++ [⟨false, u, { data := #[] }⟩], by first | rfl | (congr 1; omega), h9, by omega, by rw [List.length_append, List.length_singleton]; omega, ⟨?_⟩, ⟨HO4⟩, ⟨HB.out.trans hb4⟩⟩
            rw [← HP.out]
            exact HD.out
          case measure => simp [intOf]; omega
        · rw [if_neg (by rw [← HN.out]; exact h9)] at hE
          have HD := Aside0.mk hE
          have h9' : (n : Int) < (i : Int) + 1 + 8 := by omega
          clear hE
          go_wp2_with fail
          go_ret2
          refine ⟨.slice none 0 0, ?_, ?_, HB.out⟩
          · rw [← HD.out]; rfl
          · rw [← HD.out]; exact Kd.R_nil _ _ _ _ _
      · by_cases hk2 : b.getD i 0 = 2
        · rw [readL_text f b i acc hbl hk2] at hE
          rw [hk2] at hcell
          have HD := Aside0.mk hE
          clear hcell0 hk1 HE hbl hE hk2
          go_wp2_with fail
          have HOW := HO
          have HBW := HB
          clear HO HB hcell
          go_loopw [5, 7, 8] (fun v5 v7 v8 w' => ∃ (j : Nat) (tx : List Int) (ov : Bool), v5 = .int .i64 j ∧ v8 = .bool ov ∧ i < j ∧ j ≤ n ∧ tx.length ≤ j ∧ Aside0 ((ov = true → wordsL (b.drop (i + 1)) [] = (tx, b.drop j, 0)) ∧ (ov = false → wordsL (b.drop j) tx = wordsL (b.drop (i + 1)) [])) ∧ Aside0 (OB w' w.heap.size v7 tx) ∧ Aside0 (OPt w' w.heap.size u4 acc) ∧ Aside0 (Below w.heap.size w w')) (fun v5 _ _ _ => n - (intOf v5).toNat)
          case atStart => exact ⟨i + 1, [], false, rfl, rfl, by omega, hin, Nat.zero_le _, ⟨⟨by simp, fun _ => rfl⟩⟩, ⟨Kd.R_nil _ _ _ _ _⟩, HOW, HBW⟩
          case round =>
            clear HOW HBW
            obtain ⟨j, tx, ov, rfl, rfl, hij, hj, htx, HW, HS, HO, HB⟩ := hrel
            have i3 : (0 : Int) ≤ (j : Int) := by omega
            cases ov with
            | true =>
              have hW := HW.out.1 rfl
              have h1 : errW (b.drop (i + 1)) = 0 := by unfold errW; rw [hW]
              have h2 : restW (b.drop (i + 1)) = b.drop j := by unfold restW; rw [hW]
              have h3 : wordsP (b.drop (i + 1)) = ⟨true, 0, strOfNums tx⟩ := by unfold wordsP; rw [if_pos h1, hW]
              have hE2 := HD.out
              rw [if_pos h1, h2, h3] at hE2
              have HF := Aside0.mk hE2
              have hE7 := OB_string HS.out
              clear hW h1 h2 h3 hE2
              go_wp2_with ((with_reducible refine gate_dst (N := 106) rfl ?_); refine app_pt rfl rfl rfl rfl HO.out HB.out.size (by omega) ?_; intro v6 w6 HO6 hb6 _)
              go_roundw
              case rel => exact ⟨f, j, acc ++ [⟨true, 0, strOfNums tx⟩], rfl, hj, by omega, by rw [List.length_append, List.length_singleton]; omega, HF, ⟨HO6⟩, ⟨HB.out.trans hb6⟩⟩
              case measure => simp [intOf]; omega
            | false =>
              have hW0 := HW.out.2 rfl
              by_cases hjn : j < n
              · have hwd := wordsL_drop b j tx (by rw [← HN.out]; exact hjn)
                rw [hW0] at hwd
                obtain ⟨ad', e', hc0⟩ := C_atN HR.out j hjn
                injection e' with e'
                subst e'
                have hcj := pw_cell_below HB.out hc0
                have i4 : (j : Int) < (n : Int) := by omega
                by_cases hx0 : b.getD j 0 = 0
                · rw [hx0] at hcj
                  rw [if_pos hx0] at hwd
                  by_cases hj1 : j + 1 < n
                  · rw [if_pos (by rw [← HN.out]; exact hj1)] at hwd
                    obtain ⟨ad', e', hc1⟩ := C_atN HR.out (j + 1) hj1
                    injection e' with e'
                    subst e'
                    have hcj1 := pw_cell_below HB.out hc1
                    rw [Addr.add_succ'] at hcj1
                    have i5 : (j : Int) + 1 < (n : Int) := by omega
                    have i6 : (0 : Int) ≤ (j : Int) + 1 := by omega
                    clear hc0 hc1 hW0 hx0
                    generalize b.getD (j + 1) 0 = y at *
                    by_cases hy : y = 255
                    · subst hy
                      rw [if_pos rfl] at hwd
                      have HWD := Aside0.mk hwd
                      clear hwd
                      go_wp2_with ((with_reducible refine gate_dst (N := 98) rfl ?_); refine app_byte rfl rfl rfl rfl HS.out HB.out.size (by omega) ?_; intro v6 w6 HO6 hb6 hg6)
                      have HO7 := OPt_grown HO.out hg6 (own_ne_type HS.out HO.out (by decide))
                      go_roundw
                      case rel => exact ⟨j + 2, tx ++ [0], false, rfl, rfl, by omega, by omega, by simp; omega, ⟨⟨by simp, fun _ => HWD.out.symm⟩⟩, ⟨HO6⟩, ⟨HO7⟩, ⟨HB.out.trans hb6⟩⟩
                      case measure => simp [intOf]; omega
                    · rw [if_neg hy] at hwd
                      by_cases hy1 : y = 1
                      · subst hy1
                        rw [if_pos rfl] at hwd
                        have HWD := Aside0.mk hwd
                        clear hwd
                        go_wp2_with fail
                        go_roundw
                        case rel => exact ⟨j + 2, tx, true, rfl, rfl, by omega, by omega, by omega, ⟨⟨fun _ => HWD.out, by simp⟩⟩, HS, HO, HB⟩
                        case measure => simp [intOf]; omega
                      · rw [if_neg hy1] at hwd
                        have HWD := Aside0.mk hwd
                        have q1 : (y != 255) = true := by simpa using hy
                        have q2 : (y != 1) = true := by simpa using hy1
                        clear hwd
                        go_wp2_with fail
                        go_ret2
                        have hW : wordsL (b.drop (i + 1)) [] = ([], [], 2) := HWD.out
                        have h1 : errW (b.drop (i + 1)) = 2 := by unfold errW; rw [hW]
                        have hE2 := HD.out
                        rw [h1, if_neg (by omega)] at hE2
                        refine ⟨.slice none 0 0, ?_, ?_, HB.out⟩
                        · rw [← hE2]; rfl
                        · rw [← hE2]; exact Kd.R_nil _ _ _ _ _
                  · rw [if_neg (by rw [← HN.out]; exact hj1)] at hwd
                    have HWD := Aside0.mk hwd
                    have i5 : (n : Int) ≤ (j : Int) + 1 := by omega
                    clear hwd hc0 hW0 hx0
                    go_wp2_with fail
                    go_ret2
                    have hW : wordsL (b.drop (i + 1)) [] = ([], [], 3) := HWD.out
                    have h1 : errW (b.drop (i + 1)) = 3 := by unfold errW; rw [hW]
                    have hE2 := HD.out
                    rw [h1, if_neg (by omega)] at hE2
                    refine ⟨.slice none 0 0, ?_, ?_, HB.out⟩
                    · rw [← hE2]; rfl
                    · rw [← hE2]; exact Kd.R_nil _ _ _ _ _
                · rw [if_neg hx0] at hwd
                  have HWD := Aside0.mk hwd
                  clear hwd hc0 hW0
                  generalize b.getD j 0 = x at *
                  go_wp2_with ((with_reducible refine gate_dst (N := 71) rfl ?_); refine app_byte rfl rfl rfl rfl HS.out HB.out.size (by omega) ?_; intro v6 w6 HO6 hb6 hg6)
                  have HO7 := OPt_grown HO.out hg6 (own_ne_type HS.out HO.out (by decide))
                  go_roundw
                  case rel => exact ⟨j + 1, tx ++ [x], false, rfl, rfl, by omega, by omega, by simp; omega, ⟨⟨by simp, fun _ => HWD.out.symm⟩⟩, ⟨HO6⟩, ⟨HO7⟩, ⟨HB.out.trans hb6⟩⟩
                  case measure => simp [intOf]; omega
              · have hwe := wordsL_end b j tx (by rw [← HN.out]; omega)
                rw [hW0] at hwe
                have HWD := Aside0.mk hwe
                have i5 : (n : Int) ≤ (j : Int) := by omega
                clear hwe hW0
                go_wp2_with fail
                go_ret2
                have hW : wordsL (b.drop (i + 1)) [] = ([], [], 3) := HWD.out
                have h1 : errW (b.drop (i + 1)) = 3 := by unfold errW; rw [hW]
                have hE2 := HD.out
                rw [h1, if_neg (by omega)] at hE2
                refine ⟨.slice none 0 0, ?_, ?_, HB.out⟩
                · rw [← hE2]; rfl
                · rw [← hE2]; exact Kd.R_nil _ _ _ _ _
        · rw [readL_bad f b i acc hbl hk1 hk2] at hE
          have HD := Aside0.mk hE
          generalize b.getD i 0 = x at *
          clear hcell0 HE hbl hE
          go_wp2_with fail
          go_ret2
          refine ⟨.slice none 0 0, ?_, ?_, HB.out⟩
          · rw [← HD.out]; rfl
          · rw [← HD.out]; exact Kd.R_nil _ _ _ _ _
    · obtain rfl : i = n := by omega
      have hE := HE.out
      rw [List.drop_of_length_le (by rw [← HN.out]; exact Nat.le_refl _), readL] at hE
      have HD := Aside0.mk hE
      clear hE
      go_wp2_with fail
      go_ret2
      refine ⟨u4, ?_, ?_, HB.out⟩
      · rw [← HD.out]; rfl
      · rw [← HD.out]; exact HO.out
end Go.Proofs.Ytmfnbkghfmeekaa.A.O
namespace Go.Proofs.Ytmfnbkghfmeekaa.A.O
open Go.RowKit Go.Proofs.YtmfnbkghfmeekaaW.PrintWords Go.Proofs.YtmfnbkghfmeekaaW.PrintLast Go.Proofs.YtmfnbkghfmeekaaW.PrintMore
set_option linter.unusedVariables false
set_option linter.unusedSimpArgs false
theorem numK_val : ∀ (k : Nat) (t : List Int), t.length = k → (∀ x ∈ t, 0 ≤ x ∧ x ≤ 255) → numK k (valK t) = t
  | 0, t, h, _ => by
    rw [List.eq_nil_of_length_eq_zero h]
    rfl
  | k + 1, t, h, hb => by
    rcases List.eq_nil_or_concat t with rfl | ⟨L, x, rfl⟩
    · simp at h
    · have hL : L.length = k := by simpa using h
      have hx := hb x (by simp)
      have ih := numK_val k L hL (fun y hy => hb y (by simp [hy]))
      rw [List.concat_eq_append, valK_snoc, numK]
      have e1 : (256 * valK L + x) / 256 = valK L := by omega
      have e2 : (256 * valK L + x) % 256 = x := by omega
      rw [e1, e2, ih]
theorem words_canon : ∀ (l acc : List Int), (∀ x ∈ l, 0 ≤ x ∧ x ≤ 255) → (wordsL l acc).2.2 = 0 → ∃ xs, (wordsL l acc).1 = acc ++ xs ∧ l = xs.flatMap wtextB ++ ([0, 1] ++ (wordsL l acc).2.1) ∧ ∀ x ∈ xs, 0 ≤ x ∧ x ≤ 255
  | [], acc, _, h => by
    have : (3 : Int) = 0 := h
    omega
  | b :: [], acc, hb, h => by
    exfalso
    rw [wordsL_cons] at h
    split at h
    · have : (3 : Int) = 0 := h
      omega
    · have : (3 : Int) = 0 := h
      omega
  | b :: c :: r, acc, hb, h => by
    by_cases h0 : b = 0
    · have e : wordsL (b :: c :: r) acc = if c = 255 then wordsL r (acc ++ [0]) else if c = 1 then (acc, r, 0) else ([], [], 2) := by
        rw [wordsL_cons, if_pos h0]
      rw [e] at h ⊢
      by_cases hc : c = 255
      · rw [if_pos hc] at h ⊢
        obtain ⟨xs, h1, h2, h3⟩ := words_canon r (acc ++ [0]) (fun x hx => hb x (by simp [hx])) h
        refine ⟨0 :: xs, by rw [h1]; simp, ?_, ?_⟩
        · rw [h0, hc, List.flatMap_cons]
          show 0 :: 255 :: r = 0 :: 255 :: (xs.flatMap wtextB ++ ([0, 1] ++ _))
          rw [← h2]
        · intro x hx
          rcases List.mem_cons.1 hx with rfl | hx
          · omega
          · exact h3 x hx
      · rw [if_neg hc] at h ⊢
        by_cases hc1 : c = 1
        · rw [if_pos hc1]
          exact ⟨[], by simp, by rw [h0, hc1]; rfl, by simp⟩
        · rw [if_neg hc1] at h
          have : (2 : Int) = 0 := h
          omega
    · have e : wordsL (b :: c :: r) acc = wordsL (c :: r) (acc ++ [b]) := by rw [wordsL_cons, if_neg h0]
      rw [e] at h ⊢
      obtain ⟨xs, h1, h2, h3⟩ := words_canon (c :: r) (acc ++ [b]) (fun x hx => hb x (by simp at hx ⊢; right; exact hx)) h
      refine ⟨b :: xs, by rw [h1]; simp, ?_, ?_⟩
      · rw [List.flatMap_cons, show wtextB b = [b] by unfold wtextB; rw [if_neg h0]]
        show b :: c :: r = b :: (xs.flatMap wtextB ++ ([0, 1] ++ _))
        rw [← h2]
      · intro x hx
        rcases List.mem_cons.1 hx with rfl | hx
        · exact hb x (by simp)
        · exact h3 x hx
theorem read_canon : ∀ (f : Nat) (b : List Int) (acc : List Pt), b.length < f → (∀ x ∈ b, 0 ≤ x ∧ x ≤ 255) → (readL f b acc).2 = 0 → ∃ l, (readL f b acc).1 = acc ++ l ∧ b = writeL l
  | 0, b, acc, h, _, _ => by omega
  | f + 1, [], acc, _, _, _ => ⟨[], by simp [readL], rfl⟩
  | f + 1, k :: r, acc, hf, hb, h => by
    rw [List.length_cons] at hf
    have hr : ∀ x ∈ r, 0 ≤ x ∧ x ≤ 255 := fun x hx => hb x (by simp [hx])
    rw [readL] at h ⊢
    by_cases hk1 : k = 1
    · rw [if_pos hk1] at h ⊢
      by_cases h8 : r.length < 8
      · rw [if_pos h8] at h
        have : (3 : Int) = 0 := h
        omega
      · rw [if_neg h8] at h ⊢
        obtain ⟨l, h1, h2⟩ := read_canon f (r.drop 8) _ (by rw [List.length_drop]; omega) (fun x hx => hr x (List.mem_of_mem_drop hx)) h
        refine ⟨wordP r :: l, by rw [h1]; simp, ?_⟩
        have e1 : valK (r.take 8) - 9223372036854775808 + 9223372036854775808 = valK (r.take 8) := by omega
        have e2 : wpart (wordP r) = 1 :: r.take 8 := by
          show [1] ++ num8 (valK (r.take 8) - 9223372036854775808 + 9223372036854775808) = _
          rw [e1, num8_K, numK_val 8 _ (by rw [List.length_take]; omega) (fun x hx => hr x (List.mem_of_mem_take hx))]
          rfl
        unfold writeL at h2 ⊢
        rw [List.flatMap_cons, e2, ← h2, hk1]
        show 1 :: r = 1 :: (r.take 8 ++ r.drop 8)
        rw [List.take_append_drop]
    · rw [if_neg hk1] at h ⊢
      by_cases hk2 : k = 2
      · rw [if_pos hk2] at h ⊢
        by_cases he : errW r = 0
        · rw [if_pos he] at h ⊢
          obtain ⟨z, hz⟩ := restW_drop r
          obtain ⟨l, h1, h2⟩ := read_canon f (restW r) _ (by rw [hz, List.length_drop]; omega) (fun x hx => hr x (by rw [hz] at hx; exact List.mem_of_mem_drop hx)) h
          refine ⟨wordsP r :: l, by rw [h1]; simp, ?_⟩
          obtain ⟨xs, g1, g2, g3⟩ := words_canon r [] hr he
          have e2 : wpart (wordsP r) = 2 :: (xs.flatMap wtextB ++ [0, 1]) := by
            unfold wordsP
            rw [if_pos he, g1]
            show [2] ++ ((bytesOf (strOfNums ([] ++ xs))).flatMap wtextB ++ [0, 1]) = _
            rw [List.nil_append, bytesOf_str xs g3]
            rfl
          have e3 : r = xs.flatMap wtextB ++ ([0, 1] ++ restW r) := g2
          unfold writeL at h2 ⊢
          rw [List.flatMap_cons, e2, ← h2, hk2]
          show 2 :: r = 2 :: (xs.flatMap wtextB ++ [0, 1] ++ restW r)
          rw [List.append_assoc, ← e3]
        · rw [if_neg he] at h
          exact (he h).elim
      · rw [if_neg hk2] at h
        have : (2 : Int) = 0 := h
        omega
theorem key_canon (key : ByteArray) (pn qn : Int) (ps qs : ByteArray) (h0 : (readB (bytesOf key)).2 = 0) (h1 : (readB (bytesOf key)).1 = [⟨false, pn, ps⟩, ⟨true, qn, qs⟩]) (h2 : keyErr pn qs = 0) : keyStr pn qs = key := by
  obtain ⟨l, g1, g2⟩ := read_canon ((bytesOf key).length + 1) (bytesOf key) [] (by omega) (bytesOf_range key) h0
  have g3 : l = [⟨false, pn, ps⟩, ⟨true, qn, qs⟩] := by
    have : (readB (bytesOf key)).1 = [] ++ l := g1
    rw [List.nil_append] at this
    rw [← this, h1]
  have e : writeL (keyParts pn qs) = bytesOf key := by
    rw [g2, g3]
    rfl
  unfold keyStr
  rw [if_pos h2, e, str_bytes]
end Go.Proofs.Ytmfnbkghfmeekaa.A.O
namespace Go.Proofs.Ytmfnbkghfmeekaa.A.O
open Go.RowKit Go.Proofs.YtmfnbkghfmeekaaW.PrintWords Go.Proofs.YtmfnbkghfmeekaaW.PrintLast Go.Proofs.YtmfnbkghfmeekaaW.PrintMore
set_option linter.unusedVariables false
set_option linter.unusedSimpArgs false
set_option maxRecDepth 100000 in
set_option maxHeartbeats 2000000 in
theorem refsplit_calls (key : ByteArray) (w : World) (hs : key.size ≤ 100000) :
    Calls Try.prog 56 #[.string key] w fun e w' => e = .returned (.tuple #[.int .i64 (splitK key).1, .string (splitK key).2.1, .int .i64 (splitK key).2.2]) ∧ Below w.heap.size w w' := by
  have hsp := splitK.eq_1 key
  have hcan := key_canon key
  have hcap := grownCap_ge w key.size 0 5
  have kb := fun W => print_bytes (P := Try.prog) 9 31 5 Try.underlying9 Try.underlying31 Try.underlying5 key W
  have HCAN := Aside0.mk hcan
  have HSP := Aside0.mk hsp
  clear hcan hsp
  go_enter Try.func56, Try.ntmps56
  go_wp2_with fail
  (with_reducible refine (refread_calls _ _ _ (bytesOf key) _ (bytes_C w _ key (by omega)) hcap (bytesOf_range key) hs).mono ?_)
  rintro e w2 ⟨v2, rfl, HO2, hb2⟩
  have HB2 := Aside0.mk (below_step (bytes_below (Below.refl w.heap.size w) (Nat.le_refl _) 5 key) hb2)
  have HSP2 := HSP.out; clear HSP
  have hcan := HCAN.out
  generalize (readB (bytesOf key)).2 = er at *
  generalize (readB (bytesOf key)).1 = l at *
  have HO := Aside0.mk (Kd.R_lower HO2 (show w.heap.size ≤ _ by rw [Lib.bytesWorld_size]; omega))
  clear hb2 kb HO2 HCAN
  by_cases he : er = 0
  · rw [if_pos he] at HSP2
    subst he
    obtain ⟨n, hn⟩ : ∃ n, l.length = n := ⟨_, rfl⟩
    obtain ⟨A2, c2, rfl, hc2, HC2⟩ := OPt_readn HO.out n hn
    by_cases hn2 : n = 2
    · subst hn2
      obtain ⟨p, q, rfl⟩ : ∃ p q, l = [p, q] := by
        match l, hn with
        | [p, q], _ => exact ⟨p, q, rfl⟩
      obtain ⟨g, rfl, hg⟩ := R_block HO.out (by omega)
      obtain ⟨⟨b0, b1, b2⟩, ⟨b3, b4, b5⟩⟩ := row_cells2 HO.out
      obtain ⟨pt, pn, ps⟩ := p
      obtain ⟨qt, qn, qs⟩ := q
      dsimp only at b0 b1 b2 b3 b4 b5 HSP2
      have HSP := Aside0.mk HSP2
      have HCAN := Aside0.mk hcan
      clear HSP2 HC2 hn hcan
      by_cases h1 : pt = false
      · subst h1
        by_cases h2 : qt = true
        · subst h2
          by_cases h3 : pn < 0
          · have HSP2 := HSP.out; clear HSP
            rw [if_neg (fun h => by have := h.2.2.1; unfold keyErr at this; rw [if_pos (.inl h3)] at this; omega)] at HSP2
            have HSP := Aside0.mk HSP2
            clear HSP2 HCAN
            go_wp2_with fail
            go_ret3
            exact ⟨by rw [HSP.out]; rfl, HB2.out⟩
          · by_cases h4 : 3 < pn
            · have HSP2 := HSP.out; clear HSP
              rw [if_neg (fun h => by have := h.2.2.1; unfold keyErr at this; rw [if_pos (.inr (by omega))] at this; omega)] at HSP2
              have HSP := Aside0.mk HSP2
              clear HSP2 HCAN
              go_wp2_with fail
              go_ret3
              exact ⟨by rw [HSP.out]; rfl, HB2.out⟩
            · by_cases h5 : 40 < qs.size
              · have HSP2 := HSP.out; clear HSP
                rw [if_neg (fun h => by have := h.2.2.1; unfold keyErr at this; rw [if_neg (by omega), if_pos h5] at this; omega)] at HSP2
                have HSP := Aside0.mk HSP2
                have h6 : (40 : Int) < (qs.size : Int) := by omega
                clear HSP2 HCAN
                go_wp2_with fail
                go_ret3
                exact ⟨by rw [HSP.out]; rfl, HB2.out⟩
              · have hke : keyErr pn qs = 0 := by unfold keyErr; rw [if_neg (by omega), if_neg h5]
                have hks := HCAN.out pn qn ps qs rfl rfl hke
                have HSP2 := HSP.out; clear HSP
                rw [if_pos ⟨rfl, rfl, hke, hks⟩] at HSP2
                have HSP := Aside0.mk HSP2
                have h6 : ¬ (40 : Int) < (qs.size : Int) := by omega
                clear HSP2 HCAN hke hks
                go_wp2_with fail
                go_quiet (fail)
                go_wp2_with fail
                go_ret3
                exact ⟨by rw [HSP.out]; first | rfl | kernel_rfl, by first | exact HB2.out | exact below_step HB2.out (by repeat (with_reducible first | exact Below.refl _ _ | apply pw_below_drewN | apply below_drew1))⟩
        · have hq : qt = false := by simpa using h2
          have HSP2 := HSP.out; clear HSP
          rw [if_neg (fun h => h2 h.2.1)] at HSP2
          have HSP := Aside0.mk HSP2
          clear HSP2 HCAN
          subst hq
          go_wp2_with fail
          go_ret3
          exact ⟨by rw [HSP.out]; rfl, HB2.out⟩
      · have hp : pt = true := by simpa using h1
        have HSP2 := HSP.out; clear HSP
        rw [if_neg (fun h => h1 h.1)] at HSP2
        have HSP := Aside0.mk HSP2
        clear HSP2 HCAN
        subst hp
        go_wp2_with fail
        go_ret3
        exact ⟨by rw [HSP.out]; rfl, HB2.out⟩
    · have hnn : ¬ (n : Int) = 2 := by omega
      have HSP : Aside0 (splitK key = (0, { data := #[] }, 2)) := ⟨by
        rw [HSP2]
        match l, hn with
        | [], _ => rfl
        | [_], _ => rfl
        | [_, _], h => exact (hn2 h.symm).elim
        | _ :: _ :: _ :: _, _ => rfl⟩
      clear HSP2 HC2 hn hcan
      go_wp2_with fail
      go_ret3
      exact ⟨by rw [HSP.out]; rfl, HB2.out⟩
  · rw [if_neg he] at HSP2
    have HSP := Aside0.mk HSP2
    clear HSP2 hcan
    go_wp2_with fail
    go_ret3
    exact ⟨by rw [HSP.out]; rfl, HB2.out⟩
end Go.Proofs.Ytmfnbkghfmeekaa.A.O
