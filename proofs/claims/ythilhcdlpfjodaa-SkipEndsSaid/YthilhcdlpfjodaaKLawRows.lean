/- SkipRows: each row is a part of the one below it, in order, and the first one has all. -/
import Derived.Test.YthilhcdlpfjodaaKDeeds
namespace Go.Proofs.Ythilhcdlpfjodaa.A
open Go.RowKit Go.Proofs.YthilhcdlpfjodaaW.PrintWords Go.Proofs.YthilhcdlpfjodaaW.PrintLast Go.Proofs.YthilhcdlpfjodaaW.PrintMore
set_option linter.unusedVariables false
set_option linter.unusedSimpArgs false

theorem row1 {l : List It} (h : Srt l) : rowS l 1 = l.map It.k := by
  unfold rowS
  rw [if_pos (by omega), List.filter_eq_self.2 (fun p hp => by have := (h.2 p hp).1; simp; omega)]
theorem row_up (l : List It) (lv : Int) (h : 1 ≤ lv) : (rowS l (lv + 1)).Sublist (rowS l lv) := by
  unfold rowS
  by_cases h8 : lv + 1 ≤ 8
  · rw [if_pos (by omega), if_pos (by omega)]
    refine List.Sublist.map _ ?_
    have e : l.filter (fun p => decide (lv + 1 ≤ (p.lv : Int))) = (l.filter (fun p => decide (lv ≤ (p.lv : Int)))).filter (fun p => decide (lv + 1 ≤ (p.lv : Int))) := by
      rw [List.filter_filter]
      apply List.filter_congr
      intro p _
      by_cases h1 : lv + 1 ≤ (p.lv : Int)
      · have h2 : lv ≤ (p.lv : Int) := by omega
        simp [h1, h2]
      · simp [h1]
    rw [e]
    exact List.filter_sublist
  · rw [if_neg (show ¬ (1 ≤ lv + 1 ∧ lv + 1 ≤ 8) by omega)]
    exact List.nil_sublist _
theorem row1_lt {l : List It} (h : Srt l) (i : Nat) (hi : i + 1 < (rowS l 1).length) : Go.Op.bytesLess ((rowS l 1).getD i ByteArray.empty).toList ((rowS l 1).getD (i + 1) ByteArray.empty).toList = true := by
  rw [row1 h, List.length_map] at hi
  have h1 := srt_lt h i (i + 1) (by omega) hi
  rw [row1 h]
  have e : ∀ j, j < l.length → (l.map It.k).getD j ByteArray.empty = (l.getD j default).k := fun j hj => by
    rw [List.getD_eq_getElem?_getD, List.getD_eq_getElem?_getD, List.getElem?_map, List.getElem?_eq_getElem hj]
    rfl
  rw [e i (by omega), e (i + 1) hi]
  exact h1
theorem drop_str (l : List ByteArray) (j : Nat) (hj : j < l.length) : l.drop j = l.getD j ByteArray.empty :: l.drop (j + 1) := by
  rw [List.drop_eq_getElem_cons hj, List.getD_eq_getElem?_getD, List.getElem?_eq_getElem hj]
  rfl
/-- A step of the search for a part. -/
theorem part_eq {X Y : List ByteArray} {k a : Nat} (hk : k < Y.length) (ha : a < X.length) (h : (X.drop a).Sublist (Y.drop k)) (he : Y.getD k ByteArray.empty = X.getD a ByteArray.empty) : (X.drop (a + 1)).Sublist (Y.drop (k + 1)) := by
  rw [drop_str X a ha, drop_str Y k hk, he] at h
  exact List.cons_sublist_cons.1 h
theorem part_ne {X Y : List ByteArray} {k a : Nat} (hk : k < Y.length) (ha : a < X.length) (h : (X.drop a).Sublist (Y.drop k)) (he : Y.getD k ByteArray.empty ≠ X.getD a ByteArray.empty) : (X.drop a).Sublist (Y.drop (k + 1)) := by
  rw [drop_str X a ha, drop_str Y k hk] at h
  rw [drop_str X a ha]
  rcases List.sublist_cons_iff.1 h with h1 | ⟨r, h1, h2⟩
  · exact h1
  · injection h1 with h3 h4
    exact absurd h3.symm he
theorem part_end {X Y : List ByteArray} {k a : Nat} (hk : ¬ k < Y.length) (ha : a ≤ X.length) (h : (X.drop a).Sublist (Y.drop k)) : a = X.length := by
  rw [List.drop_of_length_le (l := Y) (by omega)] at h
  have h1 := List.sublist_nil.1 h
  have h2 : (X.drop a).length = 0 := by rw [h1]; rfl
  rw [List.length_drop] at h2
  omega
set_option maxRecDepth 100000 in
set_option maxHeartbeats 4000000 in
theorem rows_calls (w : World) (A : Option Addr) (c : Nat) (dl : List Dd) (hr : KDd.C w A dl.length dl) (hc : dl.length ≤ c) (hg : ∀ d ∈ dl, d.fits) :
    Calls Try.prog 3 #[.slice A dl.length c] w fun e w' => e = .returned (.bool true) ∧ Below w.heap.size w w' := by
  have hm := hr.2.1
  obtain ⟨n, hn⟩ : ∃ n, dl.length = n := ⟨_, rfl⟩
  rw [hn] at hr hc hm ⊢
  have HR := Aside0.mk hr
  have HN := Aside0.mk hn
  have HG := Aside0.mk hg
  clear hr hn hg
  go_enter Try.func3, Try.ntmps3
  go_wp2_with fail
  (with_reducible refine (DI_new w).mono ?_)
  rintro e w1 ⟨L, rfl, hD1⟩
  have HD1 := Aside0.mk hD1
  clear hD1
  go_wp2_with fail
  go_loopw [4, 5] (fun v4 v5 w' => ∃ (i : Nat) (l : List It), v5 = .int .i64 i ∧ i ≤ n ∧ i ≤ 60 ∧ Aside0 (DI w w' L i v4 l)) (fun _ v5 _ => 60 - (intOf v5).toNat)
  case atStart => exact ⟨0, [], rfl, Nat.zero_le _, by omega, HD1⟩
  case round =>
    obtain ⟨i, l, rfl, hin, hi60, HD⟩ := hrel
    by_cases hlt : i < n ∧ i < 60
    · obtain ⟨hl1, hl2⟩ := hlt
      obtain ⟨ad, rfl, q0, q1, q2, q3⟩ := C_atDd (Kd.C_below HR.out (DI_b HD.out)) i hl1
      have hfd : (dl.getD i default).fits := HG.out _ (by
        rw [List.getD_eq_getElem?_getD, List.getElem?_eq_getElem (by rw [HN.out]; exact hl1)]
        exact List.getElem_mem _)
      obtain ⟨d, hd⟩ : ∃ d, dl.getD i default = d := ⟨_, rfl⟩
      rw [hd] at q0 q1 q2 q3 hfd
      have HDO := Aside0.mk (DI_does HD.out d (by omega) (by unfold Dd.fits at hfd; simp only [maxLen] at hfd; omega))
      have j1 : (i : Int) < (n : Int) := by omega
      have j2 : (0 : Int) ≤ (i : Int) := by omega
      have j3 : (i : Int) < 60 := by omega
      clear hd hfd
      go_wp2_with fail
      (with_reducible refine HDO.out.mono ?_)
      rintro e w2 ⟨v2, rfl, hD2⟩
      have HD2 := Aside0.mk hD2
      clear hD2
      go_wp2_with fail
      go_roundw
      case rel => exact ⟨i + 1, _, by push_cast; rfl, hl1, by omega, HD2⟩
      case measure => simp [intOf]; omega
    · have j1 : (¬ (i : Int) < (n : Int)) ∨ ((i : Int) < (n : Int) ∧ ¬ (i : Int) < 60) := by omega
      have HROW := Aside0.mk (DI_row HD.out (by omega) 1 (by omega) (by omega))
      have hlen : (rowS l 1).length = l.length := by rw [row1 (DI_srt HD.out), List.length_map]
      have hll := DI_len HD.out
      have HLT := Aside0.mk (row1_lt (DI_srt HD.out))
      obtain ⟨n1, hn1⟩ : ∃ n1, (rowS l 1).length = n1 := ⟨_, rfl⟩
      rw [hn1] at HROW hlen HLT
      have hn1b : n1 ≤ 60 := by omega
      have HLEN := Aside0.mk hlen
      clear hlt hlen hn1 hll
      rcases j1 with j1 | ⟨j1, j2⟩
      all_goals
        go_wp2_with fail
        (with_reducible refine HROW.out.mono ?_)
        rintro e w2 ⟨A2, c2, rfl, hc2, hC2, hb2⟩
        have HD2 := Aside0.mk (DI_below HD.out hb2)
        have HC2 := Aside0.mk hC2
        have HLC := Aside0.mk (DI_lenc HD2.out)
        rw [← HLEN.out] at HLC
        clear hC2 hb2
        go_wp2_with fail
        (with_reducible refine HLC.out.mono ?_)
        rintro e w3 ⟨rfl, rfl⟩
        go_wp2_with fail
        go_loopw [7] (fun v7 w' => ∃ (k r : Nat), v7 = .int .i64 r ∧ 1 ≤ r ∧ (r ≤ n1 ∨ r ≤ 1) ∧ Aside0 (r = k + 1) ∧ Aside0 (Below w2.heap.size w2 w')) (fun v7 _ => 100 - (intOf v7).toNat)
        case atStart => exact ⟨0, 1, rfl, by omega, by omega, ⟨rfl⟩, ⟨Below.refl _ _⟩⟩
        case round =>
          obtain ⟨k, r, rfl, hr1, hr2, HK, HB⟩ := hrel
          by_cases hlt2 : r < n1
          · have HBD := Aside0.mk (below_drew1 HB.out)
            obtain ⟨ad, rfl, q0⟩ := C_atStr (Kd.C_below HC2.out HBD.out) k (by have := HK.out; omega)
            obtain ⟨ad', e', q1⟩ := C_atStr (Kd.C_below HC2.out HBD.out) r hlt2
            injection e' with e'
            subst e'
            have hlt3 := HLT.out k (by have := HK.out; omega)
            rw [← HK.out] at hlt3
            obtain ⟨x, hx⟩ : ∃ x, (rowS l 1).getD k ByteArray.empty = x := ⟨_, rfl⟩
            obtain ⟨y, hy⟩ : ∃ x, (rowS l 1).getD r ByteArray.empty = x := ⟨_, rfl⟩
            rw [hx] at q0 hlt3
            rw [hy] at q1 hlt3
            have i1 : (r : Int) - 1 = (k : Int) := by have := HK.out; omega
            have i2 : IntKind.i64.wrap ((r : Int) - 1) = (k : Int) := by rw [IntWalk.i64_in _ (by have := HK.out; omega)]; exact i1
            have i3 : (k : Int) < (n1 : Int) := by have := HK.out; omega
            have i4 : (r : Int) < (n1 : Int) := by omega
            have i5 : (0 : Int) ≤ (k : Int) := by omega
            have i6 : (0 : Int) ≤ (r : Int) := by omega
            clear hx hy
            go_wp2_with fail
            go_region
            all_goals go_wp2_with fail
            all_goals go_roundw
            all_goals first | exact ⟨r, r + 1, by push_cast; rfl, by omega, by omega, ⟨rfl⟩, HBD⟩ | (simp [intOf]; omega)
          · have i1 : ¬ (r : Int) < (n1 : Int) := by omega
            have HDr := Aside0.mk (DI_below HD2.out HB.out)
            have HCr := Aside0.mk (Kd.C_below HC2.out HB.out)
            clear hr1 hr2
            go_wp2_with fail
            go_loopw [6, 8] (fun v6 v8 w' => ∃ (A6 : Option Addr) (n6 c6 q r : Nat), v6 = .slice A6 n6 c6 ∧ n6 ≤ c6 ∧ n6 ≤ 60 ∧ v8 = .int .i64 r ∧ 2 ≤ r ∧ r ≤ 9 ∧ Aside0 (r = q + 1) ∧ Aside0 (Kd.string.C w' A6 n6 (rowS l (q : Int))) ∧ Aside0 (DI w w' L i u4 l)) (fun _ v8 _ => 9 - (intOf v8).toNat)
            case atStart => exact ⟨A2, n1, c2, 1, 2, rfl, hc2, hn1b, rfl, by omega, by omega, ⟨rfl⟩, HCr, HDr⟩
            case round =>
              obtain ⟨A6, n6, c6, q, r, rfl, hc6, hn6, rfl, hr2, hr9, HQ, HC6, HD6⟩ := hrel
              by_cases hr8 : r ≤ 8
              · have i1 : (r : Int) ≤ 8 := by omega
                have HRW := Aside0.mk (DI_row HD6.out (by omega) (r : Int) (by omega) (by omega))
                have hsub : (rowS l (r : Int)).Sublist (rowS l (q : Int)) := by
                  have := row_up l (q : Int) (by have := HQ.out; omega)
                  rwa [show (q : Int) + 1 = (r : Int) by have := HQ.out; omega] at this
                have hn9 := rowS_len l (r : Int)
                have hll := DI_len HD6.out
                obtain ⟨n9, hn9e⟩ : ∃ n1, (rowS l (r : Int)).length = n1 := ⟨_, rfl⟩
                have HN9 := Aside0.mk hn9e
                have HSUB := Aside0.mk hsub
                rw [hn9e] at HRW hn9
                have hn9b : n9 ≤ 60 := by omega
                clear hsub hn9 hll hn9e
                go_wp2_with fail
                (with_reducible refine HRW.out.mono ?_)
                rintro e w5 ⟨A9, c9, rfl, hc9, hC9, hb5⟩
                have HC9 := Aside0.mk hC9
                have HC65 := Aside0.mk (Kd.C_below HC6.out hb5)
                have HD5 := Aside0.mk (DI_below HD6.out hb5)
                clear hC9 hb5
                go_wp2_with fail
                go_loopw [10, 11] (fun v10 v11 w' => ∃ (a k : Nat), v10 = .int .i64 a ∧ v11 = .int .i64 k ∧ k ≤ n6 ∧ a ≤ n9 ∧ Aside0 (((rowS l (r : Int)).drop a).Sublist ((rowS l (q : Int)).drop k)) ∧ Aside0 (Below w5.heap.size w5 w')) (fun _ v11 _ => 100 - (intOf v11).toNat)
                case atStart => exact ⟨0, 0, rfl, rfl, Nat.zero_le _, Nat.zero_le _, ⟨HSUB.out⟩, ⟨Below.refl _ _⟩⟩
                case round =>
                  obtain ⟨a, k, rfl, rfl, hk, ha, HS, HB5⟩ := hrel
                  by_cases hk2 : k < n6
                  · by_cases ha2 : a < n9
                    · have HBD := Aside0.mk (below_drew1 HB5.out)
                      obtain ⟨ad, rfl, q0⟩ := C_atStr (Kd.C_below HC65.out HBD.out) k hk2
                      obtain ⟨ad9, rfl, q1⟩ := C_atStr (Kd.C_below HC9.out HBD.out) a ha2
                      have hl6 : k < (rowS l (q : Int)).length := by rw [HC65.out.1]; exact hk2
                      have hl9 : a < (rowS l (r : Int)).length := by rw [HN9.out]; exact ha2
                      have i3 : (k : Int) < (n6 : Int) := by omega
                      have i4 : (a : Int) < (n9 : Int) := by omega
                      have i5 : (0 : Int) ≤ (k : Int) := by omega
                      have i6 : (0 : Int) ≤ (a : Int) := by omega
                      by_cases hxy : (rowS l (q : Int)).getD k ByteArray.empty = (rowS l (r : Int)).getD a ByteArray.empty
                      · have HS2 := Aside0.mk (part_eq hl6 hl9 HS.out hxy)
                        rw [hxy] at q0
                        obtain ⟨y, hy⟩ : ∃ x, (rowS l (r : Int)).getD a ByteArray.empty = x := ⟨_, rfl⟩
                        rw [hy] at q0 q1
                        clear hy hxy hl6 hl9
                        go_wp2_with fail
                        go_region
                        all_goals go_wp2_with fail
                        all_goals go_roundw
                        all_goals first | exact ⟨a + 1, k + 1, by push_cast; rfl, by push_cast; rfl, by omega, by omega, HS2, HBD⟩ | (simp [intOf]; omega)
                      · have HS2 := Aside0.mk (part_ne hl6 hl9 HS.out hxy)
                        obtain ⟨x, hx⟩ : ∃ x, (rowS l (q : Int)).getD k ByteArray.empty = x := ⟨_, rfl⟩
                        obtain ⟨y, hy⟩ : ∃ x, (rowS l (r : Int)).getD a ByteArray.empty = x := ⟨_, rfl⟩
                        rw [hx] at q0 hxy
                        rw [hy] at q1 hxy
                        have hne2 : (x.toList == y.toList) = false := by rw [beq_eq_false_iff_ne]; exact fun e => hxy (toL_inj e)
                        clear hx hy hxy hl6 hl9
                        go_wp2_with fail
                        go_region
                        all_goals go_wp2_with fail
                        all_goals go_roundw
                        all_goals first | exact ⟨a, k + 1, rfl, by push_cast; rfl, by omega, by omega, HS2, HBD⟩ | (simp [intOf]; omega)
                    · have hae : a = n9 := by omega
                      subst hae
                      have i3 : (k : Int) < (n6 : Int) := by omega
                      have HC9r := Aside0.mk (Kd.C_below HC9.out HB5.out)
                      have HDr := Aside0.mk (DI_below HD5.out HB5.out)
                      go_wp2_with fail
                      go_roundw
                      case rel => exact ⟨A9, a, c9, r, r + 1, rfl, hc9, hn9b, by push_cast; rfl, by omega, by omega, ⟨rfl⟩, HC9r, HDr⟩
                      case measure => simp [intOf]; omega
                  · have hae : a = n9 := by
                      have := part_end (X := rowS l (r : Int)) (Y := rowS l (q : Int)) (k := k) (a := a) (by rw [HC65.out.1]; exact hk2) (by rw [HN9.out]; exact ha) HS.out
                      rw [this, HN9.out]
                    subst hae
                    have i3 : ¬ (k : Int) < (n6 : Int) := by omega
                    have HC9r := Aside0.mk (Kd.C_below HC9.out HB5.out)
                    have HDr := Aside0.mk (DI_below HD5.out HB5.out)
                    go_wp2_with fail
                    go_roundw
                    case rel => exact ⟨A9, a, c9, r, r + 1, rfl, hc9, hn9b, by push_cast; rfl, by omega, by omega, ⟨rfl⟩, HC9r, HDr⟩
                    case measure => simp [intOf]; omega
              · obtain rfl : r = 9 := by omega
                go_wp2_with fail
                (with_reducible refine (lives_calls _).mono ?_)
                rintro e w7 ⟨rfl, hb7⟩
                have HB7 := Aside0.mk (below_step (DI_b HD6.out) hb7)
                clear hb7
                go_wp2_with fail
                go_ret
                exact ⟨rfl, HB7.out⟩
end Go.Proofs.Ythilhcdlpfjodaa.A
