/- RFour -/
import Derived.Test.YtmfnbkghfmeekaaZRTwo
import Derived.Test.YtmfnbkghfmeekaaZVThree
import Derived.BigQuiet
import Derived.StillTailTactics
import Derived.Test.YtmfnbkghfmeekaaZROne
import Derived.Deep.RegionHeld
namespace Go.Proofs.Ytmfnbkghfmeekaa.A.V
open Go.RowKit Go.Proofs.YtmfnbkghfmeekaaW.PrintWords Go.Proofs.YtmfnbkghfmeekaaW.PrintLast Go.Proofs.YtmfnbkghfmeekaaW.PrintMore
set_option linter.unusedVariables false
set_option linter.unusedSimpArgs false
def RRb (g : Nat) (A : Option Addr) (N c : Nat) (F : List Int) (s : List Int × Int) (W : World) : Prop :=
  ∃ I : Nat, W.heap[g]? = some (rfr A N c (I : Int) s.2) ∧ (s.2 = 0 → I ≤ N ∧ F.drop I = s.1)
theorem KG {g : Nat} {w w1 : World} (hb : Below w.heap.size w w1) (j : Nat) (v : Value) : w.grownBy (w1.setCell ⟨g, j, none⟩ v) (some g) :=
  ⟨hb.os, hb.tape, hb.output, by rw [World.size_setCell]; exact hb.size, fun k hk hne => (Below.heap_setCell w1 _ v k (fun e => hne (by rw [e]))).trans (hb.block k hk)⟩
set_option maxRecDepth 100000 in
theorem rfailI_calls (g : Nat) (e : Int) (w : World) (A : Option Addr) (n c : Nat) (p : Int) (hX : w.heap[g]? = some (rfr A n c p 0)) :
    Calls Try.prog 98 #[.pointer (some ⟨g, 0, none⟩), .int .i64 e] w fun x w' => (∃ v, x = .returned v) ∧ w' = w.setCell ⟨g, 2, none⟩ (.int .i64 e) := by
  obtain ⟨b0, b1, b2⟩ := rfr_cells hX
  have f2 := frozen_of_row _ _ 2 _ _ hX
  clear hX
  go_enter Try.func98, Try.ntmps98
  go_wp2
  go_end0
  exact ⟨⟨_, rfl⟩, rfl⟩
set_option maxRecDepth 100000 in
set_option maxHeartbeats 4000000 in
theorem refnumI_calls (g : Nat) (w : World) (A : Option Addr) (N c : Nat) (F : List Int) (I : Nat) (hI : I ≤ N) (hX : w.heap[g]? = some (rfr A N c (I : Int) 0)) (hr : U8.C w A N F) (hc : N ≤ c) (hb0 : ∀ x ∈ F, 0 ≤ x ∧ x ≤ 255) (hn2 : N ≤ 100000) :
    Calls Try.prog 77 #[.pointer (some ⟨g, 0, none⟩)] w fun e w' => e = .returned (.int .i64 (numG 0 0 (F.drop I)).1) ∧ RRb g A N c F (numG 0 0 (F.drop I)).2 w' ∧ w.grownBy w' (some g) := by
  have HG := Aside0.mk (fun (w1 : World) (j : Nat) (v : Value) (hb : Below w.heap.size w w1) => KG (g := g) hb j v)
  obtain ⟨n, hNa, hNb⟩ : ∃ n, I + n ≤ N ∧ N ≤ I + n := ⟨N - I, by omega, by omega⟩
  obtain ⟨bs, hbs⟩ : ∃ bs, F.drop I = bs := ⟨_, rfl⟩
  have hn : n = bs.length := by rw [← hbs, List.length_drop, hr.1]; omega
  have hb : ∀ x ∈ bs, 0 ≤ x ∧ x ≤ 255 := by rw [← hbs]; exact fun x hx => hb0 x (List.mem_of_mem_drop hx)
  have HFB := Aside0.mk (fun j => by rw [← hbs]; simp [List.getD_eq_getElem?_getD] : ∀ j, F.getD (I + j) 0 = bs.getD j 0)
  have HBS := Aside0.mk hbs
  rw [hbs]
  have hgl : g < w.heap.size := (Array.getElem?_eq_some_iff.1 hX).1
  have HX := Aside0.mk hX
  have HN := Aside0.mk hn
  have HR := Aside0.mk hr
  have HBY := Aside0.mk hb
  obtain ⟨b0, b1, b2⟩ := rfr_cells hX
  clear hX hn hr hb hb0 hbs
  go_enter Try.func77, Try.ntmps77
  go_wp2
  go_loopw [3] (fun v3 w' => ∃ k : Nat, k ≤ 9 ∧ k ≤ n ∧ v3 = .int .i64 k ∧ Aside0 (numG k (dsum bs k) (bs.drop k) = numG 0 0 bs) ∧ Aside0 (Below w.heap.size w w')) (fun v3 _ => 9 - (intOf v3).toNat)
  case atStart => exact ⟨0, by omega, Nat.zero_le _, rfl, ⟨rfl⟩, ⟨Below.refl _ _⟩⟩
  case round =>
    clear b0 b1 b2
    obtain ⟨k, hk9, hkn, rfl, HE, HB⟩ := hrel
    have hX2 := box_keep HX.out HB.out
    obtain ⟨b0, b1, b2⟩ := rfr_cells hX2
    obtain ⟨J, hJ', hJa, hJb⟩ : ∃ J, Aside0 (I + k = J) ∧ I + k ≤ J ∧ J ≤ I + k := ⟨_, ⟨rfl⟩, Nat.le_refl _, Nat.le_refl _⟩
    have hw1 : IntKind.i64.wrap ((I : Int) + (k : Int)) = (J : Int) := by rw [IntWalk.i64_in _ (by omega)]; omega
    have i1 : (0 : Int) ≤ (J : Int) := by omega
    by_cases h9 : k < 9
    · have j9 : (k : Int) < 9 := by omega
      have j9' : ¬ (k : Int) = 9 := by omega
      by_cases hlt : k < n
      · obtain ⟨ad, rfl, hcell0⟩ := C_atNN HR.out J (by omega)
        rw [← hJ'.out, HFB.out k, hJ'.out] at hcell0
        have hcell := pw_cell_below HB.out hcell0
        have hd := drop_cons bs k (by rw [← HN.out]; exact hlt)
        have hx := byteOf HBY.out k
        have hE := HE.out
        rw [hd, numG, if_neg (by omega)] at hE
        have hds : dsum bs k + bs.getD k 0 % 128 * 128 ^ k = dsum bs (k + 1) := rfl
        rw [hds] at hE
        have i2 : (J : Int) < (N : Int) := by omega
        by_cases h128 : 128 ≤ bs.getD k 0
        · rw [if_pos h128] at hE
          have HD := Aside0.mk hE
          generalize bs.getD k 0 = x at *
          clear hd hE HE hcell0 hds
          go_wp2_with fail
          go_quiet (fail)
          go_wp2_with fail
          go_roundw
          case rel => exact ⟨k + 1, by omega, hlt, rfl, HD, ⟨by first | exact HB.out | exact pw_below_drewN HB.out _ | exact below_step HB.out (by repeat (with_reducible first | exact Below.refl _ _ | apply pw_below_drewN | apply below_drew1))⟩⟩
          case measure => simp [intOf]; omega
        · rw [if_neg h128] at hE
          have hj := vput_just bs HBY.out k (by omega)
          have hbd := dsum_bound bs HBY.out (k + 1)
          have HD := Aside0.mk hE
          have HJ := Aside0.mk hj
          have h128' : bs.getD k 0 < 128 := by omega
          clear hd hE HE hcell0 hds hj h128
          generalize bs.getD k 0 = x at *
          go_wp2_with fail
          go_quiet (fail)
          go_wp2_with fail
          have HBq := Aside0.mk HB.out
          go_quiet (fail)
          go_wp2_with fail
          go_loopw [4, 5] (fun v4 v5 w' => ∃ (j : Nat) (i u : Int), j ≤ k + 1 ∧ i = (j : Int) - 1 ∧ v5 = .int .i64 i ∧ v4 = .int .i64 u ∧ 0 ≤ u ∧ Aside0 (u < 128 ^ (k + 1 - j)) ∧ Aside0 (dsum bs (k + 1) = u * 128 ^ j + dsum bs j) ∧ Aside0 (Below w.heap.size w w')) (fun _ v5 _ => (intOf v5 + 1).toNat)
          case atStart => exact ⟨k + 1, (k : Int), 0, Nat.le_refl _, by omega, rfl, rfl, by omega, ⟨by simp⟩, ⟨by simp⟩, ⟨below_step HBq.out (by repeat (with_reducible first | exact Below.refl _ _ | apply pw_below_drewN | apply below_drew1))⟩⟩
          case round =>
            clear hcell b0 b1 b2 HB HBq
            obtain ⟨j, i, u, hj, hi, rfl, rfl, hu0, HU, HS, HB⟩ := hrel
            have hX3 := box_keep HX.out HB.out
            obtain ⟨b0, b1, b2⟩ := rfr_cells hX3
            have f1 := frozen_of_row _ _ 1 _ _ hX3
            by_cases hj0 : j = 0
            · subst hj0
              obtain rfl : i = -1 := hi
              have hS := HS.out
              have hu : u = dsum bs (k + 1) := by rw [hS]; show u = u * 128 ^ 0 + 0; rw [Int.pow_zero]; omega
              have HUE := Aside0.mk hu
              obtain ⟨hbd0, hbd1⟩ := hbd
              clear hu hS HS HU hX3
              by_cases hbig : 4611686018427387904 ≤ u
              · have HD3 := HD.out
                rw [if_pos (.inl (by rw [← HUE.out]; exact hbig))] at HD3
                clear HD
                have HD := Aside0.mk HD3
                clear HD3
                go_wp2_with fail
                (with_reducible refine (rfailI_calls g _ _ _ _ _ _ (box_keep HX.out HB.out)).mono ?_)
                rintro e w9 ⟨⟨v9, rfl⟩, rfl⟩
                have HD2 := HD.out
                go_wp2_with fail
                go_ret
                exact ⟨by rw [← HD2]; rfl, ⟨I, by rw [← HD2]; exact blk_put (box_keep HX.out HB.out) 2 _ rfl, by rw [← HD2]; intro h; cases h⟩, HG.out _ _ _ HB.out⟩
              · have HSM : Aside0 (¬ 4611686018427387904 ≤ u) := ⟨hbig⟩
                go_wp2_with fail
                (with_reducible refine (refput_calls u _ (by omega)).mono ?_)
                rintro e w5 ⟨v5, rfl, HO5, hb5⟩
                obtain ⟨L, hL⟩ : ∃ L, (vput u).length = L := ⟨_, rfl⟩
                obtain ⟨A5, c5, rfl, hc5, _⟩ := OB_readn HO5 L hL
                have HB5 := Aside0.mk (below_step HB.out hb5)
                have hX5 := box_keep HX.out HB5.out
                obtain ⟨d0, d1, d2⟩ := rfr_cells hX5
                have e1 := frozen_of_row _ _ 1 _ _ hX5
                have HL := Aside0.mk hL
                clear HO5 hb5 hL b0 b1 b2 f1 HB hX5
                by_cases hLk : L = k + 1
                · have hq : ¬ (x = 0 ∧ 0 < k) := HJ.out.1 (by rw [← HUE.out, HL.out]; exact hLk)
                  have HD3 := HD.out
                  rw [if_neg (fun h => h.elim (fun h => by have h1 := HUE.out; have h2 := HSM.out; omega) hq), ← HUE.out] at HD3
                  have hLI : (L : Int) = (k : Int) + 1 := by omega
                  clear HD
                  have HD := Aside0.mk HD3
                  clear HD3
                  go_wp2_with fail
                  go_ret
                  exact ⟨by rw [← HD.out]; first | rfl | kernel_rfl, ⟨J + 1, by rw [← HD.out]; exact blk_put (box_keep HX.out HB5.out) 1 _ (by rw [show ((J + 1 : Nat) : Int) = (J : Int) + 1 by omega]; rfl), by rw [← HD.out]; intro _; exact ⟨by omega, by rw [← HBS.out, List.drop_drop]; exact congrArg (fun q => F.drop q) (by omega)⟩⟩, HG.out _ _ _ HB5.out⟩
                · have hq : x = 0 ∧ 0 < k := Classical.byContradiction fun h => hLk (by rw [← HL.out, HUE.out]; exact HJ.out.2 h)
                  have HD3 := HD.out
                  rw [if_pos (.inr hq)] at HD3
                  have hLI : ¬ (L : Int) = (k : Int) + 1 := by omega
                  clear HD
                  have HD := Aside0.mk HD3
                  clear HD3
                  go_wp2_with fail
                  (with_reducible refine (rfailI_calls g _ _ _ _ _ _ (box_keep HX.out HB5.out)).mono ?_)
                  rintro e w9 ⟨⟨v9, rfl⟩, rfl⟩
                  have HD2 := HD.out
                  go_wp2_with fail
                  go_ret
                  exact ⟨by rw [← HD2]; rfl, ⟨I, by rw [← HD2]; exact blk_put (box_keep HX.out HB5.out) 2 _ rfl, by rw [← HD2]; intro h; cases h⟩, HG.out _ _ _ HB5.out⟩
            · obtain ⟨j', rfl⟩ : ∃ j', j = j' + 1 := ⟨j - 1, by omega⟩
              obtain rfl : i = (j' : Int) := by omega
              have hu56 := pow128_lt u (k + 1 - (j' + 1)) HU.out (by omega)
              obtain ⟨J2, hJ2', hJ2a, hJ2b⟩ : ∃ J2, Aside0 (I + j' = J2) ∧ I + j' ≤ J2 ∧ J2 ≤ I + j' := ⟨_, ⟨rfl⟩, Nat.le_refl _, Nat.le_refl _⟩
              have hw2 : IntKind.i64.wrap ((I : Int) + (j' : Int)) = (J2 : Int) := by rw [IntWalk.i64_in _ (by omega)]; omega
              obtain ⟨ad', e', hc0⟩ := C_atNN HR.out J2 (by omega)
              rw [← hJ2'.out, HFB.out j', hJ2'.out] at hc0
              injection e' with e'
              subst e'
              have hcell := pw_cell_below HB.out hc0
              have hxj := byteOf HBY.out j'
              have hnew := digit_step bs u k j' hu0 HU.out (by omega) hxj HS.out
              generalize bs.getD j' 0 = y at *
              have HNEW := Aside0.mk hnew
              have i7 : (0 : Int) ≤ (J2 : Int) := by omega
              have i8 : (J2 : Int) < (N : Int) := by omega
              clear hc0 hnew HU HS hX3 hi
              go_wp2_with fail
              go_quiet (fail)
              go_wp2_with fail
              go_roundw
              case rel =>
                exact ⟨j', (j' : Int) - 1, 128 * u + y % 128, by omega, rfl, rfl, rfl, HNEW.out.1, ⟨HNEW.out.2.1⟩, ⟨HNEW.out.2.2⟩, ⟨below_step HB.out (by repeat (with_reducible first | exact Below.refl _ _ | apply pw_below_drewN | apply below_drew1))⟩⟩
              case measure => simp [intOf]
      · have hkN : n ≤ k := by omega
        have hE := HE.out
        rw [List.drop_of_length_le (by rw [← HN.out]; omega), numG, if_neg (by omega)] at hE
        have HD := Aside0.mk hE
        have i2 : ¬ (J : Int) < (N : Int) := by omega
        have i3 : (N : Int) ≤ (J : Int) := by omega
        have i4 : ¬ J < N := by omega
        have i5 : N ≤ J := by omega
        clear hE HE
        go_wp2_with fail
        go_quiet (fail)
        go_wp2_with fail
        go_quiet (fail)
        go_wp2_with fail
        (with_reducible refine (rfailI_calls g _ _ _ _ _ _ (box_keep HX.out (below_step HB.out (by repeat (with_reducible first | exact Below.refl _ _ | apply pw_below_drewN | apply below_drew1))))).mono ?_)
        rintro e w9 ⟨⟨v9, rfl⟩, rfl⟩
        have HD2 := HD.out
        go_wp2_with fail
        go_ret
        exact ⟨by rw [← HD2]; rfl, ⟨I, by rw [← HD2]; exact blk_put (box_keep HX.out (below_step HB.out (by repeat (with_reducible first | exact Below.refl _ _ | apply pw_below_drewN | apply below_drew1)))) 2 _ rfl, by rw [← HD2]; intro h; cases h⟩, HG.out _ _ _ (below_step HB.out (by repeat (with_reducible first | exact Below.refl _ _ | apply pw_below_drewN | apply below_drew1)))⟩
    · have hk : k = 9 := by omega
      have hE : (0, ([] : List Int), (2 : Int)) = numG 0 0 bs := by
        have h := HE.out
        rw [hk] at h
        cases hbs : bs.drop 9 with
        | nil => rw [hbs, numG, if_pos rfl] at h; exact h
        | cons c r => rw [hbs, numG, if_pos rfl] at h; exact h
      have HD := Aside0.mk hE
      clear hE HE h9
      subst hk
      by_cases h9n : (J : Int) < (N : Int)
      · have hk5 : IntKind.i64.wrap ((I : Int) + 9) = (J : Int) := hw1
        go_wp2_with fail
        go_quiet (fail)
        go_wp2_with fail
        (with_reducible refine (rfailI_calls g _ _ _ _ _ _ (box_keep HX.out (below_step HB.out (by repeat (with_reducible first | exact Below.refl _ _ | apply pw_below_drewN | apply below_drew1))))).mono ?_)
        rintro e w9 ⟨⟨v9, rfl⟩, rfl⟩
        have HD2 := HD.out
        go_wp2_with fail
        go_ret
        exact ⟨by rw [← HD2]; rfl, ⟨I, by rw [← HD2]; exact blk_put (box_keep HX.out (below_step HB.out (by repeat (with_reducible first | exact Below.refl _ _ | apply pw_below_drewN | apply below_drew1)))) 2 _ rfl, by rw [← HD2]; intro h; cases h⟩, HG.out _ _ _ (below_step HB.out (by repeat (with_reducible first | exact Below.refl _ _ | apply pw_below_drewN | apply below_drew1)))⟩
      · have h9m : (N : Int) ≤ (J : Int) := by omega
        have i4 : ¬ J < N := by omega
        have i5 : N ≤ J := by omega
        have hk5 : IntKind.i64.wrap ((I : Int) + 9) = (J : Int) := hw1
        go_wp2_with fail
        go_quiet (fail)
        go_wp2_with fail
        (with_reducible refine (rfailI_calls g _ _ _ _ _ _ (box_keep HX.out (below_step HB.out (by repeat (with_reducible first | exact Below.refl _ _ | apply pw_below_drewN | apply below_drew1))))).mono ?_)
        rintro e w9 ⟨⟨v9, rfl⟩, rfl⟩
        have HD2 := HD.out
        go_wp2_with fail
        go_ret
        exact ⟨by rw [← HD2]; rfl, ⟨I, by rw [← HD2]; exact blk_put (box_keep HX.out (below_step HB.out (by repeat (with_reducible first | exact Below.refl _ _ | apply pw_below_drewN | apply below_drew1)))) 2 _ rfl, by rw [← HD2]; intro h; cases h⟩, HG.out _ _ _ (below_step HB.out (by repeat (with_reducible first | exact Below.refl _ _ | apply pw_below_drewN | apply below_drew1)))⟩
end Go.Proofs.Ytmfnbkghfmeekaa.A.V
namespace Go.Proofs.Ytmfnbkghfmeekaa.A.R
open Go.RowKit Go.Proofs.YtmfnbkghfmeekaaW.PrintWords Go.Proofs.YtmfnbkghfmeekaaW.PrintLast Go.Proofs.YtmfnbkghfmeekaaW.PrintMore
set_option linter.unusedVariables false
set_option linter.unusedSimpArgs false
def FS (w0 : World) (g : Nat) (A : Option Addr) (N c : Nat) (F : List Int) : Prop :=
  U8.C w0 A N F ∧ w0.heap.size ≤ g ∧ N ≤ c ∧ (∀ x ∈ F, 0 ≤ x ∧ x ≤ 255) ∧ N ≤ 100000
def RR (w0 : World) (g : Nat) (A : Option Addr) (N c : Nat) (F : List Int) (s : St) (W : World) : Prop :=
  V.RRb g A N c F s W ∧ Below w0.heap.size w0 W
section
variable {w0 W W' : World} {g : Nat} {A : Option Addr} {N c : Nat} {F : List Int} {s : St}
theorem RR_below (h : RR w0 g A N c F s W) (hb : Below W.heap.size W W') : RR w0 g A N c F s W' := by
  obtain ⟨⟨I, h1, h2⟩, h3⟩ := h
  exact ⟨⟨I, box_keep h1 hb, h2⟩, below_step h3 hb⟩
theorem RR_C (hf : FS w0 g A N c F) (h : RR w0 g A N c F s W) : U8.C W A N F := Kd.C_below hf.1 h.2
end
set_option maxRecDepth 100000 in
theorem rnumS_calls (w0 W : World) (g : Nat) (A : Option Addr) (N c : Nat) (F : List Int) (s : St) (hf : FS w0 g A N c F) (h : RR w0 g A N c F s W) :
    Calls Try.prog 77 #[.pointer (some ⟨g, 0, none⟩)] W fun e w' => e = .returned (.int .i64 (numS s).1) ∧ RR w0 g A N c F (numS s).2 w' ∧ W.grownBy w' (some g) := by
  have hC := RR_C hf h
  have HH := Aside0.mk h
  obtain ⟨hf1, hf2, hf3, hf4, hf5⟩ := hf
  obtain ⟨⟨I, h1, h2⟩, h3⟩ := h
  obtain ⟨X, er⟩ := s
  simp only at h1 h2
  by_cases he : er = 0
  · subst he
    obtain ⟨hI, hD⟩ := h2 rfl
    refine (V.refnumI_calls g W A N c F I hI h1 hC hf3 hf4 hf5).mono ?_
    rw [hD]
    rintro e w' ⟨rfl, a1, a2⟩
    have e1 : numS (X, 0) = ((V.numG 0 0 X).1, (V.numG 0 0 X).2) := by unfold numS; rw [if_pos rfl]
    rw [e1]
    exact ⟨rfl, ⟨a1, h3.grown a2 h3.size (fun k e => by cases e; exact hf2)⟩, a2⟩
  · have e1 : numS (X, er) = (0, (X, er)) := by unfold numS; rw [if_neg he]
    rw [e1]
    obtain ⟨b0, b1, b2⟩ := V.rfr_cells h1
    have hd : (er == 0) = false := beq_eq_false_iff_ne.2 he
    clear hC hf1 hf2 hf3 hf4 hf5 h1 h2 h3 e1
    go_enter Try.func77, Try.ntmps77
    go_wp2
    go_ret
    exact ⟨rfl, HH.out, World.grownBy.refl _ _⟩
set_option maxRecDepth 100000 in
set_option maxHeartbeats 2000000 in
theorem rtextS_calls (w0 W : World) (g : Nat) (A : Option Addr) (N c : Nat) (F : List Int) (s : St) (most : Int) (hf : FS w0 g A N c F) (h : RR w0 g A N c F s W) (hok : okS s) (hm : most ≤ 100000) :
    Calls Try.prog 78 #[.pointer (some ⟨g, 0, none⟩), .int .i64 most] W fun e w' => e = .returned (.string (textS most s).1) ∧ RR w0 g A N c F (textS most s).2 w' ∧ W.grownBy w' (some g) := by
  have HF := Aside0.mk hf
  have HH := Aside0.mk h
  obtain ⟨ok1, ⟨v1, v2⟩, _⟩ := okS_num hok
  unfold textS
  obtain ⟨M, hM⟩ : ∃ M, numS s = M := ⟨_, rfl⟩
  have HN := Aside0.mk hM
  rw [hM] at v1 v2 ok1 ⊢
  obtain ⟨n, X, er⟩ := M
  simp only at v1 v2 ok1 ⊢
  obtain ⟨T, hT⟩ : ∃ T : ByteArray × St, (if er ≠ 0 then (({ data := #[] } : ByteArray), (X, er)) else if most < n then ({ data := #[] }, ([], 5)) else if (X.length : Int) < n then ({ data := #[] }, ([], 3)) else (strOfNums (X.take n.toNat), (X.drop n.toNat, 0))) = T := ⟨_, rfl⟩
  rw [hT]
  have HT := Aside0.mk hT
  clear hf h hok hM hT
  go_enter Try.func78, Try.ntmps78
  go_wp2_with fail
  (with_reducible refine (rnumS_calls w0 W g A N c F s HF.out HH.out).mono ?_)
  rw [HN.out]
  rintro e w1 ⟨rfl, hR1, hg1⟩
  dsimp only
  obtain ⟨⟨I, h1, h2⟩, h3⟩ := hR1
  simp only at h1 h2
  obtain ⟨b0, b1, b2⟩ := V.rfr_cells h1
  have H1 := Aside0.mk h1
  have H3 := Aside0.mk h3
  have HG1 := Aside0.mk hg1
  by_cases he : er = 0
  · subst he
    obtain ⟨hI, hD⟩ := h2 rfl
    have hXl : X.length = N - I := by rw [← hD, List.length_drop, HF.out.1.1]
    obtain ⟨L, hL⟩ : ∃ L, X.length = L := ⟨_, rfl⟩
    have hT := HT.out
    rw [if_neg (fun h => h rfl), hL] at hT
    have HD := Aside0.mk hD
    have hN5 : N ≤ 100000 := HF.out.2.2.2.2
    have hIN : (N : Int) - (I : Int) = (L : Int) := by omega
    have hw1 : IntKind.i64.wrap ((N : Int) - (I : Int)) = (L : Int) := by rw [IntWalk.i64_in _ (by omega)]; exact hIN
    clear h1 h2 h3 hg1 hD
    by_cases hmo : most < n
    · rw [if_pos hmo] at hT
      subst hT
      clear HT
      go_wp2_with fail
      (with_reducible refine (V.rfailI_calls g _ _ _ _ _ _ H1.out).mono ?_)
      rintro e w9 ⟨⟨v9, rfl⟩, rfl⟩
      go_wp2_with fail
      go_ret
      exact ⟨rfl, ⟨⟨I, blk_put H1.out 2 _ rfl, fun h => by cases h⟩, H3.out.grown (V.set1_grown _ _ _ _) H3.out.size (fun k e => by cases e; exact HF.out.2.1)⟩, HG1.out.trans (V.set1_grown _ _ _ _)⟩
    · rw [if_neg hmo] at hT
      have hmo' : n ≤ most := by omega
      by_cases hlo : (L : Int) < n
      · rw [if_pos hlo] at hT
        subst hT
        clear HT
        go_wp2_with fail
        go_quiet (fail)
        have hbr : Below w1.heap.size w1 (w1.drewN nq) := by repeat (with_reducible first | exact Below.refl _ _ | apply pw_below_drewN)
        have H4 := Aside0.mk (box_keep H1.out hbr)
        have HBR := Aside0.mk hbr
        clear hbr
        go_wp2_with fail
        (with_reducible refine (V.rfailI_calls g _ _ _ _ _ _ H4.out).mono ?_)
        rintro e w9 ⟨⟨v9, rfl⟩, rfl⟩
        go_wp2_with fail
        go_ret
        exact ⟨rfl, ⟨⟨I, blk_put H4.out 2 _ rfl, fun h => by cases h⟩, (below_step H3.out HBR.out).grown (V.set1_grown _ _ _ _) (below_step H3.out HBR.out).size (fun k e => by cases e; exact HF.out.2.1)⟩, HG1.out.trans (V.KG HBR.out _ _)⟩
      · rw [if_neg hlo] at hT
        have hlo' : n ≤ (L : Int) := by omega
        obtain ⟨m, rfl⟩ : ∃ m : Nat, n = (m : Int) := ⟨n.toNat, by omega⟩
        have hlN : ¬ L < m := by omega
        have hlN2 : m ≤ L := by omega
        rw [Int.toNat_natCast] at hT
        subst hT
        clear HT
        obtain ⟨J, hJ', hJa, hJb⟩ : ∃ J, Aside0 (I + m = J) ∧ I + m ≤ J ∧ J ≤ I + m := ⟨_, ⟨rfl⟩, Nat.le_refl _, Nat.le_refl _⟩
        have hw2 : IntKind.i64.wrap ((I : Int) + (m : Int)) = (J : Int) := by rw [IntWalk.i64_in _ (by omega)]; omega
        have hFl : F.length = N := HF.out.1.1
        obtain ⟨A', c', hrun, hCC, hcc⟩ := cutm A c F (I : Int) (J : Int) (by omega) (by omega) (by omega) (by have := HF.out.2.2.1; omega)
        rw [Int.toNat_natCast, Int.toNat_natCast, hFl] at hrun hCC
        have ecut : (F.take J).drop I = X.take m := by rw [List.drop_take, HD.out]; exact congrArg (fun q => X.take q) (by omega)
        rw [ecut] at hrun hCC
        have hml : (X.take m).length = m := by rw [List.length_take]; omega
        rw [hml] at hrun hCC
        clear hml
        have edrop : F.drop J = X.drop m := by rw [← HD.out, List.drop_drop]; exact congrArg (fun q => F.drop q) (by omega)
        have HED := Aside0.mk edrop
        have HCC := Aside0.mk hCC
        clear hCC hcc ecut edrop
        go_wp2_with fail
        go_quiet (fail)
        have hbr : Below w1.heap.size w1 (w1.drewN nq) := by repeat (with_reducible first | exact Below.refl _ _ | apply pw_below_drewN)
        have H4 := Aside0.mk (box_keep H1.out hbr)
        have H34 := Aside0.mk (below_step H3.out hbr)
        have HG4 : Aside0 (W.grownBy (w1.drewN nq) (some g)) := ⟨HG1.out.trans ⟨hbr.os, hbr.tape, hbr.output, hbr.size, fun k hk _ => hbr.block k hk⟩⟩
        clear hbr b0 b1 b2
        obtain ⟨w2, hw⟩ : ∃ w2, w1.drewN nq = w2 := ⟨_, rfl⟩
        rw [hw] at H4 H34 HG4 ⊢
        clear hw
        obtain ⟨b0, b1, b2⟩ := V.rfr_cells (box_keep H4.out (below_drew1 (Below.refl _ w2)))
        have HCV := Aside0.mk (C_string' (c := c') (HCC.out _ (Kd.C_below HF.out.1 (below_step H34.out (below_drew1 (Below.refl _ w2))))))
        have hcv := HCV.out
        have hJN : J ≤ N := by omega
        clear hFl hJa hJb hL hXl hIN hw1 HG1 HCC HCV
        go_wp2_with fail
        go_still (by kernel_rfl)
        have H6 := Aside0.mk (box_keep H4.out (below_drew1 (Below.refl _ w2)))
        have f1 := frozen_of_row _ _ 1 _ _ H6.out
        go_wp2_with fail
        go_ret
        exact ⟨rfl, ⟨⟨J, blk_put H6.out 1 _ rfl, fun _ => ⟨by omega, HED.out⟩⟩, (below_step H34.out (below_drew1 (Below.refl _ w2))).grown (V.set1_grown _ _ _ _) (below_step H34.out (below_drew1 (Below.refl _ w2))).size (fun k e => by cases e; exact HF.out.2.1)⟩, HG4.out.trans (V.KG (below_drew1 (Below.refl _ w2)) _ _)⟩
  · have hT := HT.out
    rw [if_pos he] at hT
    subst hT
    have hd : (er == 0) = false := beq_eq_false_iff_ne.2 he
    clear h1 h2 h3 hg1 HT
    go_wp2_with fail
    go_ret
    exact ⟨rfl, ⟨⟨I, H1.out, fun h => absurd h he⟩, H3.out⟩, HG1.out⟩
end Go.Proofs.Ytmfnbkghfmeekaa.A.R
namespace Go.Proofs.Ytmfnbkghfmeekaa.A.R
open Go.RowKit Go.Proofs.YtmfnbkghfmeekaaW.PrintWords Go.Proofs.YtmfnbkghfmeekaaW.PrintLast Go.Proofs.YtmfnbkghfmeekaaW.PrintMore
set_option linter.unusedVariables false
set_option linter.unusedSimpArgs false
theorem infoI : (Try.prog.info? 3).map (fun i => (i.zero, i.size, i.bytes)) = some (some (.int .i64 0), 1, 8) := by kernel_rfl
abbrev OI (w : World) (B : Nat) (v : Value) (l : List Int) : Prop := OR (Kd.int .i64) 3 w B v l
section
variable {ops : Array Oper} {rest : List Oper} {o : Oper} {a : Act} {Q : Exit → Act → World → Prop} {W : World} {B : Nat}
theorem app_int {s x : Operand} (hgd : o.guard = none) (ho : o.op = .call { callee := .builtin .append, args := #[s, x], argTypes := #[88, 88] }) {v : Value} {xs : List Int} {p : Int}
    (hs : a.eval s = v) (hx : a.eval x = .slice (some ⟨W.heap.size, 0, none⟩) 1 1) (HO : OI W B v xs) (hB : B ≤ W.heap.size) (hl : xs.length ≤ 1000000)
    (h : ∀ v1 w1, OI w1 B v1 (xs ++ [p]) → Below B W w1 → W.grownBy w1 v.ownBlock → wpList Try.prog ops Q rest (a.put o.dst v1) w1) : wpList Try.prog ops Q (o :: rest) a (W.alloc (.cells #[.int .i64 p] 3)) :=
  app_one (Kd.int .i64) 88 3 (.int .i64 0) 8 Try.underlying88 infoI rfl (by decide) (by decide) hgd ho hs hx (fun okp => rfl) HO hB (by omega) h
end
theorem OI_readn {w : World} {B : Nat} {v : Value} {l : List Int} (h : OI w B v l) (n : Nat) (hn : l.length = n) : ∃ A c, v = .slice A n c ∧ n ≤ c ∧ (Kd.int .i64).C w A n l ∧ (∀ ad, A = some ad → B ≤ ad.block) := by
  subst hn
  obtain ⟨A, c, e, h1, h2⟩ := Kd.R_reads h
  obtain ⟨h0, inner, ho, hr⟩ := h
  exact ⟨A, c, e, h1, h2, fun ad ha => own_base ho ad.block (by rw [e, ha]; rfl)⟩
theorem OI_grown {W w1 : World} {B g : Nat} {u : Value} {xs : List Int} (h : OI W B u xs) (hg : W.grownBy w1 (some g)) (hgB : g < B) : OI w1 B u xs :=
  Kd.R_mono (Kd.R_move (Kd.R_bound h) (fun k hk => hg.block k hk.2.2.1 (fun he => by injection he with he; have := hk.2.1; omega))) (fun _ hk => hk.1)
def stS (s : St) : Nat → St
  | 0 => s
  | k + 1 => (numS (stS s k)).2
def nthS (s : St) (k : Nat) : Int := (numS (stS s k)).1
def numsS (s : St) (k : Nat) : List Int := (List.range k).map (nthS s)
theorem numsS_next (s : St) (k : Nat) : numsS s (k + 1) = numsS s k ++ [(numS (stS s k)).1] := by
  unfold numsS
  rw [List.range_succ, List.map_append]
  rfl
theorem numsS_len (s : St) (k : Nat) : (numsS s k).length = k := by unfold numsS; simp
section
variable {A : Option Addr} {N c : Nat} {F : List Int}
abbrev RQ (A : Option Addr) (N c : Nat) (F : List Int) (w0 : World) (g : Nat) (W : World) (s : St) : Prop := RR w0 g A N c F s W
theorem RR_set {w0 W : World} {g : Nat} {s : St} (h : RQ A N c F w0 g W s) {y : Nat} (hy : y ≠ g) (h0 : w0.heap.size ≤ y) (j : Nat) (v : Value) : RQ A N c F w0 g (W.setCell ⟨y, j, none⟩ v) s := by
  obtain ⟨⟨I, h1, h2⟩, h3⟩ := h
  exact ⟨⟨I, (Below.heap_setCell _ _ v g (fun e => hy e.symm)).trans h1, h2⟩, h3.setCell (p := ⟨y, j, none⟩) h0 _⟩
def TV (A : Option Addr) (N c : Nat) (F : List Int) (w0 : World) (g : Nat) (W0 W : World) (s : St) : Prop := RQ A N c F w0 g W s ∧ W.heap[W0.heap.size]? = some (vrBox { data := #[] } 0 0 0 0 0 { data := #[] } false) ∧ W0.grownBy W (some g)
def TW (A : Option Addr) (N c : Nat) (F : List Int) (w0 : World) (g : Nat) (W0 : World) (y : Nat) (W : World) (s : St) (p : Vr) : Prop := TV A N c F w0 g W0 W s ∧ W.heap[y]? = some (vrB p)
end
theorem add0 (ad : Addr) : ad.add 0 = ad := by unfold Addr.add; rw [if_pos rfl]
theorem addS (ad : Addr) (i : Nat) : ad.add (i + 1) = ⟨ad.block, ad.off + (i + 1), none⟩ := by unfold Addr.add; rw [if_neg (by omega)]
def TX (A : Option Addr) (N c : Nat) (F : List Int) (w0 : World) (g : Nat) (W0 : World) (y : Nat) (ad : Addr) (a6 : Int) (W : World) (s : St) (p : Vr) : Prop :=
  TW A N c F w0 g W0 y W s p ∧ W.cell? ⟨ad.block, ad.off + 5, none⟩ = some (.int .i64 a6)
section
variable {A : Option Addr} {N c : Nat} {F : List Int} {w0 W0 W W1 : World} {g y : Nat} {ad : Addr} {a6 : Int} {s s1 : St} {p p' : Vr}
end
end Go.Proofs.Ytmfnbkghfmeekaa.A.R
