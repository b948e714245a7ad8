/- A number and a text read of bytes by the document's reader, wherever it stands. -/
import Derived.Test.YtmkabbfglijckaaBRead
import Derived.Test.YtmkabbfglijckaaVThree
import Derived.BigQuiet
namespace Go.Proofs.Ytmkabbfglijckaa.A.V
open Go.RowKit Go.Proofs.YtmkabbfglijckaaW.PrintWords Go.Proofs.YtmkabbfglijckaaW.PrintLast Go.Proofs.YtmkabbfglijckaaW.PrintMore
set_option linter.unusedVariables false
set_option linter.unusedSimpArgs false

/-- The document's reader at g: where it stands, its error; F's bytes. -/
def RRb (g : Nat) (A : Option Addr) (N c : Nat) (F : List Int) (s : List Int × Int) (W : World) : Prop :=
  ∃ I : Nat, W.heap[g]? = some (rfr A N c (I : Int) s.2) ∧ (s.2 = 0 → I ≤ N ∧ F.drop I = s.1)
theorem KG {g : Nat} {w w1 : World} (hb : Below w.heap.size w w1) (j : Nat) (v : Value) : w.grownBy (w1.setCell ⟨g, j, none⟩ v) (some g) :=
  ⟨hb.os, hb.tape, hb.output, by rw [World.size_setCell]; exact hb.size, fun k hk hne => (Below.heap_setCell w1 _ v k (fun e => hne (by rw [e]))).trans (hb.block k hk)⟩
set_option maxRecDepth 100000 in
theorem rfailI_calls (g : Nat) (e : Int) (w : World) (A : Option Addr) (n c : Nat) (p : Int) (hX : w.heap[g]? = some (rfr A n c p 0)) :
    Calls Try.prog 53 #[.pointer (some ⟨g, 0, none⟩), .int .i64 e] w fun x w' => (∃ v, x = .returned v) ∧ w' = w.setCell ⟨g, 2, none⟩ (.int .i64 e) := by
  obtain ⟨b0, b1, b2⟩ := rfr_cells hX
  have f2 := frozen_of_row _ _ 2 _ _ hX
  clear hX
  go_enter Try.func53, Try.ntmps53
  go_wp2
  go_end0
  exact ⟨⟨_, rfl⟩, rfl⟩

set_option maxRecDepth 100000 in
set_option maxHeartbeats 4000000 in
theorem refnumI_calls (g : Nat) (w : World) (A : Option Addr) (N c : Nat) (F : List Int) (I : Nat) (hI : I ≤ N) (hX : w.heap[g]? = some (rfr A N c (I : Int) 0)) (hr : U8.C w A N F) (hc : N ≤ c) (hb0 : ∀ x ∈ F, 0 ≤ x ∧ x ≤ 255) (hn2 : N ≤ 100000) :
    Calls Try.prog 39 #[.pointer (some ⟨g, 0, none⟩)] w fun e w' => e = .returned (.int .i64 (numG 0 0 (F.drop I)).1) ∧ RRb g A N c F (numG 0 0 (F.drop I)).2 w' ∧ w.grownBy w' (some g) := by
  have HG := Aside0.mk (fun (w1 : World) (j : Nat) (v : Value) (hb : Below w.heap.size w w1) => KG (g := g) hb j v)
  obtain ⟨n, hNa, hNb⟩ : ∃ n, I + n ≤ N ∧ N ≤ I + n := ⟨N - I, by omega, by omega⟩
  obtain ⟨bs, hbs⟩ : ∃ bs, F.drop I = bs := ⟨_, rfl⟩
  have hn : n = bs.length := by rw [← hbs, List.length_drop, hr.1]; omega
  have hb : ∀ x ∈ bs, 0 ≤ x ∧ x ≤ 255 := by rw [← hbs]; exact fun x hx => hb0 x (List.mem_of_mem_drop hx)
  have HFB := Aside0.mk (fun j => by rw [← hbs]; simp [List.getD_eq_getElem?_getD] : ∀ j, F.getD (I + j) 0 = bs.getD j 0)
  have HBS := Aside0.mk hbs
  rw [hbs]
  have hgl : g < w.heap.size := (Array.getElem?_eq_some_iff.1 hX).1
  have HX := Aside0.mk hX
  have HN := Aside0.mk hn
  have HR := Aside0.mk hr
  have HBY := Aside0.mk hb
  obtain ⟨b0, b1, b2⟩ := rfr_cells hX
  clear hX hn hr hb hb0 hbs
  go_enter Try.func39, Try.ntmps39
  go_wp2
  go_loopw [3] (fun v3 w' => ∃ k : Nat, k ≤ 9 ∧ k ≤ n ∧ v3 = .int .i64 k ∧ Aside0 (numG k (dsum bs k) (bs.drop k) = numG 0 0 bs) ∧ Aside0 (Below w.heap.size w w')) (fun v3 _ => 9 - (intOf v3).toNat)
  case atStart => exact ⟨0, by omega, Nat.zero_le _, rfl, ⟨rfl⟩, ⟨Below.refl _ _⟩⟩
  case round =>
    clear b0 b1 b2
    obtain ⟨k, hk9, hkn, rfl, HE, HB⟩ := hrel
    have hX2 := box_keep HX.out HB.out
    obtain ⟨b0, b1, b2⟩ := rfr_cells hX2
    obtain ⟨J, hJ', hJa, hJb⟩ : ∃ J, Aside0 (I + k = J) ∧ I + k ≤ J ∧ J ≤ I + k := ⟨_, ⟨rfl⟩, Nat.le_refl _, Nat.le_refl _⟩
    have hw1 : IntKind.i64.wrap ((I : Int) + (k : Int)) = (J : Int) := by rw [IntWalk.i64_in _ (by omega)]; omega
    have i1 : (0 : Int) ≤ (J : Int) := by omega
    by_cases h9 : k < 9
    · have j9 : (k : Int) < 9 := by omega
      have j9' : ¬ (k : Int) = 9 := by omega
      by_cases hlt : k < n
      · obtain ⟨ad, rfl, hcell0⟩ := C_atNN HR.out J (by omega)
        rw [← hJ'.out, HFB.out k, hJ'.out] at hcell0
        have hcell := pw_cell_below HB.out hcell0
        have hd := drop_cons bs k (by rw [← HN.out]; exact hlt)
        have hx := byteOf HBY.out k
        have hE := HE.out
        rw [hd, numG, if_neg (by omega)] at hE
        have hds : dsum bs k + bs.getD k 0 % 128 * 128 ^ k = dsum bs (k + 1) := rfl
        rw [hds] at hE
        have i2 : (J : Int) < (N : Int) := by omega
        by_cases h128 : 128 ≤ bs.getD k 0
        · rw [if_pos h128] at hE
          have HD := Aside0.mk hE
          generalize bs.getD k 0 = x at *
          clear hd hE HE hcell0 hds
          go_wp2_with fail
          go_quiet (fail)
          go_wp2_with fail
          go_roundw
          case rel => exact ⟨k + 1, by omega, hlt, rfl, HD, ⟨by first | exact HB.out | exact pw_below_drewN HB.out _ | exact below_step HB.out (by repeat (with_reducible first | exact Below.refl _ _ | apply pw_below_drewN | apply below_drew1))⟩⟩
          case measure => simp [intOf]; omega
        · rw [if_neg h128] at hE
          have hj := vput_just bs HBY.out k (by omega)
          have hbd := dsum_bound bs HBY.out (k + 1)
          have HD := Aside0.mk hE
          have HJ := Aside0.mk hj
          have h128' : bs.getD k 0 < 128 := by omega
          clear hd hE HE hcell0 hds hj h128
          generalize bs.getD k 0 = x at *
          go_wp2_with fail
          go_quiet (fail)
          go_wp2_with fail
          have HBq := Aside0.mk HB.out
          go_quiet (fail)
          go_wp2_with fail
          go_loopw [4, 5] (fun v4 v5 w' => ∃ (j : Nat) (i u : Int), j ≤ k + 1 ∧ i = (j : Int) - 1 ∧ v5 = .int .i64 i ∧ v4 = .int .i64 u ∧ 0 ≤ u ∧ Aside0 (u < 128 ^ (k + 1 - j)) ∧ Aside0 (dsum bs (k + 1) = u * 128 ^ j + dsum bs j) ∧ Aside0 (Below w.heap.size w w')) (fun _ v5 _ => (intOf v5 + 1).toNat)
          case atStart => exact ⟨k + 1, (k : Int), 0, Nat.le_refl _, by omega, rfl, rfl, by omega, ⟨by simp⟩, ⟨by simp⟩, ⟨below_step HBq.out (by repeat (with_reducible first | exact Below.refl _ _ | apply pw_below_drewN | apply below_drew1))⟩⟩
          case round =>
            clear hcell b0 b1 b2 HB HBq
            obtain ⟨j, i, u, hj, hi, rfl, rfl, hu0, HU, HS, HB⟩ := hrel
            have hX3 := box_keep HX.out HB.out
            obtain ⟨b0, b1, b2⟩ := rfr_cells hX3
            have f1 := frozen_of_row _ _ 1 _ _ hX3
            by_cases hj0 : j = 0
            · subst hj0
              obtain rfl : i = -1 := hi
              have hS := HS.out
              have hu : u = dsum bs (k + 1) := by rw [hS]; show u = u * 128 ^ 0 + 0; rw [Int.pow_zero]; omega
              have HUE := Aside0.mk hu
              obtain ⟨hbd0, hbd1⟩ := hbd
              clear hu hS HS HU hX3
              by_cases hbig : 4611686018427387904 ≤ u
              · have HD3 := HD.out
                rw [if_pos (.inl (by rw [← HUE.out]; exact hbig))] at HD3
                clear HD
                have HD := Aside0.mk HD3
                clear HD3
                go_wp2_with fail
                (with_reducible refine (rfailI_calls g _ _ _ _ _ _ (box_keep HX.out HB.out)).mono ?_)
                rintro e w9 ⟨⟨v9, rfl⟩, rfl⟩
                have HD2 := HD.out
                go_wp2_with fail
                go_ret
                exact ⟨by rw [← HD2]; rfl, ⟨I, by rw [← HD2]; exact blk_put (box_keep HX.out HB.out) 2 _ rfl, by rw [← HD2]; intro h; cases h⟩, HG.out _ _ _ HB.out⟩
              · have HSM : Aside0 (¬ 4611686018427387904 ≤ u) := ⟨hbig⟩
                go_wp2_with fail
                (with_reducible refine (refput_calls u _ (by omega)).mono ?_)
                rintro e w5 ⟨v5, rfl, HO5, hb5⟩
                obtain ⟨L, hL⟩ : ∃ L, (vput u).length = L := ⟨_, rfl⟩
                obtain ⟨A5, c5, rfl, hc5, _⟩ := OB_readn HO5 L hL
                have HB5 := Aside0.mk (below_step HB.out hb5)
                have hX5 := box_keep HX.out HB5.out
                obtain ⟨d0, d1, d2⟩ := rfr_cells hX5
                have e1 := frozen_of_row _ _ 1 _ _ hX5
                have HL := Aside0.mk hL
                clear HO5 hb5 hL b0 b1 b2 f1 HB hX5
                by_cases hLk : L = k + 1
                · have hq : ¬ (x = 0 ∧ 0 < k) := HJ.out.1 (by rw [← HUE.out, HL.out]; exact hLk)
                  have HD3 := HD.out
                  rw [if_neg (fun h => h.elim (fun h => by have h1 := HUE.out; have h2 := HSM.out; omega) hq), ← HUE.out] at HD3
                  have hLI : (L : Int) = (k : Int) + 1 := by omega
                  clear HD
                  have HD := Aside0.mk HD3
                  clear HD3
                  go_wp2_with fail
                  go_ret
                  exact ⟨by rw [← HD.out]; first | rfl | kernel_rfl, ⟨J + 1, by rw [← HD.out]; exact blk_put (box_keep HX.out HB5.out) 1 _ (by rw [show ((J + 1 : Nat) : Int) = (J : Int) + 1 by omega]; rfl), by rw [← HD.out]; intro _; exact ⟨by omega, by rw [← HBS.out, List.drop_drop]; exact congrArg (fun q => F.drop q) (by omega)⟩⟩, HG.out _ _ _ HB5.out⟩
                · have hq : x = 0 ∧ 0 < k := Classical.byContradiction fun h => hLk (by rw [← HL.out, HUE.out]; exact HJ.out.2 h)
                  have HD3 := HD.out
                  rw [if_pos (.inr hq)] at HD3
                  have hLI : ¬ (L : Int) = (k : Int) + 1 := by omega
                  clear HD
                  have HD := Aside0.mk HD3
                  clear HD3
                  go_wp2_with fail
                  (with_reducible refine (rfailI_calls g _ _ _ _ _ _ (box_keep HX.out HB5.out)).mono ?_)
                  rintro e w9 ⟨⟨v9, rfl⟩, rfl⟩
                  have HD2 := HD.out
                  go_wp2_with fail
                  go_ret
                  exact ⟨by rw [← HD2]; rfl, ⟨I, by rw [← HD2]; exact blk_put (box_keep HX.out HB5.out) 2 _ rfl, by rw [← HD2]; intro h; cases h⟩, HG.out _ _ _ HB5.out⟩
            · obtain ⟨j', rfl⟩ : ∃ j', j = j' + 1 := ⟨j - 1, by omega⟩
              obtain rfl : i = (j' : Int) := by omega
              have hu56 := pow128_lt u (k + 1 - (j' + 1)) HU.out (by omega)
              obtain ⟨J2, hJ2', hJ2a, hJ2b⟩ : ∃ J2, Aside0 (I + j' = J2) ∧ I + j' ≤ J2 ∧ J2 ≤ I + j' := ⟨_, ⟨rfl⟩, Nat.le_refl _, Nat.le_refl _⟩
              have hw2 : IntKind.i64.wrap ((I : Int) + (j' : Int)) = (J2 : Int) := by rw [IntWalk.i64_in _ (by omega)]; omega
              obtain ⟨ad', e', hc0⟩ := C_atNN HR.out J2 (by omega)
              rw [← hJ2'.out, HFB.out j', hJ2'.out] at hc0
              injection e' with e'
              subst e'
              have hcell := pw_cell_below HB.out hc0
              have hxj := byteOf HBY.out j'
              have hnew := digit_step bs u k j' hu0 HU.out (by omega) hxj HS.out
              generalize bs.getD j' 0 = y at *
              have HNEW := Aside0.mk hnew
              have i7 : (0 : Int) ≤ (J2 : Int) := by omega
              have i8 : (J2 : Int) < (N : Int) := by omega
              clear hc0 hnew HU HS hX3 hi
              go_wp2_with fail
              go_quiet (fail)
              go_wp2_with fail
              go_roundw
              case rel =>
                exact ⟨j', (j' : Int) - 1, 128 * u + y % 128, by omega, rfl, rfl, rfl, HNEW.out.1, ⟨HNEW.out.2.1⟩, ⟨HNEW.out.2.2⟩, ⟨below_step HB.out (by repeat (with_reducible first | exact Below.refl _ _ | apply pw_below_drewN | apply below_drew1))⟩⟩
              case measure => simp [intOf]
      · have hkN : n ≤ k := by omega
        have hE := HE.out
        rw [List.drop_of_length_le (by rw [← HN.out]; omega), numG, if_neg (by omega)] at hE
        have HD := Aside0.mk hE
        have i2 : ¬ (J : Int) < (N : Int) := by omega
        have i3 : (N : Int) ≤ (J : Int) := by omega
        have i4 : ¬ J < N := by omega
        have i5 : N ≤ J := by omega
        clear hE HE
        go_wp2_with fail
        go_quiet (fail)
        go_wp2_with fail
        go_quiet (fail)
        go_wp2_with fail
        (with_reducible refine (rfailI_calls g _ _ _ _ _ _ (box_keep HX.out (below_step HB.out (by repeat (with_reducible first | exact Below.refl _ _ | apply pw_below_drewN | apply below_drew1))))).mono ?_)
        rintro e w9 ⟨⟨v9, rfl⟩, rfl⟩
        have HD2 := HD.out
        go_wp2_with fail
        go_ret
        exact ⟨by rw [← HD2]; rfl, ⟨I, by rw [← HD2]; exact blk_put (box_keep HX.out (below_step HB.out (by repeat (with_reducible first | exact Below.refl _ _ | apply pw_below_drewN | apply below_drew1)))) 2 _ rfl, by rw [← HD2]; intro h; cases h⟩, HG.out _ _ _ (below_step HB.out (by repeat (with_reducible first | exact Below.refl _ _ | apply pw_below_drewN | apply below_drew1)))⟩
    · have hk : k = 9 := by omega
      have hE : (0, ([] : List Int), (2 : Int)) = numG 0 0 bs := by
        have h := HE.out
        rw [hk] at h
        cases hbs : bs.drop 9 with
        | nil => rw [hbs, numG, if_pos rfl] at h; exact h
        | cons c r => rw [hbs, numG, if_pos rfl] at h; exact h
      have HD := Aside0.mk hE
      clear hE HE h9
      subst hk
      by_cases h9n : (J : Int) < (N : Int)
      · have hk5 : IntKind.i64.wrap ((I : Int) + 9) = (J : Int) := hw1
        go_wp2_with fail
        go_quiet (fail)
        go_wp2_with fail
        (with_reducible refine (rfailI_calls g _ _ _ _ _ _ (box_keep HX.out (below_step HB.out (by repeat (with_reducible first | exact Below.refl _ _ | apply pw_below_drewN | apply below_drew1))))).mono ?_)
        rintro e w9 ⟨⟨v9, rfl⟩, rfl⟩
        have HD2 := HD.out
        go_wp2_with fail
        go_ret
        exact ⟨by rw [← HD2]; rfl, ⟨I, by rw [← HD2]; exact blk_put (box_keep HX.out (below_step HB.out (by repeat (with_reducible first | exact Below.refl _ _ | apply pw_below_drewN | apply below_drew1)))) 2 _ rfl, by rw [← HD2]; intro h; cases h⟩, HG.out _ _ _ (below_step HB.out (by repeat (with_reducible first | exact Below.refl _ _ | apply pw_below_drewN | apply below_drew1)))⟩
      · have h9m : (N : Int) ≤ (J : Int) := by omega
        have i4 : ¬ J < N := by omega
        have i5 : N ≤ J := by omega
        have hk5 : IntKind.i64.wrap ((I : Int) + 9) = (J : Int) := hw1
        go_wp2_with fail
        go_quiet (fail)
        go_wp2_with fail
        (with_reducible refine (rfailI_calls g _ _ _ _ _ _ (box_keep HX.out (below_step HB.out (by repeat (with_reducible first | exact Below.refl _ _ | apply pw_below_drewN | apply below_drew1))))).mono ?_)
        rintro e w9 ⟨⟨v9, rfl⟩, rfl⟩
        have HD2 := HD.out
        go_wp2_with fail
        go_ret
        exact ⟨by rw [← HD2]; rfl, ⟨I, by rw [← HD2]; exact blk_put (box_keep HX.out (below_step HB.out (by repeat (with_reducible first | exact Below.refl _ _ | apply pw_below_drewN | apply below_drew1)))) 2 _ rfl, by rw [← HD2]; intro h; cases h⟩, HG.out _ _ _ (below_step HB.out (by repeat (with_reducible first | exact Below.refl _ _ | apply pw_below_drewN | apply below_drew1)))⟩

end Go.Proofs.Ytmkabbfglijckaa.A.V
