/- A number read of bytes by the document's reader. -/
import Derived.Test.YtmkabbfglijckaaVTwo
import Derived.BigQuiet
namespace Go.Proofs.Ytmkabbfglijckaa.A.V
open Go.RowKit Go.Proofs.YtmkabbfglijckaaW.PrintWords Go.Proofs.YtmkabbfglijckaaW.PrintLast Go.Proofs.YtmkabbfglijckaaW.PrintMore
set_option linter.unusedVariables false
set_option linter.unusedSimpArgs false

/-- What the first k bytes say. -/
def dsum (bs : List Int) : Nat → Int
  | 0 => 0
  | k + 1 => dsum bs k + bs.getD k 0 % 128 * 128 ^ k
theorem dsum_bound (bs : List Int) (hb : ∀ x ∈ bs, 0 ≤ x ∧ x ≤ 255) : ∀ k, 0 ≤ dsum bs k ∧ dsum bs k < 128 ^ k
  | 0 => by simp [dsum]
  | k + 1 => num_bound (dsum bs k) (bs.getD k 0) k (dsum_bound bs hb k).1 (dsum_bound bs hb k).2 (byteOf hb k)
theorem vnat_len : ∀ (k n : Nat), 128 ^ k ≤ n → n < 128 ^ (k + 1) → (vnat n).length = k + 1
  | 0, n, h0, h1 => by rw [vnat_small (by simpa using h1)]; rfl
  | k + 1, n, h0, h1 => by
    have hp : 0 < 128 ^ k := Nat.pow_pos (by omega)
    have h2 : ¬ n < 128 := by
      rw [Nat.pow_succ] at h0
      have : 1 * 128 ≤ 128 ^ k * 128 := Nat.mul_le_mul_right _ hp
      omega
    rw [vnat_big h2, List.length_cons]
    rw [Nat.pow_succ] at h0 h1
    rw [vnat_len k (n / 128) (by rw [Nat.le_div_iff_mul_le (by omega)]; exact h0) (by rw [Nat.div_lt_iff_lt_mul (by omega)]; exact h1)]
theorem vnat_short : ∀ (k n : Nat), n < 128 ^ (k + 1) → (vnat n).length ≤ k + 1
  | 0, n, h1 => by rw [vnat_small (by simpa using h1)]; simp
  | k + 1, n, h1 => by
    by_cases h2 : n < 128
    · rw [vnat_small h2]; simp
    · rw [vnat_big h2, List.length_cons]
      rw [Nat.pow_succ] at h1
      have := vnat_short k (n / 128) (by rw [Nat.div_lt_iff_lt_mul (by omega)]; exact h1)
      omega
/-- When a number has just k + 1 bytes. -/
theorem vput_just (bs : List Int) (hb : ∀ x ∈ bs, 0 ≤ x ∧ x ≤ 255) (k : Nat) (hx : bs.getD k 0 < 128) : (vput (dsum bs (k + 1))).length = k + 1 ↔ ¬ (bs.getD k 0 = 0 ∧ 0 < k) := by
  have h1 := dsum_bound bs hb (k + 1)
  have h0 := dsum_bound bs hb k
  have hxx := byteOf hb k
  have e : dsum bs (k + 1) = dsum bs k + bs.getD k 0 % 128 * 128 ^ k := rfl
  obtain ⟨m, hm⟩ : ∃ m : Nat, dsum bs (k + 1) = (m : Int) := ⟨(dsum bs (k + 1)).toNat, by omega⟩
  have hp : (128 : Int) ^ (k + 1) = ((128 ^ (k + 1) : Nat) : Int) := by simp
  have hp0 : (128 : Int) ^ k = ((128 ^ k : Nat) : Int) := by simp
  have hv : vput (dsum bs (k + 1)) = vnat m := by rw [hm]; unfold vput; rw [Int.toNat_natCast]
  rw [hv]
  have hlt : m < 128 ^ (k + 1) := by rw [hm, hp] at h1; omega
  rw [Int.emod_eq_of_lt hxx.1 hx] at e
  by_cases hz : bs.getD k 0 = 0
  · rw [hz, Int.zero_mul, Int.add_zero] at e
    cases k with
    | zero =>
      refine ⟨fun _ h => by omega, fun _ => ?_⟩
      have hm0 : m = 0 := by
        have : dsum bs 0 = 0 := rfl
        omega
      rw [hm0, vnat_small (by omega)]
      rfl
    | succ k =>
      have hs : m < 128 ^ (k + 1) := by rw [hp0] at h0; omega
      have := vnat_short k m hs
      exact ⟨fun h => by omega, fun h => absurd ⟨hz, by omega⟩ h⟩
  · have hge : 128 ^ k ≤ m := by
      have h5 : (128 : Int) ^ k ≤ bs.getD k 0 * 128 ^ k := by
        have hpp : (0 : Int) < 128 ^ k := Int.pow_pos (by decide)
        have := Int.mul_le_mul_of_nonneg_right (show (1 : Int) ≤ bs.getD k 0 by omega) (Int.le_of_lt hpp)
        omega
      rw [hp0] at h5
      rw [hp0] at e
      omega
    have := vnat_len k m hge hlt
    exact ⟨fun _ h => hz h.1, fun _ => this⟩
theorem box_keep {W w1 : World} {g : Nat} {o : Obj} (h : W.heap[g]? = some o) (hb : Below W.heap.size W w1) : w1.heap[g]? = some o :=
  (hb.block g (Array.getElem?_eq_some_iff.1 h).1).trans h
theorem pow128_lt (u : Int) (e : Nat) (h : u < 128 ^ e) (he : e ≤ 8) : u < 72057594037927936 := by
  have h2 : (128 : Int) ^ e ≤ 72057594037927936 := by
    rcases (by omega : e = 0 ∨ e = 1 ∨ e = 2 ∨ e = 3 ∨ e = 4 ∨ e = 5 ∨ e = 6 ∨ e = 7 ∨ e = 8) with rfl | rfl | rfl | rfl | rfl | rfl | rfl | rfl | rfl <;> decide
  omega
theorem digit_step (bs : List Int) (u : Int) (k j : Nat) (h0 : 0 ≤ u) (h1 : u < 128 ^ (k + 1 - (j + 1))) (hj : j ≤ k) (hx : 0 ≤ bs.getD j 0 ∧ bs.getD j 0 ≤ 255) (hs : dsum bs (k + 1) = u * 128 ^ (j + 1) + dsum bs (j + 1)) :
    0 ≤ 128 * u + bs.getD j 0 % 128 ∧ 128 * u + bs.getD j 0 % 128 < 128 ^ (k + 1 - j) ∧ dsum bs (k + 1) = (128 * u + bs.getD j 0 % 128) * 128 ^ j + dsum bs j := by
  have e : k + 1 - j = (k + 1 - (j + 1)) + 1 := by omega
  have e2 : dsum bs (j + 1) = dsum bs j + bs.getD j 0 % 128 * 128 ^ j := rfl
  refine ⟨by omega, ?_, ?_⟩
  · rw [e, Int.pow_succ]
    generalize (128 : Int) ^ (k + 1 - (j + 1)) = m at *
    omega
  · rw [hs, e2, Int.pow_succ, Int.add_mul, ← Int.mul_assoc, Int.mul_comm 128 u, Int.mul_assoc u 128, Int.mul_comm 128, ← Int.mul_assoc]
    omega
/-- The document's reader. -/
abbrev rfr (A : Option Addr) (n c : Nat) (at_ e : Int) : Obj := .cells #[.slice A n c, .int .i64 at_, .int .i64 e] 45 (0, 0)
theorem rfr_cells {w : World} {g n c : Nat} {A : Option Addr} {p e : Int} (h : w.heap[g]? = some (rfr A n c p e)) : w.cell? ⟨g, 0, none⟩ = some (.slice A n c) ∧ w.cell? ⟨g, 1, none⟩ = some (.int .i64 p) ∧ w.cell? ⟨g, 2, none⟩ = some (.int .i64 e) := by
  refine ⟨?_, ?_, ?_⟩
  · rw [cell_of_row _ _ _ _ _ _ h]; rfl
  · rw [cell_of_row _ _ _ _ _ _ h]; rfl
  · rw [cell_of_row _ _ _ _ _ _ h]; rfl
set_option maxRecDepth 100000 in
theorem rfail_calls (g : Nat) (e : Int) (w : World) (A : Option Addr) (n c : Nat) (hX : w.heap[g]? = some (rfr A n c 0 0)) :
    Calls Try.prog 53 #[.pointer (some ⟨g, 0, none⟩), .int .i64 e] w fun x w' => (∃ v, x = .returned v) ∧ w' = w.setCell ⟨g, 2, none⟩ (.int .i64 e) := by
  obtain ⟨b0, b1, b2⟩ := rfr_cells hX
  have f2 := frozen_of_row _ _ 2 _ _ hX
  clear hX
  go_enter Try.func53, Try.ntmps53
  go_wp2
  go_end0
  exact ⟨⟨_, rfl⟩, rfl⟩

set_option maxRecDepth 100000 in
set_option maxHeartbeats 4000000 in
theorem refnum_calls (g : Nat) (w : World) (A : Option Addr) (n c : Nat) (bs : List Int) (hX : w.heap[g]? = some (rfr A n c 0 0)) (hr : U8.C w A n bs) (hc : n ≤ c) (hb : ∀ x ∈ bs, 0 ≤ x ∧ x ≤ 255) (hn2 : n ≤ 100000) (B : Nat) (hB : B ≤ g) :
    Calls Try.prog 39 #[.pointer (some ⟨g, 0, none⟩)] w fun e w' => e = .returned (.int .i64 (numG 0 0 bs).1) ∧ Below B w w' := by
  have hn : n = bs.length := hr.1.symm
  have hgl : g < w.heap.size := (Array.getElem?_eq_some_iff.1 hX).1
  have HX := Aside0.mk hX
  have HN := Aside0.mk hn
  have HR := Aside0.mk hr
  have HBY := Aside0.mk hb
  obtain ⟨b0, b1, b2⟩ := rfr_cells hX
  clear hX hn hr hb
  go_enter Try.func39, Try.ntmps39
  go_wp2
  go_loopw [3] (fun v3 w' => ∃ k : Nat, k ≤ 9 ∧ k ≤ n ∧ v3 = .int .i64 k ∧ Aside0 (numG k (dsum bs k) (bs.drop k) = numG 0 0 bs) ∧ Aside0 (Below w.heap.size w w')) (fun v3 _ => 9 - (intOf v3).toNat)
  case atStart => exact ⟨0, by omega, Nat.zero_le _, rfl, ⟨rfl⟩, ⟨Below.refl _ _⟩⟩
  case round =>
    clear b0 b1 b2
    obtain ⟨k, hk9, hkn, rfl, HE, HB⟩ := hrel
    have hX2 := box_keep HX.out HB.out
    obtain ⟨b0, b1, b2⟩ := rfr_cells hX2
    have i1 : (0 : Int) ≤ (k : Int) := by omega
    by_cases h9 : k < 9
    · have j9 : (k : Int) < 9 := by omega
      have j9' : ¬ (k : Int) = 9 := by omega
      by_cases hlt : k < n
      · obtain ⟨ad, rfl, hcell0⟩ := C_atNN HR.out k hlt
        have hcell := pw_cell_below HB.out hcell0
        have hd := drop_cons bs k (by rw [← HN.out]; exact hlt)
        have hx := byteOf HBY.out k
        have hE := HE.out
        rw [hd, numG, if_neg (by omega)] at hE
        have hds : dsum bs k + bs.getD k 0 % 128 * 128 ^ k = dsum bs (k + 1) := rfl
        rw [hds] at hE
        have i2 : (k : Int) < (n : Int) := by omega
        by_cases h128 : 128 ≤ bs.getD k 0
        · rw [if_pos h128] at hE
          have HD := Aside0.mk hE
          generalize bs.getD k 0 = x at *
          clear hd hE HE hcell0 hds
          go_wp2_with fail
          go_quiet (fail)
          go_wp2_with fail
          go_roundw
          case rel => exact ⟨k + 1, by omega, hlt, rfl, HD, ⟨by first | exact HB.out | exact pw_below_drewN HB.out _ | exact below_step HB.out (by repeat (with_reducible first | exact Below.refl _ _ | apply pw_below_drewN | apply below_drew1))⟩⟩
          case measure => simp [intOf]; omega
        · rw [if_neg h128] at hE
          have hj := vput_just bs HBY.out k (by omega)
          have hbd := dsum_bound bs HBY.out (k + 1)
          have HD := Aside0.mk hE
          have HJ := Aside0.mk hj
          have h128' : bs.getD k 0 < 128 := by omega
          clear hd hE HE hcell0 hds hj h128
          generalize bs.getD k 0 = x at *
          go_wp2_with fail
          go_quiet (fail)
          go_wp2_with fail
          have HBq := Aside0.mk HB.out
          go_quiet (fail)
          go_wp2_with fail
          go_loopw [4, 5] (fun v4 v5 w' => ∃ (j : Nat) (i u : Int), j ≤ k + 1 ∧ i = (j : Int) - 1 ∧ v5 = .int .i64 i ∧ v4 = .int .i64 u ∧ 0 ≤ u ∧ Aside0 (u < 128 ^ (k + 1 - j)) ∧ Aside0 (dsum bs (k + 1) = u * 128 ^ j + dsum bs j) ∧ Aside0 (Below w.heap.size w w')) (fun _ v5 _ => (intOf v5 + 1).toNat)
          case atStart => exact ⟨k + 1, (k : Int), 0, Nat.le_refl _, by omega, rfl, rfl, by omega, ⟨by simp⟩, ⟨by simp⟩, ⟨below_step HBq.out (by repeat (with_reducible first | exact Below.refl _ _ | apply pw_below_drewN | apply below_drew1))⟩⟩
          case round =>
            clear hcell b0 b1 b2 HB HBq
            obtain ⟨j, i, u, hj, hi, rfl, rfl, hu0, HU, HS, HB⟩ := hrel
            have hX3 := box_keep HX.out HB.out
            obtain ⟨b0, b1, b2⟩ := rfr_cells hX3
            have f1 := frozen_of_row _ _ 1 _ _ hX3
            by_cases hj0 : j = 0
            · subst hj0
              obtain rfl : i = -1 := hi
              have hS := HS.out
              have hu : u = dsum bs (k + 1) := by rw [hS]; show u = u * 128 ^ 0 + 0; rw [Int.pow_zero]; omega
              have HUE := Aside0.mk hu
              obtain ⟨hbd0, hbd1⟩ := hbd
              clear hu hS HS HU hX3
              by_cases hbig : 4611686018427387904 ≤ u
              · have HD3 := HD.out
                rw [if_pos (.inl (by rw [← HUE.out]; exact hbig))] at HD3
                clear HD
                have HD := Aside0.mk HD3
                clear HD3
                go_wp2_with fail
                (with_reducible refine (rfail_calls g _ _ _ _ _ (box_keep HX.out HB.out)).mono ?_)
                rintro e w9 ⟨⟨v9, rfl⟩, rfl⟩
                have HD2 := HD.out
                go_wp2_with fail
                go_ret
                exact ⟨by rw [← HD2]; rfl, (Below.mono HB.out (show B ≤ w.heap.size by omega)).setCell (p := ⟨g, 2, none⟩) hB _⟩
              · have HSM : Aside0 (¬ 4611686018427387904 ≤ u) := ⟨hbig⟩
                go_wp2_with fail
                (with_reducible refine (refput_calls u _ (by omega)).mono ?_)
                rintro e w5 ⟨v5, rfl, HO5, hb5⟩
                obtain ⟨L, hL⟩ : ∃ L, (vput u).length = L := ⟨_, rfl⟩
                obtain ⟨A5, c5, rfl, hc5, _⟩ := OB_readn HO5 L hL
                have HB5 := Aside0.mk (below_step HB.out hb5)
                have hX5 := box_keep HX.out HB5.out
                obtain ⟨d0, d1, d2⟩ := rfr_cells hX5
                have e1 := frozen_of_row _ _ 1 _ _ hX5
                have HL := Aside0.mk hL
                clear HO5 hb5 hL b0 b1 b2 f1 HB hX5
                by_cases hLk : L = k + 1
                · have hq : ¬ (x = 0 ∧ 0 < k) := HJ.out.1 (by rw [← HUE.out, HL.out]; exact hLk)
                  have HD3 := HD.out
                  rw [if_neg (fun h => h.elim (fun h => by have h1 := HUE.out; have h2 := HSM.out; omega) hq), ← HUE.out] at HD3
                  have hLI : (L : Int) = (k : Int) + 1 := by omega
                  clear HD
                  have HD := Aside0.mk HD3
                  clear HD3
                  go_wp2_with fail
                  go_ret
                  exact ⟨by rw [← HD.out]; first | rfl | kernel_rfl, ((Below.mono HB5.out (show B ≤ w.heap.size by omega)).setCell (p := ⟨g, 1, none⟩) hB _)⟩
                · have hq : x = 0 ∧ 0 < k := Classical.byContradiction fun h => hLk (by rw [← HL.out, HUE.out]; exact HJ.out.2 h)
                  have HD3 := HD.out
                  rw [if_pos (.inr hq)] at HD3
                  have hLI : ¬ (L : Int) = (k : Int) + 1 := by omega
                  clear HD
                  have HD := Aside0.mk HD3
                  clear HD3
                  go_wp2_with fail
                  (with_reducible refine (rfail_calls g _ _ _ _ _ (box_keep HX.out HB5.out)).mono ?_)
                  rintro e w9 ⟨⟨v9, rfl⟩, rfl⟩
                  have HD2 := HD.out
                  go_wp2_with fail
                  go_ret
                  exact ⟨by rw [← HD2]; rfl, (Below.mono HB5.out (show B ≤ w.heap.size by omega)).setCell (p := ⟨g, 2, none⟩) hB _⟩
            · obtain ⟨j', rfl⟩ : ∃ j', j = j' + 1 := ⟨j - 1, by omega⟩
              obtain rfl : i = (j' : Int) := by omega
              have hu56 := pow128_lt u (k + 1 - (j' + 1)) HU.out (by omega)
              obtain ⟨ad', e', hc0⟩ := C_atNN HR.out j' (by omega)
              injection e' with e'
              subst e'
              have hcell := pw_cell_below HB.out hc0
              have hxj := byteOf HBY.out j'
              have hnew := digit_step bs u k j' hu0 HU.out (by omega) hxj HS.out
              generalize bs.getD j' 0 = y at *
              have HNEW := Aside0.mk hnew
              have i7 : (0 : Int) ≤ (j' : Int) := by omega
              have i8 : (j' : Int) < (n : Int) := by omega
              clear hc0 hnew HU HS hX3 hi
              go_wp2_with fail
              go_quiet (fail)
              go_wp2_with fail
              go_roundw
              case rel =>
                exact ⟨j', (j' : Int) - 1, 128 * u + y % 128, by omega, rfl, rfl, rfl, HNEW.out.1, ⟨HNEW.out.2.1⟩, ⟨HNEW.out.2.2⟩, ⟨below_step HB.out (by repeat (with_reducible first | exact Below.refl _ _ | apply pw_below_drewN | apply below_drew1))⟩⟩
              case measure => simp [intOf]
      · have hkN : k = n := by omega
        have hE := HE.out
        rw [List.drop_of_length_le (by rw [← HN.out]; omega), numG, if_neg (by omega)] at hE
        have HD := Aside0.mk hE
        have i2 : ¬ (k : Int) < (n : Int) := by omega
        have i3 : (n : Int) ≤ (k : Int) := by omega
        clear hE HE
        go_wp2_with fail
        go_quiet (fail)
        go_wp2_with fail
        go_quiet (fail)
        go_wp2_with fail
        (with_reducible refine (rfail_calls g _ _ _ _ _ (box_keep HX.out (below_step HB.out (by repeat (with_reducible first | exact Below.refl _ _ | apply pw_below_drewN | apply below_drew1))))).mono ?_)
        rintro e w9 ⟨⟨v9, rfl⟩, rfl⟩
        have HD2 := HD.out
        go_wp2_with fail
        go_ret
        exact ⟨by rw [← HD2]; rfl, (Below.mono (below_step HB.out (by repeat (with_reducible first | exact Below.refl _ _ | apply pw_below_drewN | apply below_drew1))) (show B ≤ w.heap.size by omega)).setCell (p := ⟨g, 2, none⟩) hB _⟩
    · have hk : k = 9 := by omega
      have hE : (0, ([] : List Int), (2 : Int)) = numG 0 0 bs := by
        have h := HE.out
        rw [hk] at h
        cases hbs : bs.drop 9 with
        | nil => rw [hbs, numG, if_pos rfl] at h; exact h
        | cons c r => rw [hbs, numG, if_pos rfl] at h; exact h
      have HD := Aside0.mk hE
      clear hE HE h9 i1
      subst hk
      by_cases h9n : (9 : Int) < (n : Int)
      · have hk5 : ((9 : Nat) : Int) = 9 := rfl
        go_wp2_with fail
        go_quiet (fail)
        go_wp2_with fail
        (with_reducible refine (rfail_calls g _ _ _ _ _ (box_keep HX.out (below_step HB.out (by repeat (with_reducible first | exact Below.refl _ _ | apply pw_below_drewN | apply below_drew1))))).mono ?_)
        rintro e w9 ⟨⟨v9, rfl⟩, rfl⟩
        have HD2 := HD.out
        go_wp2_with fail
        go_ret
        exact ⟨by rw [← HD2]; rfl, (Below.mono (below_step HB.out (by repeat (with_reducible first | exact Below.refl _ _ | apply pw_below_drewN | apply below_drew1))) (show B ≤ w.heap.size by omega)).setCell (p := ⟨g, 2, none⟩) hB _⟩
      · obtain rfl : n = 9 := by omega
        have hk5 : ((9 : Nat) : Int) = 9 := rfl
        go_wp2_with fail
        go_quiet (fail)
        go_wp2_with fail
        (with_reducible refine (rfail_calls g _ _ _ _ _ (box_keep HX.out (below_step HB.out (by repeat (with_reducible first | exact Below.refl _ _ | apply pw_below_drewN | apply below_drew1))))).mono ?_)
        rintro e w9 ⟨⟨v9, rfl⟩, rfl⟩
        have HD2 := HD.out
        go_wp2_with fail
        go_ret
        exact ⟨by rw [← HD2]; rfl, (Below.mono (below_step HB.out (by repeat (with_reducible first | exact Below.refl _ _ | apply pw_below_drewN | apply below_drew1))) (show B ≤ w.heap.size by omega)).setCell (p := ⟨g, 2, none⟩) hB _⟩

end Go.Proofs.Ytmkabbfglijckaa.A.V
