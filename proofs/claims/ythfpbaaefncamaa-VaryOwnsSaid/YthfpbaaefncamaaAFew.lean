/- A number's bytes are few. -/
import Derived.Test.YthfpbaaefncamaaAVary
namespace Go.Proofs.Ythfpbaaefncamaa.A
open Go.RowKit Go.Proofs.YthfpbaaefncamaaW.PrintWords Go.Proofs.YthfpbaaefncamaaW.PrintLast Go.Proofs.YthfpbaaefncamaaW.PrintMore
set_option linter.unusedVariables false
set_option linter.unusedSimpArgs false

theorem vnat_mono : ∀ (b a : Nat), a ≤ b → (vnat a).length ≤ (vnat b).length := by
  intro b
  induction b using Nat.strongRecOn with
  | ind b ih =>
    intro a h
    by_cases hb : b < 128
    · rw [vnat_small hb, vnat_small (show a < 128 by omega)]
      exact Nat.le_refl _
    · rw [vnat_big hb]
      by_cases ha : a < 128
      · rw [vnat_small ha]
        simp
      · rw [vnat_big ha]
        simp only [List.length_cons]
        have := ih (b / 128) (by omega) (a / 128) (by omega)
        omega
theorem vnat_le (n : Nat) (h : n ≤ 9223372036854775807) : (vnat n).length ≤ 9 := by
  refine Nat.le_trans (vnat_mono 9223372036854775807 n h) ?_
  have e : (vnat 9223372036854775807).length = 9 := by
    have h2 : ∀ k m : Nat, ¬ m < 128 → (vnat (m / 128)).length = k → (vnat m).length = k + 1 := by
      intro k m hm hk
      rw [vnat_big hm, List.length_cons, hk]
    iterate 8 (refine h2 _ _ (by decide) ?_)
    rw [vnat_small (by decide)]
    rfl
  omega
theorem vput_le (n : Int) (h : n ≤ 9223372036854775807) : (vput n).length ≤ 9 := vnat_le _ (by omega)
theorem vput_nat (n : Nat) : vput (n : Int) = vnat n := by simp [vput]
theorem vput1 (n : Int) : [n].flatMap vput = vput n := by simp

/-- vary.Put(b, n) -/
theorem put1_calls (A : Option Addr) (n c : Nat) (b : List Int) (x : Int) (w : World) (e : Nat) (hr : U8.C w A n b) (hc : n ≤ c) (hx : x ≤ 9223372036854775807) (hl : n + 9 ≤ 140737488000000) :
    Calls Try.prog 8 #[.slice A n c, .slice (some ⟨w.heap.size, 0, none⟩) 1 1] (w.alloc (.cells #[.int .i64 x] e)) fun e w' => ∃ v, e = .returned v ∧ OB w' w.heap.size v (b ++ vput x) ∧ Below w.heap.size w w' := by
  have h9 := vput_le x hx
  have hn := hr.1
  refine (put_calls A n c b _ 1 1 [x] _ (Kd.C_alloc hr _) hc (lit_CK w [x] e (by simp) (0, 0)) (by omega) (by simpa using hx) (by rw [vput1]; omega)).mono ?_
  rintro e w' ⟨v, rfl, HO, hb⟩
  rw [vput1] at HO
  exact ⟨v, rfl, Kd.R_lower HO (by simp), below_step (below_alloc (Below.refl _ _) _) hb⟩

/-- A number turned. -/
def turn (n : Int) : Int := if n < -2305843009213693952 ∨ 2305843009213693952 ≤ n then 0 else if n < 0 then -2 * n - 1 else 2 * n
theorem turn_calls (n : Int) (w : World) (h0 : -9223372036854775808 ≤ n) (h1 : n ≤ 9223372036854775807) :
    Calls Try.prog 17 #[.int .i64 n] w fun e w' => e = .returned (.int .i64 (turn n)) ∧ w = w' := by
  go_enter Try.func17, Try.ntmps17
  have HT := Aside0.mk (show turn n = if n < -2305843009213693952 ∨ 2305843009213693952 ≤ n then 0 else if n < 0 then -2 * n - 1 else 2 * n from rfl)
  by_cases h1 : n < -2305843009213693952
  · go_wp2
    go_ret
    rw [HT.out, if_pos (by omega)]
    simp
  · by_cases h2 : 2305843009213693952 ≤ n
    · go_wp2
      go_ret
      rw [HT.out, if_pos (by omega)]
      simp
    · by_cases h3 : n < 0
      · go_wp2
        go_ret
        rw [HT.out, if_neg (by omega), if_pos (by omega)]
        simp
      · go_wp2
        go_ret
        rw [HT.out, if_neg (by omega), if_neg (by omega)]
        simp

theorem vnat300 : vnat 300 = [172, 2] := by
  rw [vnat_big (by decide), vnat_small (by decide)]
  rfl
set_option maxHeartbeats 1000000 in
theorem lives_calls (w : World) : Calls Try.prog 9 #[] w fun e w' => e = .returned (.bool true) ∧ Below w.heap.size w w' := by
  go_enter Try.func9, Try.ntmps9
  go_wp2_with fail
  (with_reducible refine (put1_calls none 0 0 [] 300 _ _ (Kd.C_nil _ _) (by omega) (by omega) (by omega)).mono ?_)
  rintro e w1 ⟨v1, rfl, HO1, hb1⟩
  have e0 : [] ++ vput 300 = [172, 2] := by
    show vnat 300 = _
    exact vnat300
  rw [e0] at HO1
  obtain ⟨A, c, rfl, hc, HC⟩ := OB_readn HO1 2 rfl
  obtain ⟨ad, rfl, hc0⟩ := C_at (l := [172, 2]) HC 0 (by decide)
  obtain ⟨ad', h', hc1⟩ := C_at (l := [172, 2]) HC 1 (by decide)
  obtain rfl : ad = ad' := by injection h'
  simp [Addr.add] at hc0 hc1
  have HB := Aside0.mk hb1
  clear hb1 HO1 e0 HC h'
  go_wp2_with fail
  (with_reducible refine (turn_calls (-3) _ (by omega) (by omega)).mono ?_)
  rintro e w2 ⟨rfl, rfl⟩
  go_wp2
  go_ret
  exact ⟨by simp [turn], HB.out⟩

set_option maxRecDepth 100000 in
set_option maxHeartbeats 2000000 in
theorem lawFew_calls (w : World) (a : Int) (ga : IntKind.i64.min ≤ a ∧ a ≤ IntKind.i64.max) (b : Int) (gb : IntKind.i64.min ≤ b ∧ b ≤ IntKind.i64.max) :
    Calls Try.prog 3 #[.int .i64 a, .int .i64 b] w fun e w' => e = .returned (.bool true) ∧ Below w.heap.size w w' := by
  have ga0 : -9223372036854775808 ≤ a := ga.1
  have ga1 : a ≤ 9223372036854775807 := ga.2
  have gb0 : -9223372036854775808 ≤ b := gb.1
  have gb1 : b ≤ 9223372036854775807 := gb.2
  clear ga gb
  go_enter Try.func3, Try.ntmps3
  obtain ⟨a', hA⟩ : ∃ a' : Nat, (if a < 0 then -(a + 1) else a) = (a' : Int) := ⟨(if a < 0 then -(a + 1) else a).toNat, by split <;> omega⟩
  obtain ⟨b', hB⟩ : ∃ b' : Nat, (if b < 0 then -(b + 1) else b) = (b' : Int) := ⟨(if b < 0 then -(b + 1) else b).toNat, by split <;> omega⟩
  have ha' : a' ≤ 9223372036854775807 := by split at hA <;> omega
  have hb' : b' ≤ 9223372036854775807 := by split at hB <;> omega
  rcases Int.lt_or_le a 0 with sa | sa <;> rcases Int.lt_or_le b 0 with sb | sb <;> (first | rw [if_pos sa] at hA | rw [if_neg (by omega)] at hA) <;> (first | rw [if_pos sb] at hB | rw [if_neg (by omega)] at hB)
  all_goals (try subst hA) <;> (try subst hB)
  all_goals
    go_wp2
    go_loopw [5, 6] (fun v5 v6 w' => ∃ (k n : Nat), k ≤ a' ∧ n ≤ 9 ∧ v5 = .int .i64 n ∧ v6 = .int .i64 k ∧ Aside0 (n + (vnat k).length = (vnat a').length + 1) ∧ w' = w) (fun _ v6 _ => (intOf v6).toNat)
    case atStart => exact ⟨a', 1, Nat.le_refl _, by omega, rfl, rfl, ⟨by omega⟩, rfl⟩
    case round =>
      obtain ⟨k, n, hk, hn, rfl, rfl, HE, rfl⟩ := hrel
      by_cases hs : k < 128
      · have hne : (vnat a').length = n := by
          have h1 := HE.out
          rw [vnat_small hs] at h1
          simp at h1
          omega
        have HNE := Aside0.mk hne
        clear hne HE
        go_wp2_with fail
        (with_reducible refine (put1_calls none 0 0 [] _ _ _ (Kd.C_nil _ _) (by omega) (by omega) (by omega)).mono ?_)
        rintro e w1 ⟨v1, rfl, HO1, hb1⟩
        rw [List.nil_append, vput_nat] at HO1
        obtain ⟨A1, c1, rfl, hc1, HC1⟩ := OB_readn HO1 n HNE.out
        have HB := Aside0.mk hb1
        clear hb1 HO1 HC1
        go_wp2_with fail
        (with_reducible refine (put1_calls none 0 0 [] _ _ _ (Kd.C_nil _ _) (by omega) (by omega) (by omega)).mono ?_)
        rintro e w2 ⟨v2, rfl, HO2, hb2⟩
        rw [List.nil_append, vput_nat] at HO2
        obtain ⟨A2, c2, rfl, hc2, HC2⟩ := OB_read HO2
        have HB2 := Aside0.mk (below_step HB.out hb2)
        have hle := vnat_mono b' a'
        rw [HNE.out] at hle
        have hl9 := vnat_le b' hb'
        generalize (vnat b').length = nb at *
        clear hb2 HO2 HC2 HB
        by_cases hab : b' < a'
        · clear hle
          go_wp2_with fail
          (with_reducible refine (lives_calls _).mono ?_)
          rintro e w3 ⟨rfl, hb3⟩
          go_wp2
          go_ret
          exact ⟨rfl, below_step HB2.out hb3⟩
        · have hle2 := hle (by omega)
          clear hle
          go_wp2_with fail
          (with_reducible refine (lives_calls _).mono ?_)
          rintro e w3 ⟨rfl, hb3⟩
          go_wp2
          go_ret
          exact ⟨rfl, below_step HB2.out hb3⟩
      · have hn2 : n + 1 ≤ 9 := by
          have h1 := HE.out
          have h2 := vnat_le a' ha'
          rw [vnat_big hs, List.length_cons] at h1
          have := vnat_pos (k / 128)
          omega
        go_wp2
        go_roundw
        case rel =>
          refine ⟨k / 128, n + 1, by omega, hn2, rfl, rfl, ⟨?_⟩, trivial⟩
          have h1 := HE.out
          rw [vnat_big hs, List.length_cons] at h1
          omega
        case measure => simp [intOf]; omega

end Go.Proofs.Ythfpbaaefncamaa.A
