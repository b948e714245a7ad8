/- The order of two tuples: slices.CompareFunc, order.Compare, the document's. -/
import Derived.Test.YtfabgmekkhlogaaACompare
import Derived.StillTailTactics
namespace Go.Proofs.Ytfabgmekkhlogaa.A
open Go.RowKit Go.Proofs.YtfabgmekkhlogaaW.PrintWords Go.Proofs.YtfabgmekkhlogaaW.PrintLast Go.Proofs.YtfabgmekkhlogaaW.PrintMore
set_option linter.unusedVariables false
set_option linter.unusedSimpArgs false

set_option maxRecDepth 100000 in
set_option maxHeartbeats 1000000 in
theorem compareF_calls (A : Option Addr) (n c : Nat) (a : List Pt) (A' : Option Addr) (n' c' : Nat) (b : List Pt) (w : World) (hr : KPt.C w A n a) (hc : n ≤ c) (hr' : KPt.C w A' n' b) (hc' : n' ≤ c') :
    Calls Try.prog 25 #[.slice A n c, .slice A' n' c', .func (.func 26) #[] #[]] w fun e w' => e = .returned (.int .i64 (cmpL a b)) ∧ Below w.heap.size w w' := by
  have hn : n = a.length := hr.1.symm
  have hn' : n' = b.length := hr'.1.symm
  have hm : n ≤ 9223372036854775807 := hr.2.1
  have hm' : n' ≤ 9223372036854775807 := hr'.2.1
  have HN := Aside0.mk hn
  have HN' := Aside0.mk hn'
  have HR := Aside0.mk hr
  have HR' := Aside0.mk hr'
  clear hn hn' hr hr'
  go_enter Try.func25, Try.ntmps25
  go_wp2
  go_loopw [13] (fun v13 w' => ∃ k : Nat, k ≤ n ∧ k ≤ n' ∧ v13 = .int .i64 k ∧ Aside0 (cmpL a b = cmpL (a.drop k) (b.drop k)) ∧ Aside0 (Below w.heap.size w w')) (fun v13 _ => n - (intOf v13).toNat)
  case atStart => exact ⟨0, Nat.zero_le _, Nat.zero_le _, rfl, ⟨by simp⟩, ⟨Below.refl _ _⟩⟩
  case round =>
    obtain ⟨k, hk, hk', rfl, HE, HB⟩ := hrel
    by_cases hlt : k < n
    · by_cases hlt' : k < n'
      · obtain ⟨ad, rfl, p0, p1, p2⟩ := C_atPt HR.out k hlt
        obtain ⟨ad', rfl, q0, q1, q2⟩ := C_atPt HR'.out k hlt'
        have hd := cmpL_drop a b k (by rw [← HN.out]; exact hlt) (by rw [← HN'.out]; exact hlt')
        rw [← HE.out] at hd
        have p0 := pw_cell_below HB.out p0
        have p1 := pw_cell_below HB.out p1
        have p2 := pw_cell_below HB.out p2
        have q0 := pw_cell_below HB.out q0
        have q1 := pw_cell_below HB.out q1
        have q2 := pw_cell_below HB.out q2
        generalize a.getD k default = p at *
        generalize b.getD k default = q at *
        obtain ⟨pt, pn, ps⟩ := p
        obtain ⟨qt, qn, qs⟩ := q
        dsimp only at p0 p1 p2 q0 q1 q2
        have hbl := World.block_lt_of_cell? _ _ q0
        have HD := Aside0.mk hd
        clear hd HE
        go_wp2_with fail
        (with_reducible refine (compare_calls _ _ _ _ _ _ _).mono ?_)
        rintro e w2 ⟨rfl, hb2⟩
        have HB2 := Aside0.mk (below_step (below_alloc (below_alloc HB.out _) _) hb2)
        have hrg := cmpP_range ⟨pt, pn, ps⟩ ⟨qt, qn, qs⟩
        clear HB hb2 p0 p1 p2 q0 q1 q2 hbl
        generalize cmpP ⟨pt, pn, ps⟩ ⟨qt, qn, qs⟩ = r at *
        by_cases h0 : r = 0
        · subst h0
          go_wp2_with fail
          go_roundw
          case rel =>
            refine ⟨k + 1, hlt, hlt', rfl, ⟨?_⟩, HB2⟩
            have := HD.out
            simpa using this
          case measure => simp [intOf]; omega
        · go_wp2_with fail
          go_ret
          refine ⟨?_, HB2.out⟩
          have := HD.out
          rw [if_neg h0] at this
          rw [this]
          rfl
      · have hE := HE.out
        rw [cmpL_end a b k (.inr (by rw [← HN'.out]; omega)) (by rw [← HN.out]; omega) (by rw [← HN'.out]; omega), if_neg (by rw [← HN.out, ← HN'.out]; omega), if_pos (by rw [← HN.out, ← HN'.out]; omega)] at hE
        obtain ⟨ad, rfl, p0, p1, p2⟩ := C_atPt HR.out k hlt
        have p0 := pw_cell_below HB.out p0
        have p1 := pw_cell_below HB.out p1
        have p2 := pw_cell_below HB.out p2
        have HF := Aside0.mk hE
        clear hE HE
        go_wp2_with fail
        go_ret
        exact ⟨by rw [HF.out]; rfl, below_alloc HB.out _⟩
    · have hE := HE.out
      rw [cmpL_end a b k (.inl (by rw [← HN.out]; omega)) (by rw [← HN.out]; omega) (by rw [← HN'.out]; omega)] at hE
      clear HE
      by_cases h2 : n < n'
      · rw [if_pos (by rw [← HN.out, ← HN'.out]; omega)] at hE
        have HF := Aside0.mk hE
        clear hE
        go_wp2_with fail
        go_ret
        exact ⟨by rw [HF.out]; rfl, HB.out⟩
      · rw [if_neg (by rw [← HN.out, ← HN'.out]; omega), if_neg (by rw [← HN.out, ← HN'.out]; omega)] at hE
        have HF := Aside0.mk hE
        clear hE
        go_wp2_with fail
        go_ret
        exact ⟨by rw [HF.out]; rfl, HB.out⟩
theorem Compare_calls (A : Option Addr) (n c : Nat) (a : List Pt) (A' : Option Addr) (n' c' : Nat) (b : List Pt) (w : World) (hr : KPt.C w A n a) (hc : n ≤ c) (hr' : KPt.C w A' n' b) (hc' : n' ≤ c') :
    Calls Try.prog 12 #[.slice A n c, .slice A' n' c'] w fun e w' => e = .returned (.int .i64 (cmpL a b)) ∧ Below w.heap.size w w' := by
  have HR := Aside0.mk hr
  have HR' := Aside0.mk hr'
  clear hr hr'
  go_enter Try.func12, Try.ntmps12
  go_wp2_with fail
  (with_reducible refine (compareF_calls _ _ _ a _ _ _ b _ HR.out hc HR'.out hc').mono ?_)
  rintro e w2 ⟨rfl, hb2⟩
  go_wp2
  go_ret
  exact ⟨rfl, hb2⟩

set_option maxRecDepth 100000 in
set_option maxHeartbeats 1000000 in
theorem refCompare_calls (A : Option Addr) (n c : Nat) (a : List Pt) (A' : Option Addr) (n' c' : Nat) (b : List Pt) (w : World) (hr : KPt.C w A n a) (hc : n ≤ c) (hr' : KPt.C w A' n' b) (hc' : n' ≤ c') :
    Calls Try.prog 13 #[.slice A n c, .slice A' n' c'] w fun e w' => e = .returned (.int .i64 (cmpL a b)) ∧ Below w.heap.size w w' := by
  have hn : n = a.length := hr.1.symm
  have hn' : n' = b.length := hr'.1.symm
  have hm : n ≤ 9223372036854775807 := hr.2.1
  have hm' : n' ≤ 9223372036854775807 := hr'.2.1
  have HN := Aside0.mk hn
  have HN' := Aside0.mk hn'
  have HR := Aside0.mk hr
  have HR' := Aside0.mk hr'
  clear hn hn' hr hr'
  go_enter Try.func13, Try.ntmps13
  go_wp2
  go_loopw [5] (fun v5 w' => ∃ k : Nat, k ≤ n ∧ k ≤ n' ∧ v5 = .int .i64 k ∧ Aside0 (cmpL a b = cmpL (a.drop k) (b.drop k)) ∧ Aside0 (Below w.heap.size w w')) (fun v5 _ => n - (intOf v5).toNat)
  case atStart => exact ⟨0, Nat.zero_le _, Nat.zero_le _, rfl, ⟨by simp⟩, ⟨Below.refl _ _⟩⟩
  case round =>
    obtain ⟨k, hk, hk', rfl, HE, HB⟩ := hrel
    by_cases hlt : k < n
    · by_cases hlt' : k < n'
      · obtain ⟨ad, rfl, p0, p1, p2⟩ := C_atPt HR.out k hlt
        obtain ⟨ad', rfl, q0, q1, q2⟩ := C_atPt HR'.out k hlt'
        have hd := cmpL_drop a b k (by rw [← HN.out]; exact hlt) (by rw [← HN'.out]; exact hlt')
        rw [← HE.out] at hd
        have p0 := pw_cell_below HB.out p0
        have p1 := pw_cell_below HB.out p1
        have p2 := pw_cell_below HB.out p2
        have q0 := pw_cell_below HB.out q0
        have q1 := pw_cell_below HB.out q1
        have q2 := pw_cell_below HB.out q2
        have i1 : (0 : Int) ≤ (k : Int) := by omega
        have i2 : (k : Int) < (n : Int) := by omega
        have i3 : (k : Int) < (n' : Int) := by omega
        generalize a.getD k default = p at *
        generalize b.getD k default = q at *
        obtain ⟨pt, pn, ps⟩ := p
        obtain ⟨qt, qn, qs⟩ := q
        dsimp only at p0 p1 p2 q0 q1 q2
        have HD := Aside0.mk hd
        clear hd HE
        go_wp2_with fail
        go_still_tail 8, (by kernel_rfl)
        go_wp2_with fail
        (with_reducible refine (parts_calls _ _ _ _ _ _ _).mono ?_)
        rintro e w2 ⟨rfl, hb2⟩
        have HB2 := Aside0.mk (below_step HB.out (below_step (w := wr) (by repeat (with_reducible first | exact Below.refl _ _ | apply pw_below_drewN | apply below_drew1)) hb2))
        have hrg := cmpP_range ⟨pt, pn, ps⟩ ⟨qt, qn, qs⟩
        clear HB hb2 p0 p1 p2 q0 q1 q2
        generalize cmpP ⟨pt, pn, ps⟩ ⟨qt, qn, qs⟩ = r at *
        by_cases h0 : r = 0
        · subst h0
          go_wp2_with fail
          go_roundw
          case rel =>
            refine ⟨k + 1, hlt, hlt', rfl, ⟨?_⟩, HB2⟩
            have := HD.out
            simpa using this
          case measure => simp [intOf]; omega
        · go_wp2_with fail
          go_ret
          refine ⟨?_, HB2.out⟩
          have := HD.out
          rw [if_neg h0] at this
          rw [this]
          rfl
      · have hE := HE.out
        rw [cmpL_end a b k (.inr (by rw [← HN'.out]; omega)) (by rw [← HN.out]; omega) (by rw [← HN'.out]; omega), if_neg (by rw [← HN.out, ← HN'.out]; omega), if_pos (by rw [← HN.out, ← HN'.out]; omega)] at hE
        have HF := Aside0.mk hE
        clear hE HE
        go_wp2_with fail
        go_ret
        exact ⟨by rw [HF.out]; rfl, HB.out⟩
    · have hE := HE.out
      rw [cmpL_end a b k (.inl (by rw [← HN.out]; omega)) (by rw [← HN.out]; omega) (by rw [← HN'.out]; omega)] at hE
      clear HE
      by_cases h2 : n < n'
      · rw [if_pos (by rw [← HN.out, ← HN'.out]; omega)] at hE
        have HF := Aside0.mk hE
        clear hE
        go_wp2_with fail
        go_ret
        exact ⟨by rw [HF.out]; rfl, HB.out⟩
      · rw [if_neg (by rw [← HN.out, ← HN'.out]; omega), if_neg (by rw [← HN.out, ← HN'.out]; omega)] at hE
        have HF := Aside0.mk hE
        clear hE
        go_wp2_with fail
        go_ret
        exact ⟨by rw [HF.out]; rfl, HB.out⟩

end Go.Proofs.Ytfabgmekkhlogaa.A
