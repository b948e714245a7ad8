/- The document's spans. -/
import Derived.Test.YtloachifhaigjaaAMinus
namespace Go.Proofs.Ytloachifhaigjaa.A
open Go.RowKit Go.Proofs.YtloachifhaigjaaW.PrintWords Go.Proofs.YtloachifhaigjaaW.PrintLast Go.Proofs.YtloachifhaigjaaW.PrintMore
set_option linter.unusedVariables false
set_option linter.unusedSimpArgs false

set_option maxHeartbeats 400000 in
theorem rmay_calls (a b : Int) (w : World) : Calls Try.prog 15 #[.agg #[.int .i64 a, .int .i64 b]] w fun e w' => e = .returned (.bool (Sp.may ⟨a, b⟩)) ∧ w' = w.alloc (spBox a b) := by
  by_cases h1 : 0 ≤ a
  · by_cases h2 : a < b
    · by_cases h3 : b ≤ 1099511627776
      · have hm : Sp.may ⟨a, b⟩ = true := (may_iff _).2 ⟨h1, h2, h3⟩
        rw [hm]
        clear hm
        go_enter Try.func15, Try.ntmps15
        go_wp2
        go_ret
        exact ⟨rfl, rfl⟩
      · have hm : Sp.may ⟨a, b⟩ = false := (may_not _).2 (fun h => h3 h.2.2)
        rw [hm]
        clear hm
        have hd : decide (b ≤ 1099511627776) = false := decide_eq_false h3
        go_enter Try.func15, Try.ntmps15
        go_wp2
        go_ret
        exact ⟨rfl, rfl⟩
    · have hm : Sp.may ⟨a, b⟩ = false := (may_not _).2 (fun h => h2 h.2.1)
      rw [hm]
      clear hm
      have hd : decide (a < b) = false := decide_eq_false h2
      go_enter Try.func15, Try.ntmps15
      go_wp2
      go_ret
      exact ⟨rfl, rfl⟩
  · have hm : Sp.may ⟨a, b⟩ = false := (may_not _).2 (fun h => h1 h.1)
    rw [hm]
    clear hm
    have hd : decide (0 ≤ a) = false := decide_eq_false h1
    go_enter Try.func15, Try.ntmps15
    go_wp2
    go_ret
    exact ⟨rfl, rfl⟩

set_option maxHeartbeats 400000 in
theorem rhas_calls (a b x : Int) (w : World) : Calls Try.prog 17 #[.agg #[.int .i64 a, .int .i64 b], .int .i64 x] w fun e w' => e = .returned (.bool (Sp.has ⟨a, b⟩ x)) ∧ w' = (w.alloc (spBox a b)).alloc (spBox a b) := by
  by_cases hm : Sp.may ⟨a, b⟩ = true
  · by_cases h1 : a ≤ x
    · by_cases h2 : x < b
      · have hh : Sp.has ⟨a, b⟩ x = true := (has_iff _ _).2 ⟨hm, h1, h2⟩
        rw [hh]
        have HM := Aside0.mk hm
        clear hm hh
        go_enter Try.func17, Try.ntmps17
        go_wp2_with ((go_at_call 15); (with_reducible refine (rmay_calls _ _ _).mono ?_); rw [HM.out]; rintro e w1 ⟨rfl, rfl⟩)
        go_ret
        exact ⟨rfl, rfl⟩
      · have hh : Sp.has ⟨a, b⟩ x = false := (has_not _ _).2 (fun h => h2 h.2.2)
        rw [hh]
        have HM := Aside0.mk hm
        clear hm hh
        have hd : decide (x < b) = false := decide_eq_false h2
        go_enter Try.func17, Try.ntmps17
        go_wp2_with ((go_at_call 15); (with_reducible refine (rmay_calls _ _ _).mono ?_); rw [HM.out]; rintro e w1 ⟨rfl, rfl⟩)
        go_ret
        exact ⟨rfl, rfl⟩
    · have hh : Sp.has ⟨a, b⟩ x = false := (has_not _ _).2 (fun h => h1 h.2.1)
      rw [hh]
      have HM := Aside0.mk hm
      clear hm hh
      have hd : decide (a ≤ x) = false := decide_eq_false h1
      go_enter Try.func17, Try.ntmps17
      go_wp2_with ((go_at_call 15); (with_reducible refine (rmay_calls _ _ _).mono ?_); rw [HM.out]; rintro e w1 ⟨rfl, rfl⟩)
      go_ret
      exact ⟨rfl, rfl⟩
  · have hh : Sp.has ⟨a, b⟩ x = false := (has_not _ _).2 (fun h => hm h.1)
    rw [hh]
    have hm' : Sp.may ⟨a, b⟩ = false := by simpa using hm
    have HM := Aside0.mk hm'
    clear hm hh hm'
    go_enter Try.func17, Try.ntmps17
    go_wp2_with ((go_at_call 15); (with_reducible refine (rmay_calls _ _ _).mono ?_); rw [HM.out]; rintro e w1 ⟨rfl, rfl⟩)
    go_ret
    exact ⟨rfl, rfl⟩


theorem meetB_iff (a b c d : Int) (h1 : Sp.may ⟨a, b⟩ = true) (h2 : Sp.may ⟨c, d⟩ = true) : meetB ⟨a, b⟩ ⟨c, d⟩ = true ↔ c < b ∧ a < d := by
  rw [may_iff] at h1 h2
  have e : meetB ⟨a, b⟩ ⟨c, d⟩ = (meetV ⟨a, b⟩ ⟨c, d⟩).may := by
    unfold meetB
    rw [(may_iff _).2 h1, (may_iff _).2 h2]
    rfl
  rw [e, may_iff]
  simp only [meetV]
  simp only at h1 h2
  constructor
  · intro h
    split at h <;> split at h <;> omega
  · intro h
    split <;> split <;> omega

set_option maxHeartbeats 1000000 in
theorem rmeet_calls (a b c d : Int) (w : World) : Calls Try.prog 11 #[.agg #[.int .i64 a, .int .i64 b], .agg #[.int .i64 c, .int .i64 d]] w fun e w' => e = .returned (.tuple #[.agg #[.int .i64 (meetR ⟨a, b⟩ ⟨c, d⟩).f, .int .i64 (meetR ⟨a, b⟩ ⟨c, d⟩).t], .bool (meetB ⟨a, b⟩ ⟨c, d⟩)]) ∧ Below w.heap.size w w' := by
  rcases hm1 : Sp.may ⟨a, b⟩ with _ | _
  · have hB : meetB ⟨a, b⟩ ⟨c, d⟩ = false := by simp [meetB, hm1]
    have hR : meetR ⟨a, b⟩ ⟨c, d⟩ = ⟨0, 0⟩ := by simp [meetR, hB]
    rw [hB, hR]
    have HM := Aside0.mk hm1
    clear hm1 hB hR
    go_enter Try.func11, Try.ntmps11
    go_wp2_with fail
    (with_reducible refine (rmay_calls _ _ _).mono ?_)
    rw [HM.out]
    rintro e w1 ⟨rfl, rfl⟩
    go_wp2_with fail
    (with_reducible refine (rmay_calls _ _ _).mono ?_)
    rintro e w1 ⟨rfl, rfl⟩
    go_wp2
    exact bodyPost_ret (v := .tuple #[.agg #[.int .i64 0, .int .i64 0], .bool false]) (by simp [results, Try.results11, go_sem]) rfl ⟨rfl, by repeat (with_reducible first | exact Below.refl _ _ | apply below_alloc)⟩
  · rcases hm2 : Sp.may ⟨c, d⟩ with _ | _
    · have hB : meetB ⟨a, b⟩ ⟨c, d⟩ = false := by simp [meetB, hm2]
      have hR : meetR ⟨a, b⟩ ⟨c, d⟩ = ⟨0, 0⟩ := by simp [meetR, hB]
      rw [hB, hR]
      have HM := Aside0.mk hm1
      have HM2 := Aside0.mk hm2
      clear hm1 hm2 hB hR
      go_enter Try.func11, Try.ntmps11
      go_wp2_with fail
      (with_reducible refine (rmay_calls _ _ _).mono ?_)
      rw [HM.out]
      rintro e w1 ⟨rfl, rfl⟩
      go_wp2_with fail
      (with_reducible refine (rmay_calls _ _ _).mono ?_)
      rw [HM2.out]
      rintro e w1 ⟨rfl, rfl⟩
      go_wp2
      exact bodyPost_ret (v := .tuple #[.agg #[.int .i64 0, .int .i64 0], .bool false]) (by simp [results, Try.results11, go_sem]) rfl ⟨rfl, by repeat (with_reducible first | exact Below.refl _ _ | apply below_alloc)⟩
    · have hi := meetB_iff a b c d hm1 hm2
      have HM := Aside0.mk hm1
      have HM2 := Aside0.mk hm2
      clear hm1 hm2
      by_cases h1 : b ≤ c
      · have hB : meetB ⟨a, b⟩ ⟨c, d⟩ = false := by rw [← Bool.not_eq_true, hi]; omega
        have hR : meetR ⟨a, b⟩ ⟨c, d⟩ = ⟨0, 0⟩ := by simp [meetR, hB]
        rw [hB, hR]
        clear hi hB hR
        go_enter Try.func11, Try.ntmps11
        go_wp2_with fail
        (with_reducible refine (rmay_calls _ _ _).mono ?_)
        rw [HM.out]
        rintro e w1 ⟨rfl, rfl⟩
        go_wp2_with fail
        (with_reducible refine (rmay_calls _ _ _).mono ?_)
        rw [HM2.out]
        rintro e w1 ⟨rfl, rfl⟩
        go_wp2
        exact bodyPost_ret (v := .tuple #[.agg #[.int .i64 0, .int .i64 0], .bool false]) (by simp [results, Try.results11, go_sem]) rfl ⟨rfl, by repeat (with_reducible first | exact Below.refl _ _ | apply below_alloc)⟩
      · by_cases h2 : d ≤ a
        · have hB : meetB ⟨a, b⟩ ⟨c, d⟩ = false := by rw [← Bool.not_eq_true, hi]; omega
          have hR : meetR ⟨a, b⟩ ⟨c, d⟩ = ⟨0, 0⟩ := by simp [meetR, hB]
          rw [hB, hR]
          clear hi hB hR
          go_enter Try.func11, Try.ntmps11
          go_wp2_with fail
          (with_reducible refine (rmay_calls _ _ _).mono ?_)
          rw [HM.out]
          rintro e w1 ⟨rfl, rfl⟩
          go_wp2_with fail
          (with_reducible refine (rmay_calls _ _ _).mono ?_)
          rw [HM2.out]
          rintro e w1 ⟨rfl, rfl⟩
          go_wp2
          exact bodyPost_ret (v := .tuple #[.agg #[.int .i64 0, .int .i64 0], .bool false]) (by simp [results, Try.results11, go_sem]) rfl ⟨rfl, by repeat (with_reducible first | exact Below.refl _ _ | apply below_alloc)⟩
        · have hB : meetB ⟨a, b⟩ ⟨c, d⟩ = true := by rw [hi]; omega
          have hR : meetR ⟨a, b⟩ ⟨c, d⟩ = meetV ⟨a, b⟩ ⟨c, d⟩ := by simp [meetR, hB]
          rw [hB, hR]
          clear hi hB hR
          have hl1 : decide (b ≤ c) = false := decide_eq_false h1
          have hl2 : decide (d ≤ a) = false := decide_eq_false h2
          by_cases h3 : a < c <;> by_cases h4 : d < b
          · have hV : meetV ⟨a, b⟩ ⟨c, d⟩ = ⟨c, d⟩ := by simp [meetV, h3, h4]
            rw [hV]
            clear hV
            go_enter Try.func11, Try.ntmps11
            go_wp2_with fail
            (with_reducible refine (rmay_calls _ _ _).mono ?_)
            rw [HM.out]
            rintro e w1 ⟨rfl, rfl⟩
            go_wp2_with fail
            (with_reducible refine (rmay_calls _ _ _).mono ?_)
            rw [HM2.out]
            rintro e w1 ⟨rfl, rfl⟩
            go_wp2
            exact bodyPost_ret (v := .tuple #[.agg #[.int .i64 c, .int .i64 d], .bool true]) (by simp [results, Try.results11, go_sem]) rfl ⟨rfl, by repeat (with_reducible first | exact Below.refl _ _ | apply below_alloc | (refine below_set ?_ _ _))⟩
          · have hV : meetV ⟨a, b⟩ ⟨c, d⟩ = ⟨c, b⟩ := by simp [meetV, h3, h4]
            rw [hV]
            clear hV
            go_enter Try.func11, Try.ntmps11
            go_wp2_with fail
            (with_reducible refine (rmay_calls _ _ _).mono ?_)
            rw [HM.out]
            rintro e w1 ⟨rfl, rfl⟩
            go_wp2_with fail
            (with_reducible refine (rmay_calls _ _ _).mono ?_)
            rw [HM2.out]
            rintro e w1 ⟨rfl, rfl⟩
            go_wp2
            exact bodyPost_ret (v := .tuple #[.agg #[.int .i64 c, .int .i64 b], .bool true]) (by simp [results, Try.results11, go_sem]) rfl ⟨rfl, by repeat (with_reducible first | exact Below.refl _ _ | apply below_alloc | (refine below_set ?_ _ _))⟩
          · have hV : meetV ⟨a, b⟩ ⟨c, d⟩ = ⟨a, d⟩ := by simp [meetV, h3, h4]
            rw [hV]
            clear hV
            go_enter Try.func11, Try.ntmps11
            go_wp2_with fail
            (with_reducible refine (rmay_calls _ _ _).mono ?_)
            rw [HM.out]
            rintro e w1 ⟨rfl, rfl⟩
            go_wp2_with fail
            (with_reducible refine (rmay_calls _ _ _).mono ?_)
            rw [HM2.out]
            rintro e w1 ⟨rfl, rfl⟩
            go_wp2
            exact bodyPost_ret (v := .tuple #[.agg #[.int .i64 a, .int .i64 d], .bool true]) (by simp [results, Try.results11, go_sem]) rfl ⟨rfl, by repeat (with_reducible first | exact Below.refl _ _ | apply below_alloc | (refine below_set ?_ _ _))⟩
          · have hV : meetV ⟨a, b⟩ ⟨c, d⟩ = ⟨a, b⟩ := by simp [meetV, h3, h4]
            rw [hV]
            clear hV
            go_enter Try.func11, Try.ntmps11
            go_wp2_with fail
            (with_reducible refine (rmay_calls _ _ _).mono ?_)
            rw [HM.out]
            rintro e w1 ⟨rfl, rfl⟩
            go_wp2_with fail
            (with_reducible refine (rmay_calls _ _ _).mono ?_)
            rw [HM2.out]
            rintro e w1 ⟨rfl, rfl⟩
            go_wp2
            exact bodyPost_ret (v := .tuple #[.agg #[.int .i64 a, .int .i64 b], .bool true]) (by simp [results, Try.results11, go_sem]) rfl ⟨rfl, by repeat (with_reducible first | exact Below.refl _ _ | apply below_alloc | (refine below_set ?_ _ _))⟩

end Go.Proofs.Ytloachifhaigjaa.A
