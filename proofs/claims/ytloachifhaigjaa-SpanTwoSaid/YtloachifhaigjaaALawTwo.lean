/- SpanTwo: all told as the document says. -/
import Derived.Test.YtloachifhaigjaaASpanEq
import Derived.Test.YtloachifhaigjaaALaw4
import Derived.Deep.RegionHeld3
namespace Go.Proofs.Ytloachifhaigjaa.A
open Go.RowKit Go.Proofs.YtloachifhaigjaaW.PrintWords Go.Proofs.YtloachifhaigjaaW.PrintLast Go.Proofs.YtloachifhaigjaaW.PrintMore
set_option linter.unusedVariables false
set_option linter.unusedSimpArgs false

theorem may_below (a b : Int) (w : World) : Calls Try.prog 14 #[.agg #[.int .i64 a, .int .i64 b]] w fun e w' => e = .returned (.bool (Sp.may ⟨a, b⟩)) ∧ Below w.heap.size w w' := by
  refine (may_calls a b w).mono ?_
  rintro e w' ⟨rfl, rfl⟩
  exact ⟨rfl, below_alloc (Below.refl _ _) _⟩
theorem rmay_below (a b : Int) (w : World) : Calls Try.prog 15 #[.agg #[.int .i64 a, .int .i64 b]] w fun e w' => e = .returned (.bool (Sp.may ⟨a, b⟩)) ∧ Below w.heap.size w w' := by
  refine (rmay_calls a b w).mono ?_
  rintro e w' ⟨rfl, rfl⟩
  exact ⟨rfl, below_alloc (Below.refl _ _) _⟩
theorem has_below (a b x : Int) (w : World) : Calls Try.prog 16 #[.agg #[.int .i64 a, .int .i64 b], .int .i64 x] w fun e w' => e = .returned (.bool (Sp.has ⟨a, b⟩ x)) ∧ Below w.heap.size w w' := by
  refine (has_calls a b x w).mono ?_
  rintro e w' ⟨rfl, rfl⟩
  exact ⟨rfl, below_alloc (below_alloc (Below.refl _ _) _) _⟩
theorem minus_le (a b : Sp) : (minusL a b).length ≤ 2 := by
  unfold minusL
  split
  · split
    · exact Nat.le_trans (List.length_filter_le _ _) (by simp [twoOf])
    · simp
  · simp

set_option maxRecDepth 100000 in
set_option maxHeartbeats 3200000 in
theorem two_calls (w : World) (c0 : Array Value) (y0 : Sp) (h0 : KSp.K w y0 (Value.agg c0).cells.toList) (_g0 : True) (c1 : Array Value) (y1 : Sp) (h1 : KSp.K w y1 (Value.agg c1).cells.toList) (_g1 : True) (t : Int) (_g2 : IntKind.i64.min ≤ t ∧ t ≤ IntKind.i64.max) :
    Calls Try.prog 3 #[.agg c0, .agg c1, .int .i64 t] w fun e w' => e = .returned (.bool true) ∧ Below w.heap.size w w' := by
  obtain rfl := span_agg h0
  obtain rfl := span_agg h1
  clear h0 h1 _g0 _g1 _g2
  obtain ⟨a, b⟩ := y0
  obtain ⟨c, d⟩ := y1
  have hq := eqA23
  have HB := Aside0.mk (Below.refl w.heap.size w)
  have HEQ := Aside0.mk (rminus_eq a b c d)
  have hLn := minus_le ⟨a, b⟩ ⟨c, d⟩
  obtain ⟨L, hL⟩ : ∃ L, minusL ⟨a, b⟩ ⟨c, d⟩ = L := ⟨_, rfl⟩
  rw [hL] at hLn
  obtain ⟨n, hn⟩ : ∃ n, L.length = n := ⟨_, rfl⟩
  rw [hn] at hLn
  obtain ⟨⟨p, q⟩, hR⟩ : ∃ m, meetR ⟨a, b⟩ ⟨c, d⟩ = m := ⟨_, rfl⟩
  obtain ⟨mb, hM⟩ : ∃ m, meetB ⟨a, b⟩ ⟨c, d⟩ = m := ⟨_, rfl⟩
  have HL := Aside0.mk hL
  have HN := Aside0.mk hn
  have HMR := Aside0.mk hR
  have HM := Aside0.mk hM
  clear hL hn hR hM
  go_enter Try.func3, Try.ntmps3
  go_wp2_with fail
  (with_reducible refine (meet_calls _ _ _ _ _).mono ?_)
  rw [HM.out, HMR.out]
  rintro e w1 ⟨rfl, hb⟩
  obtain ⟨hc1, hf1⟩ := bcell hb
  have hz1 : w.heap.size + 1 < w1.heap.size := by have := hb.size; simp at this; omega
  have hz0 : w.heap.size < w1.heap.size := by omega
  have HB1 := Aside0.mk (below_step (w := w) (by repeat (with_reducible first | exact HB.out | apply below_alloc)) hb)
  clear hb HB
  go_wp2_with fail
  (with_reducible refine (rmeet_calls _ _ _ _ _).mono ?_)
  rw [HM.out, HMR.out]
  rintro e w2 ⟨rfl, hb⟩
  obtain ⟨hc2, hf2⟩ := bcell hb
  have hy1 : w1.heap.size < w2.heap.size := by have := hb.size; simp at this; omega
  have hy2 : w.heap.size + 1 < w2.heap.size := by omega
  have hy3 : w.heap.size < w2.heap.size := by omega
  have HB2 := Aside0.mk (below_step (w := w) (by repeat (with_reducible first | exact HB1.out | apply below_alloc)) hb)
  clear hb HB1
  go_wp2_with fail
  (with_reducible refine (minus_calls _ _ _ _ _).mono ?_)
  rw [HL.out]
  rintro e w3 ⟨v3, rfl, HO3, hb⟩
  obtain ⟨hc3, hf3⟩ := bcell hb
  have hx0 : w2.heap.size < w3.heap.size := by have := hb.size; simp at this; omega
  have hx1 : w1.heap.size < w3.heap.size := by omega
  have hx2 : w.heap.size + 1 < w3.heap.size := by omega
  have hx3 : w.heap.size < w3.heap.size := by omega
  have k0 : w3.cell? ⟨w.heap.size, 0, none⟩ = some (.int .i64 a) := by rw [hc3 _ _ (by simp <;> omega)]; go_simp
  have k1 : w3.cell? ⟨w.heap.size, 1, none⟩ = some (.int .i64 b) := by rw [hc3 _ _ (by simp <;> omega)]; go_simp
  have k2 : w3.cell? ⟨w1.heap.size, 0, none⟩ = some (.int .i64 p) := by rw [hc3 _ _ (by simp <;> omega)]; go_simp
  have k3 : w3.cell? ⟨w1.heap.size, 1, none⟩ = some (.int .i64 q) := by rw [hc3 _ _ (by simp <;> omega)]; go_simp
  have k4 : w3.cell? ⟨w2.heap.size, 0, none⟩ = some (.int .i64 p) := by rw [hc3 _ _ (by simp <;> omega)]; go_simp
  have k5 : w3.cell? ⟨w2.heap.size, 1, none⟩ = some (.int .i64 q) := by rw [hc3 _ _ (by simp <;> omega)]; go_simp
  have k6 : w3.cell? ⟨w.heap.size + 1, 0, none⟩ = some (.int .i64 c) := by rw [hc3 _ _ (by simp <;> omega)]; go_simp
  have k7 : w3.cell? ⟨w.heap.size + 1, 1, none⟩ = some (.int .i64 d) := by rw [hc3 _ _ (by simp <;> omega)]; go_simp
  have HB3 := Aside0.mk (below_step (w := w) (by repeat (with_reducible first | exact HB2.out | apply below_alloc)) hb)
  have HO3' := Aside0.mk HO3
  clear hc3 hf3 hc2 hf2 hc1 hf1 hb HB2 HO3
  go_wp2_with fail
  (with_reducible refine (rminus_calls _ _ _ _ _).mono ?_)
  rw [HEQ.out, HL.out]
  rintro e w4 ⟨v4, rfl, HO4, hb⟩
  have P0 := Aside0.mk (pw_cell_below hb k0)
  have P1 := Aside0.mk (pw_cell_below hb k1)
  have P2 := Aside0.mk (pw_cell_below hb k2)
  have P3 := Aside0.mk (pw_cell_below hb k3)
  have P4 := Aside0.mk (pw_cell_below hb k4)
  have P5 := Aside0.mk (pw_cell_below hb k5)
  have HB4 := Aside0.mk (below_step HB3.out hb)
  have HX := Aside0.mk (Kd.R_below HO3'.out hb)
  have HY := Aside0.mk HO4
  clear k0 k1 k2 k3 k4 k5 k6 k7 HO3' HO4 hb HB3
  obtain ⟨A3, c3, rfl⟩ := Kd.R_slice HX.out
  obtain ⟨A4, c4, rfl⟩ := Kd.R_slice HY.out
  rw [HN.out] at HX HY ⊢
  go_wp2
  go_loopw [13] (fun v13 w' => ∃ k : Nat, k ≤ n ∧ v13 = .int .i64 k ∧ Aside0 (Below w4.heap.size w4 w')) (fun v13 _ => n - (intOf v13).toNat)
  case atStart => exact ⟨0, Nat.zero_le _, rfl, ⟨Below.refl _ _⟩⟩
  case round =>
    obtain ⟨k, hk, rfl, HR⟩ := hrel
    by_cases hlt : k < n
    · obtain ⟨g3, cap3, e3, hg3, hgl3, _⟩ := Kd.R_form HX.out (by rw [HN.out]; omega)
      obtain ⟨g4, cap4, e4, hg4, hgl4, _⟩ := Kd.R_form HY.out (by rw [HN.out]; omega)
      injection e3 with e3 _ e3'
      injection e4 with e4 _ e4'
      subst e3 e3' e4 e4'
      obtain ⟨x0, x1⟩ := OSp_cell HX.out k (by rw [HN.out]; omega)
      obtain ⟨z0, z1⟩ := OSp_cell HY.out k (by rw [HN.out]; omega)
      generalize L.getD k ⟨0, 0⟩ = s at *
      obtain ⟨sf, st⟩ := s
      simp only at x0 x1 z0 z1
      have x0' := pw_cell_below HR.out x0
      have x1' := pw_cell_below HR.out x1
      have z0' := pw_cell_below HR.out z0
      have z1' := pw_cell_below HR.out z1
      clear x0 x1 z0 z1
      have i1 : (k : Int) < (n : Int) := by omega
      have i3 : (0 : Int) ≤ (k : Int) := by omega
      go_wp2_with fail
      go_quiet (fail)
      go_wp2
      go_roundw
      case rel => exact ⟨k + 1, by omega, by go_num, ⟨by repeat (with_reducible first | exact HR.out | apply below_alloc | apply pw_below_drewN | apply below_drew1)⟩⟩
      case measure => simp [intOf]; omega
    · obtain rfl : n = k := by omega
      have q0 := pw_cell_below HR.out P0.out
      have q1 := pw_cell_below HR.out P1.out
      have q2 := pw_cell_below HR.out P2.out
      have q3 := pw_cell_below HR.out P3.out
      have q4 := pw_cell_below HR.out P4.out
      have q5 := pw_cell_below HR.out P5.out
      go_wp2_with fail
      have HS := below_drew1 HR.out
      go_region_held3 (fun w' => w'.cell? ⟨w.heap.size, 0, none⟩ = some (.int .i64 a) ∧ w'.cell? ⟨w.heap.size, 1, none⟩ = some (.int .i64 b) ∧ w'.cell? ⟨w1.heap.size, 0, none⟩ = some (.int .i64 p) ∧ w'.cell? ⟨w1.heap.size, 1, none⟩ = some (.int .i64 q) ∧ w'.cell? ⟨w2.heap.size, 0, none⟩ = some (.int .i64 p) ∧ w'.cell? ⟨w2.heap.size, 1, none⟩ = some (.int .i64 q) ∧ Below w4.heap.size w4 w')
        (first
          | go_keep
          | (go_split_ands
             refine ⟨?_, ?_, ?_, ?_, ?_, ?_, ?_⟩ <;> first | exact pw_cell_below hb (by assumption) | exact below_step (by assumption) hb))
        (first | ((go_at_call 14); (with_reducible refine (may_below a b _).mono ?_); rintro e w9 ⟨rfl, hb⟩) | ((go_at_call 15); (with_reducible refine (rmay_below a b _).mono ?_); rintro e w9 ⟨rfl, hb⟩) | ((go_at_call 16); (with_reducible refine (has_below a b t _).mono ?_); rintro e w9 ⟨rfl, hb⟩) | ((go_at_call 17); (with_reducible refine (rhas_below a b t _).mono ?_); rintro e w9 ⟨rfl, hb⟩) | ((go_at_call 18); (with_reducible refine (lives_calls _).mono ?_); rintro e w9 ⟨rfl, hb⟩))
      all_goals go_wp2
      all_goals go_ret
      all_goals exact ⟨by first | rfl | kernel_rfl | (go_simp; done), by first | exact below_step HB4.out (by assumption) | (go_split_ands; exact below_step HB4.out (by assumption))⟩

end Go.Proofs.Ytloachifhaigjaa.A
