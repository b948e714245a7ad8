/- SpanTimes: a time lies in what two have in common just if it lies in both, and in what is left just if it lies in the one alone. -/
import Derived.Test.YtloachifhaigjaaALaw4
import Derived.Deep.RegionWith
namespace Go.Proofs.Ytloachifhaigjaa.A
open Go.RowKit Go.Proofs.YtloachifhaigjaaW.PrintWords Go.Proofs.YtloachifhaigjaaW.PrintLast Go.Proofs.YtloachifhaigjaaW.PrintMore
set_option linter.unusedVariables false
set_option linter.unusedSimpArgs false

theorem meet_has (a b : Sp) (x : Int) : (meetB a b && (meetR a b).has x) = (a.has x && b.has x) := by
  rw [Bool.eq_iff_iff]
  simp only [Bool.and_eq_true, has_iff]
  constructor
  · rintro ⟨h, _, h1, h2⟩
    obtain ⟨ha, hb, hm⟩ := meetB_may h
    have hr : meetR a b = meetV a b := by simp [meetR, h]
    rw [hr] at h1 h2
    obtain ⟨l1, l2, l3, l4⟩ := meet_le a b
    exact ⟨⟨ha, by omega, by omega⟩, hb, by omega, by omega⟩
  · rintro ⟨⟨ha, h1, h2⟩, hb, h3, h4⟩
    have ha' := (may_iff _).1 ha
    have hb' := (may_iff _).1 hb
    have e1 : (meetV a b).f ≤ x ∧ x < (meetV a b).t := by
      simp only [meetV]
      constructor <;> split <;> omega
    have hm : (meetV a b).may = true := by
      refine (may_iff _).2 ⟨?_, by omega, ?_⟩
      · simp only [meetV]; split <;> omega
      · simp only [meetV]; split <;> omega
    have h : meetB a b = true := by unfold meetB; rw [ha, hb, hm]; rfl
    have hr : meetR a b = meetV a b := by simp [meetR, h]
    rw [hr]
    exact ⟨h, hm, e1⟩
/-- How many of spans have a time. -/
def manyL (l : List Sp) (x : Int) : Nat := (l.filter fun s => s.has x).length
theorem minus_many (a b : Sp) (x : Int) : manyL (minusL a b) x = if a.has x && !b.has x then 1 else 0 := by
  unfold minusL
  by_cases ha : a.may = true
  · rw [if_pos ha]
    by_cases hm : meetB a b = true
    · rw [if_pos hm]
      obtain ⟨_, hb, hmm⟩ := meetB_may hm
      obtain ⟨l1, l2, l3, l4⟩ := meet_le a b
      have ha' := (may_iff _).1 ha
      have hb' := (may_iff _).1 hb
      have hm' := (may_iff _).1 hmm
      have hv : (meetV a b).f = a.f ∨ (meetV a b).f = b.f := by simp only [meetV]; split <;> simp
      have hv2 : (meetV a b).t = a.t ∨ (meetV a b).t = b.t := by simp only [meetV]; split <;> simp
      generalize meetV a b = m at *
      have f1 : manyL ((twoOf a m).filter Sp.may) x = (if Sp.has ⟨a.f, m.f⟩ x then 1 else 0) + (if Sp.has ⟨m.t, a.t⟩ x then 1 else 0) := by
        unfold manyL
        rw [List.filter_filter]
        have e : ∀ s : Sp, (Sp.has s x && s.may) = s.has x := by
          intro s
          rw [Bool.eq_iff_iff]
          simp only [Bool.and_eq_true, has_iff]
          exact ⟨fun h => h.1, fun h => ⟨h, h.1⟩⟩
        simp only [e, twoOf, List.filter_cons, List.filter_nil]
        cases Sp.has ⟨a.f, m.f⟩ x <;> cases Sp.has ⟨m.t, a.t⟩ x <;> rfl
      rw [f1]
      by_cases h1 : Sp.has ⟨a.f, m.f⟩ x = true
      · have h1' := (has_iff _ _).1 h1
        simp only at h1'
        have h2 : Sp.has ⟨m.t, a.t⟩ x = false := (has_not _ _).2 (fun h => by have := h.2.1; simp only at this; omega)
        have h3 : a.has x = true := (has_iff _ _).2 ⟨ha, by omega, by omega⟩
        have h4 : b.has x = false := (has_not _ _).2 (fun h => by have := h.2.1; omega)
        simp [h1, h2, h3, h4]
      · by_cases h2 : Sp.has ⟨m.t, a.t⟩ x = true
        · have h2' := (has_iff _ _).1 h2
          simp only at h2'
          have h3 : a.has x = true := (has_iff _ _).2 ⟨ha, by omega, by omega⟩
          have h4 : b.has x = false := (has_not _ _).2 (fun h => by have := h.2.2; omega)
          simp [h1, h2, h3, h4]
        · have h1'' := (has_not _ _).1 (by simpa using h1)
          have h2'' := (has_not _ _).1 (by simpa using h2)
          rw [may_iff] at h1'' h2''
          simp only at h1'' h2''
          have h5 : (a.has x && !b.has x) = false := by
            rw [Bool.eq_false_iff]
            intro h
            simp only [Bool.and_eq_true, Bool.not_eq_true', has_iff, has_not] at h
            obtain ⟨⟨_, g1, g2⟩, g3⟩ := h
            apply g3
            refine ⟨hb, ?_, ?_⟩
            · by_cases q : x < m.f
              · exact absurd ⟨⟨ha'.1, by omega, by omega⟩, g1, q⟩ h1''
              · omega
            · by_cases q : m.t ≤ x
              · exact absurd ⟨⟨by omega, by omega, by omega⟩, q, g2⟩ h2''
              · omega
          simp [h1, h2, h5]
    · rw [if_neg hm]
      have hn : (a.has x && b.has x) = false := by
        rw [← meet_has]
        simp [hm]
      unfold manyL
      cases h1 : a.has x with
      | true =>
        rw [h1] at hn
        have h2 : b.has x = false := by simpa using hn
        simp [h1, h2]
      | false => simp [h1]
  · rw [if_neg ha]
    have h1 : a.has x = false := (has_not _ _).2 (fun h => ha h.1)
    simp [manyL, h1]

theorem many_succ (l : List Sp) (x : Int) (k : Nat) (h : k < l.length) : manyL (l.take (k + 1)) x = manyL (l.take k) x + if (l.getD k ⟨0, 0⟩).has x then 1 else 0 := by
  unfold manyL
  rw [List.take_succ_eq_append_getElem h, List.filter_append, List.length_append]
  have e : l.getD k ⟨0, 0⟩ = l[k] := by simp [List.getD_eq_getElem?_getD, h]
  rw [e]
  cases h2 : l[k].has x <;> simp [List.filter_cons, h2]
theorem many_le (l : List Sp) (x : Int) : manyL l x ≤ l.length := List.length_filter_le _ _
theorem minus_len (a b : Sp) : (minusL a b).length ≤ 2 := by
  unfold minusL
  split
  · split
    · exact Nat.le_trans (List.length_filter_le _ _) (by simp [twoOf])
    · simp
  · simp

set_option maxHeartbeats 4000000 in
theorem times_ff (w : World) (a b c d t : Int) (hal : Sp.has ⟨a, b⟩ t = false) (hmu : meetB ⟨a, b⟩ ⟨c, d⟩ = false) :
    Calls Try.prog 4 #[.agg #[.int .i64 a, .int .i64 b], .agg #[.int .i64 c, .int .i64 d], .int .i64 t] w fun e w' => e = .returned (.bool true) ∧ Below w.heap.size w w' := by
  have HB := Aside0.mk (Below.refl w.heap.size w)
  have HAL := Aside0.mk hal
  have HMU := Aside0.mk hmu
  clear hal hmu
  go_enter Try.func4, Try.ntmps4
  go_wp2_with fail
  (with_reducible refine (meet_calls _ _ _ _ _).mono ?_)
  rw [HMU.out]
  rintro e w1 ⟨rfl, hb⟩
  obtain ⟨hc, hf⟩ := bcell hb
  have hz1 : w.heap.size + 1 < w1.heap.size := by have := hb.size; simp at this; omega
  have hz0 : w.heap.size < w1.heap.size := by omega
  have z00a : w.heap.size < w1.heap.size := by omega
  have z01a : w.heap.size < w1.heap.size + 1 := by omega
  have z02a : w.heap.size < w1.heap.size + 1 + 1 := by omega
  have z03a : w.heap.size < w1.heap.size + 1 + 1 + 1 := by omega
  have z04a : w.heap.size < w1.heap.size + 1 + 1 + 1 + 1 := by omega
  have z05a : w.heap.size < w1.heap.size + 1 + 1 + 1 + 1 + 1 := by omega
  have z10a : w.heap.size + 1 < w1.heap.size := by omega
  have z11a : w.heap.size + 1 < w1.heap.size + 1 := by omega
  have z12a : w.heap.size + 1 < w1.heap.size + 1 + 1 := by omega
  have z13a : w.heap.size + 1 < w1.heap.size + 1 + 1 + 1 := by omega
  have z14a : w.heap.size + 1 < w1.heap.size + 1 + 1 + 1 + 1 := by omega
  have z15a : w.heap.size + 1 < w1.heap.size + 1 + 1 + 1 + 1 + 1 := by omega
  have HB1 := Aside0.mk (below_step (w := w) (by repeat (with_reducible first | exact HB.out | apply below_alloc)) hb)
  have p0 : w1.cell? ⟨w.heap.size, 0, none⟩ = some (.int .i64 a) := by rw [hc _ _ (by simp <;> omega)]; go_simp
  have p1 : w1.cell? ⟨w.heap.size, 1, none⟩ = some (.int .i64 b) := by rw [hc _ _ (by simp <;> omega)]; go_simp
  have p2 : w1.cell? ⟨w.heap.size + 1, 0, none⟩ = some (.int .i64 c) := by rw [hc _ _ (by simp <;> omega)]; go_simp
  have p3 : w1.cell? ⟨w.heap.size + 1, 1, none⟩ = some (.int .i64 d) := by rw [hc _ _ (by simp <;> omega)]; go_simp
  clear hc hf
  clear hb HB
  go_wp2_with fail
  (with_reducible refine (has_calls _ _ _ _).mono ?_)
  rw [HAL.out]
  rintro e w9 ⟨rfl, rfl⟩
  go_wp2_with fail
  (with_reducible refine (minus_calls _ _ _ _ _).mono ?_)
  rintro e w2 ⟨v2, rfl, HO, hb⟩
  have hlen := minus_len ⟨a, b⟩ ⟨c, d⟩
  have MAN := Aside0.mk (minus_many ⟨a, b⟩ ⟨c, d⟩ t)
  generalize minusL ⟨a, b⟩ ⟨c, d⟩ = L at *
  obtain ⟨hc2, hf2⟩ := bcell hb
  have q0 : w2.cell? ⟨w.heap.size, 0, none⟩ = some (.int .i64 a) := (hc2 _ _ (by simp; omega)).trans ((Below.cell (w := w1) (by repeat (with_reducible first | exact Below.refl _ _ | apply below_alloc)) hz0).trans p0)
  have q1 : w2.cell? ⟨w.heap.size, 1, none⟩ = some (.int .i64 b) := (hc2 _ _ (by simp; omega)).trans ((Below.cell (w := w1) (by repeat (with_reducible first | exact Below.refl _ _ | apply below_alloc)) hz0).trans p1)
  have q2 : w2.cell? ⟨w.heap.size + 1, 0, none⟩ = some (.int .i64 c) := (hc2 _ _ (by simp; omega)).trans ((Below.cell (w := w1) (by repeat (with_reducible first | exact Below.refl _ _ | apply below_alloc)) hz1).trans p2)
  have q3 : w2.cell? ⟨w.heap.size + 1, 1, none⟩ = some (.int .i64 d) := (hc2 _ _ (by simp; omega)).trans ((Below.cell (w := w1) (by repeat (with_reducible first | exact Below.refl _ _ | apply below_alloc)) hz1).trans p3)
  have hs0 : w.heap.size + 1 < w2.heap.size := by have := hb.size; simp at this; omega
  have HB2 := Aside0.mk (below_step (w := w) (by repeat (with_reducible first | exact HB1.out | apply below_alloc)) hb)
  have HO2 := Aside0.mk (Kd.R_lower HO (Nat.le_refl _))
  clear hc2 hf2 hb HB1 HO p0 p1 p2 p3
  obtain ⟨A2, cp, rfl⟩ := Kd.R_slice HO2.out
  go_wp2
  go_loopw [11, 12] (fun v11 v12 w' => ∃ k : Nat, k ≤ L.length ∧ v12 = .int .i64 k ∧ v11 = .int .i64 (manyL (L.take k) t) ∧ Aside0 (Below w2.heap.size w2 w')) (fun _ v12 _ => L.length - (intOf v12).toNat)
  case atStart => exact ⟨0, Nat.zero_le _, rfl, by simp [manyL], ⟨Below.refl _ _⟩⟩
  case round =>
    obtain ⟨k, hk, rfl, rfl, HBR⟩ := hrel
    by_cases hlt : k < L.length
    · obtain ⟨g, cap, e1, hg, hgl, _⟩ := Kd.R_form HO2.out (by omega)
      injection e1 with e1 _ e3
      subst e1 e3
      obtain ⟨k0, k1⟩ := OSp_cell HO2.out k hlt
      have k0' := pw_cell_below HBR.out k0
      have k1' := pw_cell_below HBR.out k1
      have hms := many_succ L t k hlt
      have hml := many_le (L.take k) t
      have hkl : (L.take k).length ≤ 2 := by rw [List.length_take]; omega
      obtain ⟨⟨x, y⟩, hxy⟩ : ∃ s, L.getD k ⟨0, 0⟩ = s := ⟨_, rfl⟩
      rw [hxy] at k0' k1' hms
      simp only at k0' k1'
      have hmi : (manyL (L.take k) t : Int) ≤ 2 := by omega
      generalize manyL (L.take k) t = mk at *
      have HMS := Aside0.mk hms
      clear k0 k1 hms hxy hml hkl
      rcases hh : Sp.has ⟨x, y⟩ t with _ | _
      · have HH := Aside0.mk hh
        clear hh
        go_wp2_with fail
        (with_reducible refine (has_calls _ _ _ _).mono ?_)
        rw [HH.out]
        rintro e w9 ⟨rfl, rfl⟩
        go_wp2
        go_roundw
        case rel =>
          refine ⟨k + 1, by omega, by go_num, ?_, ⟨by repeat (with_reducible first | exact HBR.out | apply below_alloc)⟩⟩
          rw [HMS.out, HH.out]
          simp
        case measure => simp [intOf]; omega
      · have HH := Aside0.mk hh
        clear hh
        go_wp2_with fail
        (with_reducible refine (has_calls _ _ _ _).mono ?_)
        rw [HH.out]
        rintro e w9 ⟨rfl, rfl⟩
        go_wp2
        go_roundw
        case rel =>
          refine ⟨k + 1, by omega, by go_num, ?_, ⟨by repeat (with_reducible first | exact HBR.out | apply below_alloc)⟩⟩
          rw [HMS.out, HH.out]
          simp
        case measure => simp [intOf]; omega
    · obtain rfl : k = L.length := by omega
      have e0 : manyL (L.take L.length) t = 0 := by rw [List.take_length, MAN.out, HAL.out]; rfl
      rw [e0]
      obtain ⟨hc3, hf3⟩ := bcell HBR.out
      have r0 : wr.cell? ⟨w.heap.size, 0, none⟩ = some (.int .i64 a) := by rw [hc3 _ _ (by omega)]; exact q0
      have r1 : wr.cell? ⟨w.heap.size, 1, none⟩ = some (.int .i64 b) := by rw [hc3 _ _ (by omega)]; exact q1
      have r2 : wr.cell? ⟨w.heap.size + 1, 0, none⟩ = some (.int .i64 c) := by rw [hc3 _ _ (by omega)]; exact q2
      have r3 : wr.cell? ⟨w.heap.size + 1, 1, none⟩ = some (.int .i64 d) := by rw [hc3 _ _ (by omega)]; exact q3
      have hs1 : w.heap.size + 1 < wr.heap.size := by have := HBR.out.size; omega
      have hs2 : w.heap.size < wr.heap.size := by omega
      have z00c : w.heap.size < wr.heap.size := by omega
      have z01c : w.heap.size < wr.heap.size + 1 := by omega
      have z02c : w.heap.size < wr.heap.size + 1 + 1 := by omega
      have z03c : w.heap.size < wr.heap.size + 1 + 1 + 1 := by omega
      have z04c : w.heap.size < wr.heap.size + 1 + 1 + 1 + 1 := by omega
      have z05c : w.heap.size < wr.heap.size + 1 + 1 + 1 + 1 + 1 := by omega
      have z10c : w.heap.size + 1 < wr.heap.size := by omega
      have z11c : w.heap.size + 1 < wr.heap.size + 1 := by omega
      have z12c : w.heap.size + 1 < wr.heap.size + 1 + 1 := by omega
      have z13c : w.heap.size + 1 < wr.heap.size + 1 + 1 + 1 := by omega
      have z14c : w.heap.size + 1 < wr.heap.size + 1 + 1 + 1 + 1 := by omega
      have z15c : w.heap.size + 1 < wr.heap.size + 1 + 1 + 1 + 1 + 1 := by omega
      have HB3 := Aside0.mk (below_step HB2.out HBR.out)
      clear hc3 hf3 q0 q1 q2 q3 HB2 HBR e0
      go_wp2_with fail
      (with_reducible refine (has_calls _ _ _ _).mono ?_)
      rw [HAL.out]
      rintro e w9 ⟨rfl, rfl⟩
      go_wp2_with ((go_at_call 18); (with_reducible refine (lives_calls _).mono ?_); rintro e w8 ⟨rfl, hb⟩)
      go_ret
      exact ⟨rfl, below_step (by repeat (with_reducible first | exact HB3.out | apply below_alloc)) hb⟩
set_option maxHeartbeats 4000000 in
theorem times_ft (w : World) (a b c d t : Int) (hal : Sp.has ⟨a, b⟩ t = false) (hmu : meetB ⟨a, b⟩ ⟨c, d⟩ = true) (hga : Sp.has ⟨(meetR ⟨a, b⟩ ⟨c, d⟩).f, (meetR ⟨a, b⟩ ⟨c, d⟩).t⟩ t = false) :
    Calls Try.prog 4 #[.agg #[.int .i64 a, .int .i64 b], .agg #[.int .i64 c, .int .i64 d], .int .i64 t] w fun e w' => e = .returned (.bool true) ∧ Below w.heap.size w w' := by
  have HB := Aside0.mk (Below.refl w.heap.size w)
  have HAL := Aside0.mk hal
  have HMU := Aside0.mk hmu
  have HGA := Aside0.mk hga
  clear hal hmu hga
  go_enter Try.func4, Try.ntmps4
  go_wp2_with fail
  (with_reducible refine (meet_calls _ _ _ _ _).mono ?_)
  rw [HMU.out]
  rintro e w1 ⟨rfl, hb⟩
  obtain ⟨hc, hf⟩ := bcell hb
  have hz1 : w.heap.size + 1 < w1.heap.size := by have := hb.size; simp at this; omega
  have hz0 : w.heap.size < w1.heap.size := by omega
  have z00a : w.heap.size < w1.heap.size := by omega
  have z01a : w.heap.size < w1.heap.size + 1 := by omega
  have z02a : w.heap.size < w1.heap.size + 1 + 1 := by omega
  have z03a : w.heap.size < w1.heap.size + 1 + 1 + 1 := by omega
  have z04a : w.heap.size < w1.heap.size + 1 + 1 + 1 + 1 := by omega
  have z05a : w.heap.size < w1.heap.size + 1 + 1 + 1 + 1 + 1 := by omega
  have z10a : w.heap.size + 1 < w1.heap.size := by omega
  have z11a : w.heap.size + 1 < w1.heap.size + 1 := by omega
  have z12a : w.heap.size + 1 < w1.heap.size + 1 + 1 := by omega
  have z13a : w.heap.size + 1 < w1.heap.size + 1 + 1 + 1 := by omega
  have z14a : w.heap.size + 1 < w1.heap.size + 1 + 1 + 1 + 1 := by omega
  have z15a : w.heap.size + 1 < w1.heap.size + 1 + 1 + 1 + 1 + 1 := by omega
  have HB1 := Aside0.mk (below_step (w := w) (by repeat (with_reducible first | exact HB.out | apply below_alloc)) hb)
  have p0 : w1.cell? ⟨w.heap.size, 0, none⟩ = some (.int .i64 a) := by rw [hc _ _ (by simp <;> omega)]; go_simp
  have p1 : w1.cell? ⟨w.heap.size, 1, none⟩ = some (.int .i64 b) := by rw [hc _ _ (by simp <;> omega)]; go_simp
  have p2 : w1.cell? ⟨w.heap.size + 1, 0, none⟩ = some (.int .i64 c) := by rw [hc _ _ (by simp <;> omega)]; go_simp
  have p3 : w1.cell? ⟨w.heap.size + 1, 1, none⟩ = some (.int .i64 d) := by rw [hc _ _ (by simp <;> omega)]; go_simp
  clear hc hf
  clear hb HB
  go_wp2_with fail
  (with_reducible refine (has_calls _ _ _ _).mono ?_)
  rw [HAL.out]
  rintro e w9 ⟨rfl, rfl⟩
  go_wp2_with fail
  (with_reducible refine (has_calls _ _ _ _).mono ?_)
  rw [HGA.out]
  rintro e w9 ⟨rfl, rfl⟩
  go_wp2_with fail
  (with_reducible refine (minus_calls _ _ _ _ _).mono ?_)
  rintro e w2 ⟨v2, rfl, HO, hb⟩
  have hlen := minus_len ⟨a, b⟩ ⟨c, d⟩
  have MAN := Aside0.mk (minus_many ⟨a, b⟩ ⟨c, d⟩ t)
  generalize minusL ⟨a, b⟩ ⟨c, d⟩ = L at *
  obtain ⟨hc2, hf2⟩ := bcell hb
  have q0 : w2.cell? ⟨w.heap.size, 0, none⟩ = some (.int .i64 a) := (hc2 _ _ (by simp; omega)).trans ((Below.cell (w := w1) (by repeat (with_reducible first | exact Below.refl _ _ | apply below_alloc)) hz0).trans p0)
  have q1 : w2.cell? ⟨w.heap.size, 1, none⟩ = some (.int .i64 b) := (hc2 _ _ (by simp; omega)).trans ((Below.cell (w := w1) (by repeat (with_reducible first | exact Below.refl _ _ | apply below_alloc)) hz0).trans p1)
  have q2 : w2.cell? ⟨w.heap.size + 1, 0, none⟩ = some (.int .i64 c) := (hc2 _ _ (by simp; omega)).trans ((Below.cell (w := w1) (by repeat (with_reducible first | exact Below.refl _ _ | apply below_alloc)) hz1).trans p2)
  have q3 : w2.cell? ⟨w.heap.size + 1, 1, none⟩ = some (.int .i64 d) := (hc2 _ _ (by simp; omega)).trans ((Below.cell (w := w1) (by repeat (with_reducible first | exact Below.refl _ _ | apply below_alloc)) hz1).trans p3)
  have hs0 : w.heap.size + 1 < w2.heap.size := by have := hb.size; simp at this; omega
  have HB2 := Aside0.mk (below_step (w := w) (by repeat (with_reducible first | exact HB1.out | apply below_alloc)) hb)
  have HO2 := Aside0.mk (Kd.R_lower HO (Nat.le_refl _))
  clear hc2 hf2 hb HB1 HO p0 p1 p2 p3
  obtain ⟨A2, cp, rfl⟩ := Kd.R_slice HO2.out
  go_wp2
  go_loopw [11, 12] (fun v11 v12 w' => ∃ k : Nat, k ≤ L.length ∧ v12 = .int .i64 k ∧ v11 = .int .i64 (manyL (L.take k) t) ∧ Aside0 (Below w2.heap.size w2 w')) (fun _ v12 _ => L.length - (intOf v12).toNat)
  case atStart => exact ⟨0, Nat.zero_le _, rfl, by simp [manyL], ⟨Below.refl _ _⟩⟩
  case round =>
    obtain ⟨k, hk, rfl, rfl, HBR⟩ := hrel
    by_cases hlt : k < L.length
    · obtain ⟨g, cap, e1, hg, hgl, _⟩ := Kd.R_form HO2.out (by omega)
      injection e1 with e1 _ e3
      subst e1 e3
      obtain ⟨k0, k1⟩ := OSp_cell HO2.out k hlt
      have k0' := pw_cell_below HBR.out k0
      have k1' := pw_cell_below HBR.out k1
      have hms := many_succ L t k hlt
      have hml := many_le (L.take k) t
      have hkl : (L.take k).length ≤ 2 := by rw [List.length_take]; omega
      obtain ⟨⟨x, y⟩, hxy⟩ : ∃ s, L.getD k ⟨0, 0⟩ = s := ⟨_, rfl⟩
      rw [hxy] at k0' k1' hms
      simp only at k0' k1'
      have hmi : (manyL (L.take k) t : Int) ≤ 2 := by omega
      generalize manyL (L.take k) t = mk at *
      have HMS := Aside0.mk hms
      clear k0 k1 hms hxy hml hkl
      rcases hh : Sp.has ⟨x, y⟩ t with _ | _
      · have HH := Aside0.mk hh
        clear hh
        go_wp2_with fail
        (with_reducible refine (has_calls _ _ _ _).mono ?_)
        rw [HH.out]
        rintro e w9 ⟨rfl, rfl⟩
        go_wp2
        go_roundw
        case rel =>
          refine ⟨k + 1, by omega, by go_num, ?_, ⟨by repeat (with_reducible first | exact HBR.out | apply below_alloc)⟩⟩
          rw [HMS.out, HH.out]
          simp
        case measure => simp [intOf]; omega
      · have HH := Aside0.mk hh
        clear hh
        go_wp2_with fail
        (with_reducible refine (has_calls _ _ _ _).mono ?_)
        rw [HH.out]
        rintro e w9 ⟨rfl, rfl⟩
        go_wp2
        go_roundw
        case rel =>
          refine ⟨k + 1, by omega, by go_num, ?_, ⟨by repeat (with_reducible first | exact HBR.out | apply below_alloc)⟩⟩
          rw [HMS.out, HH.out]
          simp
        case measure => simp [intOf]; omega
    · obtain rfl : k = L.length := by omega
      have e0 : manyL (L.take L.length) t = 0 := by rw [List.take_length, MAN.out, HAL.out]; rfl
      rw [e0]
      obtain ⟨hc3, hf3⟩ := bcell HBR.out
      have r0 : wr.cell? ⟨w.heap.size, 0, none⟩ = some (.int .i64 a) := by rw [hc3 _ _ (by omega)]; exact q0
      have r1 : wr.cell? ⟨w.heap.size, 1, none⟩ = some (.int .i64 b) := by rw [hc3 _ _ (by omega)]; exact q1
      have r2 : wr.cell? ⟨w.heap.size + 1, 0, none⟩ = some (.int .i64 c) := by rw [hc3 _ _ (by omega)]; exact q2
      have r3 : wr.cell? ⟨w.heap.size + 1, 1, none⟩ = some (.int .i64 d) := by rw [hc3 _ _ (by omega)]; exact q3
      have hs1 : w.heap.size + 1 < wr.heap.size := by have := HBR.out.size; omega
      have hs2 : w.heap.size < wr.heap.size := by omega
      have z00c : w.heap.size < wr.heap.size := by omega
      have z01c : w.heap.size < wr.heap.size + 1 := by omega
      have z02c : w.heap.size < wr.heap.size + 1 + 1 := by omega
      have z03c : w.heap.size < wr.heap.size + 1 + 1 + 1 := by omega
      have z04c : w.heap.size < wr.heap.size + 1 + 1 + 1 + 1 := by omega
      have z05c : w.heap.size < wr.heap.size + 1 + 1 + 1 + 1 + 1 := by omega
      have z10c : w.heap.size + 1 < wr.heap.size := by omega
      have z11c : w.heap.size + 1 < wr.heap.size + 1 := by omega
      have z12c : w.heap.size + 1 < wr.heap.size + 1 + 1 := by omega
      have z13c : w.heap.size + 1 < wr.heap.size + 1 + 1 + 1 := by omega
      have z14c : w.heap.size + 1 < wr.heap.size + 1 + 1 + 1 + 1 := by omega
      have z15c : w.heap.size + 1 < wr.heap.size + 1 + 1 + 1 + 1 + 1 := by omega
      have HB3 := Aside0.mk (below_step HB2.out HBR.out)
      clear hc3 hf3 q0 q1 q2 q3 HB2 HBR e0
      go_wp2_with fail
      (with_reducible refine (has_calls _ _ _ _).mono ?_)
      rw [HAL.out]
      rintro e w9 ⟨rfl, rfl⟩
      go_wp2_with ((go_at_call 18); (with_reducible refine (lives_calls _).mono ?_); rintro e w8 ⟨rfl, hb⟩)
      go_ret
      exact ⟨rfl, below_step (by repeat (with_reducible first | exact HB3.out | apply below_alloc)) hb⟩
set_option maxHeartbeats 4000000 in
theorem times_tff (w : World) (a b c d t : Int) (hal : Sp.has ⟨a, b⟩ t = true) (hbe : Sp.has ⟨c, d⟩ t = false) (hmu : meetB ⟨a, b⟩ ⟨c, d⟩ = false) :
    Calls Try.prog 4 #[.agg #[.int .i64 a, .int .i64 b], .agg #[.int .i64 c, .int .i64 d], .int .i64 t] w fun e w' => e = .returned (.bool true) ∧ Below w.heap.size w w' := by
  have HB := Aside0.mk (Below.refl w.heap.size w)
  have HAL := Aside0.mk hal
  have HBE := Aside0.mk hbe
  have HMU := Aside0.mk hmu
  clear hal hbe hmu
  go_enter Try.func4, Try.ntmps4
  go_wp2_with fail
  (with_reducible refine (meet_calls _ _ _ _ _).mono ?_)
  rw [HMU.out]
  rintro e w1 ⟨rfl, hb⟩
  obtain ⟨hc, hf⟩ := bcell hb
  have hz1 : w.heap.size + 1 < w1.heap.size := by have := hb.size; simp at this; omega
  have hz0 : w.heap.size < w1.heap.size := by omega
  have z00a : w.heap.size < w1.heap.size := by omega
  have z01a : w.heap.size < w1.heap.size + 1 := by omega
  have z02a : w.heap.size < w1.heap.size + 1 + 1 := by omega
  have z03a : w.heap.size < w1.heap.size + 1 + 1 + 1 := by omega
  have z04a : w.heap.size < w1.heap.size + 1 + 1 + 1 + 1 := by omega
  have z05a : w.heap.size < w1.heap.size + 1 + 1 + 1 + 1 + 1 := by omega
  have z10a : w.heap.size + 1 < w1.heap.size := by omega
  have z11a : w.heap.size + 1 < w1.heap.size + 1 := by omega
  have z12a : w.heap.size + 1 < w1.heap.size + 1 + 1 := by omega
  have z13a : w.heap.size + 1 < w1.heap.size + 1 + 1 + 1 := by omega
  have z14a : w.heap.size + 1 < w1.heap.size + 1 + 1 + 1 + 1 := by omega
  have z15a : w.heap.size + 1 < w1.heap.size + 1 + 1 + 1 + 1 + 1 := by omega
  have HB1 := Aside0.mk (below_step (w := w) (by repeat (with_reducible first | exact HB.out | apply below_alloc)) hb)
  have p0 : w1.cell? ⟨w.heap.size, 0, none⟩ = some (.int .i64 a) := by rw [hc _ _ (by simp <;> omega)]; go_simp
  have p1 : w1.cell? ⟨w.heap.size, 1, none⟩ = some (.int .i64 b) := by rw [hc _ _ (by simp <;> omega)]; go_simp
  have p2 : w1.cell? ⟨w.heap.size + 1, 0, none⟩ = some (.int .i64 c) := by rw [hc _ _ (by simp <;> omega)]; go_simp
  have p3 : w1.cell? ⟨w.heap.size + 1, 1, none⟩ = some (.int .i64 d) := by rw [hc _ _ (by simp <;> omega)]; go_simp
  clear hc hf
  clear hb HB
  go_wp2_with fail
  (with_reducible refine (has_calls _ _ _ _).mono ?_)
  rw [HAL.out]
  rintro e w9 ⟨rfl, rfl⟩
  go_wp2_with fail
  (with_reducible refine (has_calls _ _ _ _).mono ?_)
  rw [HBE.out]
  rintro e w9 ⟨rfl, rfl⟩
  go_wp2_with fail
  (with_reducible refine (minus_calls _ _ _ _ _).mono ?_)
  rintro e w2 ⟨v2, rfl, HO, hb⟩
  have hlen := minus_len ⟨a, b⟩ ⟨c, d⟩
  have MAN := Aside0.mk (minus_many ⟨a, b⟩ ⟨c, d⟩ t)
  generalize minusL ⟨a, b⟩ ⟨c, d⟩ = L at *
  obtain ⟨hc2, hf2⟩ := bcell hb
  have q0 : w2.cell? ⟨w.heap.size, 0, none⟩ = some (.int .i64 a) := (hc2 _ _ (by simp; omega)).trans ((Below.cell (w := w1) (by repeat (with_reducible first | exact Below.refl _ _ | apply below_alloc)) hz0).trans p0)
  have q1 : w2.cell? ⟨w.heap.size, 1, none⟩ = some (.int .i64 b) := (hc2 _ _ (by simp; omega)).trans ((Below.cell (w := w1) (by repeat (with_reducible first | exact Below.refl _ _ | apply below_alloc)) hz0).trans p1)
  have q2 : w2.cell? ⟨w.heap.size + 1, 0, none⟩ = some (.int .i64 c) := (hc2 _ _ (by simp; omega)).trans ((Below.cell (w := w1) (by repeat (with_reducible first | exact Below.refl _ _ | apply below_alloc)) hz1).trans p2)
  have q3 : w2.cell? ⟨w.heap.size + 1, 1, none⟩ = some (.int .i64 d) := (hc2 _ _ (by simp; omega)).trans ((Below.cell (w := w1) (by repeat (with_reducible first | exact Below.refl _ _ | apply below_alloc)) hz1).trans p3)
  have hs0 : w.heap.size + 1 < w2.heap.size := by have := hb.size; simp at this; omega
  have HB2 := Aside0.mk (below_step (w := w) (by repeat (with_reducible first | exact HB1.out | apply below_alloc)) hb)
  have HO2 := Aside0.mk (Kd.R_lower HO (Nat.le_refl _))
  clear hc2 hf2 hb HB1 HO p0 p1 p2 p3
  obtain ⟨A2, cp, rfl⟩ := Kd.R_slice HO2.out
  go_wp2
  go_loopw [11, 12] (fun v11 v12 w' => ∃ k : Nat, k ≤ L.length ∧ v12 = .int .i64 k ∧ v11 = .int .i64 (manyL (L.take k) t) ∧ Aside0 (Below w2.heap.size w2 w')) (fun _ v12 _ => L.length - (intOf v12).toNat)
  case atStart => exact ⟨0, Nat.zero_le _, rfl, by simp [manyL], ⟨Below.refl _ _⟩⟩
  case round =>
    obtain ⟨k, hk, rfl, rfl, HBR⟩ := hrel
    by_cases hlt : k < L.length
    · obtain ⟨g, cap, e1, hg, hgl, _⟩ := Kd.R_form HO2.out (by omega)
      injection e1 with e1 _ e3
      subst e1 e3
      obtain ⟨k0, k1⟩ := OSp_cell HO2.out k hlt
      have k0' := pw_cell_below HBR.out k0
      have k1' := pw_cell_below HBR.out k1
      have hms := many_succ L t k hlt
      have hml := many_le (L.take k) t
      have hkl : (L.take k).length ≤ 2 := by rw [List.length_take]; omega
      obtain ⟨⟨x, y⟩, hxy⟩ : ∃ s, L.getD k ⟨0, 0⟩ = s := ⟨_, rfl⟩
      rw [hxy] at k0' k1' hms
      simp only at k0' k1'
      have hmi : (manyL (L.take k) t : Int) ≤ 2 := by omega
      generalize manyL (L.take k) t = mk at *
      have HMS := Aside0.mk hms
      clear k0 k1 hms hxy hml hkl
      rcases hh : Sp.has ⟨x, y⟩ t with _ | _
      · have HH := Aside0.mk hh
        clear hh
        go_wp2_with fail
        (with_reducible refine (has_calls _ _ _ _).mono ?_)
        rw [HH.out]
        rintro e w9 ⟨rfl, rfl⟩
        go_wp2
        go_roundw
        case rel =>
          refine ⟨k + 1, by omega, by go_num, ?_, ⟨by repeat (with_reducible first | exact HBR.out | apply below_alloc)⟩⟩
          rw [HMS.out, HH.out]
          simp
        case measure => simp [intOf]; omega
      · have HH := Aside0.mk hh
        clear hh
        go_wp2_with fail
        (with_reducible refine (has_calls _ _ _ _).mono ?_)
        rw [HH.out]
        rintro e w9 ⟨rfl, rfl⟩
        go_wp2
        go_roundw
        case rel =>
          refine ⟨k + 1, by omega, by go_num, ?_, ⟨by repeat (with_reducible first | exact HBR.out | apply below_alloc)⟩⟩
          rw [HMS.out, HH.out]
          simp
        case measure => simp [intOf]; omega
    · obtain rfl : k = L.length := by omega
      have e0 : manyL (L.take L.length) t = 1 := by rw [List.take_length, MAN.out, HAL.out, HBE.out]; rfl
      rw [e0]
      obtain ⟨hc3, hf3⟩ := bcell HBR.out
      have r0 : wr.cell? ⟨w.heap.size, 0, none⟩ = some (.int .i64 a) := by rw [hc3 _ _ (by omega)]; exact q0
      have r1 : wr.cell? ⟨w.heap.size, 1, none⟩ = some (.int .i64 b) := by rw [hc3 _ _ (by omega)]; exact q1
      have r2 : wr.cell? ⟨w.heap.size + 1, 0, none⟩ = some (.int .i64 c) := by rw [hc3 _ _ (by omega)]; exact q2
      have r3 : wr.cell? ⟨w.heap.size + 1, 1, none⟩ = some (.int .i64 d) := by rw [hc3 _ _ (by omega)]; exact q3
      have hs1 : w.heap.size + 1 < wr.heap.size := by have := HBR.out.size; omega
      have hs2 : w.heap.size < wr.heap.size := by omega
      have z00c : w.heap.size < wr.heap.size := by omega
      have z01c : w.heap.size < wr.heap.size + 1 := by omega
      have z02c : w.heap.size < wr.heap.size + 1 + 1 := by omega
      have z03c : w.heap.size < wr.heap.size + 1 + 1 + 1 := by omega
      have z04c : w.heap.size < wr.heap.size + 1 + 1 + 1 + 1 := by omega
      have z05c : w.heap.size < wr.heap.size + 1 + 1 + 1 + 1 + 1 := by omega
      have z10c : w.heap.size + 1 < wr.heap.size := by omega
      have z11c : w.heap.size + 1 < wr.heap.size + 1 := by omega
      have z12c : w.heap.size + 1 < wr.heap.size + 1 + 1 := by omega
      have z13c : w.heap.size + 1 < wr.heap.size + 1 + 1 + 1 := by omega
      have z14c : w.heap.size + 1 < wr.heap.size + 1 + 1 + 1 + 1 := by omega
      have z15c : w.heap.size + 1 < wr.heap.size + 1 + 1 + 1 + 1 + 1 := by omega
      have HB3 := Aside0.mk (below_step HB2.out HBR.out)
      clear hc3 hf3 q0 q1 q2 q3 HB2 HBR e0
      go_wp2_with fail
      (with_reducible refine (has_calls _ _ _ _).mono ?_)
      rw [HAL.out]
      rintro e w9 ⟨rfl, rfl⟩
      go_wp2_with fail
      (with_reducible refine (has_calls _ _ _ _).mono ?_)
      rw [HBE.out]
      rintro e w9 ⟨rfl, rfl⟩
      go_wp2_with ((go_at_call 18); (with_reducible refine (lives_calls _).mono ?_); rintro e w8 ⟨rfl, hb⟩)
      go_ret
      exact ⟨rfl, below_step (by repeat (with_reducible first | exact HB3.out | apply below_alloc)) hb⟩
set_option maxHeartbeats 4000000 in
theorem times_tft (w : World) (a b c d t : Int) (hal : Sp.has ⟨a, b⟩ t = true) (hbe : Sp.has ⟨c, d⟩ t = false) (hmu : meetB ⟨a, b⟩ ⟨c, d⟩ = true) (hga : Sp.has ⟨(meetR ⟨a, b⟩ ⟨c, d⟩).f, (meetR ⟨a, b⟩ ⟨c, d⟩).t⟩ t = false) :
    Calls Try.prog 4 #[.agg #[.int .i64 a, .int .i64 b], .agg #[.int .i64 c, .int .i64 d], .int .i64 t] w fun e w' => e = .returned (.bool true) ∧ Below w.heap.size w w' := by
  have HB := Aside0.mk (Below.refl w.heap.size w)
  have HAL := Aside0.mk hal
  have HBE := Aside0.mk hbe
  have HMU := Aside0.mk hmu
  have HGA := Aside0.mk hga
  clear hal hbe hmu hga
  go_enter Try.func4, Try.ntmps4
  go_wp2_with fail
  (with_reducible refine (meet_calls _ _ _ _ _).mono ?_)
  rw [HMU.out]
  rintro e w1 ⟨rfl, hb⟩
  obtain ⟨hc, hf⟩ := bcell hb
  have hz1 : w.heap.size + 1 < w1.heap.size := by have := hb.size; simp at this; omega
  have hz0 : w.heap.size < w1.heap.size := by omega
  have z00a : w.heap.size < w1.heap.size := by omega
  have z01a : w.heap.size < w1.heap.size + 1 := by omega
  have z02a : w.heap.size < w1.heap.size + 1 + 1 := by omega
  have z03a : w.heap.size < w1.heap.size + 1 + 1 + 1 := by omega
  have z04a : w.heap.size < w1.heap.size + 1 + 1 + 1 + 1 := by omega
  have z05a : w.heap.size < w1.heap.size + 1 + 1 + 1 + 1 + 1 := by omega
  have z10a : w.heap.size + 1 < w1.heap.size := by omega
  have z11a : w.heap.size + 1 < w1.heap.size + 1 := by omega
  have z12a : w.heap.size + 1 < w1.heap.size + 1 + 1 := by omega
  have z13a : w.heap.size + 1 < w1.heap.size + 1 + 1 + 1 := by omega
  have z14a : w.heap.size + 1 < w1.heap.size + 1 + 1 + 1 + 1 := by omega
  have z15a : w.heap.size + 1 < w1.heap.size + 1 + 1 + 1 + 1 + 1 := by omega
  have HB1 := Aside0.mk (below_step (w := w) (by repeat (with_reducible first | exact HB.out | apply below_alloc)) hb)
  have p0 : w1.cell? ⟨w.heap.size, 0, none⟩ = some (.int .i64 a) := by rw [hc _ _ (by simp <;> omega)]; go_simp
  have p1 : w1.cell? ⟨w.heap.size, 1, none⟩ = some (.int .i64 b) := by rw [hc _ _ (by simp <;> omega)]; go_simp
  have p2 : w1.cell? ⟨w.heap.size + 1, 0, none⟩ = some (.int .i64 c) := by rw [hc _ _ (by simp <;> omega)]; go_simp
  have p3 : w1.cell? ⟨w.heap.size + 1, 1, none⟩ = some (.int .i64 d) := by rw [hc _ _ (by simp <;> omega)]; go_simp
  clear hc hf
  clear hb HB
  go_wp2_with fail
  (with_reducible refine (has_calls _ _ _ _).mono ?_)
  rw [HAL.out]
  rintro e w9 ⟨rfl, rfl⟩
  go_wp2_with fail
  (with_reducible refine (has_calls _ _ _ _).mono ?_)
  rw [HBE.out]
  rintro e w9 ⟨rfl, rfl⟩
  go_wp2_with fail
  (with_reducible refine (has_calls _ _ _ _).mono ?_)
  rw [HGA.out]
  rintro e w9 ⟨rfl, rfl⟩
  go_wp2_with fail
  (with_reducible refine (minus_calls _ _ _ _ _).mono ?_)
  rintro e w2 ⟨v2, rfl, HO, hb⟩
  have hlen := minus_len ⟨a, b⟩ ⟨c, d⟩
  have MAN := Aside0.mk (minus_many ⟨a, b⟩ ⟨c, d⟩ t)
  generalize minusL ⟨a, b⟩ ⟨c, d⟩ = L at *
  obtain ⟨hc2, hf2⟩ := bcell hb
  have q0 : w2.cell? ⟨w.heap.size, 0, none⟩ = some (.int .i64 a) := (hc2 _ _ (by simp; omega)).trans ((Below.cell (w := w1) (by repeat (with_reducible first | exact Below.refl _ _ | apply below_alloc)) hz0).trans p0)
  have q1 : w2.cell? ⟨w.heap.size, 1, none⟩ = some (.int .i64 b) := (hc2 _ _ (by simp; omega)).trans ((Below.cell (w := w1) (by repeat (with_reducible first | exact Below.refl _ _ | apply below_alloc)) hz0).trans p1)
  have q2 : w2.cell? ⟨w.heap.size + 1, 0, none⟩ = some (.int .i64 c) := (hc2 _ _ (by simp; omega)).trans ((Below.cell (w := w1) (by repeat (with_reducible first | exact Below.refl _ _ | apply below_alloc)) hz1).trans p2)
  have q3 : w2.cell? ⟨w.heap.size + 1, 1, none⟩ = some (.int .i64 d) := (hc2 _ _ (by simp; omega)).trans ((Below.cell (w := w1) (by repeat (with_reducible first | exact Below.refl _ _ | apply below_alloc)) hz1).trans p3)
  have hs0 : w.heap.size + 1 < w2.heap.size := by have := hb.size; simp at this; omega
  have HB2 := Aside0.mk (below_step (w := w) (by repeat (with_reducible first | exact HB1.out | apply below_alloc)) hb)
  have HO2 := Aside0.mk (Kd.R_lower HO (Nat.le_refl _))
  clear hc2 hf2 hb HB1 HO p0 p1 p2 p3
  obtain ⟨A2, cp, rfl⟩ := Kd.R_slice HO2.out
  go_wp2
  go_loopw [11, 12] (fun v11 v12 w' => ∃ k : Nat, k ≤ L.length ∧ v12 = .int .i64 k ∧ v11 = .int .i64 (manyL (L.take k) t) ∧ Aside0 (Below w2.heap.size w2 w')) (fun _ v12 _ => L.length - (intOf v12).toNat)
  case atStart => exact ⟨0, Nat.zero_le _, rfl, by simp [manyL], ⟨Below.refl _ _⟩⟩
  case round =>
    obtain ⟨k, hk, rfl, rfl, HBR⟩ := hrel
    by_cases hlt : k < L.length
    · obtain ⟨g, cap, e1, hg, hgl, _⟩ := Kd.R_form HO2.out (by omega)
      injection e1 with e1 _ e3
      subst e1 e3
      obtain ⟨k0, k1⟩ := OSp_cell HO2.out k hlt
      have k0' := pw_cell_below HBR.out k0
      have k1' := pw_cell_below HBR.out k1
      have hms := many_succ L t k hlt
      have hml := many_le (L.take k) t
      have hkl : (L.take k).length ≤ 2 := by rw [List.length_take]; omega
      obtain ⟨⟨x, y⟩, hxy⟩ : ∃ s, L.getD k ⟨0, 0⟩ = s := ⟨_, rfl⟩
      rw [hxy] at k0' k1' hms
      simp only at k0' k1'
      have hmi : (manyL (L.take k) t : Int) ≤ 2 := by omega
      generalize manyL (L.take k) t = mk at *
      have HMS := Aside0.mk hms
      clear k0 k1 hms hxy hml hkl
      rcases hh : Sp.has ⟨x, y⟩ t with _ | _
      · have HH := Aside0.mk hh
        clear hh
        go_wp2_with fail
        (with_reducible refine (has_calls _ _ _ _).mono ?_)
        rw [HH.out]
        rintro e w9 ⟨rfl, rfl⟩
        go_wp2
        go_roundw
        case rel =>
          refine ⟨k + 1, by omega, by go_num, ?_, ⟨by repeat (with_reducible first | exact HBR.out | apply below_alloc)⟩⟩
          rw [HMS.out, HH.out]
          simp
        case measure => simp [intOf]; omega
      · have HH := Aside0.mk hh
        clear hh
        go_wp2_with fail
        (with_reducible refine (has_calls _ _ _ _).mono ?_)
        rw [HH.out]
        rintro e w9 ⟨rfl, rfl⟩
        go_wp2
        go_roundw
        case rel =>
          refine ⟨k + 1, by omega, by go_num, ?_, ⟨by repeat (with_reducible first | exact HBR.out | apply below_alloc)⟩⟩
          rw [HMS.out, HH.out]
          simp
        case measure => simp [intOf]; omega
    · obtain rfl : k = L.length := by omega
      have e0 : manyL (L.take L.length) t = 1 := by rw [List.take_length, MAN.out, HAL.out, HBE.out]; rfl
      rw [e0]
      obtain ⟨hc3, hf3⟩ := bcell HBR.out
      have r0 : wr.cell? ⟨w.heap.size, 0, none⟩ = some (.int .i64 a) := by rw [hc3 _ _ (by omega)]; exact q0
      have r1 : wr.cell? ⟨w.heap.size, 1, none⟩ = some (.int .i64 b) := by rw [hc3 _ _ (by omega)]; exact q1
      have r2 : wr.cell? ⟨w.heap.size + 1, 0, none⟩ = some (.int .i64 c) := by rw [hc3 _ _ (by omega)]; exact q2
      have r3 : wr.cell? ⟨w.heap.size + 1, 1, none⟩ = some (.int .i64 d) := by rw [hc3 _ _ (by omega)]; exact q3
      have hs1 : w.heap.size + 1 < wr.heap.size := by have := HBR.out.size; omega
      have hs2 : w.heap.size < wr.heap.size := by omega
      have z00c : w.heap.size < wr.heap.size := by omega
      have z01c : w.heap.size < wr.heap.size + 1 := by omega
      have z02c : w.heap.size < wr.heap.size + 1 + 1 := by omega
      have z03c : w.heap.size < wr.heap.size + 1 + 1 + 1 := by omega
      have z04c : w.heap.size < wr.heap.size + 1 + 1 + 1 + 1 := by omega
      have z05c : w.heap.size < wr.heap.size + 1 + 1 + 1 + 1 + 1 := by omega
      have z10c : w.heap.size + 1 < wr.heap.size := by omega
      have z11c : w.heap.size + 1 < wr.heap.size + 1 := by omega
      have z12c : w.heap.size + 1 < wr.heap.size + 1 + 1 := by omega
      have z13c : w.heap.size + 1 < wr.heap.size + 1 + 1 + 1 := by omega
      have z14c : w.heap.size + 1 < wr.heap.size + 1 + 1 + 1 + 1 := by omega
      have z15c : w.heap.size + 1 < wr.heap.size + 1 + 1 + 1 + 1 + 1 := by omega
      have HB3 := Aside0.mk (below_step HB2.out HBR.out)
      clear hc3 hf3 q0 q1 q2 q3 HB2 HBR e0
      go_wp2_with fail
      (with_reducible refine (has_calls _ _ _ _).mono ?_)
      rw [HAL.out]
      rintro e w9 ⟨rfl, rfl⟩
      go_wp2_with fail
      (with_reducible refine (has_calls _ _ _ _).mono ?_)
      rw [HBE.out]
      rintro e w9 ⟨rfl, rfl⟩
      go_wp2_with ((go_at_call 18); (with_reducible refine (lives_calls _).mono ?_); rintro e w8 ⟨rfl, hb⟩)
      go_ret
      exact ⟨rfl, below_step (by repeat (with_reducible first | exact HB3.out | apply below_alloc)) hb⟩
set_option maxHeartbeats 4000000 in
theorem times_ttt (w : World) (a b c d t : Int) (hal : Sp.has ⟨a, b⟩ t = true) (hbe : Sp.has ⟨c, d⟩ t = true) (hmu : meetB ⟨a, b⟩ ⟨c, d⟩ = true) (hga : Sp.has ⟨(meetR ⟨a, b⟩ ⟨c, d⟩).f, (meetR ⟨a, b⟩ ⟨c, d⟩).t⟩ t = true) :
    Calls Try.prog 4 #[.agg #[.int .i64 a, .int .i64 b], .agg #[.int .i64 c, .int .i64 d], .int .i64 t] w fun e w' => e = .returned (.bool true) ∧ Below w.heap.size w w' := by
  have HB := Aside0.mk (Below.refl w.heap.size w)
  have HAL := Aside0.mk hal
  have HBE := Aside0.mk hbe
  have HMU := Aside0.mk hmu
  have HGA := Aside0.mk hga
  clear hal hbe hmu hga
  go_enter Try.func4, Try.ntmps4
  go_wp2_with fail
  (with_reducible refine (meet_calls _ _ _ _ _).mono ?_)
  rw [HMU.out]
  rintro e w1 ⟨rfl, hb⟩
  obtain ⟨hc, hf⟩ := bcell hb
  have hz1 : w.heap.size + 1 < w1.heap.size := by have := hb.size; simp at this; omega
  have hz0 : w.heap.size < w1.heap.size := by omega
  have z00a : w.heap.size < w1.heap.size := by omega
  have z01a : w.heap.size < w1.heap.size + 1 := by omega
  have z02a : w.heap.size < w1.heap.size + 1 + 1 := by omega
  have z03a : w.heap.size < w1.heap.size + 1 + 1 + 1 := by omega
  have z04a : w.heap.size < w1.heap.size + 1 + 1 + 1 + 1 := by omega
  have z05a : w.heap.size < w1.heap.size + 1 + 1 + 1 + 1 + 1 := by omega
  have z10a : w.heap.size + 1 < w1.heap.size := by omega
  have z11a : w.heap.size + 1 < w1.heap.size + 1 := by omega
  have z12a : w.heap.size + 1 < w1.heap.size + 1 + 1 := by omega
  have z13a : w.heap.size + 1 < w1.heap.size + 1 + 1 + 1 := by omega
  have z14a : w.heap.size + 1 < w1.heap.size + 1 + 1 + 1 + 1 := by omega
  have z15a : w.heap.size + 1 < w1.heap.size + 1 + 1 + 1 + 1 + 1 := by omega
  have HB1 := Aside0.mk (below_step (w := w) (by repeat (with_reducible first | exact HB.out | apply below_alloc)) hb)
  have p0 : w1.cell? ⟨w.heap.size, 0, none⟩ = some (.int .i64 a) := by rw [hc _ _ (by simp <;> omega)]; go_simp
  have p1 : w1.cell? ⟨w.heap.size, 1, none⟩ = some (.int .i64 b) := by rw [hc _ _ (by simp <;> omega)]; go_simp
  have p2 : w1.cell? ⟨w.heap.size + 1, 0, none⟩ = some (.int .i64 c) := by rw [hc _ _ (by simp <;> omega)]; go_simp
  have p3 : w1.cell? ⟨w.heap.size + 1, 1, none⟩ = some (.int .i64 d) := by rw [hc _ _ (by simp <;> omega)]; go_simp
  clear hc hf
  clear hb HB
  go_wp2_with fail
  (with_reducible refine (has_calls _ _ _ _).mono ?_)
  rw [HAL.out]
  rintro e w9 ⟨rfl, rfl⟩
  go_wp2_with fail
  (with_reducible refine (has_calls _ _ _ _).mono ?_)
  rw [HBE.out]
  rintro e w9 ⟨rfl, rfl⟩
  go_wp2_with fail
  (with_reducible refine (has_calls _ _ _ _).mono ?_)
  rw [HGA.out]
  rintro e w9 ⟨rfl, rfl⟩
  go_wp2_with fail
  (with_reducible refine (minus_calls _ _ _ _ _).mono ?_)
  rintro e w2 ⟨v2, rfl, HO, hb⟩
  have hlen := minus_len ⟨a, b⟩ ⟨c, d⟩
  have MAN := Aside0.mk (minus_many ⟨a, b⟩ ⟨c, d⟩ t)
  generalize minusL ⟨a, b⟩ ⟨c, d⟩ = L at *
  obtain ⟨hc2, hf2⟩ := bcell hb
  have q0 : w2.cell? ⟨w.heap.size, 0, none⟩ = some (.int .i64 a) := (hc2 _ _ (by simp; omega)).trans ((Below.cell (w := w1) (by repeat (with_reducible first | exact Below.refl _ _ | apply below_alloc)) hz0).trans p0)
  have q1 : w2.cell? ⟨w.heap.size, 1, none⟩ = some (.int .i64 b) := (hc2 _ _ (by simp; omega)).trans ((Below.cell (w := w1) (by repeat (with_reducible first | exact Below.refl _ _ | apply below_alloc)) hz0).trans p1)
  have q2 : w2.cell? ⟨w.heap.size + 1, 0, none⟩ = some (.int .i64 c) := (hc2 _ _ (by simp; omega)).trans ((Below.cell (w := w1) (by repeat (with_reducible first | exact Below.refl _ _ | apply below_alloc)) hz1).trans p2)
  have q3 : w2.cell? ⟨w.heap.size + 1, 1, none⟩ = some (.int .i64 d) := (hc2 _ _ (by simp; omega)).trans ((Below.cell (w := w1) (by repeat (with_reducible first | exact Below.refl _ _ | apply below_alloc)) hz1).trans p3)
  have hs0 : w.heap.size + 1 < w2.heap.size := by have := hb.size; simp at this; omega
  have HB2 := Aside0.mk (below_step (w := w) (by repeat (with_reducible first | exact HB1.out | apply below_alloc)) hb)
  have HO2 := Aside0.mk (Kd.R_lower HO (Nat.le_refl _))
  clear hc2 hf2 hb HB1 HO p0 p1 p2 p3
  obtain ⟨A2, cp, rfl⟩ := Kd.R_slice HO2.out
  go_wp2
  go_loopw [11, 12] (fun v11 v12 w' => ∃ k : Nat, k ≤ L.length ∧ v12 = .int .i64 k ∧ v11 = .int .i64 (manyL (L.take k) t) ∧ Aside0 (Below w2.heap.size w2 w')) (fun _ v12 _ => L.length - (intOf v12).toNat)
  case atStart => exact ⟨0, Nat.zero_le _, rfl, by simp [manyL], ⟨Below.refl _ _⟩⟩
  case round =>
    obtain ⟨k, hk, rfl, rfl, HBR⟩ := hrel
    by_cases hlt : k < L.length
    · obtain ⟨g, cap, e1, hg, hgl, _⟩ := Kd.R_form HO2.out (by omega)
      injection e1 with e1 _ e3
      subst e1 e3
      obtain ⟨k0, k1⟩ := OSp_cell HO2.out k hlt
      have k0' := pw_cell_below HBR.out k0
      have k1' := pw_cell_below HBR.out k1
      have hms := many_succ L t k hlt
      have hml := many_le (L.take k) t
      have hkl : (L.take k).length ≤ 2 := by rw [List.length_take]; omega
      obtain ⟨⟨x, y⟩, hxy⟩ : ∃ s, L.getD k ⟨0, 0⟩ = s := ⟨_, rfl⟩
      rw [hxy] at k0' k1' hms
      simp only at k0' k1'
      have hmi : (manyL (L.take k) t : Int) ≤ 2 := by omega
      generalize manyL (L.take k) t = mk at *
      have HMS := Aside0.mk hms
      clear k0 k1 hms hxy hml hkl
      rcases hh : Sp.has ⟨x, y⟩ t with _ | _
      · have HH := Aside0.mk hh
        clear hh
        go_wp2_with fail
        (with_reducible refine (has_calls _ _ _ _).mono ?_)
        rw [HH.out]
        rintro e w9 ⟨rfl, rfl⟩
        go_wp2
        go_roundw
        case rel =>
          refine ⟨k + 1, by omega, by go_num, ?_, ⟨by repeat (with_reducible first | exact HBR.out | apply below_alloc)⟩⟩
          rw [HMS.out, HH.out]
          simp
        case measure => simp [intOf]; omega
      · have HH := Aside0.mk hh
        clear hh
        go_wp2_with fail
        (with_reducible refine (has_calls _ _ _ _).mono ?_)
        rw [HH.out]
        rintro e w9 ⟨rfl, rfl⟩
        go_wp2
        go_roundw
        case rel =>
          refine ⟨k + 1, by omega, by go_num, ?_, ⟨by repeat (with_reducible first | exact HBR.out | apply below_alloc)⟩⟩
          rw [HMS.out, HH.out]
          simp
        case measure => simp [intOf]; omega
    · obtain rfl : k = L.length := by omega
      have e0 : manyL (L.take L.length) t = 0 := by rw [List.take_length, MAN.out, HAL.out, HBE.out]; rfl
      rw [e0]
      obtain ⟨hc3, hf3⟩ := bcell HBR.out
      have r0 : wr.cell? ⟨w.heap.size, 0, none⟩ = some (.int .i64 a) := by rw [hc3 _ _ (by omega)]; exact q0
      have r1 : wr.cell? ⟨w.heap.size, 1, none⟩ = some (.int .i64 b) := by rw [hc3 _ _ (by omega)]; exact q1
      have r2 : wr.cell? ⟨w.heap.size + 1, 0, none⟩ = some (.int .i64 c) := by rw [hc3 _ _ (by omega)]; exact q2
      have r3 : wr.cell? ⟨w.heap.size + 1, 1, none⟩ = some (.int .i64 d) := by rw [hc3 _ _ (by omega)]; exact q3
      have hs1 : w.heap.size + 1 < wr.heap.size := by have := HBR.out.size; omega
      have hs2 : w.heap.size < wr.heap.size := by omega
      have z00c : w.heap.size < wr.heap.size := by omega
      have z01c : w.heap.size < wr.heap.size + 1 := by omega
      have z02c : w.heap.size < wr.heap.size + 1 + 1 := by omega
      have z03c : w.heap.size < wr.heap.size + 1 + 1 + 1 := by omega
      have z04c : w.heap.size < wr.heap.size + 1 + 1 + 1 + 1 := by omega
      have z05c : w.heap.size < wr.heap.size + 1 + 1 + 1 + 1 + 1 := by omega
      have z10c : w.heap.size + 1 < wr.heap.size := by omega
      have z11c : w.heap.size + 1 < wr.heap.size + 1 := by omega
      have z12c : w.heap.size + 1 < wr.heap.size + 1 + 1 := by omega
      have z13c : w.heap.size + 1 < wr.heap.size + 1 + 1 + 1 := by omega
      have z14c : w.heap.size + 1 < wr.heap.size + 1 + 1 + 1 + 1 := by omega
      have z15c : w.heap.size + 1 < wr.heap.size + 1 + 1 + 1 + 1 + 1 := by omega
      have HB3 := Aside0.mk (below_step HB2.out HBR.out)
      clear hc3 hf3 q0 q1 q2 q3 HB2 HBR e0
      go_wp2_with fail
      (with_reducible refine (has_calls _ _ _ _).mono ?_)
      rw [HAL.out]
      rintro e w9 ⟨rfl, rfl⟩
      go_wp2_with fail
      (with_reducible refine (has_calls _ _ _ _).mono ?_)
      rw [HBE.out]
      rintro e w9 ⟨rfl, rfl⟩
      go_wp2_with ((go_at_call 18); (with_reducible refine (lives_calls _).mono ?_); rintro e w8 ⟨rfl, hb⟩)
      go_ret
      exact ⟨rfl, below_step (by repeat (with_reducible first | exact HB3.out | apply below_alloc)) hb⟩
theorem times_calls (w : World) (c0 : Array Value) (y0 : Sp) (h0 : KSp.K w y0 (Value.agg c0).cells.toList) (_g0 : True) (c1 : Array Value) (y1 : Sp) (h1 : KSp.K w y1 (Value.agg c1).cells.toList) (_g1 : True) (t : Int) (_gt : IntKind.i64.min ≤ t ∧ t ≤ IntKind.i64.max) :
    Calls Try.prog 4 #[.agg c0, .agg c1, .int .i64 t] w fun e w' => e = .returned (.bool true) ∧ Below w.heap.size w w' := by
  obtain rfl := span_agg h0
  obtain rfl := span_agg h1
  have h := meet_has y0 y1 t
  obtain ⟨a, b⟩ := y0
  obtain ⟨c, d⟩ := y1
  rcases hal : Sp.has ⟨a, b⟩ t with _ | _
  · rcases hmu : meetB ⟨a, b⟩ ⟨c, d⟩ with _ | _
    · exact times_ff w a b c d t hal hmu
    · exact times_ft w a b c d t hal hmu (by rw [hal, hmu] at h; simpa using h)
  · rcases hbe : Sp.has ⟨c, d⟩ t with _ | _
    · rcases hmu : meetB ⟨a, b⟩ ⟨c, d⟩ with _ | _
      · exact times_tff w a b c d t hal hbe hmu
      · exact times_tft w a b c d t hal hbe hmu (by rw [hal, hbe, hmu] at h; simpa using h)
    · rw [hal, hbe] at h
      have h' : meetB ⟨a, b⟩ ⟨c, d⟩ = true ∧ (meetR ⟨a, b⟩ ⟨c, d⟩).has t = true := by simpa using h
      exact times_ttt w a b c d t hal hbe h'.1 h'.2

end Go.Proofs.Ytloachifhaigjaa.A
