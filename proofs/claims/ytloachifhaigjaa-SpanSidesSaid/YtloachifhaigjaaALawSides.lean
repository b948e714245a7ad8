/- SpanSides: what two have in common does not hang on their row, and lies in both. -/
import Derived.Test.YtloachifhaigjaaALaw4
import Derived.Deep.RegionWith
namespace Go.Proofs.Ytloachifhaigjaa.A
open Go.RowKit Go.Proofs.YtloachifhaigjaaW.PrintWords Go.Proofs.YtloachifhaigjaaW.PrintLast Go.Proofs.YtloachifhaigjaaW.PrintMore
set_option linter.unusedVariables false
set_option linter.unusedSimpArgs false

set_option maxHeartbeats 2000000 in
theorem sides_calls (w : World) (c0 : Array Value) (y0 : Sp) (h0 : KSp.K w y0 (Value.agg c0).cells.toList) (_g0 : True) (c1 : Array Value) (y1 : Sp) (h1 : KSp.K w y1 (Value.agg c1).cells.toList) (_g1 : True) :
    Calls Try.prog 5 #[.agg c0, .agg c1] w fun e w' => e = .returned (.bool true) ∧ Below w.heap.size w w' := by
  obtain rfl := span_agg h0
  obtain rfl := span_agg h1
  clear h0 h1 _g0 _g1
  obtain ⟨a, b⟩ := y0
  obtain ⟨c, d⟩ := y1
  have hq := eqA23
  have HBC := Aside0.mk (meetB_comm ⟨c, d⟩ ⟨a, b⟩)
  have HRC := Aside0.mk (meetR_comm ⟨c, d⟩ ⟨a, b⟩)
  have HB := Aside0.mk (Below.refl w.heap.size w)
  rcases hm : meetB ⟨a, b⟩ ⟨c, d⟩ with _ | _
  · have HM := Aside0.mk hm
    have HR : Aside0 (meetR ⟨a, b⟩ ⟨c, d⟩ = ⟨0, 0⟩) := ⟨by simp [meetR, hm]⟩
    clear hm
    go_enter Try.func5, Try.ntmps5
    go_wp2_with fail
    (with_reducible refine (meet_calls _ _ _ _ _).mono ?_)
    rw [HM.out, HR.out]
    rintro e w1 ⟨rfl, hb⟩
    obtain ⟨hc, hf⟩ := bcell hb
    have hz1 : w.heap.size + 1 < w1.heap.size := by have := hb.size; simp at this; omega
    have hz0 : w.heap.size < w1.heap.size := by omega
    have HB1 := Aside0.mk (below_step (w := w) (by repeat (with_reducible first | exact HB.out | apply below_alloc)) hb)
    clear hb HB
    go_wp2_with fail
    (with_reducible refine (meet_calls _ _ _ _ _).mono ?_)
    rw [HBC.out, HRC.out, HM.out, HR.out]
    rintro e w2 ⟨rfl, hb⟩
    obtain ⟨hc2, hf2⟩ := bcell hb
    have hy1 : w1.heap.size < w2.heap.size := by have := hb.size; simp at this; omega
    have HB2 := Aside0.mk (below_step (w := w) (by repeat (with_reducible first | exact HB1.out | apply below_alloc)) hb)
    clear hb HB1
    go_wp2_with ((go_at_call 18); (with_reducible refine (lives_calls _).mono ?_); rintro e w8 ⟨rfl, hb⟩)
    go_ret
    exact ⟨rfl, below_step (by repeat (with_reducible first | exact HB2.out | apply below_alloc)) hb⟩
  · have HM := Aside0.mk hm
    obtain ⟨hma, hmb, hmm⟩ := meetB_may hm
    obtain ⟨l1, l2, l3, l4⟩ := meet_le ⟨a, b⟩ ⟨c, d⟩
    have hr : meetR ⟨a, b⟩ ⟨c, d⟩ = meetV ⟨a, b⟩ ⟨c, d⟩ := by simp [meetR, hm]
    have n1 := minus_in hmm hma l1 l2
    have n2 := minus_in hmm hmb l3 l4
    obtain ⟨⟨p, q⟩, hmv⟩ : ∃ m, meetV ⟨a, b⟩ ⟨c, d⟩ = m := ⟨_, rfl⟩
    rw [hmv] at hr hmm l1 l2 l3 l4 n1 n2
    have HR := Aside0.mk hr
    have HMM := Aside0.mk hmm
    have N1 := Aside0.mk n1
    have N2 := Aside0.mk n2
    simp only at l1 l2 l3 l4
    clear hm hma hmb hmm hmv hr n1 n2
    go_enter Try.func5, Try.ntmps5
    go_wp2_with fail
    (with_reducible refine (meet_calls _ _ _ _ _).mono ?_)
    rw [HM.out, HR.out]
    rintro e w1 ⟨rfl, hb⟩
    obtain ⟨hc, hf⟩ := bcell hb
    have hz1 : w.heap.size + 1 < w1.heap.size := by have := hb.size; simp at this; omega
    have hz0 : w.heap.size < w1.heap.size := by omega
    have HB1 := Aside0.mk (below_step (w := w) (by repeat (with_reducible first | exact HB.out | apply below_alloc)) hb)
    clear hb HB
    go_wp2_with fail
    (with_reducible refine (meet_calls _ _ _ _ _).mono ?_)
    rw [HBC.out, HRC.out, HM.out, HR.out]
    rintro e w2 ⟨rfl, hb⟩
    obtain ⟨hc2, hf2⟩ := bcell hb
    have hy1 : w1.heap.size < w2.heap.size := by have := hb.size; simp at this; omega
    have hy2 : w.heap.size + 1 < w2.heap.size := by omega
    have hy3 : w.heap.size < w2.heap.size := by omega
    have HB2 := Aside0.mk (below_step (w := w) (by repeat (with_reducible first | exact HB1.out | apply below_alloc)) hb)
    clear hb HB1
    go_wp2_with fail
    (with_reducible refine (may_calls _ _ _).mono ?_)
    rw [HMM.out]
    rintro e w3 ⟨rfl, rfl⟩
    go_wp2_with fail
    (with_reducible refine (minus_calls _ _ _ _ _).mono ?_)
    rw [N1.out]
    rintro e w4 ⟨v4, rfl, HO4, hb⟩
    obtain ⟨A4, c4, rfl⟩ := Kd.R_slice HO4
    rw [List.length_nil]
    obtain ⟨hc4, hf4⟩ := bcell hb
    have hx0 : w2.heap.size < w4.heap.size := by have := hb.size; simp at this; omega
    have hx1 : w1.heap.size < w4.heap.size := by omega
    have hx2 : w.heap.size + 1 < w4.heap.size := by omega
    have hx3 : w.heap.size < w4.heap.size := by omega
    have k0 : w4.cell? ⟨w1.heap.size, 0, none⟩ = some (.int .i64 p) := by rw [hc4 _ _ (by simp; omega)]; go_simp
    have k1 : w4.cell? ⟨w1.heap.size, 1, none⟩ = some (.int .i64 q) := by rw [hc4 _ _ (by simp; omega)]; go_simp
    have k2 : w4.cell? ⟨w.heap.size + 1, 0, none⟩ = some (.int .i64 c) := by rw [hc4 _ _ (by simp; omega)]; go_simp
    have k3 : w4.cell? ⟨w.heap.size + 1, 1, none⟩ = some (.int .i64 d) := by rw [hc4 _ _ (by simp; omega)]; go_simp
    clear hc4 hf4 hc2 hf2 hc hf
    have HB4 := Aside0.mk (below_step (w := w) (by repeat (with_reducible first | exact HB2.out | apply below_alloc)) hb)
    clear hb HB2 HO4
    go_wp2_with fail
    (with_reducible refine (minus_calls _ _ _ _ _).mono ?_)
    rw [N2.out]
    rintro e w5 ⟨v5, rfl, HO5, hb⟩
    obtain ⟨A5, c5, rfl⟩ := Kd.R_slice HO5
    rw [List.length_nil]
    have HB5 := Aside0.mk (below_step (w := w) (by repeat (with_reducible first | exact HB4.out | apply below_alloc)) hb)
    clear hb HB4 HO5
    go_wp2_with ((go_at_call 18); (with_reducible refine (lives_calls _).mono ?_); rintro e w8 ⟨rfl, hb⟩)
    go_ret
    exact ⟨rfl, below_step (by repeat (with_reducible first | exact HB5.out | apply below_alloc)) hb⟩

end Go.Proofs.Ytloachifhaigjaa.A
