/- The document's ends of two spans, and what is left of one. -/
import Derived.Test.YtloachifhaigjaaASpanEnds
namespace Go.Proofs.Ytloachifhaigjaa.A
open Go.RowKit Go.Proofs.YtloachifhaigjaaW.PrintWords Go.Proofs.YtloachifhaigjaaW.PrintLast Go.Proofs.YtloachifhaigjaaW.PrintMore
set_option linter.unusedVariables false
set_option linter.unusedSimpArgs false

def ends2 (a b c d : Int) : List Int := putL (putL (putL (putL [] a) b) c) d
theorem OI_readn {w : World} {B : Nat} {v : Value} {l : List Int} (h : OI w B v l) (n : Nat) (hn : l.length = n) : ∃ A c, v = .slice A n c ∧ n ≤ c ∧ (Kd.int .i64).C w A n l := by
  subst hn
  exact Kd.R_reads h
theorem putL0 (a : Int) : putL [] a = [a] := rfl

set_option maxRecDepth 100000 in
set_option maxHeartbeats 1600000 in
theorem ends_calls (g : Nat) (a b c d : Int) (w : World) (hg : g < w.heap.size) (h0 : w.cell? ⟨g, 0, none⟩ = some (.int .i64 a)) (h1 : w.cell? ⟨g, 1, none⟩ = some (.int .i64 b)) (h2 : w.cell? ⟨g, 2, none⟩ = some (.int .i64 c)) (h3 : w.cell? ⟨g, 3, none⟩ = some (.int .i64 d)) :
    Calls Try.prog 31 #[.slice (some ⟨g, 0, none⟩) 2 2] w fun e w' => ∃ v, e = .returned v ∧ OI w' w.heap.size v (ends2 a b c d) ∧ Below w.heap.size w w' := by
  have H0 := Aside0.mk h0
  have H1 := Aside0.mk h1
  have H2 := Aside0.mk h2
  have H3 := Aside0.mk h3
  clear h0 h1 h2 h3
  have hl1 := putL_len [] a
  have hl2 := putL_len (putL [] a) b
  have hl3 := putL_len (putL (putL [] a) b) c
  have hl4 := putL_len (putL (putL (putL [] a) b) c) d
  simp only [List.length_nil] at hl1
  go_enter Try.func31, Try.ntmps31
  go_wp2
  go_loopw [3, 4] (fun v3 v4 w' => ∃ k : Nat, k ≤ 2 ∧ v4 = .int .i64 k ∧ Aside0 (OI w' w.heap.size v3 (if k = 0 then [] else if k = 1 then putL (putL [] a) b else ends2 a b c d)) ∧ Aside0 (Below w.heap.size w w')) (fun _ v4 _ => 2 - (intOf v4).toNat)
  case atStart => exact ⟨0, by omega, rfl, ⟨Kd.R_nil _ _ _ _ _⟩, ⟨Below.refl _ _⟩⟩
  case round =>
    obtain ⟨k, hk, rfl, HO, HB⟩ := hrel
    rcases (show k = 0 ∨ k = 1 ∨ k = 2 by omega) with rfl | rfl | rfl
    · have HO1 := Aside0.mk (show OI wr w.heap.size u3 ([]) from HO.out)
      clear HO
      obtain ⟨n1, hn1, hm1⟩ : ∃ n, ([]).length = n ∧ n ≤ 10 := ⟨_, rfl, by first | omega | simp⟩
      obtain ⟨A1, c1, rfl, hc1, HC1⟩ := OI_readn HO1.out n1 hn1
      have HC := Aside0.mk HC1
      clear HC1 HO1 hn1
      have hcA := pw_cell_below HB.out H0.out
      have hcB := pw_cell_below HB.out H1.out
      go_wp2_with fail
      go_region_with (first
        | ((go_at_call 36); (with_reducible refine (rput_calls _ _ _ ([]) a _ ?_ hc1 (by omega)).mono ?_); exact (by repeat (with_reducible first | exact HC.out | refine Kd.C_drewN ?_ _ | refine Kd.C_drew ?_)); rintro e w5 ⟨v5, rfl, HO5, hb5⟩; obtain ⟨n5, hn5, hm5⟩ : ∃ n, (putL ([]) a).length = n ∧ n ≤ 10 := ⟨_, rfl, by omega⟩; obtain ⟨A5, c5, rfl, hc5, HC5⟩ := OI_readn HO5 n5 hn5; clear hn5; have HC6 := Aside0.mk HC5; have HB6 := Aside0.mk (below_step (w := w) (by repeat (with_reducible first | exact HB.out | apply pw_below_drewN | apply below_drew1)) hb5); have hcB6 := pw_cell_below HB6.out H1.out; clear HC HB hcA hcB HO5 HC5 hb5)
        | ((go_at_call 36); (with_reducible refine (rput_calls _ _ _ (putL ([]) a) b _ ?_ hc5 (by omega)).mono ?_); exact (by repeat (with_reducible first | exact HC6.out | refine Kd.C_drewN ?_ _ | refine Kd.C_drew ?_)); rintro e w7 ⟨v7, rfl, HO7, hb7⟩; have HO8 := Aside0.mk (Kd.R_lower HO7 (by first | exact HB6.out.size | (simp; exact HB6.out.size))); have HB8 := Aside0.mk (below_step (w := w) (by repeat (with_reducible first | exact HB6.out | apply pw_below_drewN | apply below_drew1)) hb7); clear HC6 HB6 hcB6 HO7 hb7))
      all_goals go_wp2
      all_goals go_roundw
      all_goals (first | exact ⟨1, by omega, rfl, ⟨HO8.out⟩, ⟨by repeat (with_reducible first | exact HB8.out | apply pw_below_drewN | apply below_drew1)⟩⟩ | (simp [intOf]; done) | trace_state)
    · have HO1 := Aside0.mk (show OI wr w.heap.size u3 (putL (putL [] a) b) from HO.out)
      clear HO
      obtain ⟨n1, hn1, hm1⟩ : ∃ n, (putL (putL [] a) b).length = n ∧ n ≤ 10 := ⟨_, rfl, by first | omega | simp⟩
      obtain ⟨A1, c1, rfl, hc1, HC1⟩ := OI_readn HO1.out n1 hn1
      have HC := Aside0.mk HC1
      clear HC1 HO1 hn1
      have hcA := pw_cell_below HB.out H2.out
      have hcB := pw_cell_below HB.out H3.out
      go_wp2_with fail
      go_region_with (first
        | ((go_at_call 36); (with_reducible refine (rput_calls _ _ _ (putL (putL [] a) b) c _ ?_ hc1 (by omega)).mono ?_); exact (by repeat (with_reducible first | exact HC.out | refine Kd.C_drewN ?_ _ | refine Kd.C_drew ?_)); rintro e w5 ⟨v5, rfl, HO5, hb5⟩; obtain ⟨n5, hn5, hm5⟩ : ∃ n, (putL (putL (putL [] a) b) c).length = n ∧ n ≤ 10 := ⟨_, rfl, by omega⟩; obtain ⟨A5, c5, rfl, hc5, HC5⟩ := OI_readn HO5 n5 hn5; clear hn5; have HC6 := Aside0.mk HC5; have HB6 := Aside0.mk (below_step (w := w) (by repeat (with_reducible first | exact HB.out | apply pw_below_drewN | apply below_drew1)) hb5); have hcB6 := pw_cell_below HB6.out H3.out; clear HC HB hcA hcB HO5 HC5 hb5)
        | ((go_at_call 36); (with_reducible refine (rput_calls _ _ _ (putL (putL (putL [] a) b) c) d _ ?_ hc5 (by omega)).mono ?_); exact (by repeat (with_reducible first | exact HC6.out | refine Kd.C_drewN ?_ _ | refine Kd.C_drew ?_)); rintro e w7 ⟨v7, rfl, HO7, hb7⟩; have HO8 := Aside0.mk (Kd.R_lower HO7 (by first | exact HB6.out.size | (simp; exact HB6.out.size))); have HB8 := Aside0.mk (below_step (w := w) (by repeat (with_reducible first | exact HB6.out | apply pw_below_drewN | apply below_drew1)) hb7); clear HC6 HB6 hcB6 HO7 hb7))
      all_goals go_wp2
      all_goals go_roundw
      all_goals (first | exact ⟨2, by omega, rfl, ⟨HO8.out⟩, ⟨by repeat (with_reducible first | exact HB8.out | apply pw_below_drewN | apply below_drew1)⟩⟩ | (simp [intOf]; done) | trace_state)
    · go_wp2
      go_ret
      exact ⟨_, rfl, HO.out, HB.out⟩

end Go.Proofs.Ytloachifhaigjaa.A
