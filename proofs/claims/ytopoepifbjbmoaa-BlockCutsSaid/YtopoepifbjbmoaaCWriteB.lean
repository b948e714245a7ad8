/- A block's bytes, if versions are one: block.Write. -/
import Derived.Test.YtopoepifbjbmoaaCWrite
namespace Go.Proofs.Ytopoepifbjbmoaa.A
open Go.RowKit Go.Proofs.YtopoepifbjbmoaaW.PrintWords Go.Proofs.YtopoepifbjbmoaaW.PrintLast Go.Proofs.YtopoepifbjbmoaaW.PrintMore
open R
set_option linter.unusedVariables false
set_option linter.unusedSimpArgs false

/-- What block.Write tells. -/
def wrE (l : List Vr) : Int := if mayBl l then 0 else 1
def wrB (l : List Vr) : List Int := if mayBl l then blockB l else []
theorem writeB_calls (A : Option Addr) (n c : Nat) (l : List Vr) (w : World) (hr : KVr.C w A n l) (hc : n ≤ c) (hs : smallB l) :
    Calls Try.prog 9 #[.slice A n c] w fun e w' => ∃ u, e = .returned (.tuple #[u, .int .i64 (wrE l)]) ∧ OB w' w.heap.size u (wrB l) ∧ Below w.heap.size w w' := by
  have HR := Aside0.mk hr
  have hmc := fun W h => mayB_calls A n c l W h hc hs
  clear hr
  cases hmb : mayBl l with
  | false =>
    have e1 : wrE l = 1 := by unfold wrE; rw [hmb]; rfl
    have e2 : wrB l = [] := by unfold wrB; rw [hmb]; rfl
    rw [e1, e2]
    rw [hmb] at hmc
    have HMC := Aside0.mk hmc
    clear e1 e2 hmb hs hmc
    go_enter Try.func9, Try.ntmps9
    go_wp2_with fail
    (with_reducible refine (HMC.out w HR.out).mono ?_)
    rintro e w1 ⟨rfl, hb1⟩
    have HB1 := Aside0.mk hb1
    clear hb1
    go_wp2_with fail
    go_ret2
    exact ⟨_, rfl, OB_nil _ _, HB1.out⟩
  | true =>
    have e1 : wrE l = 0 := by unfold wrE; rw [hmb]; rfl
    have e2 : wrB l = blockB l := by unfold wrB; rw [hmb]; rfl
    rw [e1, e2]
    obtain ⟨hm1, _, hm3⟩ := mayBl_all hmb
    have hn8 : n ≤ 8 := by rw [← HR.out.1]; exact hm3
    rw [hmb] at hmc
    have HMC := Aside0.mk hmc
    have HM := Aside0.mk hm1
    clear e1 e2 hmb hm1 hm3 hs hmc
    go_enter Try.func9, Try.ntmps9
    go_wp2_with fail
    (with_reducible refine (HMC.out w HR.out).mono ?_)
    rintro e w1 ⟨rfl, hb1⟩
    have HC1 := Aside0.mk (Kd.C_below HR.out hb1)
    have HB1 := Aside0.mk hb1
    clear hb1
    go_wp2_with fail
    (with_reducible refine (writeb_calls A n c l w1 HC1.out hc hn8 HM.out).mono ?_)
    rintro e w2 ⟨u, rfl, hO2, hb2⟩
    have HO2 := Aside0.mk (Kd.R_lower hO2 HB1.out.size)
    have HB2 := Aside0.mk (below_step HB1.out hb2)
    clear hO2 hb2
    go_wp2_with fail
    go_ret2
    exact ⟨_, rfl, HO2.out, HB2.out⟩
end Go.Proofs.Ytopoepifbjbmoaa.A
