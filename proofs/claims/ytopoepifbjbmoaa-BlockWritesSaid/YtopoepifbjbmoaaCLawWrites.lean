/- BlockWrites: a block's bytes are just the document's, and are read as it. -/
import Derived.Test.YtopoepifbjbmoaaCRefWrite
import Derived.Deep.RegionHeld
namespace Go.Proofs.Ytopoepifbjbmoaa.A
open Go.RowKit Go.Proofs.YtopoepifbjbmoaaW.PrintWords Go.Proofs.YtopoepifbjbmoaaW.PrintLast Go.Proofs.YtopoepifbjbmoaaW.PrintMore
open R
set_option linter.unusedVariables false
set_option linter.unusedSimpArgs false

/-- What stands before the last line. -/
def PW (w : World) (u : Value) (X : List Int) (A : Option Addr) (k : Nat) (Y : List Vr) (W : World) : Prop := OB W 0 u X ∧ KVr.C W A k Y ∧ Below w.heap.size w W
theorem PW_step {w : World} {u : Value} {X : List Int} {A : Option Addr} {k : Nat} {Y : List Vr} {W W1 : World} (h : PW w u X A k Y W) (hb : Below W.heap.size W W1) : PW w u X A k Y W1 := ⟨Kd.R_below h.1 hb, Kd.C_below h.2.1 hb, below_step h.2.2 hb⟩
theorem PW_S {w : World} {u : Value} {X : List Int} {A : Option Addr} {k : Nat} {Y : List Vr} {w' : World} (h : PW w u X A k Y w') : (convert 24 9 u).run Try.prog w' = .ok (.string (strOfNums X)) w' ∧ Aside0 (PW w u X A k Y w') := ⟨OB_string h.1, ⟨h⟩⟩
theorem PW_c {w : World} {u : Value} {X : List Int} {A : Option Addr} {k : Nat} {Y : List Vr} {W : World} (h : PW w u X A k Y W) : KVr.C W A k Y := h.2.1
theorem PW_b {w : World} {u : Value} {X : List Int} {A : Option Addr} {k : Nat} {Y : List Vr} {W : World} (h : PW w u X A k Y W) : Below w.heap.size w W := h.2.2
theorem wr_may {Z : List Vr} (h : mayBl Z = true) : wrE Z = 0 ∧ wrB Z = blockB Z := by
  unfold wrE wrB
  rw [h]
  exact ⟨rfl, rfl⟩
theorem nil_may : mayBl [] = false := rfl
set_option maxRecDepth 100000 in
set_option maxHeartbeats 8000000 in
theorem writes_calls (w : World) (A : Option Addr) (c : Nat) (l : List Vr) (hr : KVr.C w A l.length l) (hc : l.length ≤ c) (hf : ∀ p ∈ l, p.fits) :
    Calls Try.prog 3 #[.slice A l.length c] w fun e w' => e = .returned (.bool true) ∧ Below w.heap.size w w' := by
  have HBK := Aside0.mk (block_calls A l.length c l w hr hc hf)
  generalize l.length = n at *
  clear hr hf
  go_enter Try.func3, Try.ntmps3
  go_wp2_with fail
  (with_reducible refine HBK.out.mono ?_)
  rintro e w1 ⟨u1, Z, rfl, hO1, hZ, hb1⟩
  obtain ⟨z, hz⟩ : ∃ z, Z.length = z := ⟨_, rfl⟩
  obtain ⟨A1, c1, rfl, hc1, hC1⟩ := OVr_readn hO1 z hz
  have HC1 := Aside0.mk hC1
  have HB1 := Aside0.mk hb1
  clear hO1 hb1 hC1 HBK
  rcases hZ with h0 | hm
  · subst h0
    obtain rfl : z = 0 := hz.symm
    have HW := Aside0.mk (fun W h => writeB_calls A1 0 c1 [] W h (Nat.zero_le _) (fun p hp => by cases hp))
    have e1 : wrE [] = 1 := rfl
    have e2 : wrB [] = [] := rfl
    rw [e1, e2] at HW
    clear e1 e2 hz
    go_wp2_with fail
    (with_reducible refine (HW.out _ HC1.out).mono ?_)
    rintro e w2 ⟨u2, rfl, hO2, hb2⟩
    obtain ⟨A2, c2, rfl, -, -⟩ := OB_readn hO2 0 rfl
    have HB2 := Aside0.mk (below_step HB1.out hb2)
    clear hO2 hb2 HB1 HC1
    go_wp2_with fail
    (with_reducible refine (lives_calls _).mono ?_)
    rintro e w6 ⟨rfl, hb6⟩
    have HB6 := Aside0.mk (below_step HB2.out hb6)
    clear hb6
    go_wp2_with fail
    go_ret
    exact ⟨rfl, HB6.out⟩
  · obtain ⟨hm1, hz1, hz8⟩ := mayBl_all hm
    rw [hz] at hz1 hz8
    have HN := Aside0.mk hz
    have HM1 := Aside0.mk hm1
    have HBL := Aside0.mk (blockB_len Z hm)
    have HBR := Aside0.mk (blockB_range Z)
    have HRB := Aside0.mk (readB_block Z hm)
    have HW := Aside0.mk (fun W h => writeB_calls A1 z c1 Z W h hc1 (allMay_small hm1))
    obtain ⟨e1, e2⟩ := wr_may hm
    rw [e1, e2] at HW
    have HRW := Aside0.mk (fun W h => refwriteB_calls A1 z c1 Z W h hc1 hz8 HM1.out)
    obtain ⟨B, hB⟩ : ∃ B, blockB Z = B := ⟨_, rfl⟩
    rw [hB] at HW HBL HBR HRB HRW
    have k1 : ((z : Int) == 0) = false := by rw [beq_eq_false_iff_ne]; omega
    clear e1 e2 hz hm hm1 hB hz1 hz8
    go_wp2_with fail
    (with_reducible refine (HW.out _ HC1.out).mono ?_)
    rintro e w2 ⟨u2, rfl, hO2, hb2⟩
    obtain ⟨p, hp⟩ : ∃ p, B.length = p := ⟨_, rfl⟩
    have hp4 : p ≤ 4000 := by rw [← hp]; exact HBL.out
    obtain ⟨A2, c2, rfl, hc2, hC2⟩ := OB_readn hO2 p hp
    have HC2 := Aside0.mk hC2
    have HP2 : Aside0 (PW w (.slice A2 p c2) B A1 z Z w2) := ⟨Kd.R_lower hO2 (Nat.zero_le _), Kd.C_below HC1.out hb2, below_step HB1.out hb2⟩
    clear hO2 hb2 HB1 HC1 hC2 hp HW
    go_wp2_with fail
    (with_reducible refine (readb_calls A2 p c2 B w2 HC2.out hc2 (by omega) HBR.out).mono ?_)
    rw [HRB.out]
    rintro e w3 ⟨u3, rfl, hO3, hb3⟩
    obtain ⟨A3, c3, rfl, hc3, hC3⟩ := OVr_readn hO3 z HN.out
    have HC3 := Aside0.mk hC3
    have HP3 := Aside0.mk (PW_step HP2.out hb3)
    clear hO3 hb3 hC3 HP2 HC2
    go_wp2_with fail
    (with_reducible refine (same_calls A3 A1 z c3 c1 Z _ HC3.out (PW_c HP3.out) hc3 hc1).mono ?_)
    rintro e w4 ⟨rfl, hb4⟩
    have HP4 := Aside0.mk (PW_step HP3.out (below_drew1 hb4))
    clear hb4 HP3 HC3
    go_wp2_with fail
    go_region_held (fun w' => (convert 24 9 (.slice A2 p c2)).run Try.prog w' = .ok (.string (strOfNums B)) w' ∧ Aside0 (PW w (.slice A2 p c2) B A1 z Z w'))
      (first
        | (with_reducible exact PW_S HP4.out)
        | (with_reducible exact PW_S HPa.out)
        | (with_reducible exact PW_S HPb.out))
      (first
        | ((go_at_call 13); (with_reducible refine (HRW.out _ (PW_c HP4.out)).mono ?_); rintro e wa ⟨ua, rfl, hOa, hba⟩; have HPa := Aside0.mk (PW_step HP4.out hba); have hsa := OB_string hOa; clear hOa hba)
        | ((go_at_call 10); (with_reducible refine (lives_calls _).mono ?_); rintro e wb ⟨rfl, hbb⟩; have HPb := Aside0.mk (PW_step HPa.out hbb)))
    all_goals go_wp2
    all_goals go_ret
    all_goals exact ⟨by first | rfl | kernel_rfl, by first | exact PW_b HPb.out | (go_split_ands; exact PW_b (Aside0.out (by assumption)))⟩
end Go.Proofs.Ytopoepifbjbmoaa.A
