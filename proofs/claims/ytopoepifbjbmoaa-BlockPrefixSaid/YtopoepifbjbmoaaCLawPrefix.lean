/- BlockPrefix: the first ones of a block are a block, and so is each one alone. -/
import Derived.Test.YtopoepifbjbmoaaCRefWrite
namespace Go.Proofs.Ytopoepifbjbmoaa.A
open Go.RowKit Go.Proofs.YtopoepifbjbmoaaW.PrintWords Go.Proofs.YtopoepifbjbmoaaW.PrintLast Go.Proofs.YtopoepifbjbmoaaW.PrintMore
open R
set_option linter.unusedVariables false
set_option linter.unusedSimpArgs false

theorem wr_may3 {Z : List Vr} (h : mayBl Z = true) : wrE Z = 0 ∧ wrB Z = blockB Z := by
  unfold wrE wrB
  rw [h]
  exact ⟨rfl, rfl⟩
theorem okN_le {l : List Vr} {n : Nat} (h : okN l n = true) : ∀ k, k ≤ n → okN l k = true := by
  intro k hk
  unfold okN at *
  rw [List.all_eq_true] at *
  intro i hi
  exact h i (List.mem_range.2 (Nat.lt_of_lt_of_le (List.mem_range.1 hi) hk))
theorem may_pre {Z : List Vr} (h : mayBl Z = true) (k : Nat) (h1 : 1 ≤ k) (h2 : k ≤ Z.length) : mayBl (Z.take k) = true := by
  unfold mayBl at *
  rw [Bool.and_eq_true, decide_eq_true_iff] at h
  have hl : (Z.take k).length = k := by rw [List.length_take]; omega
  rw [hl, decide_eq_true (by omega), Bool.and_true]
  have e := okN_pre (Z.take k) (Z.drop k) k (by omega)
  rw [List.take_append_drop] at e
  rw [← e]
  exact okN_le h.1 k h2
theorem may_each {Z : List Vr} (h : mayBl Z = true) (k : Nat) (hk : k < Z.length) : mayBl [Z.getD k default] = true := by
  have h1 := (mayBl_all h).1 _ (getD_mem Z k hk)
  unfold mayBl
  rw [show [Z.getD k default].length = 1 from rfl, okN_succ, okN_zero]
  unfold stepOk
  rw [show [Z.getD k default].getD 0 default = Z.getD k default from rfl, h1]
  rfl
theorem cutmV (A : Option Addr) (n c : Nat) (l : List Vr) (k k1 : Nat) (hn : l.length = n) (hk1 : k1 = k + 1) (hj : k1 ≤ n) (hc : n ≤ c) :
    ∃ (A' : Option Addr) (c' : Nat), (∀ W : World, (Instr.slice 22 (.slice A n c) (some (.int .i64 (k : Int))) (some (.int .i64 (k1 : Int))) none).run Try.prog W = .ok (.slice A' 1 c') W) ∧
      (∀ w : World, KVr.C w A n l → KVr.C w A' 1 [l.getD k default]) ∧ 1 ≤ c' := by
  subst hn hk1
  obtain ⟨i0, hi, _, hsz, _⟩ := info_parts infoVr
  have e : (l.take (k + 1)).drop k = [l.getD k default] := by
    rw [take_getD l k (by omega), List.drop_append_of_le_length (by rw [List.length_take]; omega), List.drop_of_length_le (by rw [List.length_take]; omega)]
    rfl
  refine ⟨if c = k then A else A.map (·.add (k * KVr.sz)), c - k, fun W => ?_, fun w h => ?_, by omega⟩
  · rw [cut_mid 22 39 .i64 .i64 Try.underlying22 hi 8 hsz A l.length c (k : Int) ((k + 1 : Nat) : Int) (by omega) (by omega) (by omega) hc W]
    rw [show ((((k + 1 : Nat) : Int)).toNat - ((k : Int)).toNat) = 1 by omega]
    rfl
  · have h7 := Kd.C_mid h (lo := k) (hi := k + 1) (by omega) (by omega) hc
    rw [e] at h7
    exact h7
/-- What stays of a block, and of its bytes. -/
def PX (w : World) (A : Option Addr) (k : Nat) (Y : List Vr) (W : World) : Prop := KVr.C W A k Y ∧ Below w.heap.size w W
theorem PX_step {w : World} {A : Option Addr} {k : Nat} {Y : List Vr} {W W1 : World} (h : PX w A k Y W) (hb : Below W.heap.size W W1) : PX w A k Y W1 := ⟨Kd.C_below h.1 hb, below_step h.2 hb⟩
theorem PX_c {w : World} {A : Option Addr} {k : Nat} {Y : List Vr} {W : World} (h : PX w A k Y W) : KVr.C W A k Y := h.1
set_option maxRecDepth 100000 in
set_option maxHeartbeats 8000000 in
theorem prefix_calls (w : World) (A : Option Addr) (c : Nat) (l : List Vr) (hr : KVr.C w A l.length l) (hc : l.length ≤ c) (hf : ∀ p ∈ l, p.fits) (n : Int) (gn : IntKind.i64.min ≤ n ∧ n ≤ IntKind.i64.max) :
    Calls Try.prog 6 #[.slice A l.length c, .int .i64 n] w fun e w' => e = .returned (.bool true) ∧ Below w.heap.size w w' := by
  have gn1 : -9223372036854775808 ≤ n := gn.1
  have gn2 : n ≤ 9223372036854775807 := gn.2
  clear gn
  have HBK := Aside0.mk (block_calls A l.length c l w hr hc hf)
  generalize l.length = nl at *
  clear hr hf
  go_enter Try.func6, Try.ntmps6
  go_wp2_with fail
  (with_reducible refine HBK.out.mono ?_)
  rintro e w1 ⟨u1, Z, rfl, hO1, hZ, hb1⟩
  obtain ⟨z, hz⟩ : ∃ z, Z.length = z := ⟨_, rfl⟩
  obtain ⟨A1, c1, rfl, hc1, hC1⟩ := OVr_readn hO1 z hz
  have HC1 := Aside0.mk hC1
  have HB1 := Aside0.mk hb1
  clear hO1 hb1 hC1 HBK
  rcases hZ with h0 | hm
  · subst h0
    obtain rfl : z = 0 := hz.symm
    have HMP := Aside0.mk (fun W h => mayB_calls A1 0 c1 [] W h (Nat.zero_le _) (fun p hp => by cases hp))
    have e1 : mayBl [] = false := rfl
    rw [e1] at HMP
    clear e1 hz
    go_wp2_with fail
    (with_reducible refine (HMP.out _ HC1.out).mono ?_)
    rintro e w2 ⟨rfl, hb2⟩
    have HB2 := Aside0.mk (below_step HB1.out hb2)
    clear hb2
    go_wp2_with fail
    (with_reducible refine (lives_calls _).mono ?_)
    rintro e w6 ⟨rfl, hb6⟩
    have HB6 := Aside0.mk (below_step HB2.out hb6)
    clear hb6
    go_wp2_with fail
    go_ret
    exact ⟨rfl, HB6.out⟩
  · obtain ⟨hm1, hz1, hz8⟩ := mayBl_all hm
    rw [hz] at hz1 hz8
    obtain ⟨a', hA⟩ : ∃ a' : Nat, (if n < 0 then -(n + 1) else n) = (a' : Int) := ⟨(if n < 0 then -(n + 1) else n).toNat, by split <;> omega⟩
    obtain ⟨k, hk⟩ : ∃ k, a' % z = k := ⟨_, rfl⟩
    have hkz : k < z := by rw [← hk]; exact Nat.mod_lt _ (by omega)
    have hkI : (a' : Int) % (z : Int) = (k : Int) := by rw [← hk]; rfl
    obtain ⟨k1, hk1⟩ : ∃ k1, k1 = k + 1 := ⟨_, rfl⟩
    have hk1z : k1 ≤ z := by omega
    have hk18 : k1 ≤ 8 := by omega
    have hct := cuttV A1 z c1 k1 hk1z hc1
    obtain ⟨A6, c6, hcm, hC6, hc6⟩ := cutmV A1 z c1 Z k k1 hz hk1 hk1z hc1
    have HC6 := Aside0.mk hC6
    have hmp := may_pre hm k1 (by omega) (by rw [hz]; exact hk1z)
    have hml : (Z.take k1).length = k1 := by rw [List.length_take, hz]; omega
    have hme := may_each hm k (by rw [hz]; exact hkz)
    have HCT := Aside0.mk (fun (W : World) (h : KVr.C W A1 z Z) => C_takeV h hz hk1z)
    obtain ⟨Y, hY⟩ : ∃ Y, Z.take k1 = Y := ⟨_, rfl⟩
    rw [hY] at hmp hml HCT
    have HN := Aside0.mk hml
    have HBL := Aside0.mk (blockB_len Y hmp)
    have HBR := Aside0.mk (blockB_range Y)
    have HRB := Aside0.mk (readB_block Y hmp)
    have HW := Aside0.mk (fun W h => writeB_calls A1 k1 c1 Y W h (Nat.le_trans hk1z hc1) (allMay_small (mayBl_all hmp).1))
    have HMP := Aside0.mk (fun W h => mayB_calls A6 1 c6 [Z.getD k default] W h hc6 (allMay_small (mayBl_all hme).1))
    rw [hme] at HMP
    obtain ⟨e1, e2⟩ := wr_may3 hmp
    rw [e1, e2] at HW
    obtain ⟨B, hB⟩ : ∃ B, blockB Y = B := ⟨_, rfl⟩
    rw [hB] at HW HBL HBR HRB
    have kz : ((z : Int) == 0) = false := by rw [beq_eq_false_iff_ne]; omega
    have kz1 : ¬ (z : Int) = 0 := by omega
    have kz2 : (0 : Int) ≤ (z : Int) := by omega
    have kk0 : (0 : Int) ≤ (k : Int) := by omega
    have kk1 : (k : Int) + 1 = (k1 : Int) := by omega
    have kk2 : IntKind.i64.wrap (k1 : Int) = (k1 : Int) := IntWalk.i64_in _ (by omega)
    have kk3 : IntKind.i64.wrap (k : Int) = (k : Int) := IntWalk.i64_in _ (by omega)
    have kk4 : (k : Int) ≤ (k1 : Int) := by omega
    have kk5 : (k1 : Int) ≤ (z : Int) := by omega
    have HNE : Aside0 (n < 0 → -((n + 1).tmod (z : Int)) = (k : Int)) := ⟨fun h => by
      rw [if_pos h] at hA
      rw [show n + 1 = -(a' : Int) by omega, Int.neg_tmod, Int.neg_neg, Int.tmod_eq_emod_of_nonneg (by omega), hkI]⟩
    have HNN : Aside0 (0 ≤ n → n % (z : Int) = (k : Int)) := ⟨fun h => by
      rw [if_neg (by omega)] at hA
      rw [hA, hkI]⟩
    have hk1l : k1 ≤ c1 := Nat.le_trans hk1z hc1
    clear e1 e2 hz hm hm1 hB hA hk hkI hY hmp hml hme hC6 hk1
    rcases Int.lt_or_le n 0 with sn | sn
    · have hq := HNE.out sn
      have hq2 : (-(n + 1)).tmod (z : Int) = (k : Int) := by rw [Int.neg_tmod]; exact hq
      clear HNE HNN
      go_wp2_with fail
      (with_reducible refine (HW.out _ (HCT.out _ HC1.out)).mono ?_)
      rintro e w2 ⟨u2, rfl, hO2, hb2⟩
      obtain ⟨p, hp⟩ : ∃ p, B.length = p := ⟨_, rfl⟩
      have hp4 : p ≤ 4000 := by rw [← hp]; exact HBL.out
      obtain ⟨A2, c2, rfl, hc2, hC2⟩ := OB_readn hO2 p hp
      have HC2 := Aside0.mk hC2
      have HP2 : Aside0 (PX w A1 z Z w2) := ⟨Kd.C_below HC1.out hb2, below_step HB1.out hb2⟩
      clear hO2 hb2 HB1 HC1 hC2 hp HW
      go_wp2_with fail
      (with_reducible refine (readb_calls A2 p c2 B w2 HC2.out hc2 (by omega) HBR.out).mono ?_)
      rw [HRB.out]
      rintro e w3 ⟨u3, rfl, hO3, hb3⟩
      obtain ⟨A3, c3, rfl, hc3, hC3⟩ := OVr_readn hO3 k1 HN.out
      have HC3 := Aside0.mk hC3
      have HP3 := Aside0.mk (PX_step HP2.out hb3)
      clear hO3 hb3 hC3 HP2 HC2
      go_wp2_with fail
      (with_reducible refine (same_calls A3 A1 k1 c3 c1 Y _ HC3.out (HCT.out _ (PX_c HP3.out)) hc3 hk1l).mono ?_)
      rintro e w4 ⟨rfl, hb4⟩
      have HP4 := Aside0.mk (PX_step HP3.out hb4)
      clear hb4 HP3 HC3
      go_wp2_with fail
      (with_reducible refine (HMP.out _ (HC6.out _ (PX_c HP4.out))).mono ?_)
      rintro e w5 ⟨rfl, hb5⟩
      have HP5 := Aside0.mk (PX_step HP4.out hb5)
      clear hb5 HP4
      go_wp2_with fail
      (with_reducible refine (lives_calls _).mono ?_)
      rintro e w6 ⟨rfl, hb6⟩
      have HB6 := Aside0.mk (below_step HP5.out.2 hb6)
      clear hb6
      go_wp2_with fail
      go_ret
      exact ⟨rfl, HB6.out⟩
    · have hq := HNN.out sn
      have hq2 : n.tmod (z : Int) = (k : Int) := by rw [Int.tmod_eq_emod_of_nonneg sn]; exact hq
      clear HNE HNN
      go_wp2_with fail
      (with_reducible refine (HW.out _ (HCT.out _ HC1.out)).mono ?_)
      rintro e w2 ⟨u2, rfl, hO2, hb2⟩
      obtain ⟨p, hp⟩ : ∃ p, B.length = p := ⟨_, rfl⟩
      have hp4 : p ≤ 4000 := by rw [← hp]; exact HBL.out
      obtain ⟨A2, c2, rfl, hc2, hC2⟩ := OB_readn hO2 p hp
      have HC2 := Aside0.mk hC2
      have HP2 : Aside0 (PX w A1 z Z w2) := ⟨Kd.C_below HC1.out hb2, below_step HB1.out hb2⟩
      clear hO2 hb2 HB1 HC1 hC2 hp HW
      go_wp2_with fail
      (with_reducible refine (readb_calls A2 p c2 B w2 HC2.out hc2 (by omega) HBR.out).mono ?_)
      rw [HRB.out]
      rintro e w3 ⟨u3, rfl, hO3, hb3⟩
      obtain ⟨A3, c3, rfl, hc3, hC3⟩ := OVr_readn hO3 k1 HN.out
      have HC3 := Aside0.mk hC3
      have HP3 := Aside0.mk (PX_step HP2.out hb3)
      clear hO3 hb3 hC3 HP2 HC2
      go_wp2_with fail
      (with_reducible refine (same_calls A3 A1 k1 c3 c1 Y _ HC3.out (HCT.out _ (PX_c HP3.out)) hc3 hk1l).mono ?_)
      rintro e w4 ⟨rfl, hb4⟩
      have HP4 := Aside0.mk (PX_step HP3.out hb4)
      clear hb4 HP3 HC3
      go_wp2_with fail
      (with_reducible refine (HMP.out _ (HC6.out _ (PX_c HP4.out))).mono ?_)
      rintro e w5 ⟨rfl, hb5⟩
      have HP5 := Aside0.mk (PX_step HP4.out hb5)
      clear hb5 HP4
      go_wp2_with fail
      (with_reducible refine (lives_calls _).mono ?_)
      rintro e w6 ⟨rfl, hb6⟩
      have HB6 := Aside0.mk (below_step HP5.out.2 hb6)
      clear hb6
      go_wp2_with fail
      go_ret
      exact ⟨rfl, HB6.out⟩
end Go.Proofs.Ytopoepifbjbmoaa.A
