/- BlockShares: a block's bytes are no more than those of its versions alone, one more for each, and one. -/
import Derived.Test.YtopoepifbjbmoaaCRefWrite
namespace Go.Proofs.Ytopoepifbjbmoaa.A
open Go.RowKit Go.Proofs.YtopoepifbjbmoaaW.PrintWords Go.Proofs.YtopoepifbjbmoaaW.PrintLast Go.Proofs.YtopoepifbjbmoaaW.PrintMore
open R
set_option linter.unusedVariables false
set_option linter.unusedSimpArgs false

theorem wr_may2 {Z : List Vr} (h : mayBl Z = true) : wrE Z = 0 ∧ wrB Z = blockB Z := by
  unfold wrE wrB
  rw [h]
  exact ⟨rfl, rfl⟩
/-- One, and for each version one more than its bytes. -/
def shN : List Vr → Nat
  | [] => 1
  | p :: l => (1 + (bytesV p).length) + shN l
theorem shN_snoc (p : Vr) : ∀ l : List Vr, shN (l ++ [p]) = shN l + 1 + (bytesV p).length
  | [] => by show (1 + (bytesV p).length) + 1 = 1 + 1 + _; omega
  | q :: l => by
    show (1 + (bytesV q).length) + shN (l ++ [p]) = (1 + (bytesV q).length) + shN l + 1 + _
    rw [shN_snoc p l]
    omega
theorem shN_le : ∀ l : List Vr, (∀ p ∈ l, mayV p = true) → shN l ≤ 1 + 401 * l.length
  | [], _ => Nat.le_refl _
  | p :: l, h => by
    have h1 := bytesV_len p (h p List.mem_cons_self)
    have h2 := shN_le l (fun q hq => h q (List.mem_cons_of_mem _ hq))
    show (1 + (bytesV p).length) + shN l ≤ _
    rw [List.length_cons]
    omega
theorem bytesW_sh : ∀ (l : List Vr) (key : ByteArray), (∀ p ∈ l, mayV p = true) → (bytesW key l).length + 1 ≤ shN l
  | [], _, _ => Nat.le_refl _
  | p :: l, key, h => by
    have h1 := bytesP_le key p (h p List.mem_cons_self)
    have h2 := bytesW_sh l p.k (fun q hq => h q (List.mem_cons_of_mem _ hq))
    show (bytesP key p ++ bytesW p.k l).length + 1 ≤ (1 + (bytesV p).length) + shN l
    rw [List.length_append]
    omega
theorem blockB_sh (l : List Vr) (h : mayBl l = true) : (blockB l).length ≤ shN l := by
  obtain ⟨h1, h2, h3⟩ := mayBl_all h
  have h4 := bytesW_sh l { data := #[] } h1
  unfold blockB
  rw [List.length_append, vput_small _ (by omega)]
  omega
set_option maxRecDepth 100000 in
set_option maxHeartbeats 8000000 in
theorem shares_calls (w : World) (A : Option Addr) (c : Nat) (l : List Vr) (hr : KVr.C w A l.length l) (hc : l.length ≤ c) (hf : ∀ p ∈ l, p.fits) :
    Calls Try.prog 5 #[.slice A l.length c] w fun e w' => e = .returned (.bool true) ∧ Below w.heap.size w w' := by
  have HBK := Aside0.mk (block_calls A l.length c l w hr hc hf)
  generalize l.length = n at *
  clear hr hf
  go_enter Try.func5, Try.ntmps5
  go_wp2_with fail
  (with_reducible refine HBK.out.mono ?_)
  rintro e w1 ⟨u1, Z, rfl, hO1, hZ, hb1⟩
  obtain ⟨z, hz⟩ : ∃ z, Z.length = z := ⟨_, rfl⟩
  obtain ⟨A1, c1, rfl, hc1, hC1⟩ := OVr_readn hO1 z hz
  have HC1 := Aside0.mk hC1
  have HB1 := Aside0.mk hb1
  clear hO1 hb1 hC1 HBK
  rcases hZ with h0 | hm
  · subst h0
    obtain rfl : z = 0 := hz.symm
    go_wp2_with fail
    (with_reducible refine (lives_calls _).mono ?_)
    rintro e w6 ⟨rfl, hb6⟩
    have HB6 := Aside0.mk (below_step HB1.out hb6)
    clear hb6
    go_wp2_with fail
    go_ret
    exact ⟨rfl, HB6.out⟩
  · obtain ⟨hm1, hz1, hz8⟩ := mayBl_all hm
    rw [hz] at hz1 hz8
    have HN := Aside0.mk hz
    have HM1 := Aside0.mk hm1
    have HSH := Aside0.mk (blockB_sh Z hm)
    have HW := Aside0.mk (fun W h => writeB_calls A1 z c1 Z W h hc1 (allMay_small hm1))
    obtain ⟨e1, e2⟩ := wr_may2 hm
    rw [e1, e2] at HW
    obtain ⟨B, hB⟩ : ∃ B, blockB Z = B := ⟨_, rfl⟩
    rw [hB] at HW HSH
    have k1 : ((z : Int) == 0) = false := by rw [beq_eq_false_iff_ne]; omega
    clear e1 e2 hz hm hm1 hB
    go_wp2_with fail
    (with_reducible refine (HW.out _ HC1.out).mono ?_)
    rintro e w2 ⟨u2, rfl, hO2, hb2⟩
    obtain ⟨p, hp⟩ : ∃ p, B.length = p := ⟨_, rfl⟩
    rw [hp] at HSH
    obtain ⟨A2, c2, rfl, hc2, -⟩ := OB_readn hO2 p hp
    have HC2 := Aside0.mk (Kd.C_below HC1.out hb2)
    have HB2 := Aside0.mk (below_step HB1.out hb2)
    clear hO2 hb2 HB1 HC1 hp HW
    go_wp2_with fail
    go_loopw [6, 7] (fun v6 v7 w' => ∃ k s : Nat, k ≤ z ∧ v7 = .int .i64 k ∧ v6 = .int .i64 s ∧ Aside0 (shN (Z.take k) = s) ∧ Aside0 (KVr.C w' A1 z Z) ∧ Aside0 (Below w.heap.size w w')) (fun _ v7 _ => z - (intOf v7).toNat)
    case atStart => exact ⟨0, 1, Nat.zero_le _, rfl, rfl, ⟨rfl⟩, HC2, HB2⟩
    case round =>
      clear HC2 HB2
      obtain ⟨k, s, hk, rfl, rfl, HS, HC, HB⟩ := hrel
      by_cases hlt : k < z
      · obtain ⟨q, hq⟩ : ∃ q, Z.getD k default = q := ⟨_, rfl⟩
        have hqm := HM1.out _ (getD_mem Z k (by rw [HN.out]; exact hlt))
        rw [hq] at hqm
        have HTK : Aside0 (Z.take (k + 1) = Z.take k ++ [q]) := ⟨by rw [take_getD Z k (by rw [HN.out]; exact hlt), hq]⟩
        have hs := shN_le (Z.take k) (fun p hp => HM1.out p (List.mem_of_mem_take hp))
        rw [HS.out, List.length_take] at hs
        have hs4 : s ≤ 4000 := by omega
        obtain ⟨ad, rfl, -⟩ := C_atVr HC.out k hlt
        obtain ⟨p0, p1, p2, p3, p4, p5, p6, p7⟩ := C_atVr' HC.out k hlt q hq
        obtain ⟨qk, qbr, qep, qsq, qf, qt, qv, qg⟩ := q
        simp only at p0 p1 p2 p3 p4 p5 p6 p7
        have HV := Aside0.mk (fun W => refwrite_calls qk qbr qep qsq qf qt qv qg W hqm)
        have hvl := bytesV_len _ hqm
        obtain ⟨vb, hvb⟩ : ∃ vb, bytesV ⟨qk, qbr, qep, qsq, qf, qt, qv, qg⟩ = vb := ⟨_, rfl⟩
        obtain ⟨vn, hvn⟩ : ∃ vn, vb.length = vn := ⟨_, rfl⟩
        rw [hvb] at HV hvl
        rw [hvn] at hvl
        have HVB := Aside0.mk hvb
        have HVN := Aside0.mk hvn
        have i1 : (k : Int) < (z : Int) := by omega
        have i2 : (0 : Int) ≤ (k : Int) := by omega
        have i3 : IntKind.i64.wrap ((s : Int) + 1) = (s : Int) + 1 := IntWalk.i64_in _ (by omega)
        have i4 : IntKind.i64.wrap ((s : Int) + 1 + (vn : Int)) = (s : Int) + 1 + (vn : Int) := IntWalk.i64_in _ (by omega)
        clear hq hqm hs hvb hvn
        go_wp2_with fail
        (with_reducible refine (HV.out _).mono ?_)
        rintro e w3 ⟨u3, rfl, hO3, hb3⟩
        obtain ⟨A3, c3, rfl, hc3, -⟩ := OB_readn hO3 vn HVN.out
        have HC3 := Aside0.mk (Kd.C_below HC.out hb3)
        have HB3 := Aside0.mk (below_step HB.out hb3)
        clear hO3 hb3 HC HB p0 p1 p2 p3 p4 p5 p6 p7
        go_wp2_with fail
        go_roundw
        case rel => exact ⟨k + 1, s + 1 + vn, hlt, rfl, by push_cast; rfl, ⟨by rw [HTK.out, shN_snoc, HS.out, HVB.out, HVN.out]⟩, HC3, HB3⟩
        case measure => simp [intOf]; omega
      · obtain rfl : k = z := by omega
        have i1 : ¬ (k : Int) < (k : Int) := by omega
        have hS := HS.out
        rw [List.take_of_length_le (by rw [HN.out]; omega)] at hS
        have hps : (p : Int) ≤ (s : Int) := by have := HSH.out; omega
        clear hS
        go_wp2_with fail
        (with_reducible refine (lives_calls _).mono ?_)
        rintro e w6 ⟨rfl, hb6⟩
        have HB6 := Aside0.mk (below_step HB.out hb6)
        clear hb6
        go_wp2_with fail
        go_ret
        exact ⟨rfl, HB6.out⟩
end Go.Proofs.Ytopoepifbjbmoaa.A
