/- RowLists: versions' bytes are the document's, and are read as they, or they are refused. -/
import Derived.Test.YtmkabbfglijckaaBAll
import Derived.Test.YtmkabbfglijckaaBMayR
import Derived.Deep.RegionHeld
namespace Go.Proofs.Ytmkabbfglijckaa.A
open Go.RowKit Go.Proofs.YtmkabbfglijckaaW.PrintWords Go.Proofs.YtmkabbfglijckaaW.PrintLast Go.Proofs.YtmkabbfglijckaaW.PrintMore
set_option linter.unusedVariables false
set_option linter.unusedSimpArgs false

def ownL (l : List Vr) (k : Nat) : List Vr := (l.take k).map cutV
theorem ownL_len (l : List Vr) (k n : Nat) (hn : l.length = n) (hk : k ≤ n) : (ownL l k).length = k := by unfold ownL; rw [List.length_map, List.length_take]; omega
theorem ownL_next (l : List Vr) (k n : Nat) (hn : l.length = n) (hk : k < n) : ownL l (k + 1) = ownL l k ++ [cutV (l.getD k default)] := by
  unfold ownL
  rw [take_getD l k (by omega), List.map_append]
  rfl
theorem ownL_zero (l : List Vr) : ownL l 0 = [] := rfl
theorem ownL_small (l : List Vr) (k : Nat) : smallL (ownL l k) := by
  intro p hp
  obtain ⟨q, _, rfl⟩ := List.mem_map.1 hp
  exact ⟨cutS_size _ _, cutS_size _ _⟩
theorem allB_next (x : List Vr) (p : Vr) : allB (x ++ [p]) = (allB x && mayV p) := by unfold allB; rw [List.all_append]; simp
/-- What stands before the last line. -/
def PL (w : World) (u : Value) (X : List Int) (A : Option Addr) (k : Nat) (Y : List Vr) (W : World) : Prop := OB W 0 u X ∧ KVr.C W A k Y ∧ Below w.heap.size w W
theorem PL_step {w : World} {u : Value} {X : List Int} {A : Option Addr} {k : Nat} {Y : List Vr} {W W1 : World} (h : PL w u X A k Y W) (hb : Below W.heap.size W W1) : PL w u X A k Y W1 := ⟨Kd.R_below h.1 hb, Kd.C_below h.2.1 hb, below_step h.2.2 hb⟩
theorem PL_b {w : World} {u : Value} {X : List Int} {A : Option Addr} {k : Nat} {Y : List Vr} {W : World} (h : PL w u X A k Y W) : Below w.heap.size w W := h.2.2
theorem PL_c {w : World} {u : Value} {X : List Int} {A : Option Addr} {k : Nat} {Y : List Vr} {W : World} (h : PL w u X A k Y W) : KVr.C W A k Y := h.2.1
theorem PL_S {w : World} {u : Value} {X : List Int} {A : Option Addr} {k : Nat} {Y : List Vr} {w' : World} (h : PL w u X A k Y w') : (convert 29 9 u).run Try.prog w' = .ok (.string (strOfNums X)) w' ∧ Aside0 (PL w u X A k Y w') := ⟨OB_string h.1, ⟨h⟩⟩
set_option maxRecDepth 100000 in
set_option maxHeartbeats 8000000 in
theorem lists_calls (w : World) (A : Option Addr) (c : Nat) (l : List Vr) (hr : KVr.C w A l.length l) (hc : l.length ≤ c) (hf : ∀ p ∈ l, p.fits) :
    Calls Try.prog 8 #[.slice A l.length c] w fun e w' => e = .returned (.bool true) ∧ Below w.heap.size w w' := by
  have HR := Aside0.mk hr
  have HF := Aside0.mk hf
  have hmx : l.length ≤ 9223372036854775807 := hr.2.1
  obtain ⟨n, hn⟩ : ∃ n, l.length = n := ⟨_, rfl⟩
  have HN := Aside0.mk hn
  rw [hn] at hc hmx HR ⊢
  clear hr hf hn
  go_enter Try.func8, Try.ntmps8
  go_wp2_with fail
  go_loopw [3, 4, 5] (fun v3 v4 v5 w' => ∃ (k : Nat) (b : Bool), k ≤ n ∧ k ≤ 6 ∧ v5 = .int .i64 k ∧ v4 = .bool b ∧ Aside0 (allB (ownL l k) = b) ∧ Aside0 (OVr w' w.heap.size v3 (ownL l k)) ∧ Aside0 (Below w.heap.size w w')) (fun _ _ v5 _ => 6 - (intOf v5).toNat)
  case atStart => exact ⟨0, true, Nat.zero_le _, by omega, rfl, rfl, ⟨rfl⟩, ⟨OVr_nil _ _⟩, ⟨Below.refl _ _⟩⟩
  case round =>
    obtain ⟨k, b, hk, hk6, rfl, rfl, HMY, HO, HB⟩ := hrel
    by_cases hlt : k < n ∧ k < 6
    · obtain ⟨hlt, hl6⟩ := hlt
      have HX := Aside0.mk (C_atVr (Kd.C_below HR.out HB.out) k hlt)
      have HNX := Aside0.mk (ownL_next l k n HN.out hlt)
      have HLN := Aside0.mk (ownL_len l k n HN.out hk)
      have hfq := HF.out _ (getD_mem l k (by rw [HN.out]; exact hlt))
      generalize l.getD k default = q at *
      obtain ⟨qk, qbr, qep, qsq, qf, qt, qv, qg⟩ := q
      have i1 : qk.size ≤ 9223372036854775807 := hfq.1
      have i2 : qv.size ≤ 9223372036854775807 := hfq.2
      have hs1 := cutS_size qk 110
      have hs2 := cutS_size qv 210
      obtain ⟨ad, rfl, p0, p1, p2, p3, p4, p5, p6, p7⟩ := HX.out
      clear HX hfq
      have j1 : (k : Int) < (n : Int) := by omega
      have j2 : (0 : Int) ≤ (k : Int) := by omega
      have j3 : (k : Int) < 6 := by omega
      go_wp2_with fail
      (with_reducible refine (cut_calls qk qbr qep qsq qf qt qv qg _ i1 i2).mono ?_)
      rintro e w1 ⟨rfl, hb1⟩
      have HE : Aside0 (cutV ⟨qk, qbr, qep, qsq, qf, qt, qv, qg⟩ = ⟨cutS qk 110, qbr, qep, qsq, qf, qt, cutS qv 210, qg⟩) := ⟨rfl⟩
      generalize cutS qk 110 = k1 at *
      generalize cutS qv 210 = v1 at *
      have hal := below_alloc (Below.refl w1.heap.size w1) (vrBox k1 qbr qep qsq qf qt v1 qg)
      have HO1 := Aside0.mk (Kd.R_below (Kd.R_below HO.out hb1) hal)
      have HB1 := Aside0.mk (below_step (below_step HB.out hb1) hal)
      have HX1 : Aside0 ((w1.alloc (vrBox k1 qbr qep qsq qf qt v1 qg)).heap[w1.heap.size]? = some (vrBox k1 qbr qep qsq qf qt v1 qg)) := ⟨heap_alloc_new w1 _⟩
      clear hb1 hal HO HB p0 p1 p2 p3 p4 p5 p6 p7
      go_wp2_with fail
      (with_reducible refine (may6_calls k1 qbr qep qsq qf qt v1 qg _ (by omega) (by omega)).mono ?_)
      rintro e w2 ⟨rfl, hb2⟩
      have HO2 := Aside0.mk (Kd.R_below HO1.out hb2)
      have HB2 := Aside0.mk (below_step HB1.out hb2)
      obtain ⟨x0, x1, x2, x3, x4, x5, x6, x7⟩ := vr_cells (box_keep HX1.out hb2)
      clear hb2 HO1 HB1 HX1
      cases b with
      | false =>
        go_wp2_with ((with_reducible refine gate_dst (N := 37) rfl ?_); refine app_vr rfl rfl rfl rfl HO2.out HB2.out.size (by rw [HLN.out]; omega) ?_; intro v4 w4 hO4 hb4 _; have HO5 := Aside0.mk hO4; have HB5 := Aside0.mk (HB2.out.trans hb4); clear hO4 hb4)
        go_roundw
        case rel => exact ⟨k + 1, false, hlt, hl6, rfl, rfl, ⟨by rw [HNX.out, allB_next, HMY.out]; rfl⟩, ⟨by rw [HNX.out, HE.out]; exact HO5.out⟩, HB5⟩
        case measure => simp [intOf]; omega
      | true =>
        obtain ⟨mb, hmb⟩ : ∃ mb, mayV ⟨k1, qbr, qep, qsq, qf, qt, v1, qg⟩ = mb := ⟨_, rfl⟩
        rw [hmb]
        have HMB := Aside0.mk hmb
        clear hmb
        go_wp2_with ((with_reducible refine gate_dst (N := 37) rfl ?_); refine app_vr rfl rfl rfl rfl HO2.out HB2.out.size (by rw [HLN.out]; omega) ?_; intro v4 w4 hO4 hb4 _; have HO5 := Aside0.mk hO4; have HB5 := Aside0.mk (HB2.out.trans hb4); clear hO4 hb4)
        go_roundw
        case rel => exact ⟨k + 1, mb, hlt, hl6, rfl, rfl, ⟨by rw [HNX.out, allB_next, HMY.out, HE.out, HMB.out]; rfl⟩, ⟨by rw [HNX.out, HE.out]; exact HO5.out⟩, HB5⟩
        case measure => simp [intOf]; omega
    · have HLN := Aside0.mk (ownL_len l k n HN.out hk)
      have HSM := Aside0.mk (ownL_small l k)
      generalize ownL l k = Y at *
      obtain ⟨A3, c3, rfl, hc3, hC3⟩ := OVr_readn HO.out k HLN.out
      have HC3 := Aside0.mk hC3
      clear hC3 HO HR HF HN
      rcases (show (¬ (k : Int) < (n : Int)) ∨ ((k : Int) < (n : Int) ∧ ¬ (k : Int) < 6) by omega) with j1 | ⟨j1, j3⟩
      all_goals clear hlt
      all_goals go_wp2_with fail
      all_goals (with_reducible refine (list_calls A3 k c3 Y _ HC3.out hc3 hk6 HSM.out).mono ?_)
      all_goals rintro e w1 ⟨u, rfl, hO1, hb1⟩
      all_goals have HO1 := Aside0.mk (Kd.R_lower hO1 (Nat.zero_le _))
      all_goals have HC1 := Aside0.mk (Kd.C_below HC3.out hb1)
      all_goals have HB1 := Aside0.mk (below_step HB.out hb1)
      all_goals clear hO1 hb1 HC3 HB HSM
      all_goals cases b with
        | false =>
          have e1 : listE Y = 1 := by unfold listE; rw [HMY.out]; rfl
          have e2 : listB Y = [] := by unfold listB; rw [HMY.out]; rfl
          rw [e1]
          rw [e2] at HO1
          obtain ⟨Au, cu, rfl, _, _⟩ := OB_readn HO1.out 0 rfl
          clear e1 e2 HO1 HC1 HMY
          go_wp2_with fail
          (with_reducible refine (lives_calls _).mono ?_)
          rintro e w6 ⟨rfl, hb6⟩
          have HB6 := Aside0.mk (below_step HB1.out hb6)
          clear hb6
          go_wp2_with fail
          go_ret
          exact ⟨rfl, HB6.out⟩
        | true =>
          have e1 : listE Y = 0 := by unfold listE; rw [HMY.out]; rfl
          have e2 : listB Y = bytesL Y := by unfold listB; rw [HMY.out]; rfl
          rw [e1]
          rw [e2] at HO1
          have HAM := Aside0.mk ((allB_iff Y).1 HMY.out)
          obtain ⟨p, hp⟩ : ∃ p, (bytesL Y).length = p := ⟨_, rfl⟩
          obtain ⟨Au, cu, rfl, hcu, hCu⟩ := OB_readn HO1.out p hp
          have HP1 : Aside0 (PL w (.slice Au p cu) (bytesL Y) A3 k Y w1) := ⟨HO1.out, HC1.out, HB1.out⟩
          have HCu := Aside0.mk hCu
          clear e1 e2 HO1 HC1 HB1 HMY hCu hp
          go_wp2_with fail
          (with_reducible refine (all_calls Au p cu Y _ HCu.out hcu (by rw [HLN.out]; exact hk6) HAM.out).mono ?_)
          rintro e w2 ⟨u2, rfl, hO2, hb2⟩
          obtain ⟨A2, c2, rfl, hc2, hC2⟩ := OVr_readn hO2 k HLN.out
          have HC2 := Aside0.mk hC2
          have HP2 := Aside0.mk (PL_step HP1.out hb2)
          clear hC2 hO2 hb2 HP1 HCu
          go_wp2_with fail
          (with_reducible refine (same_calls A2 A3 k c2 c3 Y _ HC2.out (PL_c HP2.out) hc2 hc3).mono ?_)
          rintro e w3 ⟨rfl, hb3⟩
          have HP3 := Aside0.mk (PL_step HP2.out (below_drew1 hb3))
          clear hb3 HP2 HC2
          go_wp2_with fail
          go_region_held (fun w' => (convert 29 9 (.slice Au p cu)).run Try.prog w' = .ok (.string (strOfNums (bytesL Y))) w' ∧ Aside0 (PL w (.slice Au p cu) (bytesL Y) A3 k Y w'))
            (first
              | (with_reducible exact PL_S HP3.out)
              | (with_reducible exact PL_S HPa.out)
              | (with_reducible exact PL_S HPb.out))
            (first
              | ((go_at_call 23); (with_reducible refine (reflist_calls A3 k c3 Y _ (PL_c HP3.out) hc3 hk6 HAM.out).mono ?_); rintro e wa ⟨ua, rfl, hOa, hba⟩; have HPa := Aside0.mk (PL_step HP3.out hba); have hsa := OB_string hOa; clear hOa hba)
              | ((go_at_call 11); (with_reducible refine (lives_calls _).mono ?_); rintro e wb ⟨rfl, hbb⟩; have HPb := Aside0.mk (PL_step HPa.out hbb)))
          all_goals go_wp2
          all_goals go_ret
          all_goals exact ⟨by first | rfl | kernel_rfl, by first | exact PL_b HPb.out | (go_split_ands; exact PL_b (Aside0.out (by assumption)))⟩
end Go.Proofs.Ytmkabbfglijckaa.A
