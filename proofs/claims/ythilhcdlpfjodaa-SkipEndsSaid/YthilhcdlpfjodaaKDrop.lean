/- A key is taken away. -/
import Derived.Test.YthilhcdlpfjodaaKStep
namespace Go.Proofs.Ythilhcdlpfjodaa.A
open Go.RowKit Go.Proofs.YthilhcdlpfjodaaW.PrintWords Go.Proofs.YthilhcdlpfjodaaW.PrintLast Go.Proofs.YthilhcdlpfjodaaW.PrintMore
set_option linter.unusedVariables false
set_option linter.unusedSimpArgs false

theorem ahead_arr (xs : List Nd) (p : Nat) : ∃ cs : Array Value, aheadV xs p = .agg cs ∧ ∀ (r : Nat) (W : World), r < 8 → (Instr.index 62 (.agg cs) (.int .i64 (r : Int))).run Try.prog W = .ok (.pointer (some ⟨(xs.getD (la xs (p + 1) r) default).b, 0, none⟩)) W := by
  refine ⟨_, rfl, fun r W hr => ?_⟩
  rw [idx_arr _ r hr (by simp) W]
  congr 1
  simp [hr, pv]
/-- What of a node lies in cells. -/
theorem SL_cells {W : World} {L : Nat} {xs : List Nd} {f : Nat → Nat → Option Nat} {m : Int} (h : SL W L xs f m) (i : Nat) (hi : i < xs.length) :
    W.cell? ⟨(xs.getD i default).b, 2, none⟩ = some (.slice (some ⟨(xs.getD i default).nb, 0, none⟩) (xs.getD i default).it.lv (xs.getD i default).it.lv) ∧ (∀ r, r < (xs.getD i default).it.lv → W.cell? ⟨(xs.getD i default).nb, r, none⟩ = some (pv (f i r))) ∧ (∀ o, W.frozen? ⟨(xs.getD i default).nb, o, none⟩ = false) :=
  ⟨(node_cells (h.2.2.1 i hi)).2.2, fun r hr => node_row (h.2.2.1 i hi) r hr, fun o => plain_frozen (h.2.2.1 i hi).2 o⟩
theorem lv0 {W : World} {L : Nat} {xs : List Nd} (h : SK W L xs) : (xs.getD 0 default).it.lv = 8 := by rw [h.2.1]
theorem dropS_no {l : List It} {key : ByteArray} (h : isS l key = false) : dropS l key = l := by unfold dropS; rw [h]; rfl
theorem dropS_yes {l : List It} {key : ByteArray} (h : isS l key = true) : dropS l key = l.take (atS l key) ++ l.drop (atS l key + 1) := by unfold dropS; rw [h, if_pos rfl]
theorem tail_out (xs : List Nd) (p : Nat) (hp : p + 1 < xs.length) : ((xs.take (p + 1) ++ xs.drop (p + 1 + 1)).tail).map Nd.it = (xs.tail.map Nd.it).take p ++ (xs.tail.map Nd.it).drop (p + 1) := by
  cases xs with
  | nil => simp at hp
  | cons x xs => simp [List.map_take, List.map_drop]
/-- The list without a node. -/
theorem SK_out {W : World} {L : Nat} {xs : List Nd} {key : ByteArray} (hS : SK W L xs) {W1 : World} (hi : isS (xs.tail.map Nd.it) key = true) (h : SL W1 L xs (dF xs (atS (xs.tail.map Nd.it) key) 8) ((xs.length : Int) - 1 - 1)) :
    ∃ xs', SK W1 L xs' ∧ xs'.tail.map Nd.it = dropS (xs.tail.map Nd.it) key ∧ ∀ k ∈ blks xs', k ∈ blks xs := by
  have hlt := (isS_lt hi).1
  rw [tail_len] at hlt
  obtain ⟨p, hp⟩ : ∃ p, atS (xs.tail.map Nd.it) key = p := ⟨_, rfl⟩
  have hp1 : p + 1 < xs.length := by omega
  have ht := tail_out xs p hp1
  have hd := dropS_yes hi
  rw [hp] at h hd
  refine ⟨xs.take (p + 1) ++ xs.drop (p + 1 + 1), ⟨?_, ?_, ?_⟩, by rw [ht, hd], fun k hk => (blks_out xs (p + 1)).subset hk⟩
  · have h1 := SL_out h (p + 1) (by omega) hp1
    rw [out_len xs (p + 1) hp1, show (((xs.length - 1 : Nat) : Int) - 1) = (xs.length : Int) - 1 - 1 by omega]
    refine SL_congr h1 (fun i r hi hr => ?_)
    rw [out_len xs (p + 1) hp1] at hi
    rw [out_getD xs (p + 1) i hp1] at hr
    have hle := (sk_lv hS (if i < p + 1 then i else i + 1) (by split <;> omega)).2
    exact dF_done xs p i r hp1 (sk_lv hS (p + 1) hp1).2 (by rw [lv0 hS]; omega) hr (by omega)
  · rw [out_getD xs (p + 1) 0 hp1, if_pos (by omega)]
    exact hS.2.1
  · rw [ht, ← hd]
    exact srt_drop hS.2.2 key
theorem ch_a {W : World} {L : Nat} {xs : List Nd} {f : Nat → Nat → Option Nat} {m : Int} (h : SL W L xs f m) (i j r : Nat) (hi : i < xs.length) (hj : j < xs.length) (hne : i ≠ j) (hr : r < (xs.getD i default).it.lv) (hrj : r < (xs.getD j default).it.lv) :
    W.cell? ⟨(xs.getD i default).b, 2, none⟩ = some (.slice (some ⟨(xs.getD i default).nb, 0, none⟩) (xs.getD i default).it.lv (xs.getD i default).it.lv) ∧ W.cell? ⟨(xs.getD j default).b, 2, none⟩ = some (.slice (some ⟨(xs.getD j default).nb, 0, none⟩) (xs.getD j default).it.lv (xs.getD j default).it.lv) ∧
      W.cell? ⟨(xs.getD j default).nb, r, none⟩ = some (pv (f j r)) ∧ W.cell? ⟨(xs.getD i default).nb, r, none⟩ = some (pv (f i r)) ∧ W.frozen? ⟨(xs.getD i default).nb, r, none⟩ = false := by
  obtain ⟨a1, a2, a3⟩ := SL_cells h i hi
  obtain ⟨b1, b2, b3⟩ := SL_cells h j hj
  exact ⟨a1, b1, b2 r hrj, a2 r hr, a3 r⟩
set_option maxRecDepth 100000 in
set_option maxHeartbeats 4000000 in
theorem drop_calls (w : World) (L : Nat) (xs : List Nd) (key : ByteArray) (h : SK w L xs) (hmx : xs.length ≤ 100000) :
    Calls Try.prog 24 #[.pointer (some ⟨L, 0, none⟩), .string key] w fun e w' => e = .returned (.bool (isS (xs.tail.map Nd.it) key)) ∧ ∃ xs', SK w' L xs' ∧ xs'.tail.map Nd.it = dropS (xs.tail.map Nd.it) key ∧ Frm (L :: blks xs) w w' ∧ ∀ k ∈ blks xs', k ∈ blks xs := by
  have hf := find_calls w L xs key h
  have HS := Aside0.mk h
  cases hi : isS (xs.tail.map Nd.it) key with
  | false =>
    have e1 : findB xs key = none := by unfold findB; rw [hi]; rfl
    rw [e1] at hf
    have hf' : Calls Try.prog 26 #[.pointer (some ⟨L, 0, none⟩), .string key] w fun e w' => e = .returned (.pointer none) ∧ Below w.heap.size w w' := hf
    have HF := Aside0.mk hf'
    have HD := Aside0.mk (dropS_no hi)
    clear hf hf' e1 hi h
    go_enter Try.func24, Try.ntmps24
    go_wp2_with fail
    (with_reducible refine HF.out.mono ?_)
    rintro e w1 ⟨rfl, hb1⟩
    have HS1 : Aside0 (SK w1 L xs) := ⟨SL_below HS.out.1 hb1, HS.out.2⟩
    have HB1 := Aside0.mk hb1
    clear hb1
    go_wp2_with fail
    go_ret
    exact ⟨rfl, xs, HS1.out, HD.out.symm, Frm.of_below HB1.out, fun k hk => hk⟩
  | true =>
    have hlt := (isS_lt hi).1
    rw [tail_len] at hlt
    have HI := Aside0.mk hi
    have e1 : findB xs key = some (xs.getD (atS (xs.tail.map Nd.it) key + 1) default).b := by unfold findB; rw [hi, if_pos rfl]
    rw [e1] at hf
    obtain ⟨cs, e8, hix⟩ := ahead_arr xs (atS (xs.tail.map Nd.it) key)
    have HA := Aside0.mk (fun W (hW : SK W L xs) => ahead_calls W L xs key hW)
    rw [e8] at HA
    have HOut := Aside0.mk (fun W1 (hh : SL W1 L xs (dF xs (atS (xs.tail.map Nd.it) key) 8) ((xs.length : Int) - 1 - 1)) => SK_out h hi hh)
    obtain ⟨p, hp⟩ : ∃ p, atS (xs.tail.map Nd.it) key = p := ⟨_, rfl⟩
    rw [hp] at hf hix hlt HOut
    obtain ⟨bq, hbq⟩ : ∃ b, (xs.getD (p + 1) default).b = b := ⟨_, rfl⟩
    have HBQ := Aside0.mk hbq
    obtain ⟨lv, hlv⟩ : ∃ b, (xs.getD (p + 1) default).it.lv = b := ⟨_, rfl⟩
    have HLV := Aside0.mk hlv
    have hlv8 := (sk_lv h (p + 1) (by omega)).2
    rw [hlv] at hlv8
    rw [hbq] at hf
    have hf' : Calls Try.prog 26 #[.pointer (some ⟨L, 0, none⟩), .string key] w fun e w' => e = .returned (.pointer (some ⟨bq, 0, none⟩)) ∧ Below w.heap.size w w' := hf
    have HF := Aside0.mk hf'
    have HIX := Aside0.mk hix
    have HLA : Aside0 (∀ r, r < 8 → la xs (p + 1) r < p + 1 ∧ r < (xs.getD (la xs (p + 1) r) default).it.lv) := ⟨fun r hr => by
      have h9 := la_spec xs r (by rw [lv0 h]; exact hr) (p + 1) (by omega)
      exact ⟨h9.1, h9.2.1⟩⟩
    have HLEN : Aside0 (p + 1 < xs.length) := ⟨by omega⟩
    clear hf hf' e1 e8 hi h hp hbq hlv hix hlt
    go_enter Try.func24, Try.ntmps24
    go_wp2_with fail
    (with_reducible refine HF.out.mono ?_)
    rintro e w1 ⟨rfl, hb1⟩
    have HS1 : Aside0 (SK w1 L xs) := ⟨SL_below HS.out.1 hb1, HS.out.2⟩
    have HB1 := Aside0.mk hb1
    clear hb1
    go_wp2_with fail
    (with_reducible refine (HA.out w1 HS1.out).mono ?_)
    rintro e w2 ⟨rfl, hb2⟩
    have HS2 : Aside0 (SK w2 L xs) := ⟨SL_below HS1.out.1 hb2, HS1.out.2⟩
    have HB2 := Aside0.mk (below_step HB1.out hb2)
    clear hb2 HS1 HB1
    go_wp2_with fail
    go_loopw [6, 7, 16] (fun v6 v7 v16 w' => ∃ (r : Nat), v16 = .int .i64 r ∧ r ≤ 8 ∧ Aside0 (SL w' L xs (dF xs p r) ((xs.length : Int) - 1) ∧ Frm (L :: blks xs) w w')) (fun _ _ v16 _ => 8 - (intOf v16).toNat)
    case atStart => exact ⟨0, rfl, by omega, ⟨SL_congr HS2.out.1 (fun i r _ _ => (dF_zero xs p i r).symm), Frm.of_below HB2.out⟩⟩
    case round =>
      obtain ⟨r, rfl, hr8, HI2⟩ := hrel
      by_cases hrr : r < 8
      · have hx : ∀ W : World, (Instr.index 62 (.agg cs) (.int .i64 (r : Int))).run Try.prog W = .ok (.pointer (some ⟨(xs.getD (la xs (p + 1) r) default).b, 0, none⟩)) W := fun W => HIX.out r W hrr
        obtain ⟨la1, la2⟩ := HLA.out r hrr
        have hd : Aside0 (SL wr.drew L xs (dF xs p r) ((xs.length : Int) - 1) ∧ Frm (L :: blks xs) w wr.drew) := ⟨SL_below HI2.out.1 (below_drew1 (Below.refl _ _)), HI2.out.2.trans (Frm.of_below (below_drew1 (Below.refl _ _)))⟩
        have hcq := SL_cells HI2.out.1 (p + 1) HLEN.out
        obtain ⟨cq, -, -⟩ := hcq
        have hmem := (blks_at (show la xs (p + 1) r < xs.length by have := HLEN.out; omega)).2
        by_cases hq : r < lv
        · have hc := ch_a hd.out.1 (la xs (p + 1) r) (p + 1) r (by have := HLEN.out; omega) HLEN.out (by omega) la2 (by rw [HLV.out]; exact hq)
          obtain ⟨c1, c2, c3, c4, c5⟩ := hc
          have hst : SL (wr.drew.setCell ⟨(xs.getD (la xs (p + 1) r) default).nb, r, none⟩ (pv (dF xs p r (p + 1) r))) L xs (dF xs p (r + 1)) ((xs.length : Int) - 1) ∧ Frm (L :: blks xs) w (wr.drew.setCell ⟨(xs.getD (la xs (p + 1) r) default).nb, r, none⟩ (pv (dF xs p r (p + 1) r))) := by
            refine ⟨SL_congr (SL_set hd.out.1 (la xs (p + 1) r) r (by have := HLEN.out; omega) la2 (dF xs p r (p + 1) r)) (fun i r' _ _ => ?_), Frm.set hd.out.2 (List.mem_cons_of_mem _ hmem) _⟩
            have e9 : dF xs p r (p + 1) r = nx xs (p + 1) r := by unfold dF; rw [if_neg (by omega)]
            rw [e9]
            exact dF_yes xs p r i r' (by rw [HLV.out]; exact hq)
          have HST := Aside0.mk hst
          rw [HBQ.out, HLV.out] at cq c2
          obtain ⟨nbq, hnbq⟩ : ∃ b, (xs.getD (p + 1) default).nb = b := ⟨_, rfl⟩
          obtain ⟨ba, hba⟩ : ∃ b, (xs.getD (la xs (p + 1) r) default).b = b := ⟨_, rfl⟩
          obtain ⟨nba, hnba⟩ : ∃ b, (xs.getD (la xs (p + 1) r) default).nb = b := ⟨_, rfl⟩
          obtain ⟨lva, hlva⟩ : ∃ b, (xs.getD (la xs (p + 1) r) default).it.lv = b := ⟨_, rfl⟩
          obtain ⟨u, hu⟩ : ∃ u, pv (dF xs p r (p + 1) r) = .pointer u := ⟨_, rfl⟩
          obtain ⟨u4, hu4⟩ : ∃ u, pv (dF xs p r (la xs (p + 1) r) r) = .pointer u := ⟨_, rfl⟩
          rw [hnbq] at cq c2 c3
          rw [hu, hnba] at HST
          rw [hba, hnba, hlva] at c1
          rw [hu] at c3
          rw [hnba] at c4 c5
          rw [hu4] at c4
          rw [hba] at hx
          rw [hlva] at la2
          have j1 : (0 : Int) ≤ (r : Int) := by omega
          have j2 : (r : Int) < (lv : Int) := by omega
          have j3 : (r : Int) < (lva : Int) := by omega
          have j4 : (r : Int) < 8 := by omega
          have hd2 := Aside0.mk hd
          clear hst hd hnbq hba hnba hlva hu hu4 la1 hmem HI2
          go_wp2_with fail
          go_region
          go_wp2_with fail
          go_roundw
          case rel => exact ⟨r + 1, by push_cast; rfl, by omega, HST⟩
          case measure => simp [intOf]; omega
        · have hst : SL wr L xs (dF xs p (r + 1)) ((xs.length : Int) - 1) ∧ Frm (L :: blks xs) w wr := ⟨SL_congr HI2.out.1 (fun i r' _ _ => (dF_no xs p r i r' (by rw [HLV.out]; exact hq)).symm), HI2.out.2⟩
          have HST := Aside0.mk hst
          rw [HBQ.out, HLV.out] at cq
          have j1 : (0 : Int) ≤ (r : Int) := by omega
          have j2 : ¬ (r : Int) < (lv : Int) := by omega
          have j4 : (r : Int) < 8 := by omega
          clear hst hd hmem HI2 la1 la2
          go_wp2_with fail
          go_roundw
          case rel => exact ⟨r + 1, by push_cast; rfl, by omega, HST⟩
          case measure => simp [intOf]; omega
      · obtain rfl : r = 8 := by omega
        obtain ⟨w3, hw3⟩ : ∃ w3, wr.setCell ⟨L, 1, none⟩ (.int .i64 ((xs.length : Int) - 1 - 1)) = w3 := ⟨_, rfl⟩
        have hs3 := SL_many HI2.out.1 ((xs.length : Int) - 1 - 1)
        have hf3 := Frm.set (b := L) (o := 1) HI2.out.2 List.mem_cons_self (.int .i64 ((xs.length : Int) - 1 - 1))
        have c1 : wr.cell? ⟨L, 1, none⟩ = some (.int .i64 ((xs.length : Int) - 1)) := by rw [cell_of_row _ _ _ _ _ _ (SL_list HI2.out.1)]; rfl
        have c2 := plain_frozen (SL_list HI2.out.1) 1
        rw [hw3] at hs3 hf3
        have HS3 := Aside0.mk (show SL w3 L xs (dF xs p 8) ((xs.length : Int) - 1 - 1) ∧ Frm (L :: blks xs) w w3 from ⟨hs3, hf3⟩)
        clear hs3 hf3 HI2
        go_wp2_with fail
        go_ret
        obtain ⟨xs', k1, k2, k3⟩ := HOut.out _ HS3.out.1
        exact ⟨rfl, xs', k1, k2, HS3.out.2, k3⟩
end Go.Proofs.Ythilhcdlpfjodaa.A
