/- ChainOwns: what is told is new. -/
import Derived.Test.YtheoodbkjgfdfaaNLives
namespace Go.Proofs.Ytheoodbkjgfdfaa.A
open R
open Go.RowKit Go.Proofs.YtheoodbkjgfdfaaW.PrintWords Go.Proofs.YtheoodbkjgfdfaaW.PrintLast Go.Proofs.YtheoodbkjgfdfaaW.PrintMore
set_option linter.unusedVariables false
set_option linter.unusedSimpArgs false

theorem own_row {W : World} {B n c : Nat} {A : Option Addr} {l : List Vr} (h : OVr W B (.slice A n c) l) : 0 < n → ∃ g cur, A = some ⟨g, 0, none⟩ ∧ W.heap[g]? = some (.cells cur 35 (0, 0)) ∧ B ≤ g ∧ n * 8 ≤ cur.size := fun hn => by
  have hl := (Kd.R_reads' h).1
  obtain ⟨g, cap, e, _⟩ := Kd.R_form h (by omega)
  injection e with e1 e2 e3
  subst e1 e3
  obtain ⟨cur, h1, h2, _, h4, _, h6, _⟩ := OR_cur h
  refine ⟨g, cur, rfl, h1, h2, ?_⟩
  have h6' : cur.size = c * 8 := h6
  omega
theorem own_cell {W : World} {g : Nat} {cur : Array Value} {ad : Addr} {i n : Nat} (ha : ad = ⟨g, 0, none⟩) (h : W.heap[g]? = some (.cells cur 35 (0, 0))) (hi : i < n) (hn : n * 8 ≤ cur.size) : (∃ u, W.cell? ⟨(ad.add (i * 8)).block, (ad.add (i * 8)).off + 6, none⟩ = some u) ∧ W.frozen? ⟨(ad.add (i * 8)).block, (ad.add (i * 8)).off + 6, none⟩ = false ∧ (ad.add (i * 8)).block = g := by
  subst ha
  have e : (⟨g, 0, none⟩ : Addr).add (i * 8) = ⟨g, 0 + i * 8, none⟩ := Addr.add_lit _ _ _
  rw [e]
  refine ⟨⟨cur[0 + i * 8 + 6]'(by omega), ?_⟩, M.plain_frozen h _, rfl⟩
  show W.cell? ⟨g, 0 + i * 8 + 6, none⟩ = _
  rw [cell_of_row W g _ cur _ (0, 0) h, Array.getElem?_eq_getElem (by omega)]
set_option maxRecDepth 100000 in
set_option maxHeartbeats 4000000 in
theorem owns_calls (w : World) (A : Option Addr) (c : Nat) (pl : List Pu) (hr : KPu.C w A pl.length pl) (hc : pl.length ≤ c) (hg : ∀ d ∈ pl, d.fits) (key : ByteArray) (hkey : key.size ≤ maxLen) :
    Calls Try.prog 4 #[.slice A pl.length c, .string key] w fun e w' => e = .returned (.bool true) ∧ Below w.heap.size w w' := by
  clear hkey
  have HFL := Aside0.mk (filled_calls w A pl.length c pl hr hc hg)
  clear hr hc hg
  go_enter Try.func4, Try.ntmps4
  go_wp2_with fail
  (with_reducible refine HFL.out.mono ?_)
  rintro e w1 ⟨X, v, l, rfl, hF, hl40⟩
  obtain ⟨n, hn⟩ : ∃ n, l.length = n := ⟨_, rfl⟩
  obtain ⟨A1, c1, rfl, hc1, hC1⟩ := OVr_readn hF.2.1 n hn
  obtain ⟨its, hI⟩ := hF.1
  have HI := Aside0.mk hI
  have HF := Aside0.mk hF
  have HN := Aside0.mk hn
  have HL := Aside0.mk (show l.length ≤ 4000 by omega)
  have HC := Aside0.mk hC1
  have HB1 := Aside0.mk hF.2.2.1
  have hn40 : n ≤ 40 := by omega
  clear hF hI hC1 hn hl40 HFL
  have HXO := Aside0.mk (xof_calls HI.out HL.out key)
  go_wp2_with fail
  (with_reducible refine HXO.out.mono ?_)
  rintro e w2 ⟨v2, rfl, hO2, hb2⟩
  obtain ⟨na, hna⟩ : ∃ na, (ofV l key).length = na := ⟨_, rfl⟩
  have hna4 : na ≤ 4000 := by
    have : (ofV l key).length ≤ l.length := List.length_filter_le _ _
    have := HL.out
    omega
  obtain ⟨A2, c2, rfl, hc2, hC2⟩ := OVr_readn hO2 na hna
  have HO2 := Aside0.mk hO2
  have HK2 := Aside0.mk hb2
  have HXA := Aside0.mk (xall_calls w2 w.heap.size X l.length its l (IXi_below HI.out hb2) HL.out)
  clear hO2 hC2 hb2 hna
  go_wp2_with fail
  (with_reducible refine HXA.out.mono ?_)
  rintro e w3 ⟨v3, rfl, hO3, hb3⟩
  obtain ⟨A3, c3, rfl, hc3, hC3⟩ := OVr_readn hO3 n HN.out
  have HO3 := Aside0.mk (Kd.R_lower hO3 HK2.out.size)
  have HO23 := Aside0.mk (Kd.R_below HO2.out hb3)
  have HL23 : Aside0 (∀ b, A2 = some ⟨b, 0, none⟩ → b < w2.heap.size) := ⟨fun b e => by subst e; exact (own_lt2 HO2.out).1⟩
  have HG3 : Aside0 (∀ b, A3 = some ⟨b, 0, none⟩ → w2.heap.size ≤ b) := ⟨fun b e => by subst e; exact (own_lt2 hO3).2⟩
  have HK3 := Aside0.mk (below_step HK2.out hb3)
  clear hO3 hC3 hb3
  go_wp2_with fail
  go_loopw [10] (fun v10 w' => ∃ i : Nat, v10 = .int .i64 i ∧ i ≤ na ∧ Aside0 (0 < na → ∃ g cur, A2 = some ⟨g, 0, none⟩ ∧ w'.heap[g]? = some (.cells cur 35 (0, 0)) ∧ w1.heap.size ≤ g ∧ na * 8 ≤ cur.size) ∧ Aside0 (Below w1.heap.size w1 w') ∧ Aside0 (0 < n → ∃ g cur, A3 = some ⟨g, 0, none⟩ ∧ w'.heap[g]? = some (.cells cur 35 (0, 0)) ∧ w1.heap.size ≤ g ∧ n * 8 ≤ cur.size)) (fun v10 _ => na - (intOf v10).toNat)
  case atStart => exact ⟨0, rfl, Nat.zero_le _, ⟨own_row HO23.out⟩, HK3, ⟨own_row HO3.out⟩⟩
  case round =>
    obtain ⟨i, rfl, hin, HW, HK, HV⟩ := hrel
    by_cases hlt : i < na
    · obtain ⟨g, cur, hA, hg1, hg2, hg3⟩ := HW.out (by omega)
      obtain ⟨ad, had⟩ : ∃ ad : Addr, ad = ⟨g, 0, none⟩ := ⟨_, rfl⟩
      rw [← had] at hA
      subst hA
      obtain ⟨⟨u, q0⟩, q1, q2⟩ := own_cell had hg1 hlt hg3
      have HW2 : Aside0 (∀ (v : Value), Below w1.heap.size w1 (wr.setCell ⟨(ad.add (i * 8)).block, (ad.add (i * 8)).off + 6, none⟩ v) ∧ (0 < na → ∃ g cur, some ad = some ⟨g, 0, none⟩ ∧ (wr.setCell ⟨(ad.add (i * 8)).block, (ad.add (i * 8)).off + 6, none⟩ v).heap[g]? = some (.cells cur 35 (0, 0)) ∧ w1.heap.size ≤ g ∧ na * 8 ≤ cur.size)) := ⟨fun v => ⟨HK.out.setCell (p := ⟨(ad.add (i * 8)).block, (ad.add (i * 8)).off + 6, none⟩) (by show w1.heap.size ≤ (ad.add (i * 8)).block; rw [q2]; exact hg2) v, fun _ => ⟨g, cur.setIfInBounds ((ad.add (i * 8)).off + 6) v, by rw [had], by rw [q2]; exact M.heap_set_row hg1 _ _, hg2, by rw [Array.size_setIfInBounds]; exact hg3⟩⟩⟩
      have j1 : (i : Int) < (na : Int) := by omega
      have j2 : (0 : Int) ≤ (i : Int) := by omega
      have HV2 : Aside0 (∀ (v : Value), 0 < n → ∃ g cur, A3 = some ⟨g, 0, none⟩ ∧ (wr.setCell ⟨(ad.add (i * 8)).block, (ad.add (i * 8)).off + 6, none⟩ v).heap[g]? = some (.cells cur 35 (0, 0)) ∧ w1.heap.size ≤ g ∧ n * 8 ≤ cur.size) := ⟨fun v h0 => by
        obtain ⟨g', cur', e1, e2, e3, e4⟩ := HV.out h0
        refine ⟨g', cur', e1, (Below.heap_setCell _ _ _ _ (fun e => ?_)).trans e2, e3, e4⟩
        have h1 := HL23.out g (by rw [had])
        have h2 := HG3.out g' e1
        have h3 : g' = (ad.add (i * 8)).block := e
        omega⟩
      clear had hg1 hg2 hg3 q2
      go_wp2_with fail
      go_roundw
      case rel => exact ⟨i + 1, by push_cast; rfl, hlt, ⟨(HW2.out _).2⟩, ⟨(HW2.out _).1⟩, ⟨HV2.out _⟩⟩
      case measure => simp [intOf]; omega
    · have j1 : ¬ (i : Int) < (na : Int) := by omega
      clear hlt HW
      have HV0 := HV
      have HKK := HK
      go_wp2_with fail
      go_loopw [11] (fun v11 w' => ∃ i : Nat, v11 = .int .i64 i ∧ i ≤ n ∧ Aside0 (0 < n → ∃ g cur, A3 = some ⟨g, 0, none⟩ ∧ w'.heap[g]? = some (.cells cur 35 (0, 0)) ∧ w1.heap.size ≤ g ∧ n * 8 ≤ cur.size) ∧ Aside0 (Below w1.heap.size w1 w')) (fun v11 _ => n - (intOf v11).toNat)
      case atStart => exact ⟨0, rfl, Nat.zero_le _, HV0, HKK⟩
      case round =>
        clear HV0 HKK HV HK j1 hin
        obtain ⟨i2, rfl, hin, HW, HK⟩ := hrel
        by_cases hlt : i2 < n
        · obtain ⟨g, cur, hA, hg1, hg2, hg3⟩ := HW.out (by omega)
          obtain ⟨ad, had⟩ : ∃ ad : Addr, ad = ⟨g, 0, none⟩ := ⟨_, rfl⟩
          rw [← had] at hA
          subst hA
          obtain ⟨⟨u, q0⟩, q1, q2⟩ := own_cell had hg1 hlt hg3
          have HW2 : Aside0 (∀ (v : Value), Below w1.heap.size w1 (wr.setCell ⟨(ad.add (i2 * 8)).block, (ad.add (i2 * 8)).off + 6, none⟩ v) ∧ (0 < n → ∃ g cur, some ad = some ⟨g, 0, none⟩ ∧ (wr.setCell ⟨(ad.add (i2 * 8)).block, (ad.add (i2 * 8)).off + 6, none⟩ v).heap[g]? = some (.cells cur 35 (0, 0)) ∧ w1.heap.size ≤ g ∧ n * 8 ≤ cur.size)) := ⟨fun v => ⟨HK.out.setCell (p := ⟨(ad.add (i2 * 8)).block, (ad.add (i2 * 8)).off + 6, none⟩) (by show w1.heap.size ≤ (ad.add (i2 * 8)).block; rw [q2]; exact hg2) v, fun _ => ⟨g, cur.setIfInBounds ((ad.add (i2 * 8)).off + 6) v, by rw [had], by rw [q2]; exact M.heap_set_row hg1 _ _, hg2, by rw [Array.size_setIfInBounds]; exact hg3⟩⟩⟩
          have j1 : (i2 : Int) < (n : Int) := by omega
          have j2 : (0 : Int) ≤ (i2 : Int) := by omega
          clear had hg1 hg2 hg3 q2
          go_wp2_with fail
          go_roundw
          case rel => exact ⟨i2 + 1, by push_cast; rfl, hlt, ⟨(HW2.out _).2⟩, ⟨(HW2.out _).1⟩⟩
          case measure => simp [intOf]; omega
        · have j1 : ¬ (i2 : Int) < (n : Int) := by omega
          have HLK := Aside0.mk (like_calls wr w.heap.size X its l A1 n c1 (IXi_below HI.out HK.out) (Kd.C_below HC.out HK.out) hc1 HL.out)
          clear hlt HW
          go_wp2_with fail
          (with_reducible refine HLK.out.mono ?_)
          rintro e w7 ⟨rfl, hb7⟩
          have HK7 := Aside0.mk (below_step HK.out hb7)
          clear hb7
          go_wp2_with fail
          (with_reducible refine (lives_calls w7).mono ?_)
          rintro e w8 ⟨rfl, hb8⟩
          have HB8 := Aside0.mk (below_step (below_step HB1.out HK7.out) hb8)
          clear hb8
          go_wp2_with fail
          go_ret
          exact ⟨rfl, HB8.out⟩
end Go.Proofs.Ytheoodbkjgfdfaa.A
