/- A key's node. -/
import Derived.Test.YthilhcdlpfjodaaKAhead
namespace Go.Proofs.Ythilhcdlpfjodaa.A
open Go.RowKit Go.Proofs.YthilhcdlpfjodaaW.PrintWords Go.Proofs.YthilhcdlpfjodaaW.PrintLast Go.Proofs.YthilhcdlpfjodaaW.PrintMore
set_option linter.unusedVariables false
set_option linter.unusedSimpArgs false

theorem idx_arr (cs : Array Value) (r : Nat) (hr : r < 8) (hs : cs.size = 8) (W : World) : (Instr.index 62 (.agg cs) (.int .i64 (r : Int))).run Try.prog W = .ok (cs.getD r undef) W := by
  obtain ⟨i, hi, hz, hss, hb⟩ := info_parts infoNp
  have h : Try.prog.underlying 62 = some (.array 8 50) := Try.underlying62
  have h0 : (0 : Int) ≤ (r : Int) ∧ (r : Int) < 8 := by omega
  simp [Instr.index, run_underlying h, asIntOf, go_sem, h0, hi, hss, sizeOf, typeInfo, hr, hs]
theorem sk_lv {W : World} {L : Nat} {xs : List Nd} (h : SK W L xs) (i : Nat) (hi : i < xs.length) : 1 ≤ (xs.getD i default).it.lv ∧ (xs.getD i default).it.lv ≤ 8 := by
  cases i with
  | zero => rw [h.2.1]; exact ⟨by decide, by decide⟩
  | succ j =>
    rw [tail_at]
    exact h.2.2.2 _ (getD_memI _ j (by rw [tail_len]; omega))
theorem sk_p {W : World} {L : Nat} {xs : List Nd} (h : SK W L xs) (key : ByteArray) : atS (xs.tail.map Nd.it) key < xs.length := by
  have h1 := atS_le (xs.tail.map Nd.it) key
  rw [tail_len] at h1
  have := h.1.2.1
  omega
theorem la0 {W : World} {L : Nat} {xs : List Nd} (h : SK W L xs) (p : Nat) (hp : p < xs.length) : la xs (p + 1) 0 = p := by
  rw [la, if_pos (show 0 < (xs.getD p default).it.lv by have := (sk_lv h p hp).1; omega)]
theorem nx0 {W : World} {L : Nat} {xs : List Nd} (h : SK W L xs) (p : Nat) : nx xs p 0 = if p + 1 < xs.length then some (xs.getD (p + 1) default).b else none := by
  unfold nx
  split
  · rename_i hp
    have e : xs.drop (p + 1) = xs.getD (p + 1) default :: xs.drop (p + 1 + 1) := by
      rw [List.drop_eq_getElem_cons hp, List.getD_eq_getElem?_getD, List.getElem?_eq_getElem hp]
      rfl
    rw [e, nxt, if_pos (show 0 < (xs.getD (p + 1) default).it.lv by have := (sk_lv h _ hp).1; omega)]
  · rw [List.drop_of_length_le (by omega)]
    rfl
/-- A key's node, if it is there. -/
def findB (xs : List Nd) (key : ByteArray) : Option Nat := if isS (xs.tail.map Nd.it) key then some (xs.getD (atS (xs.tail.map Nd.it) key + 1) default).b else none
theorem ahead_form (xs : List Nd) (p : Nat) : ∃ d1 d2 d3 d4 d5 d6 d7 : Nat, aheadV xs p = .agg #[.pointer (some ⟨(xs.getD (la xs (p + 1) 0) default).b, 0, none⟩), .pointer (some ⟨d1, 0, none⟩), .pointer (some ⟨d2, 0, none⟩), .pointer (some ⟨d3, 0, none⟩), .pointer (some ⟨d4, 0, none⟩), .pointer (some ⟨d5, 0, none⟩), .pointer (some ⟨d6, 0, none⟩), .pointer (some ⟨d7, 0, none⟩)] := ⟨_, _, _, _, _, _, _, rfl⟩
set_option maxRecDepth 100000 in
set_option maxHeartbeats 2000000 in
theorem find_calls (w : World) (L : Nat) (xs : List Nd) (key : ByteArray) (h : SK w L xs) :
    Calls Try.prog 26 #[.pointer (some ⟨L, 0, none⟩), .string key] w fun e w' => e = .returned (pv (findB xs key)) ∧ Below w.heap.size w w' := by
  have HA := Aside0.mk (ahead_calls w L xs key h)
  have hp := sk_p h key
  have hl0 := la0 h _ hp
  have hn0 := nx0 h (atS (xs.tail.map Nd.it) key)
  have hlv := sk_lv h _ hp
  have HS := Aside0.mk h
  obtain ⟨d1, d2, d3, d4, d5, d6, d7, e8⟩ := ahead_form xs (atS (xs.tail.map Nd.it) key)
  rw [e8, hl0] at HA
  have hF : findB xs key = if isS (xs.tail.map Nd.it) key then some (xs.getD (atS (xs.tail.map Nd.it) key + 1) default).b else none := rfl
  have hI : isS (xs.tail.map Nd.it) key = (decide (atS (xs.tail.map Nd.it) key < xs.length - 1) && ((xs.getD (atS (xs.tail.map Nd.it) key + 1) default).it.k.toList == key.toList)) := by
    unfold isS
    rw [tail_len, tail_at]
  obtain ⟨p, hpp⟩ : ∃ p, atS (xs.tail.map Nd.it) key = p := ⟨_, rfl⟩
  rw [hpp] at HA hp hn0 hlv hF hI
  obtain ⟨b, hb⟩ : ∃ b, (xs.getD p default).b = b := ⟨_, rfl⟩
  obtain ⟨nb, hnb⟩ : ∃ nb, (xs.getD p default).nb = nb := ⟨_, rfl⟩
  obtain ⟨lv, hlvv⟩ : ∃ lv, (xs.getD p default).it.lv = lv := ⟨_, rfl⟩
  rw [hb] at HA
  rw [hlvv] at hlv
  have hlv1 := hlv.1
  have HF := Aside0.mk hF
  have HI := Aside0.mk hI
  have HQ := Aside0.mk (show p < xs.length ∧ (xs.getD p default).b = b ∧ (xs.getD p default).nb = nb ∧ (xs.getD p default).it.lv = lv ∧ nx xs p 0 = if p + 1 < xs.length then some (xs.getD (p + 1) default).b else none from ⟨hp, hb, hnb, hlvv, hn0⟩)
  clear e8 hl0 h hn0 hF hI hpp hb hnb hlvv hlv hp
  have hix : ∀ W : World, (Instr.index 62 (.agg #[.pointer (some ⟨b, 0, none⟩), .pointer (some ⟨d1, 0, none⟩), .pointer (some ⟨d2, 0, none⟩), .pointer (some ⟨d3, 0, none⟩), .pointer (some ⟨d4, 0, none⟩), .pointer (some ⟨d5, 0, none⟩), .pointer (some ⟨d6, 0, none⟩), .pointer (some ⟨d7, 0, none⟩)]) (.int .i64 0)).run Try.prog W = .ok (.pointer (some ⟨b, 0, none⟩)) W := fun W => idx_arr _ 0 (by omega) rfl W
  go_enter Try.func26, Try.ntmps26
  go_wp2_with fail
  (with_reducible refine HA.out.mono ?_)
  rintro e w1 ⟨rfl, hb1⟩
  have HB1 := Aside0.mk hb1
  have HS1 : Aside0 (SK w1 L xs) := ⟨SL_below HS.out.1 hb1, HS.out.2⟩
  obtain ⟨q1, q2, q3, q4, q5⟩ := HQ.out
  have hn := SL_node HS1.out.1 p q1
  obtain ⟨-, -, n2⟩ := node_cells hn
  have hrow := node_row hn 0 (by omega)
  rw [q2, q3, q4] at n2
  rw [q3, q5] at hrow
  have j1 : (0 : Int) < (lv : Int) := by omega
  clear hb1 hn q1 q2 q3 q4 q5 HA
  by_cases hlast : p + 1 < xs.length
  · rw [if_pos hlast] at hrow
    obtain ⟨m0, -, -⟩ := node_cells (SL_node HS1.out.1 (p + 1) hlast)
    obtain ⟨bj, hbj⟩ : ∃ bj, (xs.getD (p + 1) default).b = bj := ⟨_, rfl⟩
    obtain ⟨kj, hkj⟩ : ∃ kj, (xs.getD (p + 1) default).it.k = kj := ⟨_, rfl⟩
    have hI := HI.out
    have hF := HF.out
    rw [hbj] at hrow m0 hF
    rw [hkj] at m0 hI
    have hrow' : w1.cell? ⟨nb, 0, none⟩ = some (.pointer (some ⟨bj, 0, none⟩)) := hrow
    by_cases he : kj = key
    · subst he
      rw [decide_eq_true (by omega), show (kj.toList == kj.toList) = true by simp] at hI
      rw [hI] at hF
      have HF2 := Aside0.mk hF
      clear hrow hbj hkj hI hF HF HI
      go_wp2_with fail
      go_ret
      exact ⟨by rw [HF2.out]; rfl, HB1.out⟩
    · rw [show (kj.toList == key.toList) = false by rw [beq_eq_false_iff_ne]; exact fun e => he (toL_inj e), Bool.and_false] at hI
      rw [hI] at hF
      have HF2 := Aside0.mk hF
      have hne : (kj.toList == key.toList) = false := by rw [beq_eq_false_iff_ne]; exact fun e => he (toL_inj e)
      clear hrow hbj hkj hI hF HF HI
      go_wp2_with fail
      go_ret
      exact ⟨by rw [HF2.out]; rfl, HB1.out⟩
  · rw [if_neg hlast] at hrow
    have hI := HI.out
    have hF := HF.out
    rw [decide_eq_false (by omega), Bool.false_and] at hI
    rw [hI] at hF
    have HF2 := Aside0.mk hF
    have hrow' : w1.cell? ⟨nb, 0, none⟩ = some (.pointer none) := hrow
    clear hrow hI hF HF HI
    go_wp2_with fail
    go_ret
    exact ⟨by rw [HF2.out]; rfl, HB1.out⟩
end Go.Proofs.Ythilhcdlpfjodaa.A
