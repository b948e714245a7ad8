/- A key's thing; how many keys; the last key up to one. -/
import Derived.Test.YthilhcdlpfjodaaKFind
namespace Go.Proofs.Ythilhcdlpfjodaa.A
open Go.RowKit Go.Proofs.YthilhcdlpfjodaaW.PrintWords Go.Proofs.YthilhcdlpfjodaaW.PrintLast Go.Proofs.YthilhcdlpfjodaaW.PrintMore
set_option linter.unusedVariables false
set_option linter.unusedSimpArgs false

/-- A key's thing, by definition. -/
def getS (l : List It) (key : ByteArray) : Int × Bool := if isS l key then ((l.getD (atS l key) default).v, true) else (0, false)
theorem isS_lt {l : List It} {key : ByteArray} (h : isS l key = true) : atS l key < l.length ∧ (l.getD (atS l key) default).k = key := by
  unfold isS at h
  simp only [Bool.and_eq_true, decide_eq_true_eq, beq_iff_eq] at h
  exact ⟨h.1, toL_inj h.2⟩
set_option maxHeartbeats 1000000 in
theorem get_calls (w : World) (L : Nat) (xs : List Nd) (key : ByteArray) (h : SK w L xs) :
    Calls Try.prog 17 #[.pointer (some ⟨L, 0, none⟩), .string key] w fun e w' => e = .returned (.tuple #[.int .i64 (getS (xs.tail.map Nd.it) key).1, .bool (getS (xs.tail.map Nd.it) key).2]) ∧ Below w.heap.size w w' := by
  have hf := find_calls w L xs key h
  have HS := Aside0.mk h
  clear h
  cases hi : isS (xs.tail.map Nd.it) key with
  | false =>
    have e1 : findB xs key = none := by unfold findB; rw [hi]; rfl
    have e2 : getS (xs.tail.map Nd.it) key = (0, false) := by unfold getS; rw [hi]; rfl
    rw [e1] at hf
    rw [e2]
    have hf' : Calls Try.prog 26 #[.pointer (some ⟨L, 0, none⟩), .string key] w fun e w' => e = .returned (.pointer none) ∧ Below w.heap.size w w' := hf
    have HF := Aside0.mk hf'
    clear hf hf' e1 e2 hi
    go_enter Try.func17, Try.ntmps17
    go_wp2_with fail
    (with_reducible refine HF.out.mono ?_)
    rintro e w1 ⟨rfl, hb1⟩
    have HB1 := Aside0.mk hb1
    clear hb1
    go_wp2_with fail
    go_ret2
    exact ⟨rfl, HB1.out⟩
  | true =>
    obtain ⟨h1, h2⟩ := isS_lt hi
    rw [tail_len] at h1
    obtain ⟨b, hb⟩ : ∃ b, (xs.getD (atS (xs.tail.map Nd.it) key + 1) default).b = b := ⟨_, rfl⟩
    obtain ⟨v, hv⟩ : ∃ v, (xs.getD (atS (xs.tail.map Nd.it) key + 1) default).it.v = v := ⟨_, rfl⟩
    have e1 : findB xs key = some b := by unfold findB; rw [hi, if_pos rfl, hb]
    have e2 : getS (xs.tail.map Nd.it) key = (v, true) := by unfold getS; rw [hi, if_pos rfl, ← tail_at, hv]
    rw [e1] at hf
    rw [e2]
    have hf' : Calls Try.prog 26 #[.pointer (some ⟨L, 0, none⟩), .string key] w fun e w' => e = .returned (.pointer (some ⟨b, 0, none⟩)) ∧ Below w.heap.size w w' := hf
    have HF := Aside0.mk hf'
    have HN : Aside0 (∀ W, SK W L xs → W.cell? ⟨b, 1, none⟩ = some (.int .i64 v)) := ⟨fun W hW => by
      obtain ⟨-, m1, -⟩ := node_cells (SL_node hW.1 (atS (xs.tail.map Nd.it) key + 1) (by omega))
      rw [hb, hv] at m1
      exact m1⟩
    clear hf hf' e1 e2 hi h1 h2 hb hv
    go_enter Try.func17, Try.ntmps17
    go_wp2_with fail
    (with_reducible refine HF.out.mono ?_)
    rintro e w1 ⟨rfl, hb1⟩
    have HB1 := Aside0.mk hb1
    have m1 := HN.out w1 ⟨SL_below HS.out.1 hb1, HS.out.2⟩
    clear hb1
    go_wp2_with fail
    go_ret2
    exact ⟨rfl, HB1.out⟩
theorem len_calls (w : World) (L : Nat) (xs : List Nd) (h : SK w L xs) :
    Calls Try.prog 11 #[.pointer (some ⟨L, 0, none⟩)] w fun e w' => e = .returned (.int .i64 ((xs.tail.map Nd.it).length : Int)) ∧ w = w' := by
  have c1 : w.cell? ⟨L, 1, none⟩ = some (.int .i64 ((xs.length : Int) - 1)) := by rw [cell_of_row _ _ _ _ _ _ (SL_list h.1)]; rfl
  have e1 : (((xs.tail.map Nd.it).length : Nat) : Int) = (xs.length : Int) - 1 := by
    rw [tail_len]
    have := h.1.2.1
    omega
  rw [e1]
  clear h e1
  go_enter Try.func11, Try.ntmps11
  go_wp2
  go_ret
  exact ⟨rfl, rfl⟩
end Go.Proofs.Ythilhcdlpfjodaa.A
