/- An index in memory: its box; new, how many, keys. -/
import Derived.Test.YtheoodbkjgfdfaaNKeys
import Derived.Test.YtheoodbkjgfdfaaMTwo
namespace Go.Proofs.Ytheoodbkjgfdfaa.A
open R
open Go.RowKit Go.Proofs.YtheoodbkjgfdfaaW.PrintWords Go.Proofs.YtheoodbkjgfdfaaW.PrintLast Go.Proofs.YtheoodbkjgfdfaaW.PrintMore
set_option linter.unusedVariables false
set_option linter.unusedSimpArgs false

/-- The box of an index: where its list lies, and how many versions it has. -/
abbrev ixB (L : Nat) (m : Int) : Obj := .cells #[.pointer (some ⟨L, 0, none⟩), .int .i64 m] 63
theorem ix_cells {w : World} {X L : Nat} {m : Int} (h : w.heap[X]? = some (ixB L m)) : w.cell? ⟨X, 0, none⟩ = some (.pointer (some ⟨L, 0, none⟩)) ∧ w.cell? ⟨X, 1, none⟩ = some (.int .i64 m) ∧ ∀ o, w.frozen? ⟨X, o, none⟩ = false := by
  refine ⟨?_, ?_, fun o => M.plain_frozen h o⟩ <;> (rw [cell_of_row _ _ _ _ _ _ h]; rfl)
theorem ilen_calls (w : World) (X L : Nat) (m : Int) (h : w.heap[X]? = some (ixB L m)) :
    Calls Try.prog 37 #[.pointer (some ⟨X, 0, none⟩)] w fun e w' => e = .returned (.int .i64 m) ∧ w' = w := by
  obtain ⟨c0, c1, -⟩ := ix_cells h
  clear h
  go_enter Try.func37, Try.ntmps37
  go_wp2
  go_ret
  exact ⟨rfl, rfl⟩
theorem inew_calls (w : World) :
    Calls Try.prog 9 #[] w fun e w' => ∃ X L, e = .returned (.pointer (some ⟨X, 0, none⟩)) ∧ w'.heap[X]? = some (ixB L 0) ∧ M.SKI w' w.heap.size L [] ∧ L < X ∧ w.heap.size ≤ X ∧ Below w.heap.size w w' := by
  have HN := Aside0.mk (M.new_calls w)
  go_enter Try.func9, Try.ntmps9
  go_wp2_with fail
  (with_reducible refine HN.out.mono ?_)
  rintro e w1 ⟨L, rfl, hS, hb1⟩
  have HS := Aside0.mk hS
  have HB := Aside0.mk hb1
  clear hS hb1
  go_wp2_with fail
  go_ret
  obtain ⟨xs, h1, h2, h3⟩ := HS.out
  exact ⟨_, L, rfl, heap_alloc_new w1 (ixB L 0), ⟨xs, ⟨M.SL_below h1.1 (below_alloc (Below.refl _ _) _), h1.2⟩, h2, h3⟩, M.SL_lt h1.1 L List.mem_cons_self, HB.out.size, below_alloc HB.out _⟩
theorem ikeys_calls (w : World) (X L : Nat) (m : Int) (xs : List M.Nd) (h : w.heap[X]? = some (ixB L m)) (hS : M.SK w L xs) (hl : xs.length ≤ 100000) :
    Calls Try.prog 16 #[.pointer (some ⟨X, 0, none⟩)] w fun e w' => ∃ v, e = .returned v ∧ M.OStr w' w.heap.size v (M.rowS (xs.tail.map M.Nd.it) 1) ∧ Below w.heap.size w w' := by
  obtain ⟨c0, c1, -⟩ := ix_cells h
  have HR := Aside0.mk (M.row_calls w L xs 1 hS hl (by omega) (by omega))
  clear h hS
  go_enter Try.func16, Try.ntmps16
  go_wp2_with fail
  (with_reducible refine HR.out.mono ?_)
  rintro e w1 ⟨v, rfl, hO, hb⟩
  have HO := Aside0.mk (show _ ∧ _ from ⟨hO, hb⟩)
  clear hO hb
  go_wp2_with fail
  go_ret
  exact ⟨_, rfl, HO.out.1, HO.out.2⟩
theorem iof_calls (w : World) (X L : Nat) (m : Int) (xs : List M.Nd) (key : ByteArray) (l : List Vr) (s : M.Sl) (b : Bool) (h : w.heap[X]? = some (ixB L m)) (hS : M.SK w L xs) (hs : M.getS (xs.tail.map M.Nd.it) key = (s, b)) (hr : KVr.C w s.A s.n l) (hc : s.n ≤ s.c) (hn : s.n ≤ 5000) :
    Calls Try.prog 15 #[.pointer (some ⟨X, 0, none⟩), .string key] w fun e w' => ∃ v, e = .returned v ∧ OVr w' w.heap.size v l ∧ Below w.heap.size w w' := by
  obtain ⟨c0, c1, -⟩ := ix_cells h
  have HG := Aside0.mk (M.get_calls w L xs key hS)
  rw [hs] at HG
  have HR := Aside0.mk hr
  clear h hS hs hr
  obtain ⟨A, n, c⟩ := s
  go_enter Try.func15, Try.ntmps15
  go_wp2_with fail
  (with_reducible refine HG.out.mono ?_)
  rintro e w1 ⟨rfl, hb1⟩
  have HB1 := Aside0.mk hb1
  have HC := Aside0.mk (cloneVr_calls A n c l w1 (Kd.C_below HR.out hb1) hc hn)
  clear hb1
  go_wp2_with fail
  (with_reducible refine HC.out.mono ?_)
  rintro e w2 ⟨v, rfl, hO, hb2⟩
  have HO := Aside0.mk (show _ ∧ _ from ⟨Kd.R_lower hO HB1.out.size, below_step HB1.out hb2⟩)
  clear hO hb2
  go_wp2_with fail
  go_ret
  exact ⟨_, rfl, HO.out.1, HO.out.2⟩
end Go.Proofs.Ytheoodbkjgfdfaa.A
