/- A list without keys. -/
import Derived.Test.YthilhcdlpfjodaaKRep
namespace Go.Proofs.Ythilhcdlpfjodaa.A
open Go.RowKit Go.Proofs.YthilhcdlpfjodaaW.PrintWords Go.Proofs.YthilhcdlpfjodaaW.PrintLast Go.Proofs.YthilhcdlpfjodaaW.PrintMore
set_option linter.unusedVariables false
set_option linter.unusedSimpArgs false

theorem infoNp : (Try.prog.info? 50).map (fun i => (i.zero, i.size, i.bytes)) = some (some (.pointer none), 1, 8) := by kernel_rfl
theorem made_ptr (n : Nat) (hn : n ≤ 8) : (Obj.cells (madeCells (Value.pointer none).cells n) 50) = rowBox n (fun _ => none) := by
  have e : madeCells (Value.pointer none).cells n = ((List.range n).map fun _ => pv none).toArray := by
    apply Array.ext'
    simp [madeCells, Value.cells, pv, Nat.mod_one]
  unfold rowBox
  rw [e]
/-- A row of n pointers made. -/
theorem mk_row (n : Nat) (hn : n ≤ 8) (W : World) : (Instr.makeSlice 51 (.int .i64 (n : Int)) (.int .i64 (n : Int))).run Try.prog W = .ok (.slice (some ⟨W.heap.size, 0, none⟩) n n) (W.alloc (rowBox n (fun _ => none))) := by
  obtain ⟨i, hi, hz, hs, hb⟩ := info_parts infoNp
  rw [run_makeSlice W 51 50 i (.pointer none) Try.underlying51 hi hz .i64 .i64 (n : Int) (n : Int) (by omega) (by omega) (by rw [hs]; omega) (by rw [hb]; omega) (by omega)]
  rw [hs, Nat.mul_one, Int.toNat_natCast, made_ptr n hn]
/-- The keys of a list, their levels, their things; its blocks from B on. -/
def SKI (W : World) (B L : Nat) (l : List It) : Prop := ∃ xs, SK W L xs ∧ xs.tail.map Nd.it = l ∧ ∀ k ∈ L :: blks xs, B ≤ k
theorem new_calls (w : World) :
    Calls Try.prog 8 #[] w fun e w' => ∃ L, e = .returned (.pointer (some ⟨L, 0, none⟩)) ∧ SKI w' w.heap.size L [] ∧ Below w.heap.size w w' := by
  have hmk := mk_row 8 (by omega)
  rw [show ((8 : Nat) : Int) = 8 from rfl] at hmk
  go_enter Try.func8, Try.ntmps8
  go_wp2_with fail
  go_ret
  have hD := World.size_alloc w (rowBox 8 (fun _ => none))
  refine ⟨_, rfl, ⟨[⟨⟨ByteArray.empty, 8, 0⟩, w.heap.size + 1, w.heap.size⟩], ⟨⟨?_, Nat.zero_lt_one, ?_, ?_⟩, rfl, List.Pairwise.nil, fun p hp => by cases hp⟩, rfl, ?_⟩, below_alloc (below_alloc (below_alloc (Below.refl _ _) _) _) _⟩
  · have h := heap_alloc_new ((w.alloc (rowBox 8 (fun _ => none))).alloc (nodeBox ByteArray.empty 0 w.heap.size 8)) (listBox (w.heap.size + 1) 0)
    simp only [World.size_alloc] at h
    exact h
  · intro i hi
    obtain rfl : i = 0 := by simpa using hi
    have h1 := heap_alloc_new w (rowBox 8 (fun _ => none))
    have h2 := heap_alloc_new (w.alloc (rowBox 8 (fun _ => none))) (nodeBox ByteArray.empty 0 w.heap.size 8)
    rw [World.size_alloc] at h2
    have k1 : ∀ {W W1 : World} {g : Nat} {o : Obj}, W.heap[g]? = some o → Below W.heap.size W W1 → W1.heap[g]? = some o := fun hk hb => (hb.block _ (Array.getElem?_eq_some_iff.1 hk).1).trans hk
    exact ⟨k1 h2 (below_alloc (Below.refl _ _) _), k1 (k1 h1 (below_alloc (Below.refl _ _) _)) (below_alloc (Below.refl _ _) _)⟩
  · simp [blks]; omega
  · intro k hk
    simp [blks] at hk
    omega
end Go.Proofs.Ythilhcdlpfjodaa.A
