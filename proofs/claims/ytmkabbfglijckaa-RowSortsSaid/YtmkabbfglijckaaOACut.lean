/- The first parts of a tuple, each cut. -/
import Derived.Test.YtmkabbfglijckaaOATuple
namespace Go.Proofs.Ytmkabbfglijckaa.A.O
open Go.RowKit Go.Proofs.YtmkabbfglijckaaW.PrintWords Go.Proofs.YtmkabbfglijckaaW.PrintLast Go.Proofs.YtmkabbfglijckaaW.PrintMore
set_option linter.unusedVariables false
set_option linter.unusedSimpArgs false

theorem map_take {α β : Type} (f : α → β) (ll : List α) (d : α) (k : Nat) (hk : k < ll.length) : (ll.take (k + 1)).map f = (ll.take k).map f ++ [f (ll.getD k d)] := by
  rw [List.take_succ_eq_append_getElem hk, List.map_append]
  simp [List.getD_eq_getElem?_getD, hk]
theorem cutL_len (l : List Pt) : (cutL l).length ≤ 6 := by
  unfold cutL
  rw [List.length_map, List.length_take]
  omega
theorem cutL_size (l : List Pt) : ∀ p ∈ cutL l, p.s.size ≤ 50 := by
  intro p hp
  obtain ⟨q, _, rfl⟩ := List.mem_map.1 hp
  unfold cutP
  split
  · rw [ByteArray.size_extract]
    omega
  · omega
theorem cutL_ok (l : List Pt) (h : ∀ p ∈ l, p.ok) : ∀ p ∈ cutL l, p.ok := by
  intro p hp
  obtain ⟨q, hq, rfl⟩ := List.mem_map.1 hp
  have hk := h q (List.mem_of_mem_take hq)
  unfold cutP
  split
  · refine ⟨hk.1, ?_⟩
    show (q.s.extract 0 50).size ≤ maxLen
    rw [ByteArray.size_extract]
    have := hk.2
    omega
  · exact hk

end Go.Proofs.Ytmkabbfglijckaa.A.O
