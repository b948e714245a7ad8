/- The first ones of versions, cut. -/
import Derived.Test.YtopoepifbjbmoaaCLives
import Derived.Test.YtopoepifbjbmoaaCMayR
namespace Go.Proofs.Ytopoepifbjbmoaa.A
open Go.RowKit Go.Proofs.YtopoepifbjbmoaaW.PrintWords Go.Proofs.YtopoepifbjbmoaaW.PrintLast Go.Proofs.YtopoepifbjbmoaaW.PrintMore
open R
set_option linter.unusedVariables false
set_option linter.unusedSimpArgs false

def ownL (l : List Vr) (k : Nat) : List Vr := (l.take k).map cutV
theorem ownL_len (l : List Vr) (k n : Nat) (hn : l.length = n) (hk : k ≤ n) : (ownL l k).length = k := by unfold ownL; rw [List.length_map, List.length_take]; omega
theorem ownL_next (l : List Vr) (k n : Nat) (hn : l.length = n) (hk : k < n) : ownL l (k + 1) = ownL l k ++ [cutV (l.getD k default)] := by
  unfold ownL
  rw [take_getD l k (by omega), List.map_append]
  rfl
theorem ownL_zero (l : List Vr) : ownL l 0 = [] := rfl
theorem cutV_small (q : Vr) : (cutV q).k.size ≤ 110 ∧ (cutV q).v.size ≤ 210 := ⟨cutS_size _ _, cutS_size _ _⟩
theorem ownL_small (l : List Vr) (k : Nat) : smallB (ownL l k) := by
  intro p hp
  obtain ⟨q, _, rfl⟩ := List.mem_map.1 hp
  obtain ⟨h1, h2⟩ := cutV_small q
  exact ⟨by omega, by omega⟩
end Go.Proofs.Ytopoepifbjbmoaa.A
