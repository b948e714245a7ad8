/-
  No cell of these rows narrows 'for every input' (looked for: loops, veiled, ifaces, maps, wideKeys, modest, calm, conditions, laid).
  DERIVED. THE GIVEN ROWS OF THIS SEAT. 7 by the template 'for every input the law returns true; each argument reads behind the call as it read before'; 0 by the template 'total and deterministic' (their statements: YtloachifhaigjaaTotals.lean).
  GIVEN WITH THE SEED: the statements are not yours to turn. If you find one false, say at which input.
  Laid BY PROGRAM, IN A SANDBOX (cutbox-rows.mjs): the forced cells as the released guide's own fill.sh prints them over the translation b96110386ad473e2… (all of the seat's roots in one cut). By AI agents, Wed Nov 11 2026. No macro, syntax, notation, axiom, sorry.
-/
import Derived.Test.YtloachifhaigjaaChecked
import GoSem.Claim
import GoSem.ClaimJoined
import GoSem.ClaimMapViews
import Derived.JoinedTies
import Derived.KernelRfl
namespace Go.Proofs.Ytloachifhaigjaa
/- THE CELL 'sum', in the pinned program and in every row, IS THE sha256 OF THE DUMP (.gsa) THAT YtloachifhaigjaaProg.lean LOADS. Nothing in Lean hashes anything: it is a label: what it is worth is what the hold of that sum in a sandbox is worth. -/
noncomputable def Try.pinned : Pinned := { name := "ytloachifhaigjaa", sum := "b96110386ad473e2a6fe2b01e22c14d3824514d95a0a9e24de070597c595c6f1", checked := Try.checked }
namespace Rows
def none {H : Type} : Left H := { results := [], args := [] }

/-- 'duramenlaw04.SpanTwo': WHATEVER THE INPUT: true; the input reads as it did. -/
def spanTwoSpec : ChangeSpec := { name := "spanTwo", fn := fun _ => fun
  | [d1, d2, d3] => { results := [.lit (.bool true)], args := [d1, d2, d3] }
  | _ => none }
def spanTwoRow : OpenClaim := { program := "ytloachifhaigjaa", sum := "b96110386ad473e2a6fe2b01e22c14d3824514d95a0a9e24de070597c595c6f1", func := "duramen/duramenlaw04.SpanTwo", spec := "spanTwo", apart := false }
def SpanTwoSaid : Prop := spanTwoRow.holds Try.pinned (OpenSpec.ofChange spanTwoSpec)

/-- ITS FALSE NEIGHBOUR: 'it returns false'. Refute it at one input. -/
def spanTwoWrong : ChangeSpec := { name := "spanTwo", fn := fun _ => fun
  | [d1, d2, d3] => { results := [.lit (.bool false)], args := [d1, d2, d3] }
  | _ => none }
def SpanTwoWrongFalsely : Prop := spanTwoRow.holds Try.pinned (OpenSpec.ofChange spanTwoWrong)

/-- 'duramenlaw04.SpanTimes': WHATEVER THE INPUT: true; the input reads as it did. -/
def spanTimesSpec : ChangeSpec := { name := "spanTimes", fn := fun _ => fun
  | [d1, d2, d3] => { results := [.lit (.bool true)], args := [d1, d2, d3] }
  | _ => none }
def spanTimesRow : OpenClaim := { program := "ytloachifhaigjaa", sum := "b96110386ad473e2a6fe2b01e22c14d3824514d95a0a9e24de070597c595c6f1", func := "duramen/duramenlaw04.SpanTimes", spec := "spanTimes", apart := false }
def SpanTimesSaid : Prop := spanTimesRow.holds Try.pinned (OpenSpec.ofChange spanTimesSpec)

/-- ITS FALSE NEIGHBOUR: 'it returns false'. Refute it at one input. -/
def spanTimesWrong : ChangeSpec := { name := "spanTimes", fn := fun _ => fun
  | [d1, d2, d3] => { results := [.lit (.bool false)], args := [d1, d2, d3] }
  | _ => none }
def SpanTimesWrongFalsely : Prop := spanTimesRow.holds Try.pinned (OpenSpec.ofChange spanTimesWrong)

/-- 'duramenlaw04.SpanSides': WHATEVER THE INPUT: true; the input reads as it did. -/
def spanSidesSpec : ChangeSpec := { name := "spanSides", fn := fun _ => fun
  | [d1, d2] => { results := [.lit (.bool true)], args := [d1, d2] }
  | _ => none }
def spanSidesRow : OpenClaim := { program := "ytloachifhaigjaa", sum := "b96110386ad473e2a6fe2b01e22c14d3824514d95a0a9e24de070597c595c6f1", func := "duramen/duramenlaw04.SpanSides", spec := "spanSides", apart := false }
def SpanSidesSaid : Prop := spanSidesRow.holds Try.pinned (OpenSpec.ofChange spanSidesSpec)

/-- ITS FALSE NEIGHBOUR: 'it returns false'. Refute it at one input. -/
def spanSidesWrong : ChangeSpec := { name := "spanSides", fn := fun _ => fun
  | [d1, d2] => { results := [.lit (.bool false)], args := [d1, d2] }
  | _ => none }
def SpanSidesWrongFalsely : Prop := spanSidesRow.holds Try.pinned (OpenSpec.ofChange spanSidesWrong)

/-- 'duramenlaw04.SpanLeast': WHATEVER THE INPUT: true; the input reads as it did. -/
def spanLeastSpec : ChangeSpec := { name := "spanLeast", fn := fun _ => fun
  | [d1, d2] => { results := [.lit (.bool true)], args := [d1, d2] }
  | _ => none }
def spanLeastRow : OpenClaim := { program := "ytloachifhaigjaa", sum := "b96110386ad473e2a6fe2b01e22c14d3824514d95a0a9e24de070597c595c6f1", func := "duramen/duramenlaw04.SpanLeast", spec := "spanLeast", apart := false }
def SpanLeastSaid : Prop := spanLeastRow.holds Try.pinned (OpenSpec.ofChange spanLeastSpec)

/-- ITS FALSE NEIGHBOUR: 'it returns false'. Refute it at one input. -/
def spanLeastWrong : ChangeSpec := { name := "spanLeast", fn := fun _ => fun
  | [d1, d2] => { results := [.lit (.bool false)], args := [d1, d2] }
  | _ => none }
def SpanLeastWrongFalsely : Prop := spanLeastRow.holds Try.pinned (OpenSpec.ofChange spanLeastWrong)

/-- 'duramenlaw04.SpanTaken': WHATEVER THE INPUT: true; the input reads as it did. -/
def spanTakenSpec : ChangeSpec := { name := "spanTaken", fn := fun _ => fun
  | [d1, d2, d3] => { results := [.lit (.bool true)], args := [d1, d2, d3] }
  | _ => none }
def spanTakenRow : OpenClaim := { program := "ytloachifhaigjaa", sum := "b96110386ad473e2a6fe2b01e22c14d3824514d95a0a9e24de070597c595c6f1", func := "duramen/duramenlaw04.SpanTaken", spec := "spanTaken", apart := false }
def SpanTakenSaid : Prop := spanTakenRow.holds Try.pinned (OpenSpec.ofChange spanTakenSpec)

/-- ITS FALSE NEIGHBOUR: 'it returns false'. Refute it at one input. -/
def spanTakenWrong : ChangeSpec := { name := "spanTaken", fn := fun _ => fun
  | [d1, d2, d3] => { results := [.lit (.bool false)], args := [d1, d2, d3] }
  | _ => none }
def SpanTakenWrongFalsely : Prop := spanTakenRow.holds Try.pinned (OpenSpec.ofChange spanTakenWrong)

/-- 'duramenlaw04.SpanOver': WHATEVER THE INPUT: true; the input reads as it did. -/
def spanOverSpec : ChangeSpec := { name := "spanOver", fn := fun _ => fun
  | [d1, d2] => { results := [.lit (.bool true)], args := [d1, d2] }
  | _ => none }
def spanOverRow : OpenClaim := { program := "ytloachifhaigjaa", sum := "b96110386ad473e2a6fe2b01e22c14d3824514d95a0a9e24de070597c595c6f1", func := "duramen/duramenlaw04.SpanOver", spec := "spanOver", inPlace := ["slices.overlaps[duramen/api.Piece]"], unfollowed := true, recurses := true, apart := false }
def SpanOverSaid : Prop := spanOverRow.holds Try.pinned (OpenSpec.ofChange spanOverSpec)

/-- ITS FALSE NEIGHBOUR: 'it returns false'. Refute it at one input. -/
def spanOverWrong : ChangeSpec := { name := "spanOver", fn := fun _ => fun
  | [d1, d2] => { results := [.lit (.bool false)], args := [d1, d2] }
  | _ => none }
def SpanOverWrongFalsely : Prop := spanOverRow.holds Try.pinned (OpenSpec.ofChange spanOverWrong)

/-- 'duramenlaw04.SpanLast': WHATEVER THE INPUT: true; the input reads as it did. -/
def spanLastSpec : ChangeSpec := { name := "spanLast", fn := fun _ => fun
  | [d1, d2] => { results := [.lit (.bool true)], args := [d1, d2] }
  | _ => none }
def spanLastRow : OpenClaim := { program := "ytloachifhaigjaa", sum := "b96110386ad473e2a6fe2b01e22c14d3824514d95a0a9e24de070597c595c6f1", func := "duramen/duramenlaw04.SpanLast", spec := "spanLast", inPlace := ["slices.overlaps[duramen/api.Piece]"], unfollowed := true, recurses := true, apart := false }
def SpanLastSaid : Prop := spanLastRow.holds Try.pinned (OpenSpec.ofChange spanLastSpec)

/-- ITS FALSE NEIGHBOUR: 'it returns false'. Refute it at one input. -/
def spanLastWrong : ChangeSpec := { name := "spanLast", fn := fun _ => fun
  | [d1, d2] => { results := [.lit (.bool false)], args := [d1, d2] }
  | _ => none }
def SpanLastWrongFalsely : Prop := spanLastRow.holds Try.pinned (OpenSpec.ofChange spanLastWrong)

/- THE SECOND FORM. 'bulk': how many values and letters a reading holds, each counted each time it is reached (what is shared counts as often as it is met; a slice's spare places count too). A statement '..UptoSaid' is the law's where the arguments, and the package variables that the reading takes, are together of bulk at most 1048576: NARROWER than '..Said'. Prove '..Said' where nothing that the law and all that it calls make is longer than what came in: it says more and counts as full. Else prove '..UptoSaid'. A law counts once. -/
mutual
def uptoBulk {H : Type} : DataW H → Nat
  | .lit (.string bytes) => bytes.length + 1
  | .lit _ => 1
  | .nil => 1
  | .ptr d => uptoBulk d + 1
  | .slice elems spare => uptoBulkAll elems + uptoBulkAll spare + 1
  | .agg parts => uptoBulkAll parts + 1
  | .iface _ d => uptoBulk d + 1
  | .map entries => uptoBulkEntries entries + 1
  | .held _ => 1
def uptoBulkAll {H : Type} : List (DataW H) → Nat
  | [] => 0
  | d :: r => uptoBulk d + uptoBulkAll r
def uptoBulkEntries {H : Type} : List (Lit × DataW H) → Nat
  | [] => 0
  | x :: r => uptoBulkEntry x + uptoBulkEntries r
def uptoBulkEntry {H : Type} : Lit × DataW H → Nat
  | (.string bytes, d) => bytes.length + uptoBulk d + 1
  | (_, d) => uptoBulk d + 1
 end
def uptoSmall : (H : Type) → List (DataW H) → Bool := fun _ ds => decide (uptoBulkAll ds ≤ 1048576)
def OpenSpec.upto (s : _root_.Go.ChangeSpec) : _root_.Go.OpenSpec := { _root_.Go.OpenSpec.ofChange s with cond := some uptoSmall }

/-- 'duramenlaw04.SpanTwo', WHERE WHAT IT READS IS OF BULK AT MOST 1048576: true; the input reads as it did. -/
def spanTwoUptoRow : OpenClaim := { program := "ytloachifhaigjaa", sum := "b96110386ad473e2a6fe2b01e22c14d3824514d95a0a9e24de070597c595c6f1", func := "duramen/duramenlaw04.SpanTwo", spec := "spanTwo", apart := false, narrowed := true }
def SpanTwoUptoSaid : Prop := spanTwoUptoRow.holds Try.pinned (OpenSpec.upto spanTwoSpec)

/-- 'duramenlaw04.SpanTimes', WHERE WHAT IT READS IS OF BULK AT MOST 1048576: true; the input reads as it did. -/
def spanTimesUptoRow : OpenClaim := { program := "ytloachifhaigjaa", sum := "b96110386ad473e2a6fe2b01e22c14d3824514d95a0a9e24de070597c595c6f1", func := "duramen/duramenlaw04.SpanTimes", spec := "spanTimes", apart := false, narrowed := true }
def SpanTimesUptoSaid : Prop := spanTimesUptoRow.holds Try.pinned (OpenSpec.upto spanTimesSpec)

/-- 'duramenlaw04.SpanSides', WHERE WHAT IT READS IS OF BULK AT MOST 1048576: true; the input reads as it did. -/
def spanSidesUptoRow : OpenClaim := { program := "ytloachifhaigjaa", sum := "b96110386ad473e2a6fe2b01e22c14d3824514d95a0a9e24de070597c595c6f1", func := "duramen/duramenlaw04.SpanSides", spec := "spanSides", apart := false, narrowed := true }
def SpanSidesUptoSaid : Prop := spanSidesUptoRow.holds Try.pinned (OpenSpec.upto spanSidesSpec)

/-- 'duramenlaw04.SpanLeast', WHERE WHAT IT READS IS OF BULK AT MOST 1048576: true; the input reads as it did. -/
def spanLeastUptoRow : OpenClaim := { program := "ytloachifhaigjaa", sum := "b96110386ad473e2a6fe2b01e22c14d3824514d95a0a9e24de070597c595c6f1", func := "duramen/duramenlaw04.SpanLeast", spec := "spanLeast", apart := false, narrowed := true }
def SpanLeastUptoSaid : Prop := spanLeastUptoRow.holds Try.pinned (OpenSpec.upto spanLeastSpec)

/-- 'duramenlaw04.SpanTaken', WHERE WHAT IT READS IS OF BULK AT MOST 1048576: true; the input reads as it did. -/
def spanTakenUptoRow : OpenClaim := { program := "ytloachifhaigjaa", sum := "b96110386ad473e2a6fe2b01e22c14d3824514d95a0a9e24de070597c595c6f1", func := "duramen/duramenlaw04.SpanTaken", spec := "spanTaken", apart := false, narrowed := true }
def SpanTakenUptoSaid : Prop := spanTakenUptoRow.holds Try.pinned (OpenSpec.upto spanTakenSpec)

/-- 'duramenlaw04.SpanOver', WHERE WHAT IT READS IS OF BULK AT MOST 1048576: true; the input reads as it did. -/
def spanOverUptoRow : OpenClaim := { program := "ytloachifhaigjaa", sum := "b96110386ad473e2a6fe2b01e22c14d3824514d95a0a9e24de070597c595c6f1", func := "duramen/duramenlaw04.SpanOver", spec := "spanOver", inPlace := ["slices.overlaps[duramen/api.Piece]"], unfollowed := true, recurses := true, apart := false, narrowed := true }
def SpanOverUptoSaid : Prop := spanOverUptoRow.holds Try.pinned (OpenSpec.upto spanOverSpec)

/-- 'duramenlaw04.SpanLast', WHERE WHAT IT READS IS OF BULK AT MOST 1048576: true; the input reads as it did. -/
def spanLastUptoRow : OpenClaim := { program := "ytloachifhaigjaa", sum := "b96110386ad473e2a6fe2b01e22c14d3824514d95a0a9e24de070597c595c6f1", func := "duramen/duramenlaw04.SpanLast", spec := "spanLast", inPlace := ["slices.overlaps[duramen/api.Piece]"], unfollowed := true, recurses := true, apart := false, narrowed := true }
def SpanLastUptoSaid : Prop := spanLastUptoRow.holds Try.pinned (OpenSpec.upto spanLastSpec)

end Rows
end Go.Proofs.Ytloachifhaigjaa
