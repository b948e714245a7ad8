/-
  No cell of these rows narrows 'for every input' (looked for: loops, veiled, ifaces, maps, wideKeys, modest, calm, conditions, laid).
  DERIVED. THE GIVEN ROWS OF THIS SEAT. 5 by the template 'for every input the law returns true; each argument reads behind the call as it read before'; 0 by the template 'total and deterministic' (their statements: YthilhcdlpfjodaaTotals.lean).
  GIVEN WITH THE SEED: the statements are not yours to turn. If you find one false, say at which input.
  Laid BY PROGRAM, IN A SANDBOX (cutbox-rows.mjs): the forced cells as the released guide's own fill.sh prints them over the translation 595180ccdd0bfa38… (all of the seat's roots in one cut). By AI agents, Wed Nov 11 2026. No macro, syntax, notation, axiom, sorry.
-/
import Derived.Test.YthilhcdlpfjodaaChecked
import GoSem.Claim
import GoSem.ClaimJoined
import GoSem.ClaimMapViews
import Derived.JoinedTies
import Derived.KernelRfl
namespace Go.Proofs.Ythilhcdlpfjodaa
/- THE CELL 'sum', in the pinned program and in every row, IS THE sha256 OF THE DUMP (.gsa) THAT YthilhcdlpfjodaaProg.lean LOADS. Nothing in Lean hashes anything: it is a label: what it is worth is what the hold of that sum in a sandbox is worth. -/
noncomputable def Try.pinned : Pinned := { name := "ythilhcdlpfjodaa", sum := "595180ccdd0bfa3811a9d9d1881bc4bcaf2772f3487c97cd7c00982aeb5d43f1", checked := Try.checked }
namespace Rows
def none {H : Type} : Left H := { results := [], args := [] }

/-- 'duramenlaw12.SkipRows': WHATEVER THE INPUT: true; the input reads as it did. -/
def skipRowsSpec : ChangeSpec := { name := "skipRows", fn := fun _ => fun
  | [d] => { results := [.lit (.bool true)], args := [d] }
  | _ => none }
def skipRowsRow : OpenClaim := { program := "ythilhcdlpfjodaa", sum := "595180ccdd0bfa3811a9d9d1881bc4bcaf2772f3487c97cd7c00982aeb5d43f1", func := "duramen/duramenlaw12.SkipRows", spec := "skipRows", apart := false }
def SkipRowsSaid : Prop := skipRowsRow.holds Try.pinned (OpenSpec.ofChange skipRowsSpec)

/-- ITS FALSE NEIGHBOUR: 'it returns false'. Refute it at one input. -/
def skipRowsWrong : ChangeSpec := { name := "skipRows", fn := fun _ => fun
  | [d] => { results := [.lit (.bool false)], args := [d] }
  | _ => none }
def SkipRowsWrongFalsely : Prop := skipRowsRow.holds Try.pinned (OpenSpec.ofChange skipRowsWrong)

/-- 'duramenlaw12.SkipLevels': WHATEVER THE INPUT: true; the input reads as it did. -/
def skipLevelsSpec : ChangeSpec := { name := "skipLevels", fn := fun _ => fun
  | [d1, d2] => { results := [.lit (.bool true)], args := [d1, d2] }
  | _ => none }
def skipLevelsRow : OpenClaim := { program := "ythilhcdlpfjodaa", sum := "595180ccdd0bfa3811a9d9d1881bc4bcaf2772f3487c97cd7c00982aeb5d43f1", func := "duramen/duramenlaw12.SkipLevels", spec := "skipLevels", apart := false }
def SkipLevelsSaid : Prop := skipLevelsRow.holds Try.pinned (OpenSpec.ofChange skipLevelsSpec)

/-- ITS FALSE NEIGHBOUR: 'it returns false'. Refute it at one input. -/
def skipLevelsWrong : ChangeSpec := { name := "skipLevels", fn := fun _ => fun
  | [d1, d2] => { results := [.lit (.bool false)], args := [d1, d2] }
  | _ => none }
def SkipLevelsWrongFalsely : Prop := skipLevelsRow.holds Try.pinned (OpenSpec.ofChange skipLevelsWrong)

/-- 'duramenlaw12.SkipFloor': WHATEVER THE INPUT: true; the input reads as it did. -/
def skipFloorSpec : ChangeSpec := { name := "skipFloor", fn := fun _ => fun
  | [d1, d2] => { results := [.lit (.bool true)], args := [d1, d2] }
  | _ => none }
def skipFloorRow : OpenClaim := { program := "ythilhcdlpfjodaa", sum := "595180ccdd0bfa3811a9d9d1881bc4bcaf2772f3487c97cd7c00982aeb5d43f1", func := "duramen/duramenlaw12.SkipFloor", spec := "skipFloor", apart := false }
def SkipFloorSaid : Prop := skipFloorRow.holds Try.pinned (OpenSpec.ofChange skipFloorSpec)

/-- ITS FALSE NEIGHBOUR: 'it returns false'. Refute it at one input. -/
def skipFloorWrong : ChangeSpec := { name := "skipFloor", fn := fun _ => fun
  | [d1, d2] => { results := [.lit (.bool false)], args := [d1, d2] }
  | _ => none }
def SkipFloorWrongFalsely : Prop := skipFloorRow.holds Try.pinned (OpenSpec.ofChange skipFloorWrong)

/-- 'duramenlaw12.SkipEnds': WHATEVER THE INPUT: true; the input reads as it did. -/
def skipEndsSpec : ChangeSpec := { name := "skipEnds", fn := fun _ => fun
  | [d1, d2, d3] => { results := [.lit (.bool true)], args := [d1, d2, d3] }
  | _ => none }
def skipEndsRow : OpenClaim := { program := "ythilhcdlpfjodaa", sum := "595180ccdd0bfa3811a9d9d1881bc4bcaf2772f3487c97cd7c00982aeb5d43f1", func := "duramen/duramenlaw12.SkipEnds", spec := "skipEnds", unfollowed := true, recurses := true, apart := false }
def SkipEndsSaid : Prop := skipEndsRow.holds Try.pinned (OpenSpec.ofChange skipEndsSpec)

/-- ITS FALSE NEIGHBOUR: 'it returns false'. Refute it at one input. -/
def skipEndsWrong : ChangeSpec := { name := "skipEnds", fn := fun _ => fun
  | [d1, d2, d3] => { results := [.lit (.bool false)], args := [d1, d2, d3] }
  | _ => none }
def SkipEndsWrongFalsely : Prop := skipEndsRow.holds Try.pinned (OpenSpec.ofChange skipEndsWrong)

/-- 'duramenlaw12.SkipPlays': WHATEVER THE INPUT: true; the input reads as it did. -/
def skipPlaysSpec : ChangeSpec := { name := "skipPlays", fn := fun _ => fun
  | [d1, d2] => { results := [.lit (.bool true)], args := [d1, d2] }
  | _ => none }
def skipPlaysRow : OpenClaim := { program := "ythilhcdlpfjodaa", sum := "595180ccdd0bfa3811a9d9d1881bc4bcaf2772f3487c97cd7c00982aeb5d43f1", func := "duramen/duramenlaw12.SkipPlays", spec := "skipPlays", unfollowed := true, recurses := true, apart := false }
def SkipPlaysSaid : Prop := skipPlaysRow.holds Try.pinned (OpenSpec.ofChange skipPlaysSpec)

/-- ITS FALSE NEIGHBOUR: 'it returns false'. Refute it at one input. -/
def skipPlaysWrong : ChangeSpec := { name := "skipPlays", fn := fun _ => fun
  | [d1, d2] => { results := [.lit (.bool false)], args := [d1, d2] }
  | _ => none }
def SkipPlaysWrongFalsely : Prop := skipPlaysRow.holds Try.pinned (OpenSpec.ofChange skipPlaysWrong)

/- THE SECOND FORM. 'bulk': how many values and letters a reading holds, each counted each time it is reached (what is shared counts as often as it is met; a slice's spare places count too). A statement '..UptoSaid' is the law's where the arguments, and the package variables that the reading takes, are together of bulk at most 1048576: NARROWER than '..Said'. Prove '..Said' where nothing that the law and all that it calls make is longer than what came in: it says more and counts as full. Else prove '..UptoSaid'. A law counts once. -/
mutual
def uptoBulk {H : Type} : DataW H → Nat
  | .lit (.string bytes) => bytes.length + 1
  | .lit _ => 1
  | .nil => 1
  | .ptr d => uptoBulk d + 1
  | .slice elems spare => uptoBulkAll elems + uptoBulkAll spare + 1
  | .agg parts => uptoBulkAll parts + 1
  | .iface _ d => uptoBulk d + 1
  | .map entries => uptoBulkEntries entries + 1
  | .held _ => 1
def uptoBulkAll {H : Type} : List (DataW H) → Nat
  | [] => 0
  | d :: r => uptoBulk d + uptoBulkAll r
def uptoBulkEntries {H : Type} : List (Lit × DataW H) → Nat
  | [] => 0
  | x :: r => uptoBulkEntry x + uptoBulkEntries r
def uptoBulkEntry {H : Type} : Lit × DataW H → Nat
  | (.string bytes, d) => bytes.length + uptoBulk d + 1
  | (_, d) => uptoBulk d + 1
 end
def uptoSmall : (H : Type) → List (DataW H) → Bool := fun _ ds => decide (uptoBulkAll ds ≤ 1048576)
def OpenSpec.upto (s : _root_.Go.ChangeSpec) : _root_.Go.OpenSpec := { _root_.Go.OpenSpec.ofChange s with cond := some uptoSmall }

/-- 'duramenlaw12.SkipRows', WHERE WHAT IT READS IS OF BULK AT MOST 1048576: true; the input reads as it did. -/
def skipRowsUptoRow : OpenClaim := { program := "ythilhcdlpfjodaa", sum := "595180ccdd0bfa3811a9d9d1881bc4bcaf2772f3487c97cd7c00982aeb5d43f1", func := "duramen/duramenlaw12.SkipRows", spec := "skipRows", apart := false, narrowed := true }
def SkipRowsUptoSaid : Prop := skipRowsUptoRow.holds Try.pinned (OpenSpec.upto skipRowsSpec)

/-- 'duramenlaw12.SkipLevels', WHERE WHAT IT READS IS OF BULK AT MOST 1048576: true; the input reads as it did. -/
def skipLevelsUptoRow : OpenClaim := { program := "ythilhcdlpfjodaa", sum := "595180ccdd0bfa3811a9d9d1881bc4bcaf2772f3487c97cd7c00982aeb5d43f1", func := "duramen/duramenlaw12.SkipLevels", spec := "skipLevels", apart := false, narrowed := true }
def SkipLevelsUptoSaid : Prop := skipLevelsUptoRow.holds Try.pinned (OpenSpec.upto skipLevelsSpec)

/-- 'duramenlaw12.SkipFloor', WHERE WHAT IT READS IS OF BULK AT MOST 1048576: true; the input reads as it did. -/
def skipFloorUptoRow : OpenClaim := { program := "ythilhcdlpfjodaa", sum := "595180ccdd0bfa3811a9d9d1881bc4bcaf2772f3487c97cd7c00982aeb5d43f1", func := "duramen/duramenlaw12.SkipFloor", spec := "skipFloor", apart := false, narrowed := true }
def SkipFloorUptoSaid : Prop := skipFloorUptoRow.holds Try.pinned (OpenSpec.upto skipFloorSpec)

/-- 'duramenlaw12.SkipEnds', WHERE WHAT IT READS IS OF BULK AT MOST 1048576: true; the input reads as it did. -/
def skipEndsUptoRow : OpenClaim := { program := "ythilhcdlpfjodaa", sum := "595180ccdd0bfa3811a9d9d1881bc4bcaf2772f3487c97cd7c00982aeb5d43f1", func := "duramen/duramenlaw12.SkipEnds", spec := "skipEnds", unfollowed := true, recurses := true, apart := false, narrowed := true }
def SkipEndsUptoSaid : Prop := skipEndsUptoRow.holds Try.pinned (OpenSpec.upto skipEndsSpec)

/-- 'duramenlaw12.SkipPlays', WHERE WHAT IT READS IS OF BULK AT MOST 1048576: true; the input reads as it did. -/
def skipPlaysUptoRow : OpenClaim := { program := "ythilhcdlpfjodaa", sum := "595180ccdd0bfa3811a9d9d1881bc4bcaf2772f3487c97cd7c00982aeb5d43f1", func := "duramen/duramenlaw12.SkipPlays", spec := "skipPlays", unfollowed := true, recurses := true, apart := false, narrowed := true }
def SkipPlaysUptoSaid : Prop := skipPlaysUptoRow.holds Try.pinned (OpenSpec.upto skipPlaysSpec)

end Rows
end Go.Proofs.Ythilhcdlpfjodaa
