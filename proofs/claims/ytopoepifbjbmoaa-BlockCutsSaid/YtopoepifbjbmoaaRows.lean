/-
  No cell of these rows narrows 'for every input' (looked for: loops, veiled, ifaces, maps, wideKeys, modest, calm, conditions, laid).
  DERIVED. THE GIVEN ROWS OF THIS SEAT. 5 by the template 'for every input the law returns true; each argument reads behind the call as it read before'; 0 by the template 'total and deterministic' (their statements: YtopoepifbjbmoaaTotals.lean).
  GIVEN WITH THE SEED: the statements are not yours to turn. If you find one false, say at which input.
  Laid BY PROGRAM, IN A SANDBOX (cutbox-rows.mjs): the forced cells as the released guide's own fill.sh prints them over the translation 75c9278b8be01b0d… (all of the seat's roots in one cut). By AI agents, Wed Nov 11 2026. No macro, syntax, notation, axiom, sorry.
-/
import Derived.Test.YtopoepifbjbmoaaChecked
import GoSem.Claim
import GoSem.ClaimJoined
import GoSem.ClaimMapViews
import Derived.JoinedTies
import Derived.KernelRfl
namespace Go.Proofs.Ytopoepifbjbmoaa
/- THE CELL 'sum', in the pinned program and in every row, IS THE sha256 OF THE DUMP (.gsa) THAT YtopoepifbjbmoaaProg.lean LOADS. Nothing in Lean hashes anything: it is a label: what it is worth is what the hold of that sum in a sandbox is worth. -/
noncomputable def Try.pinned : Pinned := { name := "ytopoepifbjbmoaa", sum := "75c9278b8be01b0d58d805371098a1a769f0414f6e193f535fd58fa8bd3da0d1", checked := Try.checked }
namespace Rows
def none {H : Type} : Left H := { results := [], args := [] }

/-- 'duramenlaw08.BlockWrites': WHATEVER THE INPUT: true; the input reads as it did. -/
def blockWritesSpec : ChangeSpec := { name := "blockWrites", fn := fun _ => fun
  | [d] => { results := [.lit (.bool true)], args := [d] }
  | _ => none }
def blockWritesRow : OpenClaim := { program := "ytopoepifbjbmoaa", sum := "75c9278b8be01b0d58d805371098a1a769f0414f6e193f535fd58fa8bd3da0d1", func := "duramen/duramenlaw08.BlockWrites", spec := "blockWrites", recurses := true, apart := false }
def BlockWritesSaid : Prop := blockWritesRow.holds Try.pinned (OpenSpec.ofChange blockWritesSpec)

/-- ITS FALSE NEIGHBOUR: 'it returns false'. Refute it at one input. -/
def blockWritesWrong : ChangeSpec := { name := "blockWrites", fn := fun _ => fun
  | [d] => { results := [.lit (.bool false)], args := [d] }
  | _ => none }
def BlockWritesWrongFalsely : Prop := blockWritesRow.holds Try.pinned (OpenSpec.ofChange blockWritesWrong)

/-- 'duramenlaw08.BlockMay': WHATEVER THE INPUT: true; the input reads as it did. -/
def blockMaySpec : ChangeSpec := { name := "blockMay", fn := fun _ => fun
  | [d] => { results := [.lit (.bool true)], args := [d] }
  | _ => none }
def blockMayRow : OpenClaim := { program := "ytopoepifbjbmoaa", sum := "75c9278b8be01b0d58d805371098a1a769f0414f6e193f535fd58fa8bd3da0d1", func := "duramen/duramenlaw08.BlockMay", spec := "blockMay", apart := false }
def BlockMaySaid : Prop := blockMayRow.holds Try.pinned (OpenSpec.ofChange blockMaySpec)

/-- ITS FALSE NEIGHBOUR: 'it returns false'. Refute it at one input. -/
def blockMayWrong : ChangeSpec := { name := "blockMay", fn := fun _ => fun
  | [d] => { results := [.lit (.bool false)], args := [d] }
  | _ => none }
def BlockMayWrongFalsely : Prop := blockMayRow.holds Try.pinned (OpenSpec.ofChange blockMayWrong)

/-- 'duramenlaw08.BlockShares': WHATEVER THE INPUT: true; the input reads as it did. -/
def blockSharesSpec : ChangeSpec := { name := "blockShares", fn := fun _ => fun
  | [d] => { results := [.lit (.bool true)], args := [d] }
  | _ => none }
def blockSharesRow : OpenClaim := { program := "ytopoepifbjbmoaa", sum := "75c9278b8be01b0d58d805371098a1a769f0414f6e193f535fd58fa8bd3da0d1", func := "duramen/duramenlaw08.BlockShares", spec := "blockShares", recurses := true, apart := false }
def BlockSharesSaid : Prop := blockSharesRow.holds Try.pinned (OpenSpec.ofChange blockSharesSpec)

/-- ITS FALSE NEIGHBOUR: 'it returns false'. Refute it at one input. -/
def blockSharesWrong : ChangeSpec := { name := "blockShares", fn := fun _ => fun
  | [d] => { results := [.lit (.bool false)], args := [d] }
  | _ => none }
def BlockSharesWrongFalsely : Prop := blockSharesRow.holds Try.pinned (OpenSpec.ofChange blockSharesWrong)

/-- 'duramenlaw08.BlockPrefix': WHATEVER THE INPUT: true; the input reads as it did. -/
def blockPrefixSpec : ChangeSpec := { name := "blockPrefix", fn := fun _ => fun
  | [d1, d2] => { results := [.lit (.bool true)], args := [d1, d2] }
  | _ => none }
def blockPrefixRow : OpenClaim := { program := "ytopoepifbjbmoaa", sum := "75c9278b8be01b0d58d805371098a1a769f0414f6e193f535fd58fa8bd3da0d1", func := "duramen/duramenlaw08.BlockPrefix", spec := "blockPrefix", apart := false }
def BlockPrefixSaid : Prop := blockPrefixRow.holds Try.pinned (OpenSpec.ofChange blockPrefixSpec)

/-- ITS FALSE NEIGHBOUR: 'it returns false'. Refute it at one input. -/
def blockPrefixWrong : ChangeSpec := { name := "blockPrefix", fn := fun _ => fun
  | [d1, d2] => { results := [.lit (.bool false)], args := [d1, d2] }
  | _ => none }
def BlockPrefixWrongFalsely : Prop := blockPrefixRow.holds Try.pinned (OpenSpec.ofChange blockPrefixWrong)

/-- 'duramenlaw08.BlockCuts': WHATEVER THE INPUT: true; the input reads as it did. -/
def blockCutsSpec : ChangeSpec := { name := "blockCuts", fn := fun _ => fun
  | [d] => { results := [.lit (.bool true)], args := [d] }
  | _ => none }
def blockCutsRow : OpenClaim := { program := "ytopoepifbjbmoaa", sum := "75c9278b8be01b0d58d805371098a1a769f0414f6e193f535fd58fa8bd3da0d1", func := "duramen/duramenlaw08.BlockCuts", spec := "blockCuts", unfollowed := true, recurses := true, apart := false }
def BlockCutsSaid : Prop := blockCutsRow.holds Try.pinned (OpenSpec.ofChange blockCutsSpec)

/-- ITS FALSE NEIGHBOUR: 'it returns false'. Refute it at one input. -/
def blockCutsWrong : ChangeSpec := { name := "blockCuts", fn := fun _ => fun
  | [d] => { results := [.lit (.bool false)], args := [d] }
  | _ => none }
def BlockCutsWrongFalsely : Prop := blockCutsRow.holds Try.pinned (OpenSpec.ofChange blockCutsWrong)

/- THE SECOND FORM. 'bulk': how many values and letters a reading holds, each counted each time it is reached (what is shared counts as often as it is met; a slice's spare places count too). A statement '..UptoSaid' is the law's where the arguments, and the package variables that the reading takes, are together of bulk at most 1048576: NARROWER than '..Said'. Prove '..Said' where nothing that the law and all that it calls make is longer than what came in: it says more and counts as full. Else prove '..UptoSaid'. A law counts once. -/
mutual
def uptoBulk {H : Type} : DataW H → Nat
  | .lit (.string bytes) => bytes.length + 1
  | .lit _ => 1
  | .nil => 1
  | .ptr d => uptoBulk d + 1
  | .slice elems spare => uptoBulkAll elems + uptoBulkAll spare + 1
  | .agg parts => uptoBulkAll parts + 1
  | .iface _ d => uptoBulk d + 1
  | .map entries => uptoBulkEntries entries + 1
  | .held _ => 1
def uptoBulkAll {H : Type} : List (DataW H) → Nat
  | [] => 0
  | d :: r => uptoBulk d + uptoBulkAll r
def uptoBulkEntries {H : Type} : List (Lit × DataW H) → Nat
  | [] => 0
  | x :: r => uptoBulkEntry x + uptoBulkEntries r
def uptoBulkEntry {H : Type} : Lit × DataW H → Nat
  | (.string bytes, d) => bytes.length + uptoBulk d + 1
  | (_, d) => uptoBulk d + 1
 end
def uptoSmall : (H : Type) → List (DataW H) → Bool := fun _ ds => decide (uptoBulkAll ds ≤ 1048576)
def OpenSpec.upto (s : _root_.Go.ChangeSpec) : _root_.Go.OpenSpec := { _root_.Go.OpenSpec.ofChange s with cond := some uptoSmall }

/-- 'duramenlaw08.BlockWrites', WHERE WHAT IT READS IS OF BULK AT MOST 1048576: true; the input reads as it did. -/
def blockWritesUptoRow : OpenClaim := { program := "ytopoepifbjbmoaa", sum := "75c9278b8be01b0d58d805371098a1a769f0414f6e193f535fd58fa8bd3da0d1", func := "duramen/duramenlaw08.BlockWrites", spec := "blockWrites", recurses := true, apart := false, narrowed := true }
def BlockWritesUptoSaid : Prop := blockWritesUptoRow.holds Try.pinned (OpenSpec.upto blockWritesSpec)

/-- 'duramenlaw08.BlockMay', WHERE WHAT IT READS IS OF BULK AT MOST 1048576: true; the input reads as it did. -/
def blockMayUptoRow : OpenClaim := { program := "ytopoepifbjbmoaa", sum := "75c9278b8be01b0d58d805371098a1a769f0414f6e193f535fd58fa8bd3da0d1", func := "duramen/duramenlaw08.BlockMay", spec := "blockMay", apart := false, narrowed := true }
def BlockMayUptoSaid : Prop := blockMayUptoRow.holds Try.pinned (OpenSpec.upto blockMaySpec)

/-- 'duramenlaw08.BlockShares', WHERE WHAT IT READS IS OF BULK AT MOST 1048576: true; the input reads as it did. -/
def blockSharesUptoRow : OpenClaim := { program := "ytopoepifbjbmoaa", sum := "75c9278b8be01b0d58d805371098a1a769f0414f6e193f535fd58fa8bd3da0d1", func := "duramen/duramenlaw08.BlockShares", spec := "blockShares", recurses := true, apart := false, narrowed := true }
def BlockSharesUptoSaid : Prop := blockSharesUptoRow.holds Try.pinned (OpenSpec.upto blockSharesSpec)

/-- 'duramenlaw08.BlockPrefix', WHERE WHAT IT READS IS OF BULK AT MOST 1048576: true; the input reads as it did. -/
def blockPrefixUptoRow : OpenClaim := { program := "ytopoepifbjbmoaa", sum := "75c9278b8be01b0d58d805371098a1a769f0414f6e193f535fd58fa8bd3da0d1", func := "duramen/duramenlaw08.BlockPrefix", spec := "blockPrefix", apart := false, narrowed := true }
def BlockPrefixUptoSaid : Prop := blockPrefixUptoRow.holds Try.pinned (OpenSpec.upto blockPrefixSpec)

/-- 'duramenlaw08.BlockCuts', WHERE WHAT IT READS IS OF BULK AT MOST 1048576: true; the input reads as it did. -/
def blockCutsUptoRow : OpenClaim := { program := "ytopoepifbjbmoaa", sum := "75c9278b8be01b0d58d805371098a1a769f0414f6e193f535fd58fa8bd3da0d1", func := "duramen/duramenlaw08.BlockCuts", spec := "blockCuts", unfollowed := true, recurses := true, apart := false, narrowed := true }
def BlockCutsUptoSaid : Prop := blockCutsUptoRow.holds Try.pinned (OpenSpec.upto blockCutsSpec)

end Rows
end Go.Proofs.Ytopoepifbjbmoaa
