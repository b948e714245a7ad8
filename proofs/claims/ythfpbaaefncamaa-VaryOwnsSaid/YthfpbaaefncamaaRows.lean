/-
  No cell of these rows narrows 'for every input' (looked for: loops, veiled, ifaces, maps, wideKeys, modest, calm, conditions, laid).
  DERIVED. THE GIVEN ROWS OF THIS SEAT. 5 by the template 'for every input the law returns true; each argument reads behind the call as it read before'; 0 by the template 'total and deterministic' (their statements: YthfpbaaefncamaaTotals.lean).
  GIVEN WITH THE SEED: the statements are not yours to turn. If you find one false, say at which input.
  Laid BY PROGRAM, IN A SANDBOX (cutbox-rows.mjs): the forced cells as the released guide's own fill.sh prints them over the translation f7ec6b5b149003f2… (all of the seat's roots in one cut). By AI agents, Wed Nov 11 2026. No macro, syntax, notation, axiom, sorry.
-/
import Derived.Test.YthfpbaaefncamaaChecked
import GoSem.Claim
import GoSem.ClaimJoined
import GoSem.ClaimMapViews
import Derived.JoinedTies
import Derived.KernelRfl
namespace Go.Proofs.Ythfpbaaefncamaa
/- THE CELL 'sum', in the pinned program and in every row, IS THE sha256 OF THE DUMP (.gsa) THAT YthfpbaaefncamaaProg.lean LOADS. Nothing in Lean hashes anything: it is a label: what it is worth is what the hold of that sum in a sandbox is worth. -/
noncomputable def Try.pinned : Pinned := { name := "ythfpbaaefncamaa", sum := "f7ec6b5b149003f249d9f34e9e24c6c4451220b85600a59516ebda2483915c21", checked := Try.checked }
namespace Rows
def none {H : Type} : Left H := { results := [], args := [] }

/-- 'duramenlaw02.VaryFew': WHATEVER THE INPUT: true; the input reads as it did. -/
def varyFewSpec : ChangeSpec := { name := "varyFew", fn := fun _ => fun
  | [d1, d2] => { results := [.lit (.bool true)], args := [d1, d2] }
  | _ => none }
def varyFewRow : OpenClaim := { program := "ythfpbaaefncamaa", sum := "f7ec6b5b149003f249d9f34e9e24c6c4451220b85600a59516ebda2483915c21", func := "duramen/duramenlaw02.VaryFew", spec := "varyFew", apart := false }
def VaryFewSaid : Prop := varyFewRow.holds Try.pinned (OpenSpec.ofChange varyFewSpec)

/-- ITS FALSE NEIGHBOUR: 'it returns false'. Refute it at one input. -/
def varyFewWrong : ChangeSpec := { name := "varyFew", fn := fun _ => fun
  | [d1, d2] => { results := [.lit (.bool false)], args := [d1, d2] }
  | _ => none }
def VaryFewWrongFalsely : Prop := varyFewRow.holds Try.pinned (OpenSpec.ofChange varyFewWrong)

/-- 'duramenlaw02.VaryPuts': WHATEVER THE INPUT: true; the input reads as it did. -/
def varyPutsSpec : ChangeSpec := { name := "varyPuts", fn := fun _ => fun
  | [d1, d2, d3] => { results := [.lit (.bool true)], args := [d1, d2, d3] }
  | _ => none }
def varyPutsRow : OpenClaim := { program := "ythfpbaaefncamaa", sum := "f7ec6b5b149003f249d9f34e9e24c6c4451220b85600a59516ebda2483915c21", func := "duramen/duramenlaw02.VaryPuts", spec := "varyPuts", recurses := true, apart := false }
def VaryPutsSaid : Prop := varyPutsRow.holds Try.pinned (OpenSpec.ofChange varyPutsSpec)

/-- ITS FALSE NEIGHBOUR: 'it returns false'. Refute it at one input. -/
def varyPutsWrong : ChangeSpec := { name := "varyPuts", fn := fun _ => fun
  | [d1, d2, d3] => { results := [.lit (.bool false)], args := [d1, d2, d3] }
  | _ => none }
def VaryPutsWrongFalsely : Prop := varyPutsRow.holds Try.pinned (OpenSpec.ofChange varyPutsWrong)

/-- 'duramenlaw02.VaryMany': WHATEVER THE INPUT: true; the input reads as it did. -/
def varyManySpec : ChangeSpec := { name := "varyMany", fn := fun _ => fun
  | [d1, d2] => { results := [.lit (.bool true)], args := [d1, d2] }
  | _ => none }
def varyManyRow : OpenClaim := { program := "ythfpbaaefncamaa", sum := "f7ec6b5b149003f249d9f34e9e24c6c4451220b85600a59516ebda2483915c21", func := "duramen/duramenlaw02.VaryMany", spec := "varyMany", apart := false }
def VaryManySaid : Prop := varyManyRow.holds Try.pinned (OpenSpec.ofChange varyManySpec)

/-- ITS FALSE NEIGHBOUR: 'it returns false'. Refute it at one input. -/
def varyManyWrong : ChangeSpec := { name := "varyMany", fn := fun _ => fun
  | [d1, d2] => { results := [.lit (.bool false)], args := [d1, d2] }
  | _ => none }
def VaryManyWrongFalsely : Prop := varyManyRow.holds Try.pinned (OpenSpec.ofChange varyManyWrong)

/-- 'duramenlaw02.VaryOwns': WHATEVER THE INPUT: true; the input reads as it did. -/
def varyOwnsSpec : ChangeSpec := { name := "varyOwns", fn := fun _ => fun
  | [d1, d2] => { results := [.lit (.bool true)], args := [d1, d2] }
  | _ => none }
def varyOwnsRow : OpenClaim := { program := "ythfpbaaefncamaa", sum := "f7ec6b5b149003f249d9f34e9e24c6c4451220b85600a59516ebda2483915c21", func := "duramen/duramenlaw02.VaryOwns", spec := "varyOwns", recurses := true, apart := false }
def VaryOwnsSaid : Prop := varyOwnsRow.holds Try.pinned (OpenSpec.ofChange varyOwnsSpec)

/-- ITS FALSE NEIGHBOUR: 'it returns false'. Refute it at one input. -/
def varyOwnsWrong : ChangeSpec := { name := "varyOwns", fn := fun _ => fun
  | [d1, d2] => { results := [.lit (.bool false)], args := [d1, d2] }
  | _ => none }
def VaryOwnsWrongFalsely : Prop := varyOwnsRow.holds Try.pinned (OpenSpec.ofChange varyOwnsWrong)

/-- 'duramenlaw02.VaryRound': WHATEVER THE INPUT: true; the input reads as it did. -/
def varyRoundSpec : ChangeSpec := { name := "varyRound", fn := fun _ => fun
  | [d1, d2, d3, d4] => { results := [.lit (.bool true)], args := [d1, d2, d3, d4] }
  | _ => none }
def varyRoundRow : OpenClaim := { program := "ythfpbaaefncamaa", sum := "f7ec6b5b149003f249d9f34e9e24c6c4451220b85600a59516ebda2483915c21", func := "duramen/duramenlaw02.VaryRound", spec := "varyRound", apart := false }
def VaryRoundSaid : Prop := varyRoundRow.holds Try.pinned (OpenSpec.ofChange varyRoundSpec)

/-- ITS FALSE NEIGHBOUR: 'it returns false'. Refute it at one input. -/
def varyRoundWrong : ChangeSpec := { name := "varyRound", fn := fun _ => fun
  | [d1, d2, d3, d4] => { results := [.lit (.bool false)], args := [d1, d2, d3, d4] }
  | _ => none }
def VaryRoundWrongFalsely : Prop := varyRoundRow.holds Try.pinned (OpenSpec.ofChange varyRoundWrong)

/- THE SECOND FORM. 'bulk': how many values and letters a reading holds, each counted each time it is reached (what is shared counts as often as it is met; a slice's spare places count too). A statement '..UptoSaid' is the law's where the arguments, and the package variables that the reading takes, are together of bulk at most 1048576: NARROWER than '..Said'. Prove '..Said' where nothing that the law and all that it calls make is longer than what came in: it says more and counts as full. Else prove '..UptoSaid'. A law counts once. -/
mutual
def uptoBulk {H : Type} : DataW H → Nat
  | .lit (.string bytes) => bytes.length + 1
  | .lit _ => 1
  | .nil => 1
  | .ptr d => uptoBulk d + 1
  | .slice elems spare => uptoBulkAll elems + uptoBulkAll spare + 1
  | .agg parts => uptoBulkAll parts + 1
  | .iface _ d => uptoBulk d + 1
  | .map entries => uptoBulkEntries entries + 1
  | .held _ => 1
def uptoBulkAll {H : Type} : List (DataW H) → Nat
  | [] => 0
  | d :: r => uptoBulk d + uptoBulkAll r
def uptoBulkEntries {H : Type} : List (Lit × DataW H) → Nat
  | [] => 0
  | x :: r => uptoBulkEntry x + uptoBulkEntries r
def uptoBulkEntry {H : Type} : Lit × DataW H → Nat
  | (.string bytes, d) => bytes.length + uptoBulk d + 1
  | (_, d) => uptoBulk d + 1
 end
def uptoSmall : (H : Type) → List (DataW H) → Bool := fun _ ds => decide (uptoBulkAll ds ≤ 1048576)
def OpenSpec.upto (s : _root_.Go.ChangeSpec) : _root_.Go.OpenSpec := { _root_.Go.OpenSpec.ofChange s with cond := some uptoSmall }

/-- 'duramenlaw02.VaryFew', WHERE WHAT IT READS IS OF BULK AT MOST 1048576: true; the input reads as it did. -/
def varyFewUptoRow : OpenClaim := { program := "ythfpbaaefncamaa", sum := "f7ec6b5b149003f249d9f34e9e24c6c4451220b85600a59516ebda2483915c21", func := "duramen/duramenlaw02.VaryFew", spec := "varyFew", apart := false, narrowed := true }
def VaryFewUptoSaid : Prop := varyFewUptoRow.holds Try.pinned (OpenSpec.upto varyFewSpec)

/-- 'duramenlaw02.VaryPuts', WHERE WHAT IT READS IS OF BULK AT MOST 1048576: true; the input reads as it did. -/
def varyPutsUptoRow : OpenClaim := { program := "ythfpbaaefncamaa", sum := "f7ec6b5b149003f249d9f34e9e24c6c4451220b85600a59516ebda2483915c21", func := "duramen/duramenlaw02.VaryPuts", spec := "varyPuts", recurses := true, apart := false, narrowed := true }
def VaryPutsUptoSaid : Prop := varyPutsUptoRow.holds Try.pinned (OpenSpec.upto varyPutsSpec)

/-- 'duramenlaw02.VaryMany', WHERE WHAT IT READS IS OF BULK AT MOST 1048576: true; the input reads as it did. -/
def varyManyUptoRow : OpenClaim := { program := "ythfpbaaefncamaa", sum := "f7ec6b5b149003f249d9f34e9e24c6c4451220b85600a59516ebda2483915c21", func := "duramen/duramenlaw02.VaryMany", spec := "varyMany", apart := false, narrowed := true }
def VaryManyUptoSaid : Prop := varyManyUptoRow.holds Try.pinned (OpenSpec.upto varyManySpec)

/-- 'duramenlaw02.VaryOwns', WHERE WHAT IT READS IS OF BULK AT MOST 1048576: true; the input reads as it did. -/
def varyOwnsUptoRow : OpenClaim := { program := "ythfpbaaefncamaa", sum := "f7ec6b5b149003f249d9f34e9e24c6c4451220b85600a59516ebda2483915c21", func := "duramen/duramenlaw02.VaryOwns", spec := "varyOwns", recurses := true, apart := false, narrowed := true }
def VaryOwnsUptoSaid : Prop := varyOwnsUptoRow.holds Try.pinned (OpenSpec.upto varyOwnsSpec)

/-- 'duramenlaw02.VaryRound', WHERE WHAT IT READS IS OF BULK AT MOST 1048576: true; the input reads as it did. -/
def varyRoundUptoRow : OpenClaim := { program := "ythfpbaaefncamaa", sum := "f7ec6b5b149003f249d9f34e9e24c6c4451220b85600a59516ebda2483915c21", func := "duramen/duramenlaw02.VaryRound", spec := "varyRound", apart := false, narrowed := true }
def VaryRoundUptoSaid : Prop := varyRoundUptoRow.holds Try.pinned (OpenSpec.upto varyRoundSpec)

end Rows
end Go.Proofs.Ythfpbaaefncamaa
