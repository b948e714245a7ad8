/-
  No cell of these rows narrows 'for every input' (looked for: loops, veiled, ifaces, maps, wideKeys, modest, calm, conditions, laid).
  DERIVED. THE GIVEN ROWS OF THIS SEAT. 5 by the template 'for every input the law returns true; each argument reads behind the call as it read before'; 0 by the template 'total and deterministic' (their statements: YthmkpgemilmikaaTotals.lean).
  GIVEN WITH THE SEED: the statements are not yours to turn. If you find one false, say at which input.
  Laid BY PROGRAM, IN A SANDBOX (cutbox-rows.mjs): the forced cells as the released guide's own fill.sh prints them over the translation cc25b5e271156d3e… (all of the seat's roots in one cut). By AI agents, Wed Nov 11 2026. No macro, syntax, notation, axiom, sorry.
-/
import Derived.Test.YthmkpgemilmikaaChecked
import GoSem.Claim
import GoSem.ClaimJoined
import GoSem.ClaimMapViews
import Derived.JoinedTies
import Derived.KernelRfl
namespace Go.Proofs.Ythmkpgemilmikaa
/- THE CELL 'sum', in the pinned program and in every row, IS THE sha256 OF THE DUMP (.gsa) THAT YthmkpgemilmikaaProg.lean LOADS. Nothing in Lean hashes anything: it is a label: what it is worth is what the hold of that sum in a sandbox is worth. -/
noncomputable def Try.pinned : Pinned := { name := "ythmkpgemilmikaa", sum := "cc25b5e271156d3e2e224717f31e3934bf77616e93d486e75eb5e946081b3609", checked := Try.checked }
namespace Rows
def none {H : Type} : Left H := { results := [], args := [] }

/-- 'duramenlaw05.PlaneAreas': WHATEVER THE INPUT: true; the input reads as it did. -/
def planeAreasSpec : ChangeSpec := { name := "planeAreas", fn := fun _ => fun
  | [d1, d2] => { results := [.lit (.bool true)], args := [d1, d2] }
  | _ => none }
def planeAreasRow : OpenClaim := { program := "ythmkpgemilmikaa", sum := "cc25b5e271156d3e2e224717f31e3934bf77616e93d486e75eb5e946081b3609", func := "duramen/duramenlaw05.PlaneAreas", spec := "planeAreas", apart := false }
def PlaneAreasSaid : Prop := planeAreasRow.holds Try.pinned (OpenSpec.ofChange planeAreasSpec)

/-- ITS FALSE NEIGHBOUR: 'it returns false'. Refute it at one input. -/
def planeAreasWrong : ChangeSpec := { name := "planeAreas", fn := fun _ => fun
  | [d1, d2] => { results := [.lit (.bool false)], args := [d1, d2] }
  | _ => none }
def PlaneAreasWrongFalsely : Prop := planeAreasRow.holds Try.pinned (OpenSpec.ofChange planeAreasWrong)

/-- 'duramenlaw05.PlaneOf': WHATEVER THE INPUT: true; the input reads as it did. -/
def planeOfSpec : ChangeSpec := { name := "planeOf", fn := fun _ => fun
  | [d1, d2, d3] => { results := [.lit (.bool true)], args := [d1, d2, d3] }
  | _ => none }
def planeOfRow : OpenClaim := { program := "ythmkpgemilmikaa", sum := "cc25b5e271156d3e2e224717f31e3934bf77616e93d486e75eb5e946081b3609", func := "duramen/duramenlaw05.PlaneOf", spec := "planeOf", apart := false }
def PlaneOfSaid : Prop := planeOfRow.holds Try.pinned (OpenSpec.ofChange planeOfSpec)

/-- ITS FALSE NEIGHBOUR: 'it returns false'. Refute it at one input. -/
def planeOfWrong : ChangeSpec := { name := "planeOf", fn := fun _ => fun
  | [d1, d2, d3] => { results := [.lit (.bool false)], args := [d1, d2, d3] }
  | _ => none }
def PlaneOfWrongFalsely : Prop := planeOfRow.holds Try.pinned (OpenSpec.ofChange planeOfWrong)

/-- 'duramenlaw05.PlaneTurns': WHATEVER THE INPUT: true; the input reads as it did. -/
def planeTurnsSpec : ChangeSpec := { name := "planeTurns", fn := fun _ => fun
  | [d1, d2, d3, d4] => { results := [.lit (.bool true)], args := [d1, d2, d3, d4] }
  | _ => none }
def planeTurnsRow : OpenClaim := { program := "ythmkpgemilmikaa", sum := "cc25b5e271156d3e2e224717f31e3934bf77616e93d486e75eb5e946081b3609", func := "duramen/duramenlaw05.PlaneTurns", spec := "planeTurns", apart := false }
def PlaneTurnsSaid : Prop := planeTurnsRow.holds Try.pinned (OpenSpec.ofChange planeTurnsSpec)

/-- ITS FALSE NEIGHBOUR: 'it returns false'. Refute it at one input. -/
def planeTurnsWrong : ChangeSpec := { name := "planeTurns", fn := fun _ => fun
  | [d1, d2, d3, d4] => { results := [.lit (.bool false)], args := [d1, d2, d3, d4] }
  | _ => none }
def PlaneTurnsWrongFalsely : Prop := planeTurnsRow.holds Try.pinned (OpenSpec.ofChange planeTurnsWrong)

/-- 'duramenlaw05.PlaneOnce': WHATEVER THE INPUT: true; the input reads as it did. -/
def planeOnceSpec : ChangeSpec := { name := "planeOnce", fn := fun _ => fun
  | [d1, d2, d3, d4] => { results := [.lit (.bool true)], args := [d1, d2, d3, d4] }
  | _ => none }
def planeOnceRow : OpenClaim := { program := "ythmkpgemilmikaa", sum := "cc25b5e271156d3e2e224717f31e3934bf77616e93d486e75eb5e946081b3609", func := "duramen/duramenlaw05.PlaneOnce", spec := "planeOnce", apart := false }
def PlaneOnceSaid : Prop := planeOnceRow.holds Try.pinned (OpenSpec.ofChange planeOnceSpec)

/-- ITS FALSE NEIGHBOUR: 'it returns false'. Refute it at one input. -/
def planeOnceWrong : ChangeSpec := { name := "planeOnce", fn := fun _ => fun
  | [d1, d2, d3, d4] => { results := [.lit (.bool false)], args := [d1, d2, d3, d4] }
  | _ => none }
def PlaneOnceWrongFalsely : Prop := planeOnceRow.holds Try.pinned (OpenSpec.ofChange planeOnceWrong)

/-- 'duramenlaw05.PlaneRow': WHATEVER THE INPUT: true; the input reads as it did. -/
def planeRowSpec : ChangeSpec := { name := "planeRow", fn := fun _ => fun
  | [d1, d2] => { results := [.lit (.bool true)], args := [d1, d2] }
  | _ => none }
def planeRowRow : OpenClaim := { program := "ythmkpgemilmikaa", sum := "cc25b5e271156d3e2e224717f31e3934bf77616e93d486e75eb5e946081b3609", func := "duramen/duramenlaw05.PlaneRow", spec := "planeRow", apart := false }
def PlaneRowSaid : Prop := planeRowRow.holds Try.pinned (OpenSpec.ofChange planeRowSpec)

/-- ITS FALSE NEIGHBOUR: 'it returns false'. Refute it at one input. -/
def planeRowWrong : ChangeSpec := { name := "planeRow", fn := fun _ => fun
  | [d1, d2] => { results := [.lit (.bool false)], args := [d1, d2] }
  | _ => none }
def PlaneRowWrongFalsely : Prop := planeRowRow.holds Try.pinned (OpenSpec.ofChange planeRowWrong)

/- THE SECOND FORM. 'bulk': how many values and letters a reading holds, each counted each time it is reached (what is shared counts as often as it is met; a slice's spare places count too). A statement '..UptoSaid' is the law's where the arguments, and the package variables that the reading takes, are together of bulk at most 1048576: NARROWER than '..Said'. Prove '..Said' where nothing that the law and all that it calls make is longer than what came in: it says more and counts as full. Else prove '..UptoSaid'. A law counts once. -/
mutual
def uptoBulk {H : Type} : DataW H → Nat
  | .lit (.string bytes) => bytes.length + 1
  | .lit _ => 1
  | .nil => 1
  | .ptr d => uptoBulk d + 1
  | .slice elems spare => uptoBulkAll elems + uptoBulkAll spare + 1
  | .agg parts => uptoBulkAll parts + 1
  | .iface _ d => uptoBulk d + 1
  | .map entries => uptoBulkEntries entries + 1
  | .held _ => 1
def uptoBulkAll {H : Type} : List (DataW H) → Nat
  | [] => 0
  | d :: r => uptoBulk d + uptoBulkAll r
def uptoBulkEntries {H : Type} : List (Lit × DataW H) → Nat
  | [] => 0
  | x :: r => uptoBulkEntry x + uptoBulkEntries r
def uptoBulkEntry {H : Type} : Lit × DataW H → Nat
  | (.string bytes, d) => bytes.length + uptoBulk d + 1
  | (_, d) => uptoBulk d + 1
 end
def uptoSmall : (H : Type) → List (DataW H) → Bool := fun _ ds => decide (uptoBulkAll ds ≤ 1048576)
def OpenSpec.upto (s : _root_.Go.ChangeSpec) : _root_.Go.OpenSpec := { _root_.Go.OpenSpec.ofChange s with cond := some uptoSmall }

/-- 'duramenlaw05.PlaneAreas', WHERE WHAT IT READS IS OF BULK AT MOST 1048576: true; the input reads as it did. -/
def planeAreasUptoRow : OpenClaim := { program := "ythmkpgemilmikaa", sum := "cc25b5e271156d3e2e224717f31e3934bf77616e93d486e75eb5e946081b3609", func := "duramen/duramenlaw05.PlaneAreas", spec := "planeAreas", apart := false, narrowed := true }
def PlaneAreasUptoSaid : Prop := planeAreasUptoRow.holds Try.pinned (OpenSpec.upto planeAreasSpec)

/-- 'duramenlaw05.PlaneOf', WHERE WHAT IT READS IS OF BULK AT MOST 1048576: true; the input reads as it did. -/
def planeOfUptoRow : OpenClaim := { program := "ythmkpgemilmikaa", sum := "cc25b5e271156d3e2e224717f31e3934bf77616e93d486e75eb5e946081b3609", func := "duramen/duramenlaw05.PlaneOf", spec := "planeOf", apart := false, narrowed := true }
def PlaneOfUptoSaid : Prop := planeOfUptoRow.holds Try.pinned (OpenSpec.upto planeOfSpec)

/-- 'duramenlaw05.PlaneTurns', WHERE WHAT IT READS IS OF BULK AT MOST 1048576: true; the input reads as it did. -/
def planeTurnsUptoRow : OpenClaim := { program := "ythmkpgemilmikaa", sum := "cc25b5e271156d3e2e224717f31e3934bf77616e93d486e75eb5e946081b3609", func := "duramen/duramenlaw05.PlaneTurns", spec := "planeTurns", apart := false, narrowed := true }
def PlaneTurnsUptoSaid : Prop := planeTurnsUptoRow.holds Try.pinned (OpenSpec.upto planeTurnsSpec)

/-- 'duramenlaw05.PlaneOnce', WHERE WHAT IT READS IS OF BULK AT MOST 1048576: true; the input reads as it did. -/
def planeOnceUptoRow : OpenClaim := { program := "ythmkpgemilmikaa", sum := "cc25b5e271156d3e2e224717f31e3934bf77616e93d486e75eb5e946081b3609", func := "duramen/duramenlaw05.PlaneOnce", spec := "planeOnce", apart := false, narrowed := true }
def PlaneOnceUptoSaid : Prop := planeOnceUptoRow.holds Try.pinned (OpenSpec.upto planeOnceSpec)

/-- 'duramenlaw05.PlaneRow', WHERE WHAT IT READS IS OF BULK AT MOST 1048576: true; the input reads as it did. -/
def planeRowUptoRow : OpenClaim := { program := "ythmkpgemilmikaa", sum := "cc25b5e271156d3e2e224717f31e3934bf77616e93d486e75eb5e946081b3609", func := "duramen/duramenlaw05.PlaneRow", spec := "planeRow", apart := false, narrowed := true }
def PlaneRowUptoSaid : Prop := planeRowUptoRow.holds Try.pinned (OpenSpec.upto planeRowSpec)

end Rows
end Go.Proofs.Ythmkpgemilmikaa
