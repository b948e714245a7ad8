/-
  No cell of these rows narrows 'for every input' (looked for: loops, veiled, ifaces, maps, wideKeys, modest, calm, conditions, laid).
  DERIVED. THE GIVEN ROWS OF THIS SEAT. 7 by the template 'for every input the law returns true; each argument reads behind the call as it read before'; 0 by the template 'total and deterministic' (their statements: YtmfnbkghfmeekaaTotals.lean).
  GIVEN WITH THE SEED: the statements are not yours to turn. If you find one false, say at which input.
  Laid BY PROGRAM, IN A SANDBOX (cutbox-rows.mjs): the forced cells as the released guide's own fill.sh prints them over the translation 6a57996ca0ded287… (all of the seat's roots in one cut). By AI agents, Wed Nov 11 2026. No macro, syntax, notation, axiom, sorry.
-/
import Derived.Test.YtmfnbkghfmeekaaChecked
import GoSem.Claim
import GoSem.ClaimJoined
import GoSem.ClaimMapViews
import Derived.JoinedTies
import Derived.KernelRfl
namespace Go.Proofs.Ytmfnbkghfmeekaa
/- THE CELL 'sum', in the pinned program and in every row, IS THE sha256 OF THE DUMP (.gsa) THAT YtmfnbkghfmeekaaProg.lean LOADS. Nothing in Lean hashes anything: it is a label: what it is worth is what the hold of that sum in a sandbox is worth. -/
noncomputable def Try.pinned : Pinned := { name := "ytmfnbkghfmeekaa", sum := "6a57996ca0ded287dd069ec0bfdb58941803aac627d117d53a47cb1e68fcbc49", checked := Try.checked }
namespace Rows
def none {H : Type} : Left H := { results := [], args := [] }

/-- 'duramenlaw09.RunIs': WHATEVER THE INPUT: true; the input reads as it did. -/
def runIsSpec : ChangeSpec := { name := "runIs", fn := fun _ => fun
  | [d] => { results := [.lit (.bool true)], args := [d] }
  | _ => none }
def runIsRow : OpenClaim := { program := "ytmfnbkghfmeekaa", sum := "6a57996ca0ded287dd069ec0bfdb58941803aac627d117d53a47cb1e68fcbc49", func := "duramen/duramenlaw09.RunIs", spec := "runIs", unfollowed := true, recurses := true, apart := false }
def RunIsSaid : Prop := runIsRow.holds Try.pinned (OpenSpec.ofChange runIsSpec)

/-- ITS FALSE NEIGHBOUR: 'it returns false'. Refute it at one input. -/
def runIsWrong : ChangeSpec := { name := "runIs", fn := fun _ => fun
  | [d] => { results := [.lit (.bool false)], args := [d] }
  | _ => none }
def RunIsWrongFalsely : Prop := runIsRow.holds Try.pinned (OpenSpec.ofChange runIsWrong)

/-- 'duramenlaw09.RunBuilds': WHATEVER THE INPUT: true; the input reads as it did. -/
def runBuildsSpec : ChangeSpec := { name := "runBuilds", fn := fun _ => fun
  | [d] => { results := [.lit (.bool true)], args := [d] }
  | _ => none }
def runBuildsRow : OpenClaim := { program := "ytmfnbkghfmeekaa", sum := "6a57996ca0ded287dd069ec0bfdb58941803aac627d117d53a47cb1e68fcbc49", func := "duramen/duramenlaw09.RunBuilds", spec := "runBuilds", unfollowed := true, recurses := true, apart := false }
def RunBuildsSaid : Prop := runBuildsRow.holds Try.pinned (OpenSpec.ofChange runBuildsSpec)

/-- ITS FALSE NEIGHBOUR: 'it returns false'. Refute it at one input. -/
def runBuildsWrong : ChangeSpec := { name := "runBuilds", fn := fun _ => fun
  | [d] => { results := [.lit (.bool false)], args := [d] }
  | _ => none }
def RunBuildsWrongFalsely : Prop := runBuildsRow.holds Try.pinned (OpenSpec.ofChange runBuildsWrong)

/-- 'duramenlaw09.RunOpens': WHATEVER THE INPUT: true; the input reads as it did. -/
def runOpensSpec : ChangeSpec := { name := "runOpens", fn := fun _ => fun
  | [d] => { results := [.lit (.bool true)], args := [d] }
  | _ => none }
def runOpensRow : OpenClaim := { program := "ytmfnbkghfmeekaa", sum := "6a57996ca0ded287dd069ec0bfdb58941803aac627d117d53a47cb1e68fcbc49", func := "duramen/duramenlaw09.RunOpens", spec := "runOpens", unfollowed := true, recurses := true, apart := false }
def RunOpensSaid : Prop := runOpensRow.holds Try.pinned (OpenSpec.ofChange runOpensSpec)

/-- ITS FALSE NEIGHBOUR: 'it returns false'. Refute it at one input. -/
def runOpensWrong : ChangeSpec := { name := "runOpens", fn := fun _ => fun
  | [d] => { results := [.lit (.bool false)], args := [d] }
  | _ => none }
def RunOpensWrongFalsely : Prop := runOpensRow.holds Try.pinned (OpenSpec.ofChange runOpensWrong)

/-- 'duramenlaw09.RunTurned': WHATEVER THE INPUT: true; the input reads as it did. -/
def runTurnedSpec : ChangeSpec := { name := "runTurned", fn := fun _ => fun
  | [d1, d2, d3] => { results := [.lit (.bool true)], args := [d1, d2, d3] }
  | _ => none }
def runTurnedRow : OpenClaim := { program := "ytmfnbkghfmeekaa", sum := "6a57996ca0ded287dd069ec0bfdb58941803aac627d117d53a47cb1e68fcbc49", func := "duramen/duramenlaw09.RunTurned", spec := "runTurned", unfollowed := true, recurses := true, apart := false }
def RunTurnedSaid : Prop := runTurnedRow.holds Try.pinned (OpenSpec.ofChange runTurnedSpec)

/-- ITS FALSE NEIGHBOUR: 'it returns false'. Refute it at one input. -/
def runTurnedWrong : ChangeSpec := { name := "runTurned", fn := fun _ => fun
  | [d1, d2, d3] => { results := [.lit (.bool false)], args := [d1, d2, d3] }
  | _ => none }
def RunTurnedWrongFalsely : Prop := runTurnedRow.holds Try.pinned (OpenSpec.ofChange runTurnedWrong)

/-- 'duramenlaw09.RunLast': WHATEVER THE INPUT: true; the input reads as it did. -/
def runLastSpec : ChangeSpec := { name := "runLast", fn := fun _ => fun
  | [d1, d2, d3, d4] => { results := [.lit (.bool true)], args := [d1, d2, d3, d4] }
  | _ => none }
def runLastRow : OpenClaim := { program := "ytmfnbkghfmeekaa", sum := "6a57996ca0ded287dd069ec0bfdb58941803aac627d117d53a47cb1e68fcbc49", func := "duramen/duramenlaw09.RunLast", spec := "runLast", unfollowed := true, recurses := true, apart := false }
def RunLastSaid : Prop := runLastRow.holds Try.pinned (OpenSpec.ofChange runLastSpec)

/-- ITS FALSE NEIGHBOUR: 'it returns false'. Refute it at one input. -/
def runLastWrong : ChangeSpec := { name := "runLast", fn := fun _ => fun
  | [d1, d2, d3, d4] => { results := [.lit (.bool false)], args := [d1, d2, d3, d4] }
  | _ => none }
def RunLastWrongFalsely : Prop := runLastRow.holds Try.pinned (OpenSpec.ofChange runLastWrong)

/-- 'duramenlaw09.RunFinds': WHATEVER THE INPUT: true; the input reads as it did. -/
def runFindsSpec : ChangeSpec := { name := "runFinds", fn := fun _ => fun
  | [d1, d2, d3, d4, d5] => { results := [.lit (.bool true)], args := [d1, d2, d3, d4, d5] }
  | _ => none }
def runFindsRow : OpenClaim := { program := "ytmfnbkghfmeekaa", sum := "6a57996ca0ded287dd069ec0bfdb58941803aac627d117d53a47cb1e68fcbc49", func := "duramen/duramenlaw09.RunFinds", spec := "runFinds", unfollowed := true, recurses := true, apart := false }
def RunFindsSaid : Prop := runFindsRow.holds Try.pinned (OpenSpec.ofChange runFindsSpec)

/-- ITS FALSE NEIGHBOUR: 'it returns false'. Refute it at one input. -/
def runFindsWrong : ChangeSpec := { name := "runFinds", fn := fun _ => fun
  | [d1, d2, d3, d4, d5] => { results := [.lit (.bool false)], args := [d1, d2, d3, d4, d5] }
  | _ => none }
def RunFindsWrongFalsely : Prop := runFindsRow.holds Try.pinned (OpenSpec.ofChange runFindsWrong)

/-- 'duramenlaw09.RunParts': WHATEVER THE INPUT: true; the input reads as it did. -/
def runPartsSpec : ChangeSpec := { name := "runParts", fn := fun _ => fun
  | [d1, d2] => { results := [.lit (.bool true)], args := [d1, d2] }
  | _ => none }
def runPartsRow : OpenClaim := { program := "ytmfnbkghfmeekaa", sum := "6a57996ca0ded287dd069ec0bfdb58941803aac627d117d53a47cb1e68fcbc49", func := "duramen/duramenlaw09.RunParts", spec := "runParts", unfollowed := true, recurses := true, apart := false }
def RunPartsSaid : Prop := runPartsRow.holds Try.pinned (OpenSpec.ofChange runPartsSpec)

/-- ITS FALSE NEIGHBOUR: 'it returns false'. Refute it at one input. -/
def runPartsWrong : ChangeSpec := { name := "runParts", fn := fun _ => fun
  | [d1, d2] => { results := [.lit (.bool false)], args := [d1, d2] }
  | _ => none }
def RunPartsWrongFalsely : Prop := runPartsRow.holds Try.pinned (OpenSpec.ofChange runPartsWrong)

/- THE SECOND FORM. 'bulk': how many values and letters a reading holds, each counted each time it is reached (what is shared counts as often as it is met; a slice's spare places count too). A statement '..UptoSaid' is the law's where the arguments, and the package variables that the reading takes, are together of bulk at most 1048576: NARROWER than '..Said'. Prove '..Said' where nothing that the law and all that it calls make is longer than what came in: it says more and counts as full. Else prove '..UptoSaid'. A law counts once. -/
mutual
def uptoBulk {H : Type} : DataW H → Nat
  | .lit (.string bytes) => bytes.length + 1
  | .lit _ => 1
  | .nil => 1
  | .ptr d => uptoBulk d + 1
  | .slice elems spare => uptoBulkAll elems + uptoBulkAll spare + 1
  | .agg parts => uptoBulkAll parts + 1
  | .iface _ d => uptoBulk d + 1
  | .map entries => uptoBulkEntries entries + 1
  | .held _ => 1
def uptoBulkAll {H : Type} : List (DataW H) → Nat
  | [] => 0
  | d :: r => uptoBulk d + uptoBulkAll r
def uptoBulkEntries {H : Type} : List (Lit × DataW H) → Nat
  | [] => 0
  | x :: r => uptoBulkEntry x + uptoBulkEntries r
def uptoBulkEntry {H : Type} : Lit × DataW H → Nat
  | (.string bytes, d) => bytes.length + uptoBulk d + 1
  | (_, d) => uptoBulk d + 1
 end
def uptoSmall : (H : Type) → List (DataW H) → Bool := fun _ ds => decide (uptoBulkAll ds ≤ 1048576)
def OpenSpec.upto (s : _root_.Go.ChangeSpec) : _root_.Go.OpenSpec := { _root_.Go.OpenSpec.ofChange s with cond := some uptoSmall }

/-- 'duramenlaw09.RunIs', WHERE WHAT IT READS IS OF BULK AT MOST 1048576: true; the input reads as it did. -/
def runIsUptoRow : OpenClaim := { program := "ytmfnbkghfmeekaa", sum := "6a57996ca0ded287dd069ec0bfdb58941803aac627d117d53a47cb1e68fcbc49", func := "duramen/duramenlaw09.RunIs", spec := "runIs", unfollowed := true, recurses := true, apart := false, narrowed := true }
def RunIsUptoSaid : Prop := runIsUptoRow.holds Try.pinned (OpenSpec.upto runIsSpec)

/-- 'duramenlaw09.RunBuilds', WHERE WHAT IT READS IS OF BULK AT MOST 1048576: true; the input reads as it did. -/
def runBuildsUptoRow : OpenClaim := { program := "ytmfnbkghfmeekaa", sum := "6a57996ca0ded287dd069ec0bfdb58941803aac627d117d53a47cb1e68fcbc49", func := "duramen/duramenlaw09.RunBuilds", spec := "runBuilds", unfollowed := true, recurses := true, apart := false, narrowed := true }
def RunBuildsUptoSaid : Prop := runBuildsUptoRow.holds Try.pinned (OpenSpec.upto runBuildsSpec)

/-- 'duramenlaw09.RunOpens', WHERE WHAT IT READS IS OF BULK AT MOST 1048576: true; the input reads as it did. -/
def runOpensUptoRow : OpenClaim := { program := "ytmfnbkghfmeekaa", sum := "6a57996ca0ded287dd069ec0bfdb58941803aac627d117d53a47cb1e68fcbc49", func := "duramen/duramenlaw09.RunOpens", spec := "runOpens", unfollowed := true, recurses := true, apart := false, narrowed := true }
def RunOpensUptoSaid : Prop := runOpensUptoRow.holds Try.pinned (OpenSpec.upto runOpensSpec)

/-- 'duramenlaw09.RunTurned', WHERE WHAT IT READS IS OF BULK AT MOST 1048576: true; the input reads as it did. -/
def runTurnedUptoRow : OpenClaim := { program := "ytmfnbkghfmeekaa", sum := "6a57996ca0ded287dd069ec0bfdb58941803aac627d117d53a47cb1e68fcbc49", func := "duramen/duramenlaw09.RunTurned", spec := "runTurned", unfollowed := true, recurses := true, apart := false, narrowed := true }
def RunTurnedUptoSaid : Prop := runTurnedUptoRow.holds Try.pinned (OpenSpec.upto runTurnedSpec)

/-- 'duramenlaw09.RunLast', WHERE WHAT IT READS IS OF BULK AT MOST 1048576: true; the input reads as it did. -/
def runLastUptoRow : OpenClaim := { program := "ytmfnbkghfmeekaa", sum := "6a57996ca0ded287dd069ec0bfdb58941803aac627d117d53a47cb1e68fcbc49", func := "duramen/duramenlaw09.RunLast", spec := "runLast", unfollowed := true, recurses := true, apart := false, narrowed := true }
def RunLastUptoSaid : Prop := runLastUptoRow.holds Try.pinned (OpenSpec.upto runLastSpec)

/-- 'duramenlaw09.RunFinds', WHERE WHAT IT READS IS OF BULK AT MOST 1048576: true; the input reads as it did. -/
def runFindsUptoRow : OpenClaim := { program := "ytmfnbkghfmeekaa", sum := "6a57996ca0ded287dd069ec0bfdb58941803aac627d117d53a47cb1e68fcbc49", func := "duramen/duramenlaw09.RunFinds", spec := "runFinds", unfollowed := true, recurses := true, apart := false, narrowed := true }
def RunFindsUptoSaid : Prop := runFindsUptoRow.holds Try.pinned (OpenSpec.upto runFindsSpec)

/-- 'duramenlaw09.RunParts', WHERE WHAT IT READS IS OF BULK AT MOST 1048576: true; the input reads as it did. -/
def runPartsUptoRow : OpenClaim := { program := "ytmfnbkghfmeekaa", sum := "6a57996ca0ded287dd069ec0bfdb58941803aac627d117d53a47cb1e68fcbc49", func := "duramen/duramenlaw09.RunParts", spec := "runParts", unfollowed := true, recurses := true, apart := false, narrowed := true }
def RunPartsUptoSaid : Prop := runPartsUptoRow.holds Try.pinned (OpenSpec.upto runPartsSpec)

end Rows
end Go.Proofs.Ytmfnbkghfmeekaa
