/-
  No cell of these rows narrows 'for every input' (looked for: loops, veiled, ifaces, maps, wideKeys, modest, calm, conditions, laid).
  DERIVED. THE GIVEN ROWS OF THIS SEAT. 7 by the template 'for every input the law returns true; each argument reads behind the call as it read before'; 0 by the template 'total and deterministic' (their statements: YtohgmpkehncopaaTotals.lean).
  GIVEN WITH THE SEED: the statements are not yours to turn. If you find one false, say at which input.
  Laid BY PROGRAM, IN A SANDBOX (cutbox-rows.mjs): the forced cells as the released guide's own fill.sh prints them over the translation cca21798d4e9c14c… (all of the seat's roots in one cut). By AI agents, Wed Nov 11 2026. No macro, syntax, notation, axiom, sorry.
-/
import Derived.Test.YtohgmpkehncopaaChecked
import GoSem.Claim
import GoSem.ClaimJoined
import GoSem.ClaimMapViews
import Derived.JoinedTies
import Derived.KernelRfl
namespace Go.Proofs.Ytohgmpkehncopaa
/- THE CELL 'sum', in the pinned program and in every row, IS THE sha256 OF THE DUMP (.gsa) THAT YtohgmpkehncopaaProg.lean LOADS. Nothing in Lean hashes anything: it is a label: what it is worth is what the hold of that sum in a sandbox is worth. -/
noncomputable def Try.pinned : Pinned := { name := "ytohgmpkehncopaa", sum := "cca21798d4e9c14c260f967140333c78c3975f6b9b926d1078de444e36dc0835", checked := Try.checked }
namespace Rows
def none {H : Type} : Left H := { results := [], args := [] }

/-- 'duramenlaw03.CheckSums': WHATEVER THE INPUT: true; the input reads as it did. -/
def checkSumsSpec : ChangeSpec := { name := "checkSums", fn := fun _ => fun
  | [d] => { results := [.lit (.bool true)], args := [d] }
  | _ => none }
def checkSumsRow : OpenClaim := { program := "ytohgmpkehncopaa", sum := "cca21798d4e9c14c260f967140333c78c3975f6b9b926d1078de444e36dc0835", func := "duramen/duramenlaw03.CheckSums", spec := "checkSums", apart := false }
def CheckSumsSaid : Prop := checkSumsRow.holds Try.pinned (OpenSpec.ofChange checkSumsSpec)

/-- ITS FALSE NEIGHBOUR: 'it returns false'. Refute it at one input. -/
def checkSumsWrong : ChangeSpec := { name := "checkSums", fn := fun _ => fun
  | [d] => { results := [.lit (.bool false)], args := [d] }
  | _ => none }
def CheckSumsWrongFalsely : Prop := checkSumsRow.holds Try.pinned (OpenSpec.ofChange checkSumsWrong)

/-- 'duramenlaw03.CheckOne': WHATEVER THE INPUT: true; the input reads as it did. -/
def checkOneSpec : ChangeSpec := { name := "checkOne", fn := fun _ => fun
  | [d] => { results := [.lit (.bool true)], args := [d] }
  | _ => none }
def checkOneRow : OpenClaim := { program := "ytohgmpkehncopaa", sum := "cca21798d4e9c14c260f967140333c78c3975f6b9b926d1078de444e36dc0835", func := "duramen/duramenlaw03.CheckOne", spec := "checkOne", apart := false }
def CheckOneSaid : Prop := checkOneRow.holds Try.pinned (OpenSpec.ofChange checkOneSpec)

/-- ITS FALSE NEIGHBOUR: 'it returns false'. Refute it at one input. -/
def checkOneWrong : ChangeSpec := { name := "checkOne", fn := fun _ => fun
  | [d] => { results := [.lit (.bool false)], args := [d] }
  | _ => none }
def CheckOneWrongFalsely : Prop := checkOneRow.holds Try.pinned (OpenSpec.ofChange checkOneWrong)

/-- 'duramenlaw03.CheckFrames': WHATEVER THE INPUT: true; the input reads as it did. -/
def checkFramesSpec : ChangeSpec := { name := "checkFrames", fn := fun _ => fun
  | [d] => { results := [.lit (.bool true)], args := [d] }
  | _ => none }
def checkFramesRow : OpenClaim := { program := "ytohgmpkehncopaa", sum := "cca21798d4e9c14c260f967140333c78c3975f6b9b926d1078de444e36dc0835", func := "duramen/duramenlaw03.CheckFrames", spec := "checkFrames", unfollowed := true, recurses := true, apart := false }
def CheckFramesSaid : Prop := checkFramesRow.holds Try.pinned (OpenSpec.ofChange checkFramesSpec)

/-- ITS FALSE NEIGHBOUR: 'it returns false'. Refute it at one input. -/
def checkFramesWrong : ChangeSpec := { name := "checkFrames", fn := fun _ => fun
  | [d] => { results := [.lit (.bool false)], args := [d] }
  | _ => none }
def CheckFramesWrongFalsely : Prop := checkFramesRow.holds Try.pinned (OpenSpec.ofChange checkFramesWrong)

/-- 'duramenlaw03.CheckTurned': WHATEVER THE INPUT: true; the input reads as it did. -/
def checkTurnedSpec : ChangeSpec := { name := "checkTurned", fn := fun _ => fun
  | [d1, d2, d3] => { results := [.lit (.bool true)], args := [d1, d2, d3] }
  | _ => none }
def checkTurnedRow : OpenClaim := { program := "ytohgmpkehncopaa", sum := "cca21798d4e9c14c260f967140333c78c3975f6b9b926d1078de444e36dc0835", func := "duramen/duramenlaw03.CheckTurned", spec := "checkTurned", apart := false }
def CheckTurnedSaid : Prop := checkTurnedRow.holds Try.pinned (OpenSpec.ofChange checkTurnedSpec)

/-- ITS FALSE NEIGHBOUR: 'it returns false'. Refute it at one input. -/
def checkTurnedWrong : ChangeSpec := { name := "checkTurned", fn := fun _ => fun
  | [d1, d2, d3] => { results := [.lit (.bool false)], args := [d1, d2, d3] }
  | _ => none }
def CheckTurnedWrongFalsely : Prop := checkTurnedRow.holds Try.pinned (OpenSpec.ofChange checkTurnedWrong)

/-- 'duramenlaw03.CheckMany': WHATEVER THE INPUT: true; the input reads as it did. -/
def checkManySpec : ChangeSpec := { name := "checkMany", fn := fun _ => fun
  | [d] => { results := [.lit (.bool true)], args := [d] }
  | _ => none }
def checkManyRow : OpenClaim := { program := "ytohgmpkehncopaa", sum := "cca21798d4e9c14c260f967140333c78c3975f6b9b926d1078de444e36dc0835", func := "duramen/duramenlaw03.CheckMany", spec := "checkMany", apart := false }
def CheckManySaid : Prop := checkManyRow.holds Try.pinned (OpenSpec.ofChange checkManySpec)

/-- ITS FALSE NEIGHBOUR: 'it returns false'. Refute it at one input. -/
def checkManyWrong : ChangeSpec := { name := "checkMany", fn := fun _ => fun
  | [d] => { results := [.lit (.bool false)], args := [d] }
  | _ => none }
def CheckManyWrongFalsely : Prop := checkManyRow.holds Try.pinned (OpenSpec.ofChange checkManyWrong)

/-- 'duramenlaw03.CheckRound': WHATEVER THE INPUT: true; the input reads as it did. -/
def checkRoundSpec : ChangeSpec := { name := "checkRound", fn := fun _ => fun
  | [d1, d2, d3] => { results := [.lit (.bool true)], args := [d1, d2, d3] }
  | _ => none }
def checkRoundRow : OpenClaim := { program := "ytohgmpkehncopaa", sum := "cca21798d4e9c14c260f967140333c78c3975f6b9b926d1078de444e36dc0835", func := "duramen/duramenlaw03.CheckRound", spec := "checkRound", unfollowed := true, recurses := true, apart := false }
def CheckRoundSaid : Prop := checkRoundRow.holds Try.pinned (OpenSpec.ofChange checkRoundSpec)

/-- ITS FALSE NEIGHBOUR: 'it returns false'. Refute it at one input. -/
def checkRoundWrong : ChangeSpec := { name := "checkRound", fn := fun _ => fun
  | [d1, d2, d3] => { results := [.lit (.bool false)], args := [d1, d2, d3] }
  | _ => none }
def CheckRoundWrongFalsely : Prop := checkRoundRow.holds Try.pinned (OpenSpec.ofChange checkRoundWrong)

/-- 'duramenlaw03.CheckOwns': WHATEVER THE INPUT: true; the input reads as it did. -/
def checkOwnsSpec : ChangeSpec := { name := "checkOwns", fn := fun _ => fun
  | [d] => { results := [.lit (.bool true)], args := [d] }
  | _ => none }
def checkOwnsRow : OpenClaim := { program := "ytohgmpkehncopaa", sum := "cca21798d4e9c14c260f967140333c78c3975f6b9b926d1078de444e36dc0835", func := "duramen/duramenlaw03.CheckOwns", spec := "checkOwns", unfollowed := true, recurses := true, apart := false }
def CheckOwnsSaid : Prop := checkOwnsRow.holds Try.pinned (OpenSpec.ofChange checkOwnsSpec)

/-- ITS FALSE NEIGHBOUR: 'it returns false'. Refute it at one input. -/
def checkOwnsWrong : ChangeSpec := { name := "checkOwns", fn := fun _ => fun
  | [d] => { results := [.lit (.bool false)], args := [d] }
  | _ => none }
def CheckOwnsWrongFalsely : Prop := checkOwnsRow.holds Try.pinned (OpenSpec.ofChange checkOwnsWrong)

/- THE SECOND FORM. 'bulk': how many values and letters a reading holds, each counted each time it is reached (what is shared counts as often as it is met; a slice's spare places count too). A statement '..UptoSaid' is the law's where the arguments, and the package variables that the reading takes, are together of bulk at most 1048576: NARROWER than '..Said'. Prove '..Said' where nothing that the law and all that it calls make is longer than what came in: it says more and counts as full. Else prove '..UptoSaid'. A law counts once. -/
mutual
def uptoBulk {H : Type} : DataW H → Nat
  | .lit (.string bytes) => bytes.length + 1
  | .lit _ => 1
  | .nil => 1
  | .ptr d => uptoBulk d + 1
  | .slice elems spare => uptoBulkAll elems + uptoBulkAll spare + 1
  | .agg parts => uptoBulkAll parts + 1
  | .iface _ d => uptoBulk d + 1
  | .map entries => uptoBulkEntries entries + 1
  | .held _ => 1
def uptoBulkAll {H : Type} : List (DataW H) → Nat
  | [] => 0
  | d :: r => uptoBulk d + uptoBulkAll r
def uptoBulkEntries {H : Type} : List (Lit × DataW H) → Nat
  | [] => 0
  | x :: r => uptoBulkEntry x + uptoBulkEntries r
def uptoBulkEntry {H : Type} : Lit × DataW H → Nat
  | (.string bytes, d) => bytes.length + uptoBulk d + 1
  | (_, d) => uptoBulk d + 1
 end
def uptoSmall : (H : Type) → List (DataW H) → Bool := fun _ ds => decide (uptoBulkAll ds ≤ 1048576)
def OpenSpec.upto (s : _root_.Go.ChangeSpec) : _root_.Go.OpenSpec := { _root_.Go.OpenSpec.ofChange s with cond := some uptoSmall }

/-- 'duramenlaw03.CheckSums', WHERE WHAT IT READS IS OF BULK AT MOST 1048576: true; the input reads as it did. -/
def checkSumsUptoRow : OpenClaim := { program := "ytohgmpkehncopaa", sum := "cca21798d4e9c14c260f967140333c78c3975f6b9b926d1078de444e36dc0835", func := "duramen/duramenlaw03.CheckSums", spec := "checkSums", apart := false, narrowed := true }
def CheckSumsUptoSaid : Prop := checkSumsUptoRow.holds Try.pinned (OpenSpec.upto checkSumsSpec)

/-- 'duramenlaw03.CheckOne', WHERE WHAT IT READS IS OF BULK AT MOST 1048576: true; the input reads as it did. -/
def checkOneUptoRow : OpenClaim := { program := "ytohgmpkehncopaa", sum := "cca21798d4e9c14c260f967140333c78c3975f6b9b926d1078de444e36dc0835", func := "duramen/duramenlaw03.CheckOne", spec := "checkOne", apart := false, narrowed := true }
def CheckOneUptoSaid : Prop := checkOneUptoRow.holds Try.pinned (OpenSpec.upto checkOneSpec)

/-- 'duramenlaw03.CheckFrames', WHERE WHAT IT READS IS OF BULK AT MOST 1048576: true; the input reads as it did. -/
def checkFramesUptoRow : OpenClaim := { program := "ytohgmpkehncopaa", sum := "cca21798d4e9c14c260f967140333c78c3975f6b9b926d1078de444e36dc0835", func := "duramen/duramenlaw03.CheckFrames", spec := "checkFrames", unfollowed := true, recurses := true, apart := false, narrowed := true }
def CheckFramesUptoSaid : Prop := checkFramesUptoRow.holds Try.pinned (OpenSpec.upto checkFramesSpec)

/-- 'duramenlaw03.CheckTurned', WHERE WHAT IT READS IS OF BULK AT MOST 1048576: true; the input reads as it did. -/
def checkTurnedUptoRow : OpenClaim := { program := "ytohgmpkehncopaa", sum := "cca21798d4e9c14c260f967140333c78c3975f6b9b926d1078de444e36dc0835", func := "duramen/duramenlaw03.CheckTurned", spec := "checkTurned", apart := false, narrowed := true }
def CheckTurnedUptoSaid : Prop := checkTurnedUptoRow.holds Try.pinned (OpenSpec.upto checkTurnedSpec)

/-- 'duramenlaw03.CheckMany', WHERE WHAT IT READS IS OF BULK AT MOST 1048576: true; the input reads as it did. -/
def checkManyUptoRow : OpenClaim := { program := "ytohgmpkehncopaa", sum := "cca21798d4e9c14c260f967140333c78c3975f6b9b926d1078de444e36dc0835", func := "duramen/duramenlaw03.CheckMany", spec := "checkMany", apart := false, narrowed := true }
def CheckManyUptoSaid : Prop := checkManyUptoRow.holds Try.pinned (OpenSpec.upto checkManySpec)

/-- 'duramenlaw03.CheckRound', WHERE WHAT IT READS IS OF BULK AT MOST 1048576: true; the input reads as it did. -/
def checkRoundUptoRow : OpenClaim := { program := "ytohgmpkehncopaa", sum := "cca21798d4e9c14c260f967140333c78c3975f6b9b926d1078de444e36dc0835", func := "duramen/duramenlaw03.CheckRound", spec := "checkRound", unfollowed := true, recurses := true, apart := false, narrowed := true }
def CheckRoundUptoSaid : Prop := checkRoundUptoRow.holds Try.pinned (OpenSpec.upto checkRoundSpec)

/-- 'duramenlaw03.CheckOwns', WHERE WHAT IT READS IS OF BULK AT MOST 1048576: true; the input reads as it did. -/
def checkOwnsUptoRow : OpenClaim := { program := "ytohgmpkehncopaa", sum := "cca21798d4e9c14c260f967140333c78c3975f6b9b926d1078de444e36dc0835", func := "duramen/duramenlaw03.CheckOwns", spec := "checkOwns", unfollowed := true, recurses := true, apart := false, narrowed := true }
def CheckOwnsUptoSaid : Prop := checkOwnsUptoRow.holds Try.pinned (OpenSpec.upto checkOwnsSpec)

end Rows
end Go.Proofs.Ytohgmpkehncopaa
