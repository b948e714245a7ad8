/-
  No cell of these rows narrows 'for every input' (looked for: loops, veiled, ifaces, maps, wideKeys, modest, calm, conditions, laid).
  DERIVED. THE GIVEN ROWS OF THIS SEAT. 8 by the template 'for every input the law returns true; each argument reads behind the call as it read before'; 0 by the template 'total and deterministic' (their statements: YtfabgmekkhlogaaTotals.lean).
  GIVEN WITH THE SEED: the statements are not yours to turn. If you find one false, say at which input.
  Laid BY PROGRAM, IN A SANDBOX (cutbox-rows.mjs): the forced cells as the released guide's own fill.sh prints them over the translation 4706cfab44f2ac87… (all of the seat's roots in one cut). By AI agents, Wed Nov 11 2026. No macro, syntax, notation, axiom, sorry.
-/
import Derived.Test.YtfabgmekkhlogaaChecked
import GoSem.Claim
import GoSem.ClaimJoined
import GoSem.ClaimMapViews
import Derived.JoinedTies
import Derived.KernelRfl
namespace Go.Proofs.Ytfabgmekkhlogaa
/- THE CELL 'sum', in the pinned program and in every row, IS THE sha256 OF THE DUMP (.gsa) THAT YtfabgmekkhlogaaProg.lean LOADS. Nothing in Lean hashes anything: it is a label: what it is worth is what the hold of that sum in a sandbox is worth. -/
noncomputable def Try.pinned : Pinned := { name := "ytfabgmekkhlogaa", sum := "4706cfab44f2ac87fbaddd08dbb2870b0a918dc46a4a457ceecdaae0c216da18", checked := Try.checked }
namespace Rows
def none {H : Type} : Left H := { results := [], args := [] }

/-- 'duramenlaw01.OrderCompares': WHATEVER THE INPUT: true; the input reads as it did. -/
def orderComparesSpec : ChangeSpec := { name := "orderCompares", fn := fun _ => fun
  | [d1, d2] => { results := [.lit (.bool true)], args := [d1, d2] }
  | _ => none }
def orderComparesRow : OpenClaim := { program := "ytfabgmekkhlogaa", sum := "4706cfab44f2ac87fbaddd08dbb2870b0a918dc46a4a457ceecdaae0c216da18", func := "duramen/duramenlaw01.OrderCompares", spec := "orderCompares", unfollowed := true, recurses := true, apart := false }
def OrderComparesSaid : Prop := orderComparesRow.holds Try.pinned (OpenSpec.ofChange orderComparesSpec)

/-- ITS FALSE NEIGHBOUR: 'it returns false'. Refute it at one input. -/
def orderComparesWrong : ChangeSpec := { name := "orderCompares", fn := fun _ => fun
  | [d1, d2] => { results := [.lit (.bool false)], args := [d1, d2] }
  | _ => none }
def OrderComparesWrongFalsely : Prop := orderComparesRow.holds Try.pinned (OpenSpec.ofChange orderComparesWrong)

/-- 'duramenlaw01.OrderKeeps': WHATEVER THE INPUT: true; the input reads as it did. -/
def orderKeepsSpec : ChangeSpec := { name := "orderKeeps", fn := fun _ => fun
  | [d1, d2] => { results := [.lit (.bool true)], args := [d1, d2] }
  | _ => none }
def orderKeepsRow : OpenClaim := { program := "ytfabgmekkhlogaa", sum := "4706cfab44f2ac87fbaddd08dbb2870b0a918dc46a4a457ceecdaae0c216da18", func := "duramen/duramenlaw01.OrderKeeps", spec := "orderKeeps", unfollowed := true, recurses := true, apart := false }
def OrderKeepsSaid : Prop := orderKeepsRow.holds Try.pinned (OpenSpec.ofChange orderKeepsSpec)

/-- ITS FALSE NEIGHBOUR: 'it returns false'. Refute it at one input. -/
def orderKeepsWrong : ChangeSpec := { name := "orderKeeps", fn := fun _ => fun
  | [d1, d2] => { results := [.lit (.bool false)], args := [d1, d2] }
  | _ => none }
def OrderKeepsWrongFalsely : Prop := orderKeepsRow.holds Try.pinned (OpenSpec.ofChange orderKeepsWrong)

/-- 'duramenlaw01.OrderNumbers': WHATEVER THE INPUT: true; the input reads as it did. -/
def orderNumbersSpec : ChangeSpec := { name := "orderNumbers", fn := fun _ => fun
  | [d1, d2, d3, d4] => { results := [.lit (.bool true)], args := [d1, d2, d3, d4] }
  | _ => none }
def orderNumbersRow : OpenClaim := { program := "ytfabgmekkhlogaa", sum := "4706cfab44f2ac87fbaddd08dbb2870b0a918dc46a4a457ceecdaae0c216da18", func := "duramen/duramenlaw01.OrderNumbers", spec := "orderNumbers", unfollowed := true, recurses := true, apart := false }
def OrderNumbersSaid : Prop := orderNumbersRow.holds Try.pinned (OpenSpec.ofChange orderNumbersSpec)

/-- ITS FALSE NEIGHBOUR: 'it returns false'. Refute it at one input. -/
def orderNumbersWrong : ChangeSpec := { name := "orderNumbers", fn := fun _ => fun
  | [d1, d2, d3, d4] => { results := [.lit (.bool false)], args := [d1, d2, d3, d4] }
  | _ => none }
def OrderNumbersWrongFalsely : Prop := orderNumbersRow.holds Try.pinned (OpenSpec.ofChange orderNumbersWrong)

/-- 'duramenlaw01.OrderWrites': WHATEVER THE INPUT: true; the input reads as it did. -/
def orderWritesSpec : ChangeSpec := { name := "orderWrites", fn := fun _ => fun
  | [d] => { results := [.lit (.bool true)], args := [d] }
  | _ => none }
def orderWritesRow : OpenClaim := { program := "ytfabgmekkhlogaa", sum := "4706cfab44f2ac87fbaddd08dbb2870b0a918dc46a4a457ceecdaae0c216da18", func := "duramen/duramenlaw01.OrderWrites", spec := "orderWrites", unfollowed := true, recurses := true, apart := false }
def OrderWritesSaid : Prop := orderWritesRow.holds Try.pinned (OpenSpec.ofChange orderWritesSpec)

/-- ITS FALSE NEIGHBOUR: 'it returns false'. Refute it at one input. -/
def orderWritesWrong : ChangeSpec := { name := "orderWrites", fn := fun _ => fun
  | [d] => { results := [.lit (.bool false)], args := [d] }
  | _ => none }
def OrderWritesWrongFalsely : Prop := orderWritesRow.holds Try.pinned (OpenSpec.ofChange orderWritesWrong)

/-- 'duramenlaw01.OrderReads': WHATEVER THE INPUT: true; the input reads as it did. -/
def orderReadsSpec : ChangeSpec := { name := "orderReads", fn := fun _ => fun
  | [d] => { results := [.lit (.bool true)], args := [d] }
  | _ => none }
def orderReadsRow : OpenClaim := { program := "ytfabgmekkhlogaa", sum := "4706cfab44f2ac87fbaddd08dbb2870b0a918dc46a4a457ceecdaae0c216da18", func := "duramen/duramenlaw01.OrderReads", spec := "orderReads", unfollowed := true, recurses := true, apart := false }
def OrderReadsSaid : Prop := orderReadsRow.holds Try.pinned (OpenSpec.ofChange orderReadsSpec)

/-- ITS FALSE NEIGHBOUR: 'it returns false'. Refute it at one input. -/
def orderReadsWrong : ChangeSpec := { name := "orderReads", fn := fun _ => fun
  | [d] => { results := [.lit (.bool false)], args := [d] }
  | _ => none }
def OrderReadsWrongFalsely : Prop := orderReadsRow.holds Try.pinned (OpenSpec.ofChange orderReadsWrong)

/-- 'duramenlaw01.OrderJoins': WHATEVER THE INPUT: true; the input reads as it did. -/
def orderJoinsSpec : ChangeSpec := { name := "orderJoins", fn := fun _ => fun
  | [d1, d2] => { results := [.lit (.bool true)], args := [d1, d2] }
  | _ => none }
def orderJoinsRow : OpenClaim := { program := "ytfabgmekkhlogaa", sum := "4706cfab44f2ac87fbaddd08dbb2870b0a918dc46a4a457ceecdaae0c216da18", func := "duramen/duramenlaw01.OrderJoins", spec := "orderJoins", unfollowed := true, recurses := true, apart := false }
def OrderJoinsSaid : Prop := orderJoinsRow.holds Try.pinned (OpenSpec.ofChange orderJoinsSpec)

/-- ITS FALSE NEIGHBOUR: 'it returns false'. Refute it at one input. -/
def orderJoinsWrong : ChangeSpec := { name := "orderJoins", fn := fun _ => fun
  | [d1, d2] => { results := [.lit (.bool false)], args := [d1, d2] }
  | _ => none }
def OrderJoinsWrongFalsely : Prop := orderJoinsRow.holds Try.pinned (OpenSpec.ofChange orderJoinsWrong)

/-- 'duramenlaw01.OrderKeys': WHATEVER THE INPUT: true; the input reads as it did. -/
def orderKeysSpec : ChangeSpec := { name := "orderKeys", fn := fun _ => fun
  | [d1, d2] => { results := [.lit (.bool true)], args := [d1, d2] }
  | _ => none }
def orderKeysRow : OpenClaim := { program := "ytfabgmekkhlogaa", sum := "4706cfab44f2ac87fbaddd08dbb2870b0a918dc46a4a457ceecdaae0c216da18", func := "duramen/duramenlaw01.OrderKeys", spec := "orderKeys", unfollowed := true, recurses := true, apart := false }
def OrderKeysSaid : Prop := orderKeysRow.holds Try.pinned (OpenSpec.ofChange orderKeysSpec)

/-- ITS FALSE NEIGHBOUR: 'it returns false'. Refute it at one input. -/
def orderKeysWrong : ChangeSpec := { name := "orderKeys", fn := fun _ => fun
  | [d1, d2] => { results := [.lit (.bool false)], args := [d1, d2] }
  | _ => none }
def OrderKeysWrongFalsely : Prop := orderKeysRow.holds Try.pinned (OpenSpec.ofChange orderKeysWrong)

/-- 'duramenlaw01.OrderSplits': WHATEVER THE INPUT: true; the input reads as it did. -/
def orderSplitsSpec : ChangeSpec := { name := "orderSplits", fn := fun _ => fun
  | [d] => { results := [.lit (.bool true)], args := [d] }
  | _ => none }
def orderSplitsRow : OpenClaim := { program := "ytfabgmekkhlogaa", sum := "4706cfab44f2ac87fbaddd08dbb2870b0a918dc46a4a457ceecdaae0c216da18", func := "duramen/duramenlaw01.OrderSplits", spec := "orderSplits", unfollowed := true, recurses := true, apart := false }
def OrderSplitsSaid : Prop := orderSplitsRow.holds Try.pinned (OpenSpec.ofChange orderSplitsSpec)

/-- ITS FALSE NEIGHBOUR: 'it returns false'. Refute it at one input. -/
def orderSplitsWrong : ChangeSpec := { name := "orderSplits", fn := fun _ => fun
  | [d] => { results := [.lit (.bool false)], args := [d] }
  | _ => none }
def OrderSplitsWrongFalsely : Prop := orderSplitsRow.holds Try.pinned (OpenSpec.ofChange orderSplitsWrong)

/- THE SECOND FORM. 'bulk': how many values and letters a reading holds, each counted each time it is reached (what is shared counts as often as it is met; a slice's spare places count too). A statement '..UptoSaid' is the law's where the arguments, and the package variables that the reading takes, are together of bulk at most 1048576: NARROWER than '..Said'. Prove '..Said' where nothing that the law and all that it calls make is longer than what came in: it says more and counts as full. Else prove '..UptoSaid'. A law counts once. -/
mutual
def uptoBulk {H : Type} : DataW H → Nat
  | .lit (.string bytes) => bytes.length + 1
  | .lit _ => 1
  | .nil => 1
  | .ptr d => uptoBulk d + 1
  | .slice elems spare => uptoBulkAll elems + uptoBulkAll spare + 1
  | .agg parts => uptoBulkAll parts + 1
  | .iface _ d => uptoBulk d + 1
  | .map entries => uptoBulkEntries entries + 1
  | .held _ => 1
def uptoBulkAll {H : Type} : List (DataW H) → Nat
  | [] => 0
  | d :: r => uptoBulk d + uptoBulkAll r
def uptoBulkEntries {H : Type} : List (Lit × DataW H) → Nat
  | [] => 0
  | x :: r => uptoBulkEntry x + uptoBulkEntries r
def uptoBulkEntry {H : Type} : Lit × DataW H → Nat
  | (.string bytes, d) => bytes.length + uptoBulk d + 1
  | (_, d) => uptoBulk d + 1
 end
def uptoSmall : (H : Type) → List (DataW H) → Bool := fun _ ds => decide (uptoBulkAll ds ≤ 1048576)
def OpenSpec.upto (s : _root_.Go.ChangeSpec) : _root_.Go.OpenSpec := { _root_.Go.OpenSpec.ofChange s with cond := some uptoSmall }

/-- 'duramenlaw01.OrderCompares', WHERE WHAT IT READS IS OF BULK AT MOST 1048576: true; the input reads as it did. -/
def orderComparesUptoRow : OpenClaim := { program := "ytfabgmekkhlogaa", sum := "4706cfab44f2ac87fbaddd08dbb2870b0a918dc46a4a457ceecdaae0c216da18", func := "duramen/duramenlaw01.OrderCompares", spec := "orderCompares", unfollowed := true, recurses := true, apart := false, narrowed := true }
def OrderComparesUptoSaid : Prop := orderComparesUptoRow.holds Try.pinned (OpenSpec.upto orderComparesSpec)

/-- 'duramenlaw01.OrderKeeps', WHERE WHAT IT READS IS OF BULK AT MOST 1048576: true; the input reads as it did. -/
def orderKeepsUptoRow : OpenClaim := { program := "ytfabgmekkhlogaa", sum := "4706cfab44f2ac87fbaddd08dbb2870b0a918dc46a4a457ceecdaae0c216da18", func := "duramen/duramenlaw01.OrderKeeps", spec := "orderKeeps", unfollowed := true, recurses := true, apart := false, narrowed := true }
def OrderKeepsUptoSaid : Prop := orderKeepsUptoRow.holds Try.pinned (OpenSpec.upto orderKeepsSpec)

/-- 'duramenlaw01.OrderNumbers', WHERE WHAT IT READS IS OF BULK AT MOST 1048576: true; the input reads as it did. -/
def orderNumbersUptoRow : OpenClaim := { program := "ytfabgmekkhlogaa", sum := "4706cfab44f2ac87fbaddd08dbb2870b0a918dc46a4a457ceecdaae0c216da18", func := "duramen/duramenlaw01.OrderNumbers", spec := "orderNumbers", unfollowed := true, recurses := true, apart := false, narrowed := true }
def OrderNumbersUptoSaid : Prop := orderNumbersUptoRow.holds Try.pinned (OpenSpec.upto orderNumbersSpec)

/-- 'duramenlaw01.OrderWrites', WHERE WHAT IT READS IS OF BULK AT MOST 1048576: true; the input reads as it did. -/
def orderWritesUptoRow : OpenClaim := { program := "ytfabgmekkhlogaa", sum := "4706cfab44f2ac87fbaddd08dbb2870b0a918dc46a4a457ceecdaae0c216da18", func := "duramen/duramenlaw01.OrderWrites", spec := "orderWrites", unfollowed := true, recurses := true, apart := false, narrowed := true }
def OrderWritesUptoSaid : Prop := orderWritesUptoRow.holds Try.pinned (OpenSpec.upto orderWritesSpec)

/-- 'duramenlaw01.OrderReads', WHERE WHAT IT READS IS OF BULK AT MOST 1048576: true; the input reads as it did. -/
def orderReadsUptoRow : OpenClaim := { program := "ytfabgmekkhlogaa", sum := "4706cfab44f2ac87fbaddd08dbb2870b0a918dc46a4a457ceecdaae0c216da18", func := "duramen/duramenlaw01.OrderReads", spec := "orderReads", unfollowed := true, recurses := true, apart := false, narrowed := true }
def OrderReadsUptoSaid : Prop := orderReadsUptoRow.holds Try.pinned (OpenSpec.upto orderReadsSpec)

/-- 'duramenlaw01.OrderJoins', WHERE WHAT IT READS IS OF BULK AT MOST 1048576: true; the input reads as it did. -/
def orderJoinsUptoRow : OpenClaim := { program := "ytfabgmekkhlogaa", sum := "4706cfab44f2ac87fbaddd08dbb2870b0a918dc46a4a457ceecdaae0c216da18", func := "duramen/duramenlaw01.OrderJoins", spec := "orderJoins", unfollowed := true, recurses := true, apart := false, narrowed := true }
def OrderJoinsUptoSaid : Prop := orderJoinsUptoRow.holds Try.pinned (OpenSpec.upto orderJoinsSpec)

/-- 'duramenlaw01.OrderKeys', WHERE WHAT IT READS IS OF BULK AT MOST 1048576: true; the input reads as it did. -/
def orderKeysUptoRow : OpenClaim := { program := "ytfabgmekkhlogaa", sum := "4706cfab44f2ac87fbaddd08dbb2870b0a918dc46a4a457ceecdaae0c216da18", func := "duramen/duramenlaw01.OrderKeys", spec := "orderKeys", unfollowed := true, recurses := true, apart := false, narrowed := true }
def OrderKeysUptoSaid : Prop := orderKeysUptoRow.holds Try.pinned (OpenSpec.upto orderKeysSpec)

/-- 'duramenlaw01.OrderSplits', WHERE WHAT IT READS IS OF BULK AT MOST 1048576: true; the input reads as it did. -/
def orderSplitsUptoRow : OpenClaim := { program := "ytfabgmekkhlogaa", sum := "4706cfab44f2ac87fbaddd08dbb2870b0a918dc46a4a457ceecdaae0c216da18", func := "duramen/duramenlaw01.OrderSplits", spec := "orderSplits", unfollowed := true, recurses := true, apart := false, narrowed := true }
def OrderSplitsUptoSaid : Prop := orderSplitsUptoRow.holds Try.pinned (OpenSpec.upto orderSplitsSpec)

end Rows
end Go.Proofs.Ytfabgmekkhlogaa
