/-
  No cell of these rows narrows 'for every input' (looked for: loops, veiled, ifaces, maps, wideKeys, modest, calm, conditions, laid).
  DERIVED. THE GIVEN ROWS OF THIS SEAT. 5 by the template 'for every input the law returns true; each argument reads behind the call as it read before'; 0 by the template 'total and deterministic' (their statements: YtheoodbkjgfdfaaTotals.lean).
  GIVEN WITH THE SEED: the statements are not yours to turn. If you find one false, say at which input.
  Laid BY PROGRAM, IN A SANDBOX (cutbox-rows.mjs): the forced cells as the released guide's own fill.sh prints them over the translation e1a84e72797cddcc… (all of the seat's roots in one cut). By AI agents, Wed Nov 11 2026. No macro, syntax, notation, axiom, sorry.
-/
import Derived.Test.YtheoodbkjgfdfaaChecked
import GoSem.Claim
import GoSem.ClaimJoined
import GoSem.ClaimMapViews
import Derived.JoinedTies
import Derived.KernelRfl
namespace Go.Proofs.Ytheoodbkjgfdfaa
/- THE CELL 'sum', in the pinned program and in every row, IS THE sha256 OF THE DUMP (.gsa) THAT YtheoodbkjgfdfaaProg.lean LOADS. Nothing in Lean hashes anything: it is a label: what it is worth is what the hold of that sum in a sandbox is worth. -/
noncomputable def Try.pinned : Pinned := { name := "ytheoodbkjgfdfaa", sum := "e1a84e72797cddcc0acc252d97ef4a17b3b8c5a95eb8ee1ebdf1fb3b28cf760e", checked := Try.checked }
namespace Rows
def none {H : Type} : Left H := { results := [], args := [] }

/-- 'duramenlaw13.ChainOrder': WHATEVER THE INPUT: true; the input reads as it did. -/
def chainOrderSpec : ChangeSpec := { name := "chainOrder", fn := fun _ => fun
  | [d] => { results := [.lit (.bool true)], args := [d] }
  | _ => none }
def chainOrderRow : OpenClaim := { program := "ytheoodbkjgfdfaa", sum := "e1a84e72797cddcc0acc252d97ef4a17b3b8c5a95eb8ee1ebdf1fb3b28cf760e", func := "duramen/duramenlaw13.ChainOrder", spec := "chainOrder", inPlace := ["slices.overlaps[duramen/api.Version]"], unfollowed := true, recurses := true, apart := false }
def ChainOrderSaid : Prop := chainOrderRow.holds Try.pinned (OpenSpec.ofChange chainOrderSpec)

/-- ITS FALSE NEIGHBOUR: 'it returns false'. Refute it at one input. -/
def chainOrderWrong : ChangeSpec := { name := "chainOrder", fn := fun _ => fun
  | [d] => { results := [.lit (.bool false)], args := [d] }
  | _ => none }
def ChainOrderWrongFalsely : Prop := chainOrderRow.holds Try.pinned (OpenSpec.ofChange chainOrderWrong)

/-- 'duramenlaw13.ChainOwns': WHATEVER THE INPUT: true; the input reads as it did. -/
def chainOwnsSpec : ChangeSpec := { name := "chainOwns", fn := fun _ => fun
  | [d1, d2] => { results := [.lit (.bool true)], args := [d1, d2] }
  | _ => none }
def chainOwnsRow : OpenClaim := { program := "ytheoodbkjgfdfaa", sum := "e1a84e72797cddcc0acc252d97ef4a17b3b8c5a95eb8ee1ebdf1fb3b28cf760e", func := "duramen/duramenlaw13.ChainOwns", spec := "chainOwns", inPlace := ["slices.overlaps[duramen/api.Version]"], unfollowed := true, recurses := true, apart := false }
def ChainOwnsSaid : Prop := chainOwnsRow.holds Try.pinned (OpenSpec.ofChange chainOwnsSpec)

/-- ITS FALSE NEIGHBOUR: 'it returns false'. Refute it at one input. -/
def chainOwnsWrong : ChangeSpec := { name := "chainOwns", fn := fun _ => fun
  | [d1, d2] => { results := [.lit (.bool false)], args := [d1, d2] }
  | _ => none }
def ChainOwnsWrongFalsely : Prop := chainOwnsRow.holds Try.pinned (OpenSpec.ofChange chainOwnsWrong)

/-- 'duramenlaw13.ChainParts': WHATEVER THE INPUT: true; the input reads as it did. -/
def chainPartsSpec : ChangeSpec := { name := "chainParts", fn := fun _ => fun
  | [d1, d2] => { results := [.lit (.bool true)], args := [d1, d2] }
  | _ => none }
def chainPartsRow : OpenClaim := { program := "ytheoodbkjgfdfaa", sum := "e1a84e72797cddcc0acc252d97ef4a17b3b8c5a95eb8ee1ebdf1fb3b28cf760e", func := "duramen/duramenlaw13.ChainParts", spec := "chainParts", inPlace := ["slices.overlaps[duramen/api.Version]"], unfollowed := true, recurses := true, apart := false }
def ChainPartsSaid : Prop := chainPartsRow.holds Try.pinned (OpenSpec.ofChange chainPartsSpec)

/-- ITS FALSE NEIGHBOUR: 'it returns false'. Refute it at one input. -/
def chainPartsWrong : ChangeSpec := { name := "chainParts", fn := fun _ => fun
  | [d1, d2] => { results := [.lit (.bool false)], args := [d1, d2] }
  | _ => none }
def ChainPartsWrongFalsely : Prop := chainPartsRow.holds Try.pinned (OpenSpec.ofChange chainPartsWrong)

/-- 'duramenlaw13.ChainAdds': WHATEVER THE INPUT: true; the input reads as it did. -/
def chainAddsSpec : ChangeSpec := { name := "chainAdds", fn := fun _ => fun
  | [d1, d2, d3] => { results := [.lit (.bool true)], args := [d1, d2, d3] }
  | _ => none }
def chainAddsRow : OpenClaim := { program := "ytheoodbkjgfdfaa", sum := "e1a84e72797cddcc0acc252d97ef4a17b3b8c5a95eb8ee1ebdf1fb3b28cf760e", func := "duramen/duramenlaw13.ChainAdds", spec := "chainAdds", inPlace := ["slices.overlaps[duramen/api.Version]"], unfollowed := true, recurses := true, apart := false }
def ChainAddsSaid : Prop := chainAddsRow.holds Try.pinned (OpenSpec.ofChange chainAddsSpec)

/-- ITS FALSE NEIGHBOUR: 'it returns false'. Refute it at one input. -/
def chainAddsWrong : ChangeSpec := { name := "chainAdds", fn := fun _ => fun
  | [d1, d2, d3] => { results := [.lit (.bool false)], args := [d1, d2, d3] }
  | _ => none }
def ChainAddsWrongFalsely : Prop := chainAddsRow.holds Try.pinned (OpenSpec.ofChange chainAddsWrong)

/-- 'duramenlaw13.ChainKeeps': WHATEVER THE INPUT: true; the input reads as it did. -/
def chainKeepsSpec : ChangeSpec := { name := "chainKeeps", fn := fun _ => fun
  | [d1, d2] => { results := [.lit (.bool true)], args := [d1, d2] }
  | _ => none }
def chainKeepsRow : OpenClaim := { program := "ytheoodbkjgfdfaa", sum := "e1a84e72797cddcc0acc252d97ef4a17b3b8c5a95eb8ee1ebdf1fb3b28cf760e", func := "duramen/duramenlaw13.ChainKeeps", spec := "chainKeeps", inPlace := ["slices.overlaps[duramen/api.Version]"], unfollowed := true, recurses := true, apart := false }
def ChainKeepsSaid : Prop := chainKeepsRow.holds Try.pinned (OpenSpec.ofChange chainKeepsSpec)

/-- ITS FALSE NEIGHBOUR: 'it returns false'. Refute it at one input. -/
def chainKeepsWrong : ChangeSpec := { name := "chainKeeps", fn := fun _ => fun
  | [d1, d2] => { results := [.lit (.bool false)], args := [d1, d2] }
  | _ => none }
def ChainKeepsWrongFalsely : Prop := chainKeepsRow.holds Try.pinned (OpenSpec.ofChange chainKeepsWrong)

/- THE SECOND FORM. 'bulk': how many values and letters a reading holds, each counted each time it is reached (what is shared counts as often as it is met; a slice's spare places count too). A statement '..UptoSaid' is the law's where the arguments, and the package variables that the reading takes, are together of bulk at most 1048576: NARROWER than '..Said'. Prove '..Said' where nothing that the law and all that it calls make is longer than what came in: it says more and counts as full. Else prove '..UptoSaid'. A law counts once. -/
mutual
def uptoBulk {H : Type} : DataW H → Nat
  | .lit (.string bytes) => bytes.length + 1
  | .lit _ => 1
  | .nil => 1
  | .ptr d => uptoBulk d + 1
  | .slice elems spare => uptoBulkAll elems + uptoBulkAll spare + 1
  | .agg parts => uptoBulkAll parts + 1
  | .iface _ d => uptoBulk d + 1
  | .map entries => uptoBulkEntries entries + 1
  | .held _ => 1
def uptoBulkAll {H : Type} : List (DataW H) → Nat
  | [] => 0
  | d :: r => uptoBulk d + uptoBulkAll r
def uptoBulkEntries {H : Type} : List (Lit × DataW H) → Nat
  | [] => 0
  | x :: r => uptoBulkEntry x + uptoBulkEntries r
def uptoBulkEntry {H : Type} : Lit × DataW H → Nat
  | (.string bytes, d) => bytes.length + uptoBulk d + 1
  | (_, d) => uptoBulk d + 1
 end
def uptoSmall : (H : Type) → List (DataW H) → Bool := fun _ ds => decide (uptoBulkAll ds ≤ 1048576)
def OpenSpec.upto (s : _root_.Go.ChangeSpec) : _root_.Go.OpenSpec := { _root_.Go.OpenSpec.ofChange s with cond := some uptoSmall }

/-- 'duramenlaw13.ChainOrder', WHERE WHAT IT READS IS OF BULK AT MOST 1048576: true; the input reads as it did. -/
def chainOrderUptoRow : OpenClaim := { program := "ytheoodbkjgfdfaa", sum := "e1a84e72797cddcc0acc252d97ef4a17b3b8c5a95eb8ee1ebdf1fb3b28cf760e", func := "duramen/duramenlaw13.ChainOrder", spec := "chainOrder", inPlace := ["slices.overlaps[duramen/api.Version]"], unfollowed := true, recurses := true, apart := false, narrowed := true }
def ChainOrderUptoSaid : Prop := chainOrderUptoRow.holds Try.pinned (OpenSpec.upto chainOrderSpec)

/-- 'duramenlaw13.ChainOwns', WHERE WHAT IT READS IS OF BULK AT MOST 1048576: true; the input reads as it did. -/
def chainOwnsUptoRow : OpenClaim := { program := "ytheoodbkjgfdfaa", sum := "e1a84e72797cddcc0acc252d97ef4a17b3b8c5a95eb8ee1ebdf1fb3b28cf760e", func := "duramen/duramenlaw13.ChainOwns", spec := "chainOwns", inPlace := ["slices.overlaps[duramen/api.Version]"], unfollowed := true, recurses := true, apart := false, narrowed := true }
def ChainOwnsUptoSaid : Prop := chainOwnsUptoRow.holds Try.pinned (OpenSpec.upto chainOwnsSpec)

/-- 'duramenlaw13.ChainParts', WHERE WHAT IT READS IS OF BULK AT MOST 1048576: true; the input reads as it did. -/
def chainPartsUptoRow : OpenClaim := { program := "ytheoodbkjgfdfaa", sum := "e1a84e72797cddcc0acc252d97ef4a17b3b8c5a95eb8ee1ebdf1fb3b28cf760e", func := "duramen/duramenlaw13.ChainParts", spec := "chainParts", inPlace := ["slices.overlaps[duramen/api.Version]"], unfollowed := true, recurses := true, apart := false, narrowed := true }
def ChainPartsUptoSaid : Prop := chainPartsUptoRow.holds Try.pinned (OpenSpec.upto chainPartsSpec)

/-- 'duramenlaw13.ChainAdds', WHERE WHAT IT READS IS OF BULK AT MOST 1048576: true; the input reads as it did. -/
def chainAddsUptoRow : OpenClaim := { program := "ytheoodbkjgfdfaa", sum := "e1a84e72797cddcc0acc252d97ef4a17b3b8c5a95eb8ee1ebdf1fb3b28cf760e", func := "duramen/duramenlaw13.ChainAdds", spec := "chainAdds", inPlace := ["slices.overlaps[duramen/api.Version]"], unfollowed := true, recurses := true, apart := false, narrowed := true }
def ChainAddsUptoSaid : Prop := chainAddsUptoRow.holds Try.pinned (OpenSpec.upto chainAddsSpec)

/-- 'duramenlaw13.ChainKeeps', WHERE WHAT IT READS IS OF BULK AT MOST 1048576: true; the input reads as it did. -/
def chainKeepsUptoRow : OpenClaim := { program := "ytheoodbkjgfdfaa", sum := "e1a84e72797cddcc0acc252d97ef4a17b3b8c5a95eb8ee1ebdf1fb3b28cf760e", func := "duramen/duramenlaw13.ChainKeeps", spec := "chainKeeps", inPlace := ["slices.overlaps[duramen/api.Version]"], unfollowed := true, recurses := true, apart := false, narrowed := true }
def ChainKeepsUptoSaid : Prop := chainKeepsUptoRow.holds Try.pinned (OpenSpec.upto chainKeepsSpec)

end Rows
end Go.Proofs.Ytheoodbkjgfdfaa
