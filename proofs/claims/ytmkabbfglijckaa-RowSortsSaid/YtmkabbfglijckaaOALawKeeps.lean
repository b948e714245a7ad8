/- OrderKeeps: bytes of tuples are in their order. OrderNumbers: so are those of numbers, and of a table's keys. -/
import Derived.Test.YtmkabbfglijckaaOAKeeps
import Derived.Test.YtmkabbfglijckaaOALawCmp
namespace Go.Proofs.Ytmkabbfglijckaa.A.O
open Go.RowKit Go.Proofs.YtmkabbfglijckaaW.PrintWords Go.Proofs.YtmkabbfglijckaaW.PrintLast Go.Proofs.YtmkabbfglijckaaW.PrintMore
open Go.Op (bytesLess)
set_option linter.unusedVariables false
set_option linter.unusedSimpArgs false

/-- What the walk wants to know of two texts, by their order. -/
theorem str_facts (x y : ByteArray) : (cmpS x y = -1 ∧ bytesLess x.toList y.toList = true ∧ (x.toList == y.toList) = false ∧ ¬ x.toList = y.toList) ∨ (cmpS x y = 0 ∧ bytesLess x.toList y.toList = false ∧ bytesLess y.toList y.toList = false ∧ x.toList = y.toList) ∨ (cmpS x y = 1 ∧ bytesLess x.toList y.toList = false ∧ (x.toList == y.toList) = false ∧ ¬ x.toList = y.toList) := by
  unfold cmpS
  rcases bl_tri x.toList y.toList with ⟨h1, h2, h3⟩ | h | ⟨h1, h2, h3⟩
  · simp [h1, h3]
  · rw [h]
    simp [bl_self]
  · simp [h1, h2, h3]
end Go.Proofs.Ytmkabbfglijckaa.A.O
