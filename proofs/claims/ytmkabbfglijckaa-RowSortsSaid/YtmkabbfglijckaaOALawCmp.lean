/- OrderCompares: the order of two tuples is the document's. -/
import Derived.Test.YtmkabbfglijckaaOAKey
namespace Go.Proofs.Ytmkabbfglijckaa.A.O
open Go.RowKit Go.Proofs.YtmkabbfglijckaaW.PrintWords Go.Proofs.YtmkabbfglijckaaW.PrintLast Go.Proofs.YtmkabbfglijckaaW.PrintMore
set_option linter.unusedVariables false
set_option linter.unusedSimpArgs false

theorem OPt_readn {w : World} {B : Nat} {v : Value} {l : List Pt} (h : OPt w B v l) (n : Nat) (hn : l.length = n) : ∃ A c, v = .slice A n c ∧ n ≤ c ∧ KPt.C w A n l := by
  subst hn
  exact Kd.R_reads h
end Go.Proofs.Ytmkabbfglijckaa.A.O
