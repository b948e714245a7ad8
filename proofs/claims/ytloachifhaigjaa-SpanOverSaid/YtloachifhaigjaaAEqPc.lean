/- Two pieces compared. -/
import Derived.Test.YtloachifhaigjaaALeastL
namespace Go.Proofs.Ytloachifhaigjaa.A
open Go.RowKit Go.Proofs.YtloachifhaigjaaW.PrintWords Go.Proofs.YtloachifhaigjaaW.PrintLast Go.Proofs.YtloachifhaigjaaW.PrintMore
set_option linter.unusedVariables false
set_option linter.unusedSimpArgs false

theorem eqA42 (d : Nat) (w : World) (x0 y0 : Int) (x1 y1 : Int) (s s' : ByteArray) :
    (Op.equalIn (d + 3) 42 (.agg #[.int .i64 x0, .int .i64 x1, .string s]) (.agg #[.int .i64 y0, .int .i64 y1, .string s'])).run Try.prog w = .ok ((x0 == y0 && (x1 == y1)) && (s.toList == s'.toList)) w := by
  refine eqA_of Try.underlying42 (by kernel_rfl) ?_
  refine eqf_cons (by rfl) (by go_simp) (by go_simp) (eqA23 d w x0 y0 x1 y1) ?_
  exact eqf_last (by rfl) (by go_simp; rfl) (by go_simp; rfl) (by go_simp)
end Go.Proofs.Ytloachifhaigjaa.A
