/- What of a span is left without another one. -/
import Derived.Test.YtmkabbfglijckaaSASpan
namespace Go.Proofs.Ytmkabbfglijckaa.A.S
open Go.RowKit Go.Proofs.YtmkabbfglijckaaW.PrintWords Go.Proofs.YtmkabbfglijckaaW.PrintLast Go.Proofs.YtmkabbfglijckaaW.PrintMore
attribute [local go_sem] max2_int min2_int
set_option linter.unusedVariables false
set_option linter.unusedSimpArgs false

/-- A span as two cells. -/
def KSp : Kd Sp := Kd.iso (Kd.pair (Kd.int .i64) (Kd.int .i64)) (fun s => (s.f, s.t))
theorem KSp_M (w : World) (B : Nat) (ok : Nat → Prop) (a b : Int) : KSp.M w B ok ⟨a, b⟩ [.int .i64 a, .int .i64 b] := ⟨[.int .i64 a], [.int .i64 b], rfl, rfl, rfl⟩
theorem KSp_K (w : World) (a b : Int) : KSp.K w ⟨a, b⟩ [.int .i64 a, .int .i64 b] := ⟨[.int .i64 a], [.int .i64 b], rfl, rfl, rfl⟩
theorem infoSp : (Try.prog.info? 25).map (fun i => (i.zero, i.size, i.bytes)) = some (some (.agg #[.int .i64 0, .int .i64 0]), 2, 16) := by kernel_rfl
abbrev OSp (w : World) (B : Nat) (v : Value) (l : List Sp) : Prop := OR KSp 25 w B v l
section
variable {ops : Array Oper} {rest : List Oper} {o : Oper} {a : Act} {Q : Exit → Act → World → Prop} {W : World} {B : Nat}
end
theorem reps_one {α : Type} {R : α → List Value → Prop} {size : Nat} {p : α} {cs : List Value} (h : R p cs) (hl : cs.length = size := by rfl) : Reps R size [p] cs := by
  subst hl
  refine ⟨by simp, fun j q hj => ?_⟩
  have hj0 : j = 0 := by
    have := (List.getElem?_eq_some_iff.1 hj).1
    simpa using this
  subst hj0
  have hq : p = q := by simpa using hj
  subst hq
  simpa using h
theorem OSp_lit1 {W : World} {B g : Nat} (f t : Int) (hg : g = W.heap.size) (hB : B ≤ W.heap.size) : OSp (W.alloc (.cells #[.int .i64 f, .int .i64 t] 25)) B (.slice (some ⟨g, 0, none⟩) 1 1) [⟨f, t⟩] := by
  subst hg
  refine ⟨fun _ _ => trivial, [.int .i64 f, .int .i64 t], ?_, ?_⟩
  · exact World.ownsRow_lit (base := B) (e := 25) (size := 2) W #[.int .i64 f, .int .i64 t] 1 hB (by simp [maxLen]) rfl
  · exact reps_one (KSp_M _ _ _ f t)

def twoOf (a m : Sp) : List Sp := [⟨a.f, m.f⟩, ⟨m.t, a.t⟩]
def minusL (a b : Sp) : List Sp := if a.may then (if meetB a b then (twoOf a (meetV a b)).filter Sp.may else [a]) else []

end Go.Proofs.Ytmkabbfglijckaa.A.S
