/- A scope that is passed again and again by a jump to its label. -/
import Derived.Test.YthilhcdlpfjodaaABase
import Derived.Deep.QuietTactic
namespace Go
/-- A scope whose label is jumped back to. -/
theorem wp_scope_goto {P : Program} {Q : Exit → Act → World → Prop} {a : Act} {w : World} {rest : Code} (pre : Code → Code) (l : Nat) (J : Act → World → Prop) (μ : Act → World → Nat)
    (hf : findLabel (pre ((Code.label l).seq rest)) l = some (Code.skip.seq rest))
    (first : ∀ (X : Code) (Q1 : Exit → Act → World → Prop), (∀ a w, J a w → X.wp P Q1 a w) → (pre X).wp P Q1 a w)
    (pass : ∀ a w, J a w → rest.wp P (Exit.jump l (fun a' w' => J a' w' ∧ μ a' w' < μ a w) Q) a w) : (Code.scope (pre ((Code.label l).seq rest))).wp P Q a w := by
  refine wp_scope_jumps l J μ hf (first _ _ fun a1 w1 hJ => ?_) (fun a1 w1 hJ => wp_seq (wp_skip (pass a1 w1 hJ)))
  refine wp_seq (wp_label (Code.wp_mono ?_ (pass a1 w1 hJ)))
  intro e a2 w2 h
  cases e <;> first | exact h | exact ⟨h.1, h.2.1⟩
theorem wp_scope_goto2 {P : Program} {Q : Exit → Act → World → Prop} {a : Act} {w : World} {c0 c1 rest : Code} (l : Nat) (J : Act → World → Prop) (μ : Act → World → Nat)
    (hf : findLabel (c0.seq (c1.seq ((Code.label l).seq rest))) l = some (Code.skip.seq rest))
    (first : ∀ (X : Code) (Q1 : Exit → Act → World → Prop), (∀ a w, J a w → X.wp P Q1 a w) → (c0.seq (c1.seq X)).wp P Q1 a w)
    (pass : ∀ a w, J a w → rest.wp P (Exit.jump l (fun a' w' => J a' w' ∧ μ a' w' < μ a w) Q) a w) : (Code.scope (c0.seq (c1.seq ((Code.label l).seq rest)))).wp P Q a w :=
  wp_scope_goto (fun X => c0.seq (c1.seq X)) l J μ hf first pass
end Go
