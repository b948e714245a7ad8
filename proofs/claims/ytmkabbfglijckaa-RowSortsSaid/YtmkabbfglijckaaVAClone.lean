/- slices.Clone of bytes. -/
import Derived.Test.YtmkabbfglijckaaABytes
import Derived.Lib.SliceRun
namespace Go.Proofs.Ytmkabbfglijckaa.A.V
open Go.RowKit Go.Proofs.YtmkabbfglijckaaW.PrintWords Go.Proofs.YtmkabbfglijckaaW.PrintLast Go.Proofs.YtmkabbfglijckaaW.PrintMore
set_option linter.unusedVariables false
set_option linter.unusedSimpArgs false

set_option maxHeartbeats 800000 in
theorem cloneN_calls (A : Option Addr) (n c : Nat) (l : List Int) (w : World) (hr : U8.C w A n l) (hc : n ≤ c) (hl : n ≤ 140737488000000) :
    Calls Try.prog 51 #[.slice A n c] w fun e w' => ∃ v, e = .returned v ∧ OB w' w.heap.size v l ∧ Below w.heap.size w w' := by
  have hn := hr.1
  subst hn
  have HR := Aside0.mk hr
  clear hr
  have hq := fun (w : World) (a : Option Addr) (n c : Nat) => Lib.run_eql_slice_nil (P := Try.prog) w 29 5 a n c 0 0 Try.underlying29
  cases A with
  | none =>
    have h0 : l = [] := by
      rcases l with _ | ⟨x, l⟩
      · rfl
      · obtain ⟨ad, h, _⟩ := HR.out.2.2 (by simp)
        cases h
    subst h0
    go_enter Try.func51, Try.ntmps51
    go_wp2
    go_ret
    exact ⟨_, rfl, OB_nil _ _, Below.refl _ _⟩
  | some ad =>
    go_enter Try.func51, Try.ntmps51
    go_wp2_with ((with_reducible refine gate_dst (N := 7) rfl ?_); refine app_bytes rfl rfl rfl rfl (OB_lit [] (Nat.le_refl _) (by simp)) (Kd.C_alloc HR.out _) (by simp) (by simp; omega) ?_; intro v1 w1 HO1 hb1 _ _)
    go_ret
    exact ⟨_, rfl, by simpa using HO1, ((Below.refl _ _).alloc (Nat.le_refl _) _).trans hb1⟩

end Go.Proofs.Ytmkabbfglijckaa.A.V
