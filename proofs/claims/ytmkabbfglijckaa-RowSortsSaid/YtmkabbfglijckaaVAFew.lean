/- A number's bytes are few. -/
import Derived.Test.YtmkabbfglijckaaVAVary
namespace Go.Proofs.Ytmkabbfglijckaa.A.V
open Go.RowKit Go.Proofs.YtmkabbfglijckaaW.PrintWords Go.Proofs.YtmkabbfglijckaaW.PrintLast Go.Proofs.YtmkabbfglijckaaW.PrintMore
set_option linter.unusedVariables false
set_option linter.unusedSimpArgs false

theorem vnat_mono : ∀ (b a : Nat), a ≤ b → (vnat a).length ≤ (vnat b).length := by
  intro b
  induction b using Nat.strongRecOn with
  | ind b ih =>
    intro a h
    by_cases hb : b < 128
    · rw [vnat_small hb, vnat_small (show a < 128 by omega)]
      exact Nat.le_refl _
    · rw [vnat_big hb]
      by_cases ha : a < 128
      · rw [vnat_small ha]
        simp
      · rw [vnat_big ha]
        simp only [List.length_cons]
        have := ih (b / 128) (by omega) (a / 128) (by omega)
        omega
theorem vnat_le (n : Nat) (h : n ≤ 9223372036854775807) : (vnat n).length ≤ 9 := by
  refine Nat.le_trans (vnat_mono 9223372036854775807 n h) ?_
  have e : (vnat 9223372036854775807).length = 9 := by
    have h2 : ∀ k m : Nat, ¬ m < 128 → (vnat (m / 128)).length = k → (vnat m).length = k + 1 := by
      intro k m hm hk
      rw [vnat_big hm, List.length_cons, hk]
    iterate 8 (refine h2 _ _ (by decide) ?_)
    rw [vnat_small (by decide)]
    rfl
  omega
theorem vput_le (n : Int) (h : n ≤ 9223372036854775807) : (vput n).length ≤ 9 := vnat_le _ (by omega)
theorem vput_nat (n : Nat) : vput (n : Int) = vnat n := by simp [vput]
theorem vput1 (n : Int) : [n].flatMap vput = vput n := by simp

/-- vary.Put(b, n) -/
theorem put1_calls (A : Option Addr) (n c : Nat) (b : List Int) (x : Int) (w : World) (e : Nat) (hr : U8.C w A n b) (hc : n ≤ c) (hx : x ≤ 9223372036854775807) (hl : n + 9 ≤ 140737488000000) :
    Calls Try.prog 41 #[.slice A n c, .slice (some ⟨w.heap.size, 0, none⟩) 1 1] (w.alloc (.cells #[.int .i64 x] e)) fun e w' => ∃ v, e = .returned v ∧ OB w' w.heap.size v (b ++ vput x) ∧ Below w.heap.size w w' := by
  have h9 := vput_le x hx
  have hn := hr.1
  refine (put_calls A n c b _ 1 1 [x] _ (Kd.C_alloc hr _) hc (lit_CK w [x] e (by simp) (0, 0)) (by omega) (by simpa using hx) (by rw [vput1]; omega)).mono ?_
  rintro e w' ⟨v, rfl, HO, hb⟩
  rw [vput1] at HO
  exact ⟨v, rfl, Kd.R_lower HO (by simp), below_step (below_alloc (Below.refl _ _) _) hb⟩

/-- A number turned. -/
def turn (n : Int) : Int := if n < -2305843009213693952 ∨ 2305843009213693952 ≤ n then 0 else if n < 0 then -2 * n - 1 else 2 * n
theorem vnat300 : vnat 300 = [172, 2] := by
  rw [vnat_big (by decide), vnat_small (by decide)]
  rfl
end Go.Proofs.Ytmkabbfglijckaa.A.V
