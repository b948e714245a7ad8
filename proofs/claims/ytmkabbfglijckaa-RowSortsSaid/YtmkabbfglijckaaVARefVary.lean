/- The document's numbers and texts as bytes. -/
import Derived.Test.YtmkabbfglijckaaVAText
namespace Go.Proofs.Ytmkabbfglijckaa.A.V
open Go.RowKit Go.Proofs.YtmkabbfglijckaaW.PrintWords Go.Proofs.YtmkabbfglijckaaW.PrintLast Go.Proofs.YtmkabbfglijckaaW.PrintMore
set_option linter.unusedVariables false
set_option linter.unusedSimpArgs false

set_option maxRecDepth 100000 in
set_option maxHeartbeats 1000000 in
theorem refput_nat : ∀ (N n : Nat) (x : Int) (w : World), n ≤ N → x = n → n ≤ 9223372036854775807 →
    Calls Try.prog 37 #[.int .i64 x] w fun e w' => ∃ v, e = .returned v ∧ OB w' w.heap.size v (vnat n) ∧ Below w.heap.size w w' := by
  intro N
  induction N using Nat.strongRecOn with
  | ind N ih =>
    intro n x w hnN hx hn
    subst hx
    have IH := Aside0.mk ih
    clear ih
    by_cases h : n < 128
    · have hE := vnat_small h
      rw [hE]
      clear hE
      go_enter Try.func37, Try.ntmps37
      go_wp2
      go_ret
      exact ⟨_, rfl, OB_lit [(n : Int)] (Nat.le_refl _) (by simp), below_alloc (Below.refl _ _) _⟩
    · have hE := vnat_big h
      have h9 := vnat_le n hn
      rw [hE, List.length_cons] at h9
      rw [hE]
      clear hE
      have hc : ((n % 128 + 128 : Nat) : Int) = (n : Int) % 128 + 128 := by omega
      rw [hc]
      clear hc
      go_enter Try.func37, Try.ntmps37
      go_wp2_with fail
      (with_reducible refine (IH.out (n / 128) (by omega) (n / 128) _ _ (Nat.le_refl _) (by omega) (by omega)).mono ?_)
      rintro e w2 ⟨v2, rfl, HO2, hb2⟩
      obtain ⟨n2, hn2, hn9⟩ : ∃ n2, (vnat (n / 128)).length = n2 ∧ n2 ≤ 8 := ⟨_, rfl, by omega⟩
      obtain ⟨A2, c2, rfl, hc2, HC2⟩ := OB_readn HO2 n2 hn2
      have HC := Aside0.mk HC2
      have HO := Aside0.mk (Kd.R_below (OB_lit (W := w) [(n : Int) % 128 + 128] (Nat.le_refl _) (by simp)) hb2)
      have HB := Aside0.mk (below_step (w := w) (below_alloc (Below.refl _ _) _) hb2)
      clear HO2 hb2 HC2 hn2
      go_wp2_with ((with_reducible refine gate_dst (N := 20) rfl ?_); refine app_bytes rfl rfl rfl rfl HO.out HC.out HB.out.size (by simp; omega) ?_; intro v4 w4 HO4 hb4 _ _)
      go_ret
      exact ⟨_, rfl, HO4, HB.out.trans hb4⟩
set_option maxRecDepth 100000 in
theorem refput_calls (x : Int) (w : World) (h1 : x ≤ 9223372036854775807) :
    Calls Try.prog 37 #[.int .i64 x] w fun e w' => ∃ v, e = .returned v ∧ OB w' w.heap.size v (vput x) ∧ Below w.heap.size w w' := by
  by_cases h : 0 ≤ x
  · exact refput_nat x.toNat x.toNat x w (Nat.le_refl _) (by omega) (by omega)
  · have hE : vput x = [0] := by
      have : x.toNat = 0 := by omega
      rw [vput, this, vnat_small (by decide)]
      rfl
    rw [hE]
    clear hE
    have hx : x < 0 := by omega
    go_enter Try.func37, Try.ntmps37
    go_wp2
    go_ret
    exact ⟨_, rfl, OB_lit [0] (Nat.le_refl _) (by simp), below_alloc (Below.refl _ _) _⟩
theorem reftext_calls (s : ByteArray) (w : World) (h1 : s.size ≤ 140737000000000) :
    Calls Try.prog 38 #[.string s] w fun e w' => ∃ v, e = .returned v ∧ OB w' w.heap.size v (vtext s) ∧ Below w.heap.size w w' := by
  have h9 := vput_le (s.size : Int) (by omega)
  go_enter Try.func38, Try.ntmps38
  go_wp2_with fail
  (with_reducible refine (refput_calls _ _ (by omega)).mono ?_)
  rintro e w2 ⟨v2, rfl, HO2, hb2⟩
  have HO := Aside0.mk HO2
  have HB := Aside0.mk hb2
  clear HO2 hb2
  go_wp2_with ((with_reducible refine gate_dst (N := 7) rfl ?_); refine app_str rfl rfl rfl rfl HO.out HB.out.size (by omega) ?_; intro v4 w4 HO4 hb4 _)
  go_ret
  exact ⟨_, rfl, HO4, HB.out.trans hb4⟩

end Go.Proofs.Ytmkabbfglijckaa.A.V
