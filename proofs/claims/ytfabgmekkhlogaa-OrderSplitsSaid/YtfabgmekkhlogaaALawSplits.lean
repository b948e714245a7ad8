/- OrderSplits: bytes are split as the document says, or refused with its error. -/
import Derived.Test.YtfabgmekkhlogaaARefSplit
namespace Go.Proofs.Ytfabgmekkhlogaa.A
open Go.RowKit Go.Proofs.YtfabgmekkhlogaaW.PrintWords Go.Proofs.YtfabgmekkhlogaaW.PrintLast Go.Proofs.YtfabgmekkhlogaaW.PrintMore
set_option linter.unusedVariables false
set_option linter.unusedSimpArgs false

set_option maxRecDepth 100000 in
set_option maxHeartbeats 2000000 in
theorem splits_calls (w : World) (s : ByteArray) (gs : s.size ≤ maxLen) :
    Calls Try.prog 10 #[.string s] w fun e w' => e = .returned (.bool true) ∧ Below w.heap.size w w' := by
  have gs0 : s.size ≤ 9223372036854775807 := gs
  clear gs
  go_enter Try.func10, Try.ntmps10
  rcases Nat.lt_or_ge 200 s.size with c1 | c1
  · have h1 : (200 : Int) < (s.size : Int) := by omega
    obtain ⟨S, hS⟩ : ∃ S, s.extract 0 200 = S := ⟨_, rfl⟩
    have hS200 : S.size ≤ 200 := by rw [← hS, ByteArray.size_extract]; omega
    have HS := Aside0.mk hS
    clear hS
    go_wp2_with fail
    rw [HS.out]
    clear HS h1 c1
    (with_reducible refine (split_calls _ _ (by omega)).mono ?_)
    rintro e w2 ⟨rfl, hb2⟩
    have HB2 := Aside0.mk hb2
    clear hb2
    go_wp2_with fail
    (with_reducible refine (refsplit_calls _ _ (by omega)).mono ?_)
    rintro e w3 ⟨rfl, hb3⟩
    have HB3 := Aside0.mk (below_step HB2.out hb3)
    clear hb3
    generalize splitK S = r at *
    obtain ⟨r1, r2, r3⟩ := r
    dsimp only
    go_wp2_with fail
    (with_reducible refine (lives_calls _).mono ?_)
    rintro e w5 ⟨rfl, hb5⟩
    have HB5 := Aside0.mk (below_step HB3.out hb5)
    clear hb5
    go_wp2_with fail
    go_ret
    exact ⟨rfl, HB5.out⟩
  · have hS200 : s.size ≤ 200 := by omega
    have h1 : ¬ (200 : Int) < (s.size : Int) := by omega
    go_wp2_with fail
    clear h1 c1
    (with_reducible refine (split_calls _ _ (by omega)).mono ?_)
    rintro e w2 ⟨rfl, hb2⟩
    have HB2 := Aside0.mk hb2
    clear hb2
    go_wp2_with fail
    (with_reducible refine (refsplit_calls _ _ (by omega)).mono ?_)
    rintro e w3 ⟨rfl, hb3⟩
    have HB3 := Aside0.mk (below_step HB2.out hb3)
    clear hb3
    generalize splitK s = r at *
    obtain ⟨r1, r2, r3⟩ := r
    dsimp only
    go_wp2_with fail
    (with_reducible refine (lives_calls _).mono ?_)
    rintro e w5 ⟨rfl, hb5⟩
    have HB5 := Aside0.mk (below_step HB3.out hb5)
    clear hb5
    go_wp2_with fail
    go_ret
    exact ⟨rfl, HB5.out⟩

end Go.Proofs.Ytfabgmekkhlogaa.A
