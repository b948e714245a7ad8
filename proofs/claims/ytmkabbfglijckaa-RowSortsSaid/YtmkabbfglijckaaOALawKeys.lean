/- OrderKeys: a table's key is the document's, and is split as it was, or it is refused. -/
import Derived.Test.YtmkabbfglijckaaOASplit
import Derived.Test.YtmkabbfglijckaaOALawNum
namespace Go.Proofs.Ytmkabbfglijckaa.A.O
open Go.RowKit Go.Proofs.YtmkabbfglijckaaW.PrintWords Go.Proofs.YtmkabbfglijckaaW.PrintLast Go.Proofs.YtmkabbfglijckaaW.PrintMore
set_option linter.unusedVariables false
set_option linter.unusedSimpArgs false

theorem keyParts_size (t : Int) (s : ByteArray) (m : Nat) (hs : s.size ≤ m) : ∀ p ∈ keyParts t s, p.s.size ≤ m := by
  intro p hp
  simp only [keyParts, List.mem_cons, List.not_mem_nil, or_false] at hp
  rcases hp with rfl | rfl
  · show (0 : Nat) ≤ _
    omega
  · exact hs
theorem split_key (t : Int) (s : ByteArray) (h0 : 0 ≤ t) (h1 : t < 4) (hs : s.size ≤ 40) : splitK (keyStr t s) = (t, s, 0) := by
  have e1 : keyErr t s = 0 := by unfold keyErr; rw [if_neg (by omega), if_neg (by omega)]
  have e2 : keyStr t s = strOfNums (writeL (keyParts t s)) := by unfold keyStr; rw [if_pos e1]
  have e3 : readB (bytesOf (keyStr t s)) = ([⟨false, t, { data := #[] }⟩, ⟨true, 0, s⟩], 0) := by
    rw [e2, bytesOf_str _ (write_range _), readB_write _ (keyParts_ok t s h0 h1 hs)]
    rfl
  unfold splitK
  rw [e3, if_pos rfl]
  show (if false = false ∧ true = true ∧ keyErr t s = 0 ∧ keyStr t s = keyStr t s then (t, s, (0 : Int)) else _) = _
  rw [if_pos ⟨rfl, rfl, e1, rfl⟩]
set_option maxRecDepth 100000 in
theorem refkey_calls (t : Int) (s : ByteArray) (w : World) (h0 : 0 ≤ t) (h1 : t < 4) (hs : s.size ≤ 40) :
    Calls Try.prog 25 #[.int .i64 t, .string s] w fun e w' => e = .returned (.string (keyStr t s)) ∧ Below w.heap.size w w' := by
  have e1 : keyErr t s = 0 := by unfold keyErr; rw [if_neg (by omega), if_neg (by omega)]
  have e2 : keyStr t s = strOfNums (writeL (keyParts t s)) := by unfold keyStr; rw [if_pos e1]
  rw [e2]
  have HK := Aside0.mk (keyParts_ok t s h0 h1 hs)
  have HS := Aside0.mk (keyParts_size t s 100000 (by omega))
  clear e1 e2
  go_enter Try.func25, Try.ntmps25
  go_wp2_with fail
  (with_reducible refine (refwrite_calls _ _ _ (keyParts t s) _ (lit_CPt2 w _ false t ({ data := #[] } : ByteArray) true 0 s) (Nat.le_refl _) HK.out HS.out (by omega)).mono ?_)
  rintro e w2 ⟨v2, rfl, HO2, hb2⟩
  have E2 := OB_string HO2
  have HB2 := Aside0.mk (below_step (below_alloc (Below.refl w.heap.size w) _) hb2)
  clear HO2 hb2
  go_wp2
  go_ret
  exact ⟨rfl, HB2.out⟩

end Go.Proofs.Ytmkabbfglijckaa.A.O
