/- VaryMany: numbers, texts put at once are put one by one. -/
import Derived.Test.YtmkabbfglijckaaVARefVary
import Derived.Deep.RegionHeld
namespace Go.Proofs.Ytmkabbfglijckaa.A.V
open Go.RowKit Go.Proofs.YtmkabbfglijckaaW.PrintWords Go.Proofs.YtmkabbfglijckaaW.PrintLast Go.Proofs.YtmkabbfglijckaaW.PrintMore
set_option linter.unusedVariables false
set_option linter.unusedSimpArgs false

theorem flat_put_len (L : List Int) (h : ∀ y ∈ L, y ≤ 9223372036854775807) : (L.flatMap vput).length ≤ 9 * L.length := by
  induction L with
  | nil => simp
  | cons x L ih =>
    rw [List.flatMap_cons, List.length_append, List.length_cons]
    have h1 := vput_le x (h x (by simp))
    have h2 := ih (fun y hy => h y (by simp [hy]))
    omega
/-- vary.Text(b, s) -/
theorem text1_calls (A : Option Addr) (n c : Nat) (b : List Int) (x : ByteArray) (w : World) (e : Nat) (hr : U8.C w A n b) (hc : n ≤ c) (hx : x.size ≤ 100000) (hl : n ≤ 100000) :
    Calls Try.prog 44 #[.slice A n c, .slice (some ⟨w.heap.size, 0, none⟩) 1 1] (w.alloc (.cells #[.string x] e)) fun e w' => ∃ v, e = .returned v ∧ OB w' w.heap.size v (b ++ vtext x) ∧ Below w.heap.size w w' := by
  have h9 := vput_le x.size (by omega)
  have hn := hr.1
  have ht := vtext_len x
  have hf : [x].flatMap vtext = vtext x := by simp
  refine (text_calls A n c b _ 1 1 [x] _ (Kd.C_alloc hr _) hc (lit_CT w [x] e (by simp) (0, 0)) (by omega) (by rw [hf]; omega)).mono ?_
  rintro e w' ⟨v, rfl, HO, hb⟩
  rw [hf] at HO
  exact ⟨v, rfl, Kd.R_lower HO (by simp), below_step (below_alloc (Below.refl _ _) _) hb⟩
/-- vary.Text(b, s, t) -/
theorem text2_calls (A : Option Addr) (n c : Nat) (b : List Int) (x y : ByteArray) (w : World) (e : Nat) (hr : U8.C w A n b) (hc : n ≤ c) (hx : x.size ≤ 100000) (hy : y.size ≤ 100000) (hl : n ≤ 100000) :
    Calls Try.prog 44 #[.slice A n c, .slice (some ⟨w.heap.size, 0, none⟩) 2 2] (w.alloc (.cells #[.string x, .string y] e)) fun e w' => ∃ v, e = .returned v ∧ OB w' w.heap.size v (b ++ (vtext x ++ vtext y)) ∧ Below w.heap.size w w' := by
  have h9 := vput_le x.size (by omega)
  have h9' := vput_le y.size (by omega)
  have hn := hr.1
  have ht := vtext_len x
  have ht' := vtext_len y
  have hf : [x, y].flatMap vtext = vtext x ++ vtext y := by simp
  refine (text_calls A n c b _ 2 2 [x, y] _ (Kd.C_alloc hr _) hc (lit_CT w [x, y] e (by simp) (0, 0)) (by omega) (by rw [hf, List.length_append]; omega)).mono ?_
  rintro e w' ⟨v, rfl, HO, hb⟩
  rw [hf] at HO
  exact ⟨v, rfl, Kd.R_lower HO (by simp), below_step (below_alloc (Below.refl _ _) _) hb⟩

/-- The same, the world that it began in. -/
theorem text2a_calls (A : Option Addr) (n c : Nat) (b : List Int) (x y : ByteArray) (w : World) (te : Nat) (hr : U8.C w A n b) (hc : n ≤ c) (hx : x.size ≤ 100000) (hy : y.size ≤ 100000) (hl : n ≤ 100000) :
    Calls Try.prog 44 #[.slice A n c, .slice (some ⟨w.heap.size, 0, none⟩) 2 2] (w.alloc (.cells #[.string x, .string y] te)) fun e w' => ∃ v, e = .returned v ∧ OB w' w.heap.size v (b ++ (vtext x ++ vtext y)) ∧ Below (w.alloc (.cells #[.string x, .string y] te)).heap.size (w.alloc (.cells #[.string x, .string y] te)) w' := by
  have h9 := vput_le x.size (by omega)
  have h9' := vput_le y.size (by omega)
  have hn := hr.1
  have ht := vtext_len x
  have ht' := vtext_len y
  have hf : [x, y].flatMap vtext = vtext x ++ vtext y := by simp
  refine (text_calls A n c b _ 2 2 [x, y] _ (Kd.C_alloc hr _) hc (lit_CT w [x, y] te (by simp) (0, 0)) (by omega) (by rw [hf, List.length_append]; omega)).mono ?_
  rintro e w' ⟨v, rfl, HO, hb⟩
  rw [hf] at HO
  exact ⟨v, rfl, Kd.R_lower HO (by simp), hb⟩

end Go.Proofs.Ytmkabbfglijckaa.A.V
