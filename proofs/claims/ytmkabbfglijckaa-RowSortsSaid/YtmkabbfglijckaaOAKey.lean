/- A table's key; the document's example. -/
import Derived.Test.YtmkabbfglijckaaOAWrite
import Derived.Test.YtmkabbfglijckaaOACompareL
namespace Go.Proofs.Ytmkabbfglijckaa.A.O
open Go.RowKit Go.Proofs.YtmkabbfglijckaaW.PrintWords Go.Proofs.YtmkabbfglijckaaW.PrintLast Go.Proofs.YtmkabbfglijckaaW.PrintMore
set_option linter.unusedVariables false
set_option linter.unusedSimpArgs false

theorem lit_CPt1 (W : World) (te : Nat) (pt : Bool) (pn : Int) (ps : ByteArray) : KPt.C (W.alloc (.cells #[.bool pt, .int .i64 pn, .string ps] te)) (some ⟨W.heap.size, 0, none⟩) 1 [⟨pt, pn, ps⟩] := by
  refine ⟨rfl, by omega, fun _ => ⟨_, rfl, fun j x hj => ?_⟩⟩
  have hj0 : j = 0 := by
    have := (List.getElem?_eq_some_iff.1 hj).1
    simpa using this
  subst hj0
  have hx : (⟨pt, pn, ps⟩ : Pt) = x := by simpa using hj
  subst hx
  refine ⟨[.bool pt, .int .i64 pn, .string ps], rfl, KPt_K _ _ _ _, fun i u hu => ?_⟩
  rw [add_plain, cell_of_row _ _ _ _ te (0, 0) (heap_alloc_new W _)]
  match i, hu with
  | 0, hu => simpa using hu
  | 1, hu => simpa using hu
  | 2, hu => simpa using hu
theorem lit_CPt2 (W : World) (te : Nat) (pt : Bool) (pn : Int) (ps : ByteArray) (qt : Bool) (qn : Int) (qs : ByteArray) : KPt.C (W.alloc (.cells #[.bool pt, .int .i64 pn, .string ps, .bool qt, .int .i64 qn, .string qs] te)) (some ⟨W.heap.size, 0, none⟩) 2 [⟨pt, pn, ps⟩, ⟨qt, qn, qs⟩] := by
  refine ⟨rfl, by omega, fun _ => ⟨_, rfl, fun j x hj => ?_⟩⟩
  have hj2 : j < 2 := by
    have := (List.getElem?_eq_some_iff.1 hj).1
    simpa using this
  rcases (by omega : j = 0 ∨ j = 1) with rfl | rfl
  · have hx : (⟨pt, pn, ps⟩ : Pt) = x := by simpa using hj
    subst hx
    refine ⟨[.bool pt, .int .i64 pn, .string ps], rfl, KPt_K _ _ _ _, fun i u hu => ?_⟩
    rw [add_plain, cell_of_row _ _ _ _ te (0, 0) (heap_alloc_new W _)]
    match i, hu with
    | 0, hu => simpa using hu
    | 1, hu => simpa using hu
    | 2, hu => simpa using hu
  · have hx : (⟨qt, qn, qs⟩ : Pt) = x := by simpa using hj
    subst hx
    refine ⟨[.bool qt, .int .i64 qn, .string qs], rfl, KPt_K _ _ _ _, fun i u hu => ?_⟩
    rw [add_plain, cell_of_row _ _ _ _ te (0, 0) (heap_alloc_new W _)]
    match i, hu with
    | 0, hu => simpa [show KPt.sz = 3 from rfl] using hu
    | 1, hu => simpa [show KPt.sz = 3 from rfl] using hu
    | 2, hu => simpa [show KPt.sz = 3 from rfl] using hu
/-- The parts of a key. -/
def keyParts (t : Int) (s : ByteArray) : List Pt := [⟨false, t, ({ data := #[] } : ByteArray)⟩, ⟨true, 0, s⟩]
def keyErr (t : Int) (s : ByteArray) : Int := if t < 0 ∨ 4 ≤ t then 1 else if 40 < s.size then 5 else 0
def keyStr (t : Int) (s : ByteArray) : ByteArray := if keyErr t s = 0 then strOfNums (writeL (keyParts t s)) else ({ data := #[] } : ByteArray)
set_option maxRecDepth 100000 in
set_option maxHeartbeats 1000000 in
theorem key_calls (t : Int) (s : ByteArray) (w : World) (hs : s.size ≤ 9223372036854775807) :
    Calls Try.prog 50 #[.int .i64 t, .string s] w fun e w' => e = .returned (.tuple #[.string (keyStr t s), .int .i64 (keyErr t s)]) ∧ Below w.heap.size w w' := by
  rcases Int.lt_or_le t 0 with h1 | h1
  · have e1 : keyErr t s = 1 := by unfold keyErr; rw [if_pos (.inl h1)]
    have e2 : keyStr t s = ({ data := #[] } : ByteArray) := by unfold keyStr; rw [e1]; rfl
    rw [e1, e2]
    clear e1 e2
    go_enter Try.func50, Try.ntmps50
    go_wp2
    go_ret2
    exact ⟨rfl, Below.refl _ _⟩
  · rcases Int.lt_or_le t 4 with h2 | h2
    · rcases Nat.lt_or_ge 40 s.size with h3 | h3
      · have e1 : keyErr t s = 5 := by unfold keyErr; rw [if_neg (by omega), if_pos h3]
        have e2 : keyStr t s = ({ data := #[] } : ByteArray) := by unfold keyStr; rw [e1]; rfl
        rw [e1, e2]
        have h4 : (40 : Int) < (s.size : Int) := by omega
        clear e1 e2
        go_enter Try.func50, Try.ntmps50
        go_wp2
        go_ret2
        exact ⟨rfl, Below.refl _ _⟩
      · have e1 : keyErr t s = 0 := by unfold keyErr; rw [if_neg (by omega), if_neg (by omega)]
        have e2 : keyStr t s = strOfNums (writeL (keyParts t s)) := by unfold keyStr; rw [if_pos e1]
        rw [e1, e2]
        have h4 : ¬ (40 : Int) < (s.size : Int) := by omega
        clear e1 e2
        go_enter Try.func50, Try.ntmps50
        go_wp2_with fail
        have hok : ∀ p ∈ keyParts t s, p.ok := by
          intro p hp
          simp only [keyParts, List.mem_cons, List.not_mem_nil, or_false] at hp
          rcases hp with rfl | rfl
          · exact ⟨⟨by show -9223372036854775808 ≤ t; omega, by show t ≤ 9223372036854775807; omega⟩, by show (0 : Nat) ≤ _; omega⟩
          · exact ⟨⟨by show -9223372036854775808 ≤ (0 : Int); omega, by show (0 : Int) ≤ 9223372036854775807; omega⟩, hs⟩
        have hsz : ∀ p ∈ keyParts t s, p.s.size ≤ 100000 := by
          intro p hp
          simp only [keyParts, List.mem_cons, List.not_mem_nil, or_false] at hp
          rcases hp with rfl | rfl
          · show (0 : Nat) ≤ _
            omega
          · show s.size ≤ _
            omega
        (with_reducible refine (write_calls _ _ _ (keyParts t s) _ (lit_CPt2 w _ false t ({ data := #[] } : ByteArray) true 0 s) (Nat.le_refl _) hok hsz (by omega)).mono ?_)
        rintro e w2 ⟨v2, rfl, HO2, hb2⟩
        have E2 := OB_string HO2
        have HB2 := Aside0.mk (below_step (below_alloc (Below.refl w.heap.size w) _) hb2)
        clear HO2 hb2 hok hsz
        go_wp2
        go_ret2
        exact ⟨rfl, HB2.out⟩
    · have e1 : keyErr t s = 1 := by unfold keyErr; rw [if_pos (.inr h2)]
      have e2 : keyStr t s = ({ data := #[] } : ByteArray) := by unfold keyStr; rw [e1]; rfl
      rw [e1, e2]
      have h3 : ¬ t < 0 := by omega
      clear e1 e2
      go_enter Try.func50, Try.ntmps50
      go_wp2
      go_ret2
      exact ⟨rfl, Below.refl _ _⟩
theorem key_example : keyStr 1 { data := #[97, 98] } = { data := #[1, 128, 0, 0, 0, 0, 0, 0, 1, 2, 97, 98, 0, 1] } := by decide +kernel
theorem key_example0 : keyErr 1 { data := #[97, 98] } = 0 := by decide +kernel
theorem cmp_example : cmpL [⟨false, 1, ({ data := #[] } : ByteArray)⟩] [] = 1 := rfl
end Go.Proofs.Ytmkabbfglijckaa.A.O
