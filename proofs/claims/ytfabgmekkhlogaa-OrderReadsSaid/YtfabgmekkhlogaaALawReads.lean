/- OrderReads: bytes are read as the document's tuple, or refused with its error. -/
import Derived.Test.YtfabgmekkhlogaaARefRead
import Derived.Test.YtfabgmekkhlogaaARound
import Derived.Test.YtfabgmekkhlogaaALawCmp
namespace Go.Proofs.Ytfabgmekkhlogaa.A
open Go.RowKit Go.Proofs.YtfabgmekkhlogaaW.PrintWords Go.Proofs.YtfabgmekkhlogaaW.PrintLast Go.Proofs.YtfabgmekkhlogaaW.PrintMore
set_option linter.unusedVariables false
set_option linter.unusedSimpArgs false

/-- The first 200 bytes. -/
theorem few_calls (A : Option Addr) (n c : Nat) (l : List Int) (w : World) (hr : U8.C w A n l) (hc : n ≤ c) :
    Calls Try.prog 20 #[.slice A n c] w fun e w' => e = .returned (.slice A (l.take 200).length c) ∧ w = w' := by
  have hn := hr.1
  subst hn
  have hm : l.length ≤ 9223372036854775807 := hr.2.1
  clear hr
  by_cases h : 200 < l.length
  · have e1 : (l.take 200).length = 200 := by rw [List.length_take]; omega
    rw [e1]
    have h1 : (200 : Int) < (l.length : Int) := by omega
    go_enter Try.func20, Try.ntmps20
    go_wp2
    go_ret
    exact ⟨rfl, rfl⟩
  · have e1 : l.take 200 = l := List.take_of_length_le (by omega)
    rw [e1]
    have h1 : ¬ (200 : Int) < (l.length : Int) := by omega
    go_enter Try.func20, Try.ntmps20
    go_wp2
    go_ret
    exact ⟨rfl, rfl⟩
set_option maxRecDepth 100000 in
set_option maxHeartbeats 2000000 in
theorem reads_calls (w : World) (A : Option Addr) (c : Nat) (l : List Int) (hr : U8.C w A l.length l) (hc : l.length ≤ c) (hb : ∀ x ∈ l, 0 ≤ x ∧ x ≤ 255) :
    Calls Try.prog 7 #[.slice A l.length c] w fun e w' => e = .returned (.bool true) ∧ Below w.heap.size w w' := by
  have HR := Aside0.mk hr
  have HBY := Aside0.mk hb
  clear hr hb
  go_enter Try.func7, Try.ntmps7
  go_wp2_with fail
  (with_reducible refine (few_calls _ _ _ l _ HR.out hc).mono ?_)
  rintro e w1 ⟨rfl, rfl⟩
  have hx1 : (l.take 200).length ≤ 200 ∧ (l.take 200).length ≤ c := by rw [List.length_take]; omega
  have HX := Aside0.mk (C_take_any HR.out 200)
  have HBX := Aside0.mk (fun x hx => HBY.out x (List.mem_of_mem_take hx) : ∀ x ∈ l.take 200, 0 ≤ x ∧ x ≤ 255)
  obtain ⟨hx2, hx3⟩ := hx1
  clear HR HBY
  generalize l.take 200 = x at *
  obtain ⟨n, hn⟩ : ∃ n, x.length = n := ⟨_, rfl⟩
  rw [hn] at HX hx2 hx3 ⊢
  clear hn
  go_wp2_with fail
  (with_reducible refine (read_calls _ _ _ x _ HX.out hx3 HBX.out (by omega)).mono ?_)
  rintro e w2 ⟨v2, rfl, HO2, hb2⟩
  obtain ⟨m, hm⟩ : ∃ m, (readB x).1.length = m := ⟨_, rfl⟩
  obtain ⟨A2, c2, rfl, hc2, HC2⟩ := OPt_readn HO2 m hm
  have HM := Aside0.mk hm
  have HB2 := Aside0.mk hb2
  have HY2 := Aside0.mk HC2
  clear HO2 hm HC2 hb2
  go_wp2_with fail
  (with_reducible refine (refread_calls _ _ _ x _ (Kd.C_below HX.out HB2.out) hx3 HBX.out (by omega)).mono ?_)
  rintro e w3 ⟨v3, rfl, HO3, hb3⟩
  obtain ⟨A3, c3, rfl, hc3, HC3⟩ := OPt_readn HO3 m HM.out
  have HB3 := Aside0.mk (below_step HB2.out hb3)
  have HY3 := Aside0.mk (Kd.C_below HY2.out hb3)
  have HZ3 := Aside0.mk HC3
  clear HO3 HC3 hb3 HY2 HB2 HM
  generalize (readB x).2 = er at *
  generalize (readB x).1 = y at *
  go_wp2_with fail
  (with_reducible refine (same_calls _ _ _ y _ _ y _ HY3.out hc2 HZ3.out hc3 (cmpL_self y)).mono ?_)
  rintro e w4 ⟨rfl, hb4⟩
  have HB4 := Aside0.mk (below_step HB3.out hb4)
  clear hb4 HY3 HZ3 HB3
  go_wp2_with fail
  (with_reducible refine (lives_calls _).mono ?_)
  rintro e w5 ⟨rfl, hb5⟩
  have HB5 := Aside0.mk (below_step HB4.out hb5)
  clear hb5
  go_wp2_with fail
  go_ret
  exact ⟨rfl, HB5.out⟩

end Go.Proofs.Ytfabgmekkhlogaa.A
