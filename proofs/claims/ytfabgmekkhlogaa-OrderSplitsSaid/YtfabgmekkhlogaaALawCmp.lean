/- OrderCompares: the order of two tuples is the document's. -/
import Derived.Test.YtfabgmekkhlogaaAKey
namespace Go.Proofs.Ytfabgmekkhlogaa.A
open Go.RowKit Go.Proofs.YtfabgmekkhlogaaW.PrintWords Go.Proofs.YtfabgmekkhlogaaW.PrintLast Go.Proofs.YtfabgmekkhlogaaW.PrintMore
set_option linter.unusedVariables false
set_option linter.unusedSimpArgs false

theorem OPt_readn {w : World} {B : Nat} {v : Value} {l : List Pt} (h : OPt w B v l) (n : Nat) (hn : l.length = n) : ∃ A c, v = .slice A n c ∧ n ≤ c ∧ KPt.C w A n l := by
  subst hn
  exact Kd.R_reads h
set_option maxRecDepth 100000 in
set_option maxHeartbeats 1000000 in
theorem compares_calls (w : World) (A : Option Addr) (c : Nat) (a : List Pt) (hr : KPt.C w A a.length a) (hc : a.length ≤ c) (hok : ∀ p ∈ a, p.ok) (A' : Option Addr) (c' : Nat) (b : List Pt) (hr' : KPt.C w A' b.length b) (hc' : b.length ≤ c') (hok' : ∀ p ∈ b, p.ok) :
    Calls Try.prog 3 #[.slice A a.length c, .slice A' b.length c'] w fun e w' => e = .returned (.bool true) ∧ Below w.heap.size w w' := by
  have HR := Aside0.mk hr
  have HR' := Aside0.mk hr'
  have HOK := Aside0.mk hok
  have HOK' := Aside0.mk hok'
  clear hr hr' hok hok'
  go_enter Try.func3, Try.ntmps3
  go_wp2_with fail
  (with_reducible refine (cut_calls _ _ _ a _ HR.out hc HOK.out).mono ?_)
  rintro e w1 ⟨v1, rfl, HO1, hb1⟩
  obtain ⟨n1, hn1⟩ : ∃ n, (cutL a).length = n := ⟨_, rfl⟩
  obtain ⟨A1, c1, rfl, hc1, HC1⟩ := OPt_readn HO1 n1 hn1
  have HX := Aside0.mk HC1
  have HB := Aside0.mk hb1
  clear HO1 hn1 HC1 hb1
  generalize cutL a = x at *
  go_wp2_with fail
  (with_reducible refine (cut_calls _ _ _ b _ (Kd.C_below HR'.out HB.out) hc' HOK'.out).mono ?_)
  rintro e w2 ⟨v2, rfl, HO2, hb2⟩
  obtain ⟨n2, hn2⟩ : ∃ n, (cutL b).length = n := ⟨_, rfl⟩
  obtain ⟨A2, c2, rfl, hc2, HC2⟩ := OPt_readn HO2 n2 hn2
  have HX2 := Aside0.mk (Kd.C_below HX.out hb2)
  have HY2 := Aside0.mk HC2
  have HB2 := Aside0.mk (below_step HB.out hb2)
  clear HO2 hn2 HC2 hb2 HX HB HR HR' HOK HOK'
  generalize cutL b = y at *
  have hsw := Aside0.mk (cmpL_swap x y)
  have hrg := cmpL_range x y
  go_wp2_with fail
  (with_reducible refine (Compare_calls _ _ _ x _ _ _ y _ HX2.out hc1 HY2.out hc2).mono ?_)
  rintro e w3 ⟨rfl, hb3⟩
  have HX3 := Aside0.mk (Kd.C_below HX2.out hb3)
  have HY3 := Aside0.mk (Kd.C_below HY2.out hb3)
  have HB3 := Aside0.mk (below_step HB2.out hb3)
  clear hb3 HX2 HY2 HB2
  go_wp2_with fail
  (with_reducible refine (refCompare_calls _ _ _ x _ _ _ y _ HX3.out hc1 HY3.out hc2).mono ?_)
  rintro e w4 ⟨rfl, hb4⟩
  have HX4 := Aside0.mk (Kd.C_below HX3.out hb4)
  have HY4 := Aside0.mk (Kd.C_below HY3.out hb4)
  have HB4 := Aside0.mk (below_step HB3.out hb4)
  clear hb4 HX3 HY3 HB3
  go_wp2_with fail
  (with_reducible refine (Compare_calls _ _ _ y _ _ _ x _ HY4.out hc2 HX4.out hc1).mono ?_)
  rintro e w5 ⟨rfl, hb5⟩
  rw [hsw.out]
  have HB5 := Aside0.mk (below_step HB4.out hb5)
  clear hb5 HX4 HY4 HB4 hsw
  generalize cmpL x y = r at *
  go_wp2_with fail
  (with_reducible refine (lives_calls _).mono ?_)
  rintro e w6 ⟨rfl, hb6⟩
  have HB6 := Aside0.mk (below_step HB5.out hb6)
  clear hb6 HB5
  go_wp2_with fail
  go_ret
  exact ⟨rfl, HB6.out⟩

end Go.Proofs.Ytfabgmekkhlogaa.A
