/- OrderKeeps: bytes of tuples are in their order. OrderNumbers: so are those of numbers, and of a table's keys. -/
import Derived.Test.YtfabgmekkhlogaaAKeeps
import Derived.Test.YtfabgmekkhlogaaALawCmp
namespace Go.Proofs.Ytfabgmekkhlogaa.A
open Go.RowKit Go.Proofs.YtfabgmekkhlogaaW.PrintWords Go.Proofs.YtfabgmekkhlogaaW.PrintLast Go.Proofs.YtfabgmekkhlogaaW.PrintMore
open Go.Op (bytesLess)
set_option linter.unusedVariables false
set_option linter.unusedSimpArgs false

/-- What the walk wants to know of two texts, by their order. -/
theorem str_facts (x y : ByteArray) : (cmpS x y = -1 ∧ bytesLess x.toList y.toList = true ∧ (x.toList == y.toList) = false ∧ ¬ x.toList = y.toList) ∨ (cmpS x y = 0 ∧ bytesLess x.toList y.toList = false ∧ bytesLess y.toList y.toList = false ∧ x.toList = y.toList) ∨ (cmpS x y = 1 ∧ bytesLess x.toList y.toList = false ∧ (x.toList == y.toList) = false ∧ ¬ x.toList = y.toList) := by
  unfold cmpS
  rcases bl_tri x.toList y.toList with ⟨h1, h2, h3⟩ | h | ⟨h1, h2, h3⟩
  · simp [h1, h3]
  · rw [h]
    simp [bl_self]
  · simp [h1, h2, h3]
set_option maxRecDepth 100000 in
set_option maxHeartbeats 2000000 in
theorem keeps_calls (w : World) (A : Option Addr) (c : Nat) (a : List Pt) (hr : KPt.C w A a.length a) (hc : a.length ≤ c) (hok : ∀ p ∈ a, p.ok) (A' : Option Addr) (c' : Nat) (b : List Pt) (hr' : KPt.C w A' b.length b) (hc' : b.length ≤ c') (hok' : ∀ p ∈ b, p.ok) :
    Calls Try.prog 4 #[.slice A a.length c, .slice A' b.length c'] w fun e w' => e = .returned (.bool true) ∧ Below w.heap.size w w' := by
  have HR := Aside0.mk hr
  have HR' := Aside0.mk hr'
  have HOK := Aside0.mk hok
  have HOK' := Aside0.mk hok'
  clear hr hr' hok hok'
  go_enter Try.func4, Try.ntmps4
  go_wp2_with fail
  (with_reducible refine (cut_calls _ _ _ a _ HR.out hc HOK.out).mono ?_)
  rintro e w1 ⟨v1, rfl, HO1, hb1⟩
  obtain ⟨n1, hn1⟩ : ∃ n, (cutL a).length = n := ⟨_, rfl⟩
  have hn16 := cutL_len a
  rw [hn1] at hn16
  obtain ⟨A1, c1, rfl, hc1, HC1⟩ := OPt_readn HO1 n1 hn1
  have HX := Aside0.mk HC1
  have HB := Aside0.mk hb1
  have HXK := Aside0.mk (cutL_ok a HOK.out)
  have HXS := Aside0.mk (fun p hp => Nat.le_trans (cutL_size a p hp) (by omega) : ∀ p ∈ cutL a, p.s.size ≤ 100000)
  clear HO1 hn1 HC1 hb1
  generalize cutL a = x at *
  go_wp2_with fail
  (with_reducible refine (cut_calls _ _ _ b _ (Kd.C_below HR'.out HB.out) hc' HOK'.out).mono ?_)
  rintro e w2 ⟨v2, rfl, HO2, hb2⟩
  obtain ⟨n2, hn2⟩ : ∃ n, (cutL b).length = n := ⟨_, rfl⟩
  have hn26 := cutL_len b
  rw [hn2] at hn26
  obtain ⟨A2, c2, rfl, hc2, HC2⟩ := OPt_readn HO2 n2 hn2
  have HX2 := Aside0.mk (Kd.C_below HX.out hb2)
  have HY2 := Aside0.mk HC2
  have HB2 := Aside0.mk (below_step HB.out hb2)
  have HYK := Aside0.mk (cutL_ok b HOK'.out)
  have HYS := Aside0.mk (fun p hp => Nat.le_trans (cutL_size b p hp) (by omega) : ∀ p ∈ cutL b, p.s.size ≤ 100000)
  clear HO2 hn2 HC2 hb2 HX HB HR HR' HOK HOK'
  generalize cutL b = y at *
  have hF := str_facts (strOfNums (writeL x)) (strOfNums (writeL y))
  rw [keeps x y HXK.out HYK.out] at hF
  go_wp2_with fail
  (with_reducible refine (write_calls _ _ _ x _ HX2.out hc1 HXK.out HXS.out (by omega)).mono ?_)
  rintro e w3 ⟨v3, rfl, HO3, hb3⟩
  have E3 := OB_string HO3
  have HX3 := Aside0.mk (Kd.C_below HX2.out hb3)
  have HY3 := Aside0.mk (Kd.C_below HY2.out hb3)
  have HB3 := Aside0.mk (below_step HB2.out hb3)
  clear hb3 HX2 HY2 HB2 HO3
  generalize strOfNums (writeL x) = X at *
  go_wp2_with fail
  (with_reducible refine (write_calls _ _ _ y _ HY3.out hc2 HYK.out HYS.out (by omega)).mono ?_)
  rintro e w4 ⟨v4, rfl, HO4, hb4⟩
  have E4 := OB_string HO4
  have HX4 := Aside0.mk (Kd.C_below HX3.out hb4)
  have HY4 := Aside0.mk (Kd.C_below HY3.out hb4)
  have HB4 := Aside0.mk (below_step HB3.out hb4)
  clear hb4 HX3 HY3 HB3 HO4 E3
  generalize strOfNums (writeL y) = Y at *
  go_wp2_with fail
  (with_reducible refine (Compare_calls _ _ _ x _ _ _ y _ HX4.out hc1 HY4.out hc2).mono ?_)
  rintro e w5 ⟨rfl, hb5⟩
  have HB5 := Aside0.mk (below_step HB4.out hb5)
  clear hb5 HX4 HY4 HB4 E4
  rcases hF with ⟨h0, h1, h2, h3⟩ | ⟨h0, h1, h2, h3⟩ | ⟨h0, h1, h2, h3⟩
  all_goals
    rw [h0]
    clear h0
    go_wp2_with fail
    (with_reducible refine (lives_calls _).mono ?_)
    rintro e w6 ⟨rfl, hb6⟩
    have HB6 := Aside0.mk (below_step HB5.out hb6)
    clear hb6
    go_wp2_with fail
    go_ret
    exact ⟨rfl, HB6.out⟩

end Go.Proofs.Ytfabgmekkhlogaa.A
