/- OrderWrites: a tuple's bytes are just the document's, and are read as it. -/
import Derived.Test.YtfabgmekkhlogaaARound
import Derived.Test.YtfabgmekkhlogaaALawCmp
import Derived.OwnWalk
import Derived.Deep.RegionHeld
namespace Go.Proofs.Ytfabgmekkhlogaa.A
open Go.RowKit Go.Proofs.YtfabgmekkhlogaaW.PrintWords Go.Proofs.YtfabgmekkhlogaaW.PrintLast Go.Proofs.YtfabgmekkhlogaaW.PrintMore
set_option linter.unusedVariables false
set_option linter.unusedSimpArgs false

set_option maxRecDepth 100000 in
set_option maxHeartbeats 2000000 in
theorem writes_calls (w : World) (A : Option Addr) (c : Nat) (a : List Pt) (hr : KPt.C w A a.length a) (hc : a.length ≤ c) (hok : ∀ p ∈ a, p.ok) :
    Calls Try.prog 6 #[.slice A a.length c] w fun e w' => e = .returned (.bool true) ∧ Below w.heap.size w w' := by
  have HR := Aside0.mk hr
  have HOK := Aside0.mk hok
  clear hr hok
  go_enter Try.func6, Try.ntmps6
  go_wp2_with fail
  (with_reducible refine (cut_calls _ _ _ a _ HR.out hc HOK.out).mono ?_)
  rintro e w1 ⟨v1, rfl, HO1, hb1⟩
  obtain ⟨n1, hn1⟩ : ∃ n, (cutL a).length = n := ⟨_, rfl⟩
  have hn16 := cutL_len a
  rw [hn1] at hn16
  obtain ⟨A1, c1, rfl, hc1, HC1⟩ := OPt_readn HO1 n1 hn1
  have HX := Aside0.mk HC1
  have HB := Aside0.mk hb1
  have HXK := Aside0.mk (cutL_ok a HOK.out)
  have HXS := Aside0.mk (fun p hp => Nat.le_trans (cutL_size a p hp) (by omega) : ∀ p ∈ cutL a, p.s.size ≤ 100000)
  have hxl := writeL_len (cutL a) 50 (cutL_size a)
  rw [hn1] at hxl
  have HN := Aside0.mk hn1
  clear HO1 hn1 HC1 hb1 HR HOK
  generalize cutL a = x at *
  go_wp2_with fail
  (with_reducible refine (write_calls _ _ _ x _ HX.out hc1 HXK.out HXS.out (by omega)).mono ?_)
  rintro e w2 ⟨v2, rfl, HO2, hb2⟩
  obtain ⟨nx, hnx⟩ : ∃ n, (writeL x).length = n := ⟨_, rfl⟩
  rw [hnx] at hxl
  obtain ⟨A2, c2, rfl, hc2, HC2⟩ := OB_readn HO2 nx hnx
  have HB2 := Aside0.mk (below_step HB.out hb2)
  have HX2 := Aside0.mk (Kd.C_below HX.out hb2)
  have HP2 := Aside0.mk HO2
  have HW2 := Aside0.mk HC2
  clear HO2 hnx HC2 hb2 HX HB
  go_wp2_with fail
  (with_reducible refine (read_calls _ _ _ (writeL x) _ HW2.out hc2 (write_range x) (by omega)).mono ?_)
  rw [readB_write x HXK.out]
  rintro e w3 ⟨v3, rfl, HO3, hb3⟩
  obtain ⟨A3, c3, rfl, hc3, HC3⟩ := OPt_readn HO3 n1 (by rw [List.length_map]; exact HN.out)
  have HB3 := Aside0.mk (below_step HB2.out hb3)
  have HX3 := Aside0.mk (Kd.C_below HX2.out hb3)
  have HP3 := Aside0.mk (Kd.R_below HP2.out hb3)
  have HY3 := Aside0.mk HC3
  clear HO3 HC3 hb3 HX2 HB2 HP2 HW2
  go_wp2_with fail
  (with_reducible refine (same_calls _ _ _ (x.map norm) _ _ x _ HY3.out hc3 HX3.out hc1 (cmp_norm x)).mono ?_)
  rintro e w4 ⟨rfl, hb4⟩
  have hP4 : Aside0 (OB w4.drew 0 (.slice A2 nx c2) (writeL x)) := ⟨Kd.R_drew (Kd.R_lower (Kd.R_below HP3.out hb4) (Nat.zero_le _))⟩
  have HX4 := Aside0.mk (Kd.C_below HX3.out (below_drew1 hb4))
  have hHB := below_drew1 (below_step HB3.out hb4)
  have hE4 := OB_string hP4.out
  clear hb4 HX3 HB3 HP3 HY3
  go_wp2_with fail
  go_region_held (fun w' => Aside0 (OB w' 0 (.slice A2 nx c2) (writeL x)) ∧ Below w.heap.size w w' ∧ (convert 27 9 (.slice A2 nx c2)).run Try.prog w' = .ok (.string (strOfNums (writeL x))) w')
    (first
      | (go_split_ands; exact ⟨by assumption, by assumption, by assumption⟩)
      | (go_split_ands; have r5 : OB _ 0 (.slice A2 nx c2) (writeL x) := Kd.R_below (Aside0.out (by assumption)) hb; exact ⟨⟨r5⟩, below_step (by assumption) hb, OB_string r5⟩))
    (first | ((go_at_call 19); (with_reducible refine (refwrite_calls _ _ _ x _ HX4.out hc1 HXK.out HXS.out (by omega)).mono ?_); rintro e w9 ⟨v9, rfl, HO9, hb⟩; have E38 := OB_string HO9) | ((go_at_call 14); (with_reducible refine (lives_calls _).mono ?_); rintro e w8 ⟨rfl, hb⟩))
  all_goals go_wp2
  all_goals go_ret
  all_goals exact ⟨by first | rfl | kernel_rfl, by first | assumption | (go_split_ands; assumption)⟩

end Go.Proofs.Ytfabgmekkhlogaa.A
