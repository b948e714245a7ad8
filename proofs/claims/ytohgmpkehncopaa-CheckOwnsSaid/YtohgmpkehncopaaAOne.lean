/- Reading one frame: the program's and the document's. -/
import Derived.Test.YtohgmpkehncopaaACheck
import Derived.Deep.RegionWith
namespace Go.Proofs.Ytohgmpkehncopaa.A
open Go.RowKit Go.Proofs.YtohgmpkehncopaaW.PrintWords Go.Proofs.YtohgmpkehncopaaW.PrintLast Go.Proofs.YtohgmpkehncopaaW.PrintMore
set_option linter.unusedVariables false
set_option linter.unusedSimpArgs false

def ownOf (l : List Int) : List Int := (l.take (8 + num4 l).toNat).drop 8
def restOf (l : List Int) : List Int := l.drop (8 + num4 l).toNat
theorem tail4_range {l : List Int} (hb : ∀ x ∈ l, 0 ≤ x ∧ x ≤ 255) (j : Nat) : ∀ x ∈ l.drop j, 0 ≤ x ∧ x ≤ 255 := fun x hx => hb x (List.mem_of_mem_drop hx)

set_option maxHeartbeats 800000 in
theorem one_short (A : Option Addr) (c : Nat) (l : List Int) (w : World) (hr : U8.C w A l.length l) (hc : l.length ≤ c) (hb : ∀ x ∈ l, 0 ≤ x ∧ x ≤ 255) (h : l.length < 8 ∨ (l.length : Int) < 8 + num4 l) :
    Calls Try.prog 24 #[.slice A l.length c] w fun e w' => e = .returned (.tuple #[.slice none 0 0, .slice none 0 0, .int .i64 3]) ∧ Below w.heap.size w w' := by
  have HR := Aside0.mk hr
  have HBY := Aside0.mk hb
  have hm : l.length ≤ 9223372036854775807 := hr.2.1
  clear hr hb
  by_cases h8 : l.length < 8
  · clear h
    have h8' : decide ((l.length : Int) < 8) = true := decide_eq_true (by omega)
    go_enter Try.func24, Try.ntmps24
    go_wp2
    go_ret3
    exact ⟨rfl, Below.refl _ _⟩
  · have hn : (l.length : Int) - 8 < num4 l := by omega
    obtain ⟨hn0, hn1⟩ := num4_range HBY.out
    generalize hN : num4 l = N at *
    have HN := Aside0.mk hN
    clear h hN
    go_enter Try.func24, Try.ntmps24
    go_wp2_with ((go_at_call 27); (with_reducible refine (number_calls _ _ _ _ HR.out hc HBY.out (by omega)).mono ?_); rw [HN.out]; rintro e w1 ⟨rfl, n1, rfl⟩)
    go_ret3
    exact ⟨rfl, pw_below_drewN (Below.refl _ _) _⟩
set_option maxHeartbeats 1600000 in
theorem one_bad (A : Option Addr) (c : Nat) (l : List Int) (w : World) (hr : U8.C w A l.length l) (hc : l.length ≤ c) (hb : ∀ x ∈ l, 0 ≤ x ∧ x ≤ 255) (h8 : 8 ≤ l.length) (h : 8 + num4 l ≤ l.length) (hs : sum (ownOf l) ≠ num4 (l.drop 4)) :
    Calls Try.prog 24 #[.slice A l.length c] w fun e w' => ∃ A1 c1, e = .returned (.tuple #[.slice none 0 0, .slice A1 (restOf l).length c1, .int .i64 4]) ∧ (restOf l).length ≤ c1 ∧ U8.C w' A1 (restOf l).length (restOf l) ∧ Below w.heap.size w w' := by
  have HR := Aside0.mk hr
  have HBY := Aside0.mk hb
  have hm : l.length ≤ 9223372036854775807 := hr.2.1
  obtain ⟨hn0, hn1⟩ := num4_range hb
  obtain ⟨A1, c1, hk1, hC1, hl1⟩ := cutf A c l (8 + num4 l) (by omega) h hc
  obtain ⟨A2, c2, hk2, hC2, hl2⟩ := cutm A c l 8 (8 + num4 l) (by omega) (by omega) h hc
  obtain ⟨A3, c3, hk3, hC3, hl3⟩ := cutf A c l 4 (by omega) (by omega) hc
  have HS := Aside0.mk hs
  have HC1 := Aside0.mk (hC1 _ hr)
  have HC2 := Aside0.mk (hC2 _ hr)
  have HC3 := Aside0.mk (hC3 _ hr)
  have h4 : 4 ≤ (l.drop 4).length := by rw [List.length_drop]; omega
  have HB4 := Aside0.mk (tail4_range hb 4)
  have hn : ¬ (l.length : Int) - 8 < num4 l := by omega
  have ho : (l.take (8 + num4 l).toNat).drop (8 : Int).toNat = ownOf l := rfl
  have hre : l.drop (8 + num4 l).toNat = restOf l := rfl
  have hl4 : l.drop (4 : Int).toNat = l.drop 4 := rfl
  rw [ho] at hk2 HC2 hl2
  rw [hre] at hk1 HC1 hl1
  rw [hl4] at hk3 HC3 hl3
  clear hC1 hC2 hC3 ho hre hl4 hr hb hs
  generalize ownOf l = O at *
  generalize restOf l = R at *
  generalize l.drop 4 = D at *
  generalize hN : num4 l = N at *
  generalize hN4 : num4 D = N4 at *
  have HN := Aside0.mk hN
  have HN4 := Aside0.mk hN4
  have hne : (sum O == N4) = false := by simpa using HS.out
  have hne2 : (sum O != N4) = true := by simpa using HS.out
  clear hN hN4
  go_enter Try.func24, Try.ntmps24
  go_wp2_with ((go_at_call 27); (with_reducible refine (number_calls _ _ _ _ ?_ hc HBY.out (by omega)).mono ?_); exact (by repeat (with_reducible first | exact HR.out | refine Kd.C_drewN ?_ _ | refine Kd.C_drew ?_)); rw [HN.out]; rintro e w1 ⟨rfl, n1, rfl⟩)
  go_region_with (first
    | ((go_at_call 11); (with_reducible refine (sum_calls _ _ _ _ ?_ hl2).mono ?_); exact (by repeat (with_reducible first | exact HC2.out | refine Kd.C_drewN ?_ _ | refine Kd.C_drew ?_)); rintro e w5 ⟨rfl, rfl⟩)
    | ((go_at_call 27); (with_reducible refine (number_calls _ _ D _ ?_ hl3 HB4.out h4).mono ?_); exact (by repeat (with_reducible first | exact HC3.out | refine Kd.C_drewN ?_ _ | refine Kd.C_drew ?_)); rw [HN4.out]; rintro e w1 ⟨rfl, n1, rfl⟩))
  all_goals go_wp2
  all_goals go_region_with (fail)
  all_goals go_wp2
  all_goals go_ret3
  all_goals exact ⟨A1, c1, by kernel_rfl, hl1, by repeat (with_reducible first | exact HC1.out | refine Kd.C_drewN ?_ _ | refine Kd.C_drew ?_), by repeat (with_reducible first | exact Below.refl _ _ | apply pw_below_drewN | apply below_drew1)⟩

set_option maxHeartbeats 1600000 in
theorem one_ok (A : Option Addr) (c : Nat) (l : List Int) (w : World) (hr : U8.C w A l.length l) (hc : l.length ≤ c) (hb : ∀ x ∈ l, 0 ≤ x ∧ x ≤ 255) (h8 : 8 ≤ l.length) (h : 8 + num4 l ≤ l.length) (hs : sum (ownOf l) = num4 (l.drop 4)) :
    Calls Try.prog 24 #[.slice A l.length c] w fun e w' => ∃ v A1 c1, e = .returned (.tuple #[v, .slice A1 (restOf l).length c1, .int .i64 0]) ∧ OB w' w.heap.size v (ownOf l) ∧ (restOf l).length ≤ c1 ∧ U8.C w' A1 (restOf l).length (restOf l) ∧ Below w.heap.size w w' := by
  have HR := Aside0.mk hr
  have HBY := Aside0.mk hb
  have hm : l.length ≤ 9223372036854775807 := hr.2.1
  obtain ⟨hn0, hn1⟩ := num4_range hb
  obtain ⟨A1, c1, hk1, hC1, hl1⟩ := cutf A c l (8 + num4 l) (by omega) h hc
  obtain ⟨A2, c2, hk2, hC2, hl2⟩ := cutm A c l 8 (8 + num4 l) (by omega) (by omega) h hc
  obtain ⟨A3, c3, hk3, hC3, hl3⟩ := cutf A c l 4 (by omega) (by omega) hc
  have HS := Aside0.mk hs
  have HC1 := Aside0.mk (hC1 _ hr)
  have HC2 := Aside0.mk (hC2 _ hr)
  have HC3 := Aside0.mk (hC3 _ hr)
  have h4 : 4 ≤ (l.drop 4).length := by rw [List.length_drop]; omega
  have HB4 := Aside0.mk (tail4_range hb 4)
  have hn : ¬ (l.length : Int) - 8 < num4 l := by omega
  have ho : (l.take (8 + num4 l).toNat).drop (8 : Int).toNat = ownOf l := rfl
  have hre : l.drop (8 + num4 l).toNat = restOf l := rfl
  have hl4 : l.drop (4 : Int).toNat = l.drop 4 := rfl
  rw [ho] at hk2 HC2 hl2
  rw [hre] at hk1 HC1 hl1
  rw [hl4] at hk3 HC3 hl3
  clear hC1 hC2 hC3 ho hre hl4 hr hb hs
  have hol : (ownOf l).length ≤ 140737488000000 := by unfold ownOf; rw [List.length_drop, List.length_take]; omega
  generalize ownOf l = O at *
  generalize restOf l = R at *
  generalize l.drop 4 = D at *
  generalize hN : num4 l = N at *
  generalize hN4 : num4 D = N4 at *
  have HN := Aside0.mk hN
  have HN4 := Aside0.mk hN4
  have hne : (sum O == N4) = true := by simpa using HS.out
  have hne2 : (sum O != N4) = false := by simpa using HS.out
  clear hN hN4
  go_enter Try.func24, Try.ntmps24
  go_wp2_with ((go_at_call 27); (with_reducible refine (number_calls _ _ _ _ ?_ hc HBY.out (by omega)).mono ?_); exact (by repeat (with_reducible first | exact HR.out | refine Kd.C_drewN ?_ _ | refine Kd.C_drew ?_)); rw [HN.out]; rintro e w1 ⟨rfl, n1, rfl⟩)
  go_region_with (first
    | ((go_at_call 11); (with_reducible refine (sum_calls _ _ _ _ ?_ hl2).mono ?_); exact (by repeat (with_reducible first | exact HC2.out | refine Kd.C_drewN ?_ _ | refine Kd.C_drew ?_)); rintro e w5 ⟨rfl, rfl⟩)
    | ((go_at_call 27); (with_reducible refine (number_calls _ _ D _ ?_ hl3 HB4.out h4).mono ?_); exact (by repeat (with_reducible first | exact HC3.out | refine Kd.C_drewN ?_ _ | refine Kd.C_drew ?_)); rw [HN4.out]; rintro e w1 ⟨rfl, n1, rfl⟩))
  all_goals go_wp2
  all_goals go_region_with ((go_at_call 28); (with_reducible refine (clone_calls _ _ O _ ?_ hl2 hol).mono ?_); exact (by repeat (with_reducible first | exact HC2.out | refine Kd.C_drewN ?_ _ | refine Kd.C_drew ?_)); rintro e w8 ⟨v8, rfl, HO8, hb8⟩)
  all_goals go_wp2
  all_goals go_ret3
  all_goals have hbf := below_step (w := w) (by repeat (with_reducible first | exact Below.refl _ _ | apply pw_below_drewN | apply below_drew1)) hb8
  all_goals exact ⟨v8, A1, c1, by kernel_rfl, HO8, hl1, Kd.C_below HC1.out hbf, hbf⟩

end Go.Proofs.Ytohgmpkehncopaa.A
