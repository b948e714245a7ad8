/- The document's first frame, and what both tell of one frame alone. -/
import Derived.Test.YtohgmpkehncopaaAOne
namespace Go.Proofs.Ytohgmpkehncopaa.A
open Go.RowKit Go.Proofs.YtohgmpkehncopaaW.PrintWords Go.Proofs.YtohgmpkehncopaaW.PrintLast Go.Proofs.YtohgmpkehncopaaW.PrintMore
set_option linter.unusedVariables false
set_option linter.unusedSimpArgs false

/-- A slice of bytes that reads as l. -/
abbrev RB (w : World) (v : Value) (l : List Int) : Prop := ∃ A c, v = .slice A l.length c ∧ l.length ≤ c ∧ U8.C w A l.length l
theorem RB_nil (w : World) : RB w (.slice none 0 0) [] := ⟨none, 0, rfl, Nat.le_refl _, Kd.C_nil _ _⟩
def Short (l : List Int) : Prop := l.length < 8 ∨ (l.length : Int) < 8 + num4 l
instance (l : List Int) : Decidable (Short l) := by unfold Short; infer_instance

set_option maxHeartbeats 800000 in
theorem first_short (A : Option Addr) (c : Nat) (l : List Int) (w : World) (hr : U8.C w A l.length l) (hc : l.length ≤ c) (hb : ∀ x ∈ l, 0 ≤ x ∧ x ≤ 255) (h : Short l) :
    Calls Try.prog 25 #[.slice A l.length c] w fun e w' => e = .returned (.tuple #[.slice none 0 0, .int .i64 0, .int .i64 3]) ∧ Below w.heap.size w w' := by
  unfold Short at h
  have HR := Aside0.mk hr
  have HBY := Aside0.mk hb
  have hm : l.length ≤ 9223372036854775807 := hr.2.1
  clear hr hb
  by_cases h8 : l.length < 8
  · clear h
    have h8' : decide ((l.length : Int) < 8) = true := decide_eq_true (by omega)
    go_enter Try.func25, Try.ntmps25
    go_wp2
    go_ret3
    exact ⟨rfl, Below.refl _ _⟩
  · have hn : (l.length : Int) < 8 + num4 l := by omega
    obtain ⟨hn0, hn1⟩ := num4_range HBY.out
    generalize hN : num4 l = N at *
    have HN := Aside0.mk hN
    clear h hN
    go_enter Try.func25, Try.ntmps25
    go_wp2_with ((go_at_call 29); (with_reducible refine (refnumber_calls _ _ _ _ HR.out hc HBY.out (by omega)).mono ?_); rw [HN.out]; rintro e w1 ⟨rfl, n1, rfl⟩)
    go_ret3
    exact ⟨rfl, pw_below_drewN (Below.refl _ _) _⟩
theorem num4_take (l : List Int) (h8 : 8 ≤ l.length) : num4 ((l.take 8).drop 4) = num4 (l.drop 4) := by
  have e : ∀ i, i < 4 → ((l.take 8).drop 4).getD i 0 = (l.drop 4).getD i 0 := by
    intro i hi
    simp only [List.getD_eq_getElem?_getD, List.getElem?_drop, List.getElem?_take]
    rw [if_pos (by omega)]
  unfold num4
  rw [e 0 (by omega), e 1 (by omega), e 2 (by omega), e 3 (by omega)]
theorem own_range {l : List Int} (hb : ∀ x ∈ l, 0 ≤ x ∧ x ≤ 255) : ∀ x ∈ ownOf l, 0 ≤ x ∧ x ≤ 255 := fun x hx => hb x (List.mem_of_mem_take (List.mem_of_mem_drop hx))
set_option maxHeartbeats 1600000 in
theorem first_bad (A : Option Addr) (c : Nat) (l : List Int) (w : World) (hr : U8.C w A l.length l) (hc : l.length ≤ c) (hb : ∀ x ∈ l, 0 ≤ x ∧ x ≤ 255) (h8 : 8 ≤ l.length) (h : 8 + num4 l ≤ l.length) (hs : sum (ownOf l) ≠ num4 (l.drop 4)) :
    Calls Try.prog 25 #[.slice A l.length c] w fun e w' => e = .returned (.tuple #[.slice none 0 0, .int .i64 (8 + num4 l), .int .i64 4]) ∧ Below w.heap.size w w' := by
  have HR := Aside0.mk hr
  have HBY := Aside0.mk hb
  have hm : l.length ≤ 9223372036854775807 := hr.2.1
  obtain ⟨hn0, hn1⟩ := num4_range hb
  obtain ⟨A2, c2, hk2, hC2, hl2⟩ := cutm A c l 8 (8 + num4 l) (by omega) (by omega) h hc
  obtain ⟨A3, c3, hk3, hC3, hl3⟩ := cutm A c l 4 8 (by omega) (by omega) (by omega) hc
  have HS := Aside0.mk hs
  have HC2 := Aside0.mk (hC2 _ hr)
  have HC3 := Aside0.mk (hC3 _ hr)
  have HBO := Aside0.mk (own_range hb)
  have h48 : num4 ((l.take 8).drop 4) = num4 (l.drop 4) := num4_take l h8
  have h4 : 4 ≤ ((l.take (8 : Int).toNat).drop (4 : Int).toNat).length := by rw [List.length_drop, List.length_take]; omega
  have HB4 : Aside0 (∀ x ∈ (l.take (8 : Int).toNat).drop (4 : Int).toNat, 0 ≤ x ∧ x ≤ 255) := ⟨fun x hx => hb x (List.mem_of_mem_take (List.mem_of_mem_drop hx))⟩
  have hn : ¬ (l.length : Int) < 8 + num4 l := by omega
  have ho : (l.take (8 + num4 l).toNat).drop (8 : Int).toNat = ownOf l := rfl
  have hl4 : (l.take (8 : Int).toNat).drop (4 : Int).toNat = (l.take 8).drop 4 := rfl
  rw [ho] at hk2 HC2 hl2
  rw [hl4] at hk3 HC3 hl3 h4 HB4
  clear hC2 hC3 ho hl4 hr hb hs
  rw [← h48] at HS
  clear h48
  generalize ownOf l = O at *
  generalize (l.take 8).drop 4 = D at *
  generalize hN : num4 l = N at *
  generalize hN4 : num4 D = N4 at *
  have HN := Aside0.mk hN
  have HN4 := Aside0.mk hN4
  have hne : (sum O == N4) = false := by simpa using HS.out
  have hne2 : (sum O != N4) = true := by simpa using HS.out
  clear hN hN4
  go_enter Try.func25, Try.ntmps25
  go_wp2_with ((go_at_call 29); (with_reducible refine (refnumber_calls _ _ _ _ ?_ hc HBY.out (by omega)).mono ?_); exact (by repeat (with_reducible first | exact HR.out | refine Kd.C_drewN ?_ _ | refine Kd.C_drew ?_)); rw [HN.out]; rintro e w1 ⟨rfl, n1, rfl⟩)
  go_region_with (first
    | ((go_at_call 12); (with_reducible refine (refsum_calls _ _ O _ ?_ hl2 HBO.out).mono ?_); exact (by repeat (with_reducible first | exact HC2.out | refine Kd.C_drewN ?_ _ | refine Kd.C_drew ?_)); rintro e w5 ⟨rfl, hb5⟩; have hf := Aside0.mk (below_step (w := w) (by repeat (with_reducible first | exact Below.refl _ _ | apply pw_below_drewN | apply below_drew1)) hb5); clear hb5)
    | ((go_at_call 29); (with_reducible refine (refnumber_calls _ _ D _ ?_ hl3 HB4.out h4).mono ?_); (repeat (with_reducible first | exact HC3.out | exact Kd.C_below HC3.out hf.out | refine Kd.C_drewN ?_ _ | refine Kd.C_drew ?_)); rw [HN4.out]; rintro e w1 ⟨rfl, n1, rfl⟩))
  all_goals go_wp2
  all_goals go_ret3
  all_goals exact ⟨by kernel_rfl, by repeat (with_reducible first | exact hf.out | apply pw_below_drewN | apply below_drew1)⟩

set_option maxHeartbeats 1600000 in
theorem first_ok (A : Option Addr) (c : Nat) (l : List Int) (w : World) (hr : U8.C w A l.length l) (hc : l.length ≤ c) (hb : ∀ x ∈ l, 0 ≤ x ∧ x ≤ 255) (h8 : 8 ≤ l.length) (h : 8 + num4 l ≤ l.length) (hs : sum (ownOf l) = num4 (l.drop 4)) :
    Calls Try.prog 25 #[.slice A l.length c] w fun e w' => ∃ v, e = .returned (.tuple #[v, .int .i64 (8 + num4 l), .int .i64 0]) ∧ RB w' v (ownOf l) ∧ Below w.heap.size w w' := by
  have HR := Aside0.mk hr
  have HBY := Aside0.mk hb
  have hm : l.length ≤ 9223372036854775807 := hr.2.1
  obtain ⟨hn0, hn1⟩ := num4_range hb
  obtain ⟨A2, c2, hk2, hC2, hl2⟩ := cutm A c l 8 (8 + num4 l) (by omega) (by omega) h hc
  obtain ⟨A3, c3, hk3, hC3, hl3⟩ := cutm A c l 4 8 (by omega) (by omega) (by omega) hc
  have HS := Aside0.mk hs
  have HC2 := Aside0.mk (hC2 _ hr)
  have HC3 := Aside0.mk (hC3 _ hr)
  have HBO := Aside0.mk (own_range hb)
  have h48 : num4 ((l.take 8).drop 4) = num4 (l.drop 4) := num4_take l h8
  have h4 : 4 ≤ ((l.take (8 : Int).toNat).drop (4 : Int).toNat).length := by rw [List.length_drop, List.length_take]; omega
  have HB4 : Aside0 (∀ x ∈ (l.take (8 : Int).toNat).drop (4 : Int).toNat, 0 ≤ x ∧ x ≤ 255) := ⟨fun x hx => hb x (List.mem_of_mem_take (List.mem_of_mem_drop hx))⟩
  have hn : ¬ (l.length : Int) < 8 + num4 l := by omega
  have ho : (l.take (8 + num4 l).toNat).drop (8 : Int).toNat = ownOf l := rfl
  have hl4 : (l.take (8 : Int).toNat).drop (4 : Int).toNat = (l.take 8).drop 4 := rfl
  rw [ho] at hk2 HC2 hl2
  rw [hl4] at hk3 HC3 hl3 h4 HB4
  clear hC2 hC3 ho hl4 hr hb hs
  rw [← h48] at HS
  clear h48
  generalize ownOf l = O at *
  generalize (l.take 8).drop 4 = D at *
  generalize hN : num4 l = N at *
  generalize hN4 : num4 D = N4 at *
  have HN := Aside0.mk hN
  have HN4 := Aside0.mk hN4
  have hne : (sum O == N4) = true := by simpa using HS.out
  have hne2 : (sum O != N4) = false := by simpa using HS.out
  clear hN hN4
  go_enter Try.func25, Try.ntmps25
  go_wp2_with ((go_at_call 29); (with_reducible refine (refnumber_calls _ _ _ _ ?_ hc HBY.out (by omega)).mono ?_); exact (by repeat (with_reducible first | exact HR.out | refine Kd.C_drewN ?_ _ | refine Kd.C_drew ?_)); rw [HN.out]; rintro e w1 ⟨rfl, n1, rfl⟩)
  go_region_with (first
    | ((go_at_call 12); (with_reducible refine (refsum_calls _ _ O _ ?_ hl2 HBO.out).mono ?_); exact (by repeat (with_reducible first | exact HC2.out | refine Kd.C_drewN ?_ _ | refine Kd.C_drew ?_)); rintro e w5 ⟨rfl, hb5⟩; have hf := Aside0.mk (below_step (w := w) (by repeat (with_reducible first | exact Below.refl _ _ | apply pw_below_drewN | apply below_drew1)) hb5); clear hb5)
    | ((go_at_call 29); (with_reducible refine (refnumber_calls _ _ D _ ?_ hl3 HB4.out h4).mono ?_); (repeat (with_reducible first | exact HC3.out | exact Kd.C_below HC3.out hf.out | refine Kd.C_drewN ?_ _ | refine Kd.C_drew ?_)); rw [HN4.out]; rintro e w1 ⟨rfl, n1, rfl⟩))
  all_goals go_wp2
  all_goals go_ret3
  all_goals exact ⟨.slice A2 O.length c2, by kernel_rfl, ⟨A2, c2, rfl, hl2, by repeat (with_reducible first | exact Kd.C_below HC2.out hf.out | refine Kd.C_drewN ?_ _ | refine Kd.C_drew ?_)⟩, by repeat (with_reducible first | exact hf.out | apply pw_below_drewN | apply below_drew1)⟩

end Go.Proofs.Ytohgmpkehncopaa.A
