/- The document's first frame, and what both tell of one frame alone. -/
import Derived.Test.YtohgmpkehncopaaAFirst
namespace Go.Proofs.Ytohgmpkehncopaa.A
open Go.RowKit Go.Proofs.YtohgmpkehncopaaW.PrintWords Go.Proofs.YtohgmpkehncopaaW.PrintLast Go.Proofs.YtohgmpkehncopaaW.PrintMore
set_option linter.unusedVariables false
set_option linter.unusedSimpArgs false

/-- The document's error of one frame alone, and its bytes. -/
def oneErr (l : List Int) : Int := if Short l then 3 else if 8 + num4 l < l.length then 2 else if sum (ownOf l) = num4 (l.drop 4) then 0 else 4
def oneOwn (l : List Int) : List Int := if oneErr l = 0 then ownOf l else []

set_option maxHeartbeats 1600000 in
theorem One_calls (A : Option Addr) (c : Nat) (l : List Int) (w : World) (hr : U8.C w A l.length l) (hc : l.length ≤ c) (hb : ∀ x ∈ l, 0 ≤ x ∧ x ≤ 255) :
    Calls Try.prog 16 #[.slice A l.length c] w fun e w' => ∃ v, e = .returned (.tuple #[v, .int .i64 (oneErr l)]) ∧ RB w' v (oneOwn l) ∧ Below w.heap.size w w' := by
  have HR := Aside0.mk hr
  have HBY := Aside0.mk hb
  clear hr hb
  by_cases hs : Short l
  · have e1 : oneErr l = 3 := by unfold oneErr; rw [if_pos hs]
    have e2 : oneOwn l = [] := by unfold oneOwn; rw [e1]; rfl
    rw [e1, e2]
    have HSH : Aside0 (l.length < 8 ∨ (l.length : Int) < 8 + num4 l) := ⟨hs⟩
    clear hs e1 e2
    go_enter Try.func16, Try.ntmps16
    go_wp2_with fail
    (with_reducible refine (one_short _ _ l _ HR.out hc HBY.out HSH.out).mono ?_)
    rintro e w1 ⟨rfl, hb1⟩
    go_wp2
    go_ret2
    exact ⟨_, rfl, RB_nil _, hb1⟩
  · have hs' := hs
    unfold Short at hs'
    have h8 : 8 ≤ l.length := by omega
    have hn : 8 + num4 l ≤ l.length := by omega
    have hn0 := num4_range HBY.out
    have hrl : (restOf l).length = l.length - (8 + num4 l).toNat := by unfold restOf; rw [List.length_drop]
    by_cases hq : sum (ownOf l) = num4 (l.drop 4)
    · by_cases hrest : 8 + num4 l < l.length
      · have e1 : oneErr l = 2 := by unfold oneErr; rw [if_neg hs, if_pos hrest]
        have e2 : oneOwn l = [] := by unfold oneOwn; rw [e1]; rfl
        rw [e1, e2]
        have h0 : 0 < (restOf l).length := by omega
        have h0' : decide ((0 : Int) < ((restOf l).length : Int)) = true := decide_eq_true (by omega)
        have HQ := Aside0.mk hq
        have HN := Aside0.mk hn
        clear hs hs' e1 e2 hq hn hn0 hrl hrest
        go_enter Try.func16, Try.ntmps16
        go_wp2_with fail
        (with_reducible refine (one_ok _ _ l _ HR.out hc HBY.out h8 HN.out HQ.out).mono ?_)
        rintro e w1 ⟨v1, A1, c1, rfl, HO, hl1, HC1, hb1⟩
        generalize restOf l = R at *
        go_wp2
        go_ret2
        exact ⟨_, rfl, RB_nil _, hb1⟩
      · have e1 : oneErr l = 0 := by unfold oneErr; rw [if_neg hs, if_neg hrest, if_pos hq]
        have e2 : oneOwn l = ownOf l := by unfold oneOwn; rw [e1]; rfl
        rw [e1, e2]
        have h0 : (restOf l).length = 0 := by omega
        have HQ := Aside0.mk hq
        have HN := Aside0.mk hn
        clear hs hs' e1 e2 hq hn hn0 hrl hrest
        go_enter Try.func16, Try.ntmps16
        go_wp2_with fail
        (with_reducible refine (one_ok _ _ l _ HR.out hc HBY.out h8 HN.out HQ.out).mono ?_)
        rintro e w1 ⟨v1, A1, c1, rfl, HO, hl1, HC1, hb1⟩
        rw [h0]
        go_wp2
        go_ret2
        exact ⟨_, rfl, OB_read HO, hb1⟩
    · by_cases hrest : 8 + num4 l < l.length
      · have e1 : oneErr l = 2 := by unfold oneErr; rw [if_neg hs, if_pos hrest]
        have e2 : oneOwn l = [] := by unfold oneOwn; rw [e1]; rfl
        rw [e1, e2]
        have h0 : 0 < (restOf l).length := by omega
        have h0' : decide ((0 : Int) < ((restOf l).length : Int)) = true := decide_eq_true (by omega)
        have HQ := Aside0.mk hq
        have HN := Aside0.mk hn
        clear hs hs' e1 e2 hq hn hn0 hrl hrest
        go_enter Try.func16, Try.ntmps16
        go_wp2_with fail
        (with_reducible refine (one_bad _ _ l _ HR.out hc HBY.out h8 HN.out HQ.out).mono ?_)
        rintro e w1 ⟨A1, c1, rfl, hl1, HC1, hb1⟩
        generalize restOf l = R at *
        go_wp2
        go_ret2
        exact ⟨_, rfl, RB_nil _, hb1⟩
      · have e1 : oneErr l = 4 := by unfold oneErr; rw [if_neg hs, if_neg hrest, if_neg hq]
        have e2 : oneOwn l = [] := by unfold oneOwn; rw [e1]; rfl
        rw [e1, e2]
        have h0 : (restOf l).length = 0 := by omega
        have HQ := Aside0.mk hq
        have HN := Aside0.mk hn
        clear hs hs' e1 e2 hq hn hn0 hrl hrest
        go_enter Try.func16, Try.ntmps16
        go_wp2_with fail
        (with_reducible refine (one_bad _ _ l _ HR.out hc HBY.out h8 HN.out HQ.out).mono ?_)
        rintro e w1 ⟨A1, c1, rfl, hl1, HC1, hb1⟩
        rw [h0]
        go_wp2
        go_ret2
        exact ⟨_, rfl, RB_nil _, hb1⟩

set_option maxHeartbeats 1600000 in
theorem refOne_calls (A : Option Addr) (c : Nat) (l : List Int) (w : World) (hr : U8.C w A l.length l) (hc : l.length ≤ c) (hb : ∀ x ∈ l, 0 ≤ x ∧ x ≤ 255) :
    Calls Try.prog 17 #[.slice A l.length c] w fun e w' => ∃ v, e = .returned (.tuple #[v, .int .i64 (oneErr l)]) ∧ RB w' v (oneOwn l) ∧ Below w.heap.size w w' := by
  have HR := Aside0.mk hr
  have HBY := Aside0.mk hb
  have hm : l.length ≤ 9223372036854775807 := hr.2.1
  clear hr hb
  by_cases hs : Short l
  · have e1 : oneErr l = 3 := by unfold oneErr; rw [if_pos hs]
    have e2 : oneOwn l = [] := by unfold oneOwn; rw [e1]; rfl
    rw [e1, e2]
    have HSH := Aside0.mk hs
    clear hs e1 e2
    go_enter Try.func17, Try.ntmps17
    go_wp2_with fail
    (with_reducible refine (first_short _ _ l _ HR.out hc HBY.out HSH.out).mono ?_)
    rintro e w1 ⟨rfl, hb1⟩
    go_wp2
    go_ret2
    exact ⟨_, rfl, RB_nil _, hb1⟩
  · have hs' := hs
    unfold Short at hs'
    have h8 : 8 ≤ l.length := by omega
    have hn : 8 + num4 l ≤ l.length := by omega
    obtain ⟨hn0, hn1⟩ := num4_range HBY.out
    have HN := Aside0.mk hn
    by_cases hrest : 8 + num4 l < l.length
    · have e1 : oneErr l = 2 := by unfold oneErr; rw [if_neg hs, if_pos hrest]
      have e2 : oneOwn l = [] := by unfold oneOwn; rw [e1]; rfl
      rw [e1, e2]
      clear hs hs' e1 e2
      by_cases hq : sum (ownOf l) = num4 (l.drop 4)
      · have HQ := Aside0.mk hq
        clear hq
        go_enter Try.func17, Try.ntmps17
        go_wp2_with fail
        (with_reducible refine (first_ok _ _ l _ HR.out hc HBY.out h8 HN.out HQ.out).mono ?_)
        rintro e w1 ⟨v1, rfl, HO, hb1⟩
        generalize num4 l = N at *
        go_wp2
        go_ret2
        exact ⟨_, rfl, RB_nil _, hb1⟩
      · have HQ := Aside0.mk hq
        clear hq
        go_enter Try.func17, Try.ntmps17
        go_wp2_with fail
        (with_reducible refine (first_bad _ _ l _ HR.out hc HBY.out h8 HN.out HQ.out).mono ?_)
        rintro e w1 ⟨rfl, hb1⟩
        generalize num4 l = N at *
        go_wp2
        go_ret2
        exact ⟨_, rfl, RB_nil _, hb1⟩
    · by_cases hq : sum (ownOf l) = num4 (l.drop 4)
      · have e1 : oneErr l = 0 := by unfold oneErr; rw [if_neg hs, if_neg hrest, if_pos hq]
        have e2 : oneOwn l = ownOf l := by unfold oneOwn; rw [e1]; rfl
        rw [e1, e2]
        have HQ := Aside0.mk hq
        clear hs hs' e1 e2 hq
        go_enter Try.func17, Try.ntmps17
        go_wp2_with fail
        (with_reducible refine (first_ok _ _ l _ HR.out hc HBY.out h8 HN.out HQ.out).mono ?_)
        rintro e w1 ⟨v1, rfl, HO, hb1⟩
        generalize num4 l = N at *
        have hrest' : (l.length : Int) ≤ 8 + N := by omega
        go_wp2
        go_ret2
        exact ⟨_, rfl, HO, hb1⟩
      · have e1 : oneErr l = 4 := by unfold oneErr; rw [if_neg hs, if_neg hrest, if_neg hq]
        have e2 : oneOwn l = [] := by unfold oneOwn; rw [e1]; rfl
        rw [e1, e2]
        have HQ := Aside0.mk hq
        clear hs hs' e1 e2 hq
        go_enter Try.func17, Try.ntmps17
        go_wp2_with fail
        (with_reducible refine (first_bad _ _ l _ HR.out hc HBY.out h8 HN.out HQ.out).mono ?_)
        rintro e w1 ⟨rfl, hb1⟩
        generalize num4 l = N at *
        have hrest' : (l.length : Int) ≤ 8 + N := by omega
        go_wp2
        go_ret2
        exact ⟨_, rfl, RB_nil _, hb1⟩

end Go.Proofs.Ytohgmpkehncopaa.A
