/- The frames of bytes, one by one: the iterator check.all and what it hands out. -/
import Derived.Test.YtohgmpkehncopaaAOneBoth
import Derived.Test.YtohgmpkehncopaaAHeads
import Derived.Test.YtohgmpkehncopaaIRange
import Derived.Shelf.RegionOpen
import Derived.OwnWalkIn
import Derived.TacticsInMore
import Derived.LoopNIn
import Derived.LoopIn
namespace Go.Proofs.Ytohgmpkehncopaa.A
open Go Go.RowKit Go.Shelf Go.Proofs.YtohgmpkehncopaaW.PrintWords Go.Proofs.YtohgmpkehncopaaW.PrintLast Go.Proofs.YtohgmpkehncopaaW.PrintMore
attribute [local go_sem] Oper.semAt_some
set_option linter.unusedVariables false
set_option linter.unusedSimpArgs false

/-- Is there a whole frame at the beginning? -/
def okF (l : List Int) : Bool := !decide (Short l) && decide (sum (ownOf l) = num4 (l.drop 4))
theorem okF_iff (l : List Int) : okF l = true ↔ ¬ Short l ∧ sum (ownOf l) = num4 (l.drop 4) := by unfold okF; simp
/-- The frames at the beginning: their bytes. -/
def frs : Nat → List Int → List (List Int)
  | 0, _ => []
  | f + 1, l => if okF l then ownOf l :: frs f (restOf l) else []
theorem frs_yes {f : Nat} {l : List Int} (h : okF l = true) : frs (f + 1) l = ownOf l :: frs f (restOf l) := by rw [frs, if_pos h]
theorem frs_no {f : Nat} {l : List Int} (h : okF l = false) : frs (f + 1) l = [] := by rw [frs, if_neg (by rw [h]; simp)]
/-- How long frames are. -/
def frn (ll : List (List Int)) : Nat := ll.foldr (fun x n => x.length + 8 + n) 0
theorem frn_cons (x : List Int) (ll : List (List Int)) : frn (x :: ll) = x.length + 8 + frn ll := rfl
theorem frn_append (a b : List (List Int)) : frn (a ++ b) = frn a + frn b := by
  induction a with
  | nil => simp [frn]
  | cons x a ih => rw [List.cons_append, frn_cons, frn_cons, ih]; omega
theorem rest_len {l : List Int} (hb : ∀ x ∈ l, 0 ≤ x ∧ x ≤ 255) (h : okF l = true) : (restOf l).length + (ownOf l).length + 8 = l.length := by
  have h1 := ((okF_iff l).1 h).1
  obtain ⟨n0, n1⟩ := num4_range hb
  unfold Short at h1
  unfold restOf ownOf
  rw [List.length_drop, List.length_drop, List.length_take]
  omega
theorem rest_range {l : List Int} (hb : ∀ x ∈ l, 0 ≤ x ∧ x ≤ 255) : ∀ x ∈ restOf l, 0 ≤ x ∧ x ≤ 255 := fun x hx => hb x (List.mem_of_mem_drop hx)
theorem frn_frs : ∀ (f : Nat) (l : List Int), (∀ x ∈ l, 0 ≤ x ∧ x ≤ 255) → frn (frs f l) ≤ l.length
  | 0, l, _ => by simp [frs, frn]
  | f + 1, l, hb => by
    unfold frs
    split
    · rename_i h
      have h1 := rest_len hb h
      have h2 := frn_frs f (restOf l) (rest_range hb)
      rw [frn_cons]
      omega
    · simp [frn]
theorem frs_len (ll : List (List Int)) : 8 * ll.length ≤ frn ll := by
  induction ll with
  | nil => simp [frn]
  | cons x ll ih => rw [frn_cons, List.length_cons]; omega
theorem one_no (A : Option Addr) (n c : Nat) (l : List Int) (w : World) (hr : U8.C w A n l) (hc : n ≤ c) (hb : ∀ x ∈ l, 0 ≤ x ∧ x ≤ 255) (h : okF l = false) :
    Calls Try.prog 24 #[.slice A n c] w fun e w' => ∃ A1 m1 c1 er, e = .returned (.tuple #[.slice none 0 0, .slice A1 m1 c1, .int .i64 er]) ∧ (er != 0) = true ∧ Below w.heap.size w w' := by
  have hn := hr.1
  subst hn
  by_cases hs : Short l
  · refine (one_short A c l w hr hc hb hs).mono ?_
    rintro e w' ⟨rfl, hb1⟩
    exact ⟨_, _, _, _, rfl, rfl, hb1⟩
  · have hs' := hs
    unfold Short at hs'
    refine (one_bad A c l w hr hc hb (by omega) (by omega) ?_).mono ?_
    · intro e
      rw [(okF_iff l).2 ⟨hs, e⟩] at h
      cases h
    · rintro e w' ⟨A1, c1, rfl, _, _, hb1⟩
      exact ⟨_, _, _, _, rfl, rfl, hb1⟩
set_option maxHeartbeats 1600000 in
theorem one_yes (A : Option Addr) (n c : Nat) (l : List Int) (w : World) (hr : U8.C w A n l) (hc : n ≤ c) (hb : ∀ x ∈ l, 0 ≤ x ∧ x ≤ 255) (h : okF l = true) :
    Calls Try.prog 24 #[.slice A n c] w fun e w' => ∃ v A1 c1, e = .returned (.tuple #[v, .slice A1 (restOf l).length c1, .int .i64 0]) ∧ OB w' w.heap.size v (ownOf l) ∧ (restOf l).length ≤ c1 ∧ (∀ W : World, U8.C W A n l → U8.C W A1 (restOf l).length (restOf l)) ∧ Below w.heap.size w w' := by
  have hnl := hr.1
  subst hnl
  obtain ⟨hs1, hs⟩ := (okF_iff l).1 h
  have hs2 := hs1
  unfold Short at hs2
  have h8 : 8 ≤ l.length := by omega
  have h : 8 + num4 l ≤ l.length := by omega
  clear hs1 hs2
  have HR := Aside0.mk hr
  have HBY := Aside0.mk hb
  have hm : l.length ≤ 9223372036854775807 := hr.2.1
  obtain ⟨hn0, hn1⟩ := num4_range hb
  obtain ⟨A1, c1, hk1, hC1, hl1⟩ := cutf A c l (8 + num4 l) (by omega) h hc
  obtain ⟨A2, c2, hk2, hC2, hl2⟩ := cutm A c l 8 (8 + num4 l) (by omega) (by omega) h hc
  obtain ⟨A3, c3, hk3, hC3, hl3⟩ := cutf A c l 4 (by omega) (by omega) hc
  have HS := Aside0.mk hs
  have HC1 := Aside0.mk hC1
  have HC2 := Aside0.mk (hC2 _ hr)
  have HC3 := Aside0.mk (hC3 _ hr)
  have h4 : 4 ≤ (l.drop 4).length := by rw [List.length_drop]; omega
  have HB4 := Aside0.mk (tail4_range hb 4)
  have hn : ¬ (l.length : Int) - 8 < num4 l := by omega
  have ho : (l.take (8 + num4 l).toNat).drop (8 : Int).toNat = ownOf l := rfl
  have hre : l.drop (8 + num4 l).toNat = restOf l := rfl
  have hl4 : l.drop (4 : Int).toNat = l.drop 4 := rfl
  rw [ho] at hk2 HC2 hl2
  rw [hre] at hk1 HC1 hl1
  rw [hl4] at hk3 HC3 hl3
  clear hC1 hC2 hC3 ho hre hl4 hr hb hs
  have hol : (ownOf l).length ≤ 140737488000000 := by unfold ownOf; rw [List.length_drop, List.length_take]; omega
  generalize ownOf l = O at *
  generalize restOf l = R at *
  generalize l.drop 4 = D at *
  generalize hN : num4 l = N at *
  generalize hN4 : num4 D = N4 at *
  have HN := Aside0.mk hN
  have HN4 := Aside0.mk hN4
  have hne : (sum O == N4) = true := by simpa using HS.out
  have hne2 : (sum O != N4) = false := by simpa using HS.out
  clear hN hN4
  go_enter Try.func24, Try.ntmps24
  go_wp2_with ((go_at_call 27); (with_reducible refine (number_calls _ _ _ _ ?_ hc HBY.out (by omega)).mono ?_); exact (by repeat (with_reducible first | exact HR.out | refine Kd.C_drewN ?_ _ | refine Kd.C_drew ?_)); rw [HN.out]; rintro e w1 ⟨rfl, n1, rfl⟩)
  go_region_with (first
    | ((go_at_call 11); (with_reducible refine (sum_calls _ _ _ _ ?_ hl2).mono ?_); exact (by repeat (with_reducible first | exact HC2.out | refine Kd.C_drewN ?_ _ | refine Kd.C_drew ?_)); rintro e w5 ⟨rfl, rfl⟩)
    | ((go_at_call 27); (with_reducible refine (number_calls _ _ D _ ?_ hl3 HB4.out h4).mono ?_); exact (by repeat (with_reducible first | exact HC3.out | refine Kd.C_drewN ?_ _ | refine Kd.C_drew ?_)); rw [HN4.out]; rintro e w1 ⟨rfl, n1, rfl⟩))
  all_goals go_wp2
  all_goals go_region_with ((go_at_call 28); (with_reducible refine (clone_calls _ _ O _ ?_ hl2 hol).mono ?_); exact (by repeat (with_reducible first | exact HC2.out | refine Kd.C_drewN ?_ _ | refine Kd.C_drew ?_)); rintro e w8 ⟨v8, rfl, HO8, hb8⟩)
  all_goals go_wp2
  all_goals go_ret3
  all_goals have hbf := below_step (w := w) (by repeat (with_reducible first | exact Below.refl _ _ | apply pw_below_drewN | apply below_drew1)) hb8
  all_goals exact ⟨v8, A1, c1, by kernel_rfl, HO8, hl1, HC1.out, hbf⟩

end Go.Proofs.Ytohgmpkehncopaa.A
