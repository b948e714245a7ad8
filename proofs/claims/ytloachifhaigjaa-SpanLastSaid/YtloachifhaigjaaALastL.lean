/- What is told of a time is what was put over it last: the plain law; the document's order of pieces. -/
import Derived.Test.YtloachifhaigjaaAOver
import Derived.Test.YtloachifhaigjaaATaken
import Derived.Test.YtloachifhaigjaaALeastL
namespace Go.Proofs.Ytloachifhaigjaa.A
open Go.RowKit Go.Proofs.YtloachifhaigjaaW.PrintWords Go.Proofs.YtloachifhaigjaaW.PrintLast Go.Proofs.YtloachifhaigjaaW.PrintMore
set_option linter.unusedVariables false
set_option linter.unusedSimpArgs false

theorem at_none_left {l r : List Pc} {x : Int} (h : (atL (l ++ r) x).2 = false) : (atL l x).2 = false := by
  rw [at_app] at h
  cases h2 : (atL l x).2 with
  | false => rfl
  | true => rw [h2] at h; simp [h2] at h
theorem at_over (l : List Pc) (p : Pc) (x : Int) : atL (overL l p) x = if p.sp.has x then (p.v, true) else atL l x := by
  by_cases hm : p.sp.may = true
  · rw [overL_true hm, over_first]
    have hW : withoutL l p.sp = l.flatMap (wo p.sp) := without_may hm
    have ht : (l.flatMap (wo p.sp)).take (firstAt p.t (l.flatMap (wo p.sp))) ++ (l.flatMap (wo p.sp)).drop (firstAt p.t (l.flatMap (wo p.sp))) = l.flatMap (wo p.sp) := List.take_append_drop _ _
    by_cases hh : p.sp.has x = true
    · rw [if_pos hh]
      have h1 := at_taken l p.sp x hh
      rw [hW, ← ht] at h1
      have h2 : (atL ((l.flatMap (wo p.sp)).take (firstAt p.t (l.flatMap (wo p.sp)))) x).2 = false := at_none_left (by rw [h1])
      rw [at_app, h2, atL, if_pos hh]
      rfl
    · have hf : p.sp.has x = false := by simpa using hh
      rw [if_neg hh, at_app, atL, if_neg hh]
      have h1 := at_left l p.sp x hf
      rw [hW, ← ht, at_app] at h1
      exact h1
  · have e : overL l p = l := if_neg hm
    have hh : p.sp.has x = false := by unfold Sp.has; simp [hm]
    rw [e, hh]
    rfl
/-- Pieces in order. -/
def Ordd (l : List Pc) : Prop := (∀ q ∈ l, q.sp.may = true) ∧ l.Pairwise (fun a b => a.t ≤ b.f)
theorem minus_lies (a s : Sp) (hs : s.may = true) : (∀ r ∈ minusL a s, r.may = true ∧ a.f ≤ r.f ∧ r.t ≤ a.t ∧ (r.t ≤ s.f ∨ s.t ≤ r.f)) ∧ (minusL a s).Pairwise (fun r q => r.t ≤ q.f) := by
  obtain ⟨a, b⟩ := a
  obtain ⟨c, d⟩ := s
  by_cases hm : Sp.may ⟨a, b⟩ = true
  · have h1 := (may_iff _).1 hm
    have h2 := (may_iff _).1 hs
    simp only at h1 h2
    by_cases hb : meetB ⟨a, b⟩ ⟨c, d⟩ = true
    · have e : minusL ⟨a, b⟩ ⟨c, d⟩ = (twoOf ⟨a, b⟩ (meetV ⟨a, b⟩ ⟨c, d⟩)).filter Sp.may := by unfold minusL; rw [if_pos hm, if_pos hb]
      have hx : (meetV ⟨a, b⟩ ⟨c, d⟩).f = max a c ∧ (meetV ⟨a, b⟩ ⟨c, d⟩).t = min b d := by
        constructor
        · simp only [meetV]; split <;> omega
        · simp only [meetV]; split <;> omega
      have h3 := (may_iff _).1 (meetB_may hb).2.2
      rw [e]
      generalize meetV ⟨a, b⟩ ⟨c, d⟩ = m at *
      obtain ⟨mf, mt⟩ := m
      simp only at hx h3
      refine ⟨fun r hr => ?_, ?_⟩
      · obtain ⟨h4, h5⟩ := List.mem_filter.1 hr
        have h6 := (may_iff _).1 h5
        simp only [twoOf, List.mem_cons, List.not_mem_nil, or_false] at h4
        rcases h4 with rfl | rfl
        · simp only at h6 ⊢
          exact ⟨h5, by omega, by omega, by omega⟩
        · simp only at h6 ⊢
          exact ⟨h5, by omega, by omega, by omega⟩
      · refine List.Pairwise.filter _ ?_
        simp only [twoOf, List.pairwise_cons, List.mem_singleton, List.not_mem_nil, false_imp_iff, implies_true, List.Pairwise.nil, and_true, forall_eq]
        omega
    · have e : minusL ⟨a, b⟩ ⟨c, d⟩ = [⟨a, b⟩] := by unfold minusL; rw [if_pos hm, if_neg hb]
      rw [e]
      have h3 : ¬ (c < b ∧ a < d) := fun h => hb ((meetB_iff a b c d hm hs).2 h)
      refine ⟨fun r hr => ?_, by simp⟩
      obtain rfl := List.mem_singleton.1 hr
      simp only
      exact ⟨hm, by omega, by omega, by omega⟩
  · have e : minusL ⟨a, b⟩ ⟨c, d⟩ = [] := by unfold minusL; rw [if_neg hm]
    rw [e]
    exact ⟨by simp, by simp⟩
theorem wo_ordd (s : Sp) (hs : s.may = true) (l : List Pc) (h : Ordd l) : Ordd (l.flatMap (wo s)) ∧ ∀ q ∈ l.flatMap (wo s), q.t ≤ s.f ∨ s.t ≤ q.f := by
  induction l with
  | nil => exact ⟨⟨by simp, by simp⟩, by simp⟩
  | cons p l ih =>
    obtain ⟨h1, h2⟩ := h
    rw [List.pairwise_cons] at h2
    obtain ⟨⟨i1, i2⟩, i3⟩ := ih ⟨fun q hq => h1 q (List.mem_cons_of_mem _ hq), h2.2⟩
    obtain ⟨m1, m2⟩ := minus_lies p.sp s hs
    have hw : ∀ q ∈ wo s p, q.sp.may = true ∧ p.f ≤ q.f ∧ q.t ≤ p.t ∧ (q.t ≤ s.f ∨ s.t ≤ q.f) := by
      intro q hq
      obtain ⟨r, hr, rfl⟩ := List.mem_map.1 hq
      exact m1 r hr
    have hl : ∀ q ∈ l.flatMap (wo s), p.t ≤ q.f := by
      intro q hq
      obtain ⟨o, ho, hq⟩ := List.mem_flatMap.1 hq
      obtain ⟨r, hr, rfl⟩ := List.mem_map.1 hq
      have := (minus_lies o.sp s hs).1 r hr
      have h3 := h2.1 o ho
      have h4 : o.f ≤ r.f := this.2.1
      simp only
      omega
    rw [List.flatMap_cons]
    refine ⟨⟨?_, ?_⟩, ?_⟩
    · intro q hq
      rcases List.mem_append.1 hq with hq | hq
      · exact (hw q hq).1
      · exact i1 q hq
    · rw [List.pairwise_append]
      refine ⟨?_, i2, fun a ha b hb => ?_⟩
      · unfold wo
        rw [List.pairwise_map]
        exact m2
      · have := hw a ha
        have := hl b hb
        omega
    · intro q hq
      rcases List.mem_append.1 hq with hq | hq
      · exact (hw q hq).2.2.2
      · exact i3 q hq
theorem first_parts (t : Int) (l : List Pc) (h : l.Pairwise (fun a b => a.t ≤ b.f)) (hm : ∀ q ∈ l, q.sp.may = true) : (∀ q ∈ l.take (firstAt t l), q.f < t) ∧ ∀ q ∈ l.drop (firstAt t l), t ≤ q.f := by
  induction l with
  | nil => simp
  | cons q l ih =>
    rw [List.pairwise_cons] at h
    have hq := (may_iff _).1 (hm q (List.mem_cons_self ..))
    have ih := ih h.2 (fun o ho => hm o (List.mem_cons_of_mem _ ho))
    unfold firstAt
    by_cases ht : t ≤ q.f
    · rw [if_pos ht]
      refine ⟨by simp, fun o ho => ?_⟩
      rw [List.drop_zero] at ho
      rcases List.mem_cons.1 ho with rfl | ho
      · exact ht
      · have := h.1 o ho
        have h5 : q.f < q.t := hq.2.1
        omega
    · rw [if_neg ht, List.take_succ_cons, List.drop_succ_cons]
      refine ⟨fun o ho => ?_, ih.2⟩
      rcases List.mem_cons.1 ho with rfl | ho
      · omega
      · exact ih.1 o ho
theorem over_ordd (l : List Pc) (p : Pc) (h : Ordd l) : Ordd (overL l p) := by
  by_cases hm : p.sp.may = true
  · rw [overL_true hm, over_first]
    obtain ⟨⟨h1, h2⟩, h3⟩ := wo_ordd p.sp hm l h
    obtain ⟨f1, f2⟩ := first_parts p.t _ h2 h1
    generalize l.flatMap (wo p.sp) = W at *
    have hp := (may_iff _).1 hm
    have hp1 : p.f < p.t := hp.2.1
    have hT : ∀ q ∈ W.take (firstAt p.t W), q ∈ W := fun q hq => List.mem_of_mem_take hq
    have hD : ∀ q ∈ W.drop (firstAt p.t W), q ∈ W := fun q hq => List.mem_of_mem_drop hq
    have h2' := h2
    rw [← List.take_append_drop (firstAt p.t W) W, List.pairwise_append] at h2'
    have ht : ∀ q ∈ W.take (firstAt p.t W), q.t ≤ p.f := by
      intro q hq
      have h4 := f1 q hq
      rcases h3 q (hT q hq) with h5 | h5
      · exact h5
      · have h6 : p.t ≤ q.f := h5
        omega
    refine ⟨fun q hq => ?_, ?_⟩
    · rcases List.mem_append.1 hq with hq | hq
      · exact h1 q (hT q hq)
      · rcases List.mem_cons.1 hq with rfl | hq
        · exact hm
        · exact h1 q (hD q hq)
    · rw [List.pairwise_append, List.pairwise_cons]
      refine ⟨h2'.1, ⟨f2, h2'.2.1⟩, fun a ha b hb => ?_⟩
      rcases List.mem_cons.1 hb with rfl | hb
      · exact ht a ha
      · exact h2'.2.2 a ha b hb
  · have e : overL l p = l := if_neg hm
    rw [e]
    exact h
theorem madeK_ordd (l : List Pc) (k : Nat) : Ordd (madeK l k) := by
  induction k with
  | zero => exact ⟨by simp [madeK], by simp [madeK]⟩
  | succ k ih =>
    by_cases h : k < l.length
    · rw [madeK_succ l k h]
      exact over_ordd _ _ ih
    · have e : madeK l (k + 1) = madeK l k := by unfold madeK; rw [List.take_of_length_le (by omega), List.take_of_length_le (by omega)]
      rw [e]
      exact ih
theorem ordd_at {l : List Pc} (h : Ordd l) (k : Nat) (hk : k < l.length) : (l.getD k default).sp.may = true := by
  have e : l.getD k default = l[k] := by simp [List.getD_eq_getElem?_getD, hk]
  rw [e]
  exact h.1 _ (List.getElem_mem _)
theorem ordd_two {l : List Pc} (h : Ordd l) (k : Nat) (hk : k + 1 < l.length) : (l.getD k default).t ≤ (l.getD (k + 1) default).f := by
  have e : l.getD k default = l[k] := by simp [List.getD_eq_getElem?_getD, show k < l.length by omega]
  have e2 : l.getD (k + 1) default = l[k + 1] := by simp [List.getD_eq_getElem?_getD, hk]
  rw [e, e2]
  exact List.pairwise_iff_getElem.1 h.2 k (k + 1) (by omega) hk (by omega)
set_option maxRecDepth 100000 in
set_option maxHeartbeats 2000000 in
theorem ordered_calls (A : Option Addr) (n c : Nat) (l : List Pc) (w : World) (hr : KPc.C w A n l) (hc : n ≤ c) (ho : Ordd l) :
    Calls Try.prog 30 #[.slice A n c] w fun e w' => e = .returned (.bool true) ∧ Below w.heap.size w w' := by
  have HR := Aside0.mk hr
  have HN := Aside0.mk hr.1
  have HO := Aside0.mk ho
  have hm : n ≤ 9223372036854775807 := hr.2.1
  clear hr ho
  go_enter Try.func30, Try.ntmps30
  go_wp2_with fail
  go_loopw [3] (fun v3 w' => ∃ k : Nat, k ≤ n ∧ v3 = .int .i64 k ∧ Aside0 (Below w.heap.size w w')) (fun v3 _ => n - (intOf v3).toNat)
  case atStart => exact ⟨0, Nat.zero_le _, rfl, ⟨Below.refl _ _⟩⟩
  case round =>
    obtain ⟨k, hk, rfl, HB⟩ := hrel
    by_cases hlt : k < n
    · obtain ⟨ad, rfl, q0, q1, q2⟩ := C_atPc HR.out k hlt
      have p0 := pw_cell_below HB.out q0
      have p1 := pw_cell_below HB.out q1
      have Q0 := Aside0.mk q0
      have hmay := ordd_at HO.out k (by rw [HN.out]; exact hlt)
      clear q0 q1 q2
      generalize hq : l.getD k default = q at *
      have HQ := Aside0.mk hq
      obtain ⟨qf, qt, qv⟩ := q
      simp only at p0 p1
      have HM : Aside0 (Sp.may ⟨qf, qt⟩ = true) := ⟨hmay⟩
      clear hmay hq
      have i1 : (k : Int) < (n : Int) := by omega
      have i2 : (0 : Int) ≤ (k : Int) := by omega
      go_wp2_with fail
      (with_reducible refine (rmay_calls _ _ _).mono ?_)
      rw [HM.out]
      rintro e w1 ⟨rfl, rfl⟩
      have HB2 := Aside0.mk (below_alloc HB.out (spBox qf qt))
      clear HB p0 p1
      generalize wr.alloc (spBox qf qt) = w1 at *
      have p0 := pw_cell_below HB2.out Q0.out
      go_wp2_with fail
      by_cases h0 : k = 0
      · subst h0
        go_quiet (fail)
        have hbr : Below w1.heap.size w1 (w1.drewN nq) := by repeat (with_reducible first | exact Below.refl _ _ | apply pw_below_drewN)
        have HBn := Aside0.mk (below_step HB2.out hbr)
        clear hbr HB2 p0
        go_wp2_with fail
        go_roundw
        case rel => exact ⟨1, hlt, rfl, HBn⟩
        case measure => simp [intOf]; omega
      · obtain ⟨j, rfl⟩ : ∃ j, k = j + 1 := ⟨k - 1, by omega⟩
        have h2 := ordd_two HO.out j (by rw [HN.out]; exact hlt)
        obtain ⟨ad', e, r0, r1, r2⟩ := C_atPc HR.out j (by omega)
        injection e with e
        subst e
        rw [HQ.out] at h2
        simp only at h2
        generalize l.getD j default = o at *
        obtain ⟨of, ot, ov⟩ := o
        simp only at r0 r1 r2 h2
        have s1 := pw_cell_below HB2.out r1
        clear r0 r1 r2
        have j1 : (0 : Int) < (j : Int) + 1 := by omega
        have j2 : (j : Int) + 1 - 1 = (j : Int) := by omega
        have j3 : (j : Int) < (n : Int) := by omega
        have j4 : (0 : Int) ≤ (j : Int) := by omega
        have j5 : j < n := by omega
        have j6 : (j : Int) + 1 < (n : Int) := by omega
        have j7 : (0 : Int) ≤ (j : Int) + 1 := by omega
        have j8 : ((j : Int) + 1).toNat = j + 1 := by omega
        have hd : (decide (qf < ot)) = false := decide_eq_false (by omega)
        go_quiet (fail)
        clear j2 j8 hd
        have hbr : Below w1.heap.size w1 (w1.drewN nq) := by repeat (with_reducible first | exact Below.refl _ _ | apply pw_below_drewN)
        have HBn := Aside0.mk (below_step HB2.out hbr)
        clear hbr HB2 p0 s1
        go_wp2_with fail
        go_roundw
        case rel => exact ⟨j + 1 + 1, hlt, rfl, HBn⟩
        case measure => simp [intOf]; omega
    · obtain rfl : k = n := by omega
      go_wp2_with fail
      go_ret
      exact ⟨rfl, HB.out⟩
end Go.Proofs.Ytloachifhaigjaa.A
