/- Which versions may be: the program's and the document's. -/
import Derived.Test.YtmkabbfglijckaaBVer
import Derived.Test.YtmkabbfglijckaaOFour
import Derived.Test.YtmkabbfglijckaaSOne
namespace Go.Proofs.Ytmkabbfglijckaa.A
open Go.RowKit Go.Proofs.YtmkabbfglijckaaW.PrintWords Go.Proofs.YtmkabbfglijckaaW.PrintLast Go.Proofs.YtmkabbfglijckaaW.PrintMore
set_option linter.unusedVariables false
set_option linter.unusedSimpArgs false

def inB (n lo hi : Int) : Bool := decide (lo ≤ n ∧ n ≤ hi)
theorem in_calls (n lo hi : Int) (w : World) : Calls Try.prog 32 #[.int .i64 n, .int .i64 lo, .int .i64 hi] w fun e w' => e = .returned (.bool (inB n lo hi)) ∧ w' = w := by
  by_cases h1 : lo ≤ n
  · by_cases h2 : n ≤ hi
    · have e : inB n lo hi = true := by simp [inB, h1, h2]
      rw [e]
      go_enter Try.func32, Try.ntmps32
      go_wp2
      go_ret
      exact ⟨rfl, rfl⟩
    · have e : inB n lo hi = false := by simp [inB, h2]
      rw [e]
      have hd : decide (n ≤ hi) = false := decide_eq_false h2
      go_enter Try.func32, Try.ntmps32
      go_wp2
      go_ret
      exact ⟨rfl, rfl⟩
  · have e : inB n lo hi = false := by simp [inB, h1]
    rw [e]
    have hd : decide (lo ≤ n) = false := decide_eq_false h1
    go_enter Try.func32, Try.ntmps32
    go_wp2
    go_ret
    exact ⟨rfl, rfl⟩
/-- A version's stamp may be. -/
def stampV (p : Vr) : Bool := inB p.br 0 15 && inB p.ep 1 10000 && inB p.sq 1 100000
def mayV (p : Vr) : Bool := decide ((O.splitK p.k).2.2 = 0) && stampV p && S.Sp.may ⟨p.f, p.t⟩ && decide (p.v.size ≤ 200) && (!p.g || decide (p.v.size = 0))
theorem empty_of {v : ByteArray} (h : v.size = 0) : v = { data := #[] } := by
  apply ByteArray.ext
  exact Array.eq_empty_of_size_eq_zero h
theorem ne_empty {v : ByteArray} (h : ¬ v.size = 0) : (v.toList == ({ data := #[] } : ByteArray).toList) = false := by
  refine beq_eq_false_iff_ne.2 (str_ne fun e => h ?_)
  rw [e]
  rfl
theorem ne_nil {v : ByteArray} (h : ¬ v.size = 0) : ¬ v.toList = [] := by
  have := ne_empty h
  rw [beq_eq_false_iff_ne] at this
  intro e
  exact this (e.trans (by rw [ByteArray.toList_eq]))
theorem smay_calls (a b : Int) (w : World) : Calls Try.prog 33 #[.agg #[.int .i64 a, .int .i64 b]] w fun e w' => e = .returned (.bool (S.Sp.may ⟨a, b⟩)) ∧ Below w.heap.size w w' := by
  refine (S.may_calls a b w).mono ?_
  rintro e w' ⟨rfl, rfl⟩
  exact ⟨rfl, below_alloc (Below.refl _ _) _⟩
theorem rmay_calls (a b : Int) (w : World) : Calls Try.prog 30 #[.agg #[.int .i64 a, .int .i64 b]] w fun e w' => e = .returned (.bool (S.Sp.may ⟨a, b⟩)) ∧ Below w.heap.size w w' := by
  refine (S.rmay_calls a b w).mono ?_
  rintro e w' ⟨rfl, rfl⟩
  exact ⟨rfl, below_alloc (Below.refl _ _) _⟩
set_option maxRecDepth 100000 in
set_option maxHeartbeats 4000000 in
theorem may_calls (k : ByteArray) (br ep sq f t : Int) (v : ByteArray) (g : Bool) (w : World) (hk : k.size ≤ 100000) (hv : v.size ≤ 9223372036854775807) :
    Calls Try.prog 16 #[.agg #[.string k, .int .i64 br, .int .i64 ep, .int .i64 sq, .int .i64 f, .int .i64 t, .string v, .bool g]] w fun e w' => e = .returned (.bool (mayV ⟨k, br, ep, sq, f, t, v, g⟩)) ∧ Below w.heap.size w w' := by
  obtain ⟨M, hM⟩ : ∃ M, mayV ⟨k, br, ep, sq, f, t, v, g⟩ = M := ⟨_, rfl⟩
  rw [hM]
  unfold mayV stampV at hM
  simp only at hM
  have HM := Aside0.mk hM
  clear hM
  go_enter Try.func16, Try.ntmps16
  go_wp2_with fail
  (with_reducible refine (O.split_calls k _ hk).mono ?_)
  rintro e w1 ⟨rfl, hb1⟩
  have hX := box_keep (heap_alloc_new w (vrBox k br ep sq f t v g)) hb1
  have HX := Aside0.mk hX
  have HB := Aside0.mk (below_step (below_alloc (Below.refl w.heap.size w) (vrBox k br ep sq f t v g)) hb1)
  obtain ⟨x0, x1, x2, x3, x4, x5, x6, x7⟩ := vr_cells hX
  clear hX hb1
  generalize hsk : O.splitK k = sk at *
  obtain ⟨s1, s2, er⟩ := sk
  have HSK := Aside0.mk hsk
  clear hsk
  go_wp2_with fail
  (with_reducible refine (in_calls br 0 15 _).mono ?_)
  rintro e _ ⟨rfl, rfl⟩
  generalize h1 : inB br 0 15 = b1 at *
  have H1 := Aside0.mk h1
  clear h1
  cases b1 with
  | false =>
    by_cases he : er = 0
    · subst he
      go_wp2_with fail
      go_ret
      exact ⟨by rw [← HM.out]; simp [H1.out], HB.out⟩
    · have hd : (er == 0) = false := beq_eq_false_iff_ne.2 he
      have HE := Aside0.mk he
      clear he
      go_wp2_with fail
      go_ret
      exact ⟨by rw [← HM.out]; simp [H1.out, HE.out], HB.out⟩
  | true =>
    go_wp2_with fail
    (with_reducible refine (in_calls ep 1 10000 _).mono ?_)
    rintro e _ ⟨rfl, rfl⟩
    generalize h2 : inB ep 1 10000 = b2 at *
    have H2 := Aside0.mk h2
    clear h2
    cases b2 with
    | false =>
      by_cases he : er = 0
      · subst he
        go_wp2_with fail
        go_ret
        exact ⟨by rw [← HM.out]; simp [H1.out, H2.out], HB.out⟩
      · have hd : (er == 0) = false := beq_eq_false_iff_ne.2 he
        have HE := Aside0.mk he
        clear he
        go_wp2_with fail
        go_ret
        exact ⟨by rw [← HM.out]; simp [H1.out, H2.out, HE.out], HB.out⟩
    | true =>
      go_wp2_with fail
      (with_reducible refine (in_calls sq 1 100000 _).mono ?_)
      rintro e _ ⟨rfl, rfl⟩
      generalize h3 : inB sq 1 100000 = b3 at *
      have H3 := Aside0.mk h3
      clear h3
      cases b3 with
      | false =>
        by_cases he : er = 0
        · subst he
          go_wp2_with fail
          go_ret
          exact ⟨by rw [← HM.out]; simp [H1.out, H2.out, H3.out], HB.out⟩
        · have hd : (er == 0) = false := beq_eq_false_iff_ne.2 he
          have HE := Aside0.mk he
          clear he
          go_wp2_with fail
          go_ret
          exact ⟨by rw [← HM.out]; simp [H1.out, H2.out, H3.out, HE.out], HB.out⟩
      | true =>
        by_cases he : er = 0
        · subst he
          go_wp2_with fail
          (with_reducible refine (smay_calls f t _).mono ?_)
          rintro e w2 ⟨rfl, hb2⟩
          have HX2 := Aside0.mk (box_keep HX.out hb2)
          have HB2 := Aside0.mk (below_step HB.out hb2)
          obtain ⟨x0, x1, x2, x3, x4, x5, x6, x7⟩ := vr_cells HX2.out
          clear hb2 HX HB
          generalize h4 : S.Sp.may ⟨f, t⟩ = b4 at *
          have H4 := Aside0.mk h4
          clear h4
          have HB := HB2
          cases b4 with
          | false =>
            go_wp2_with fail
            go_ret
            exact ⟨by rw [← HM.out]; simp [H1.out, H2.out, H3.out, H4.out], HB.out⟩
          | true =>
            by_cases hv2 : v.size ≤ 200
            · have HV := Aside0.mk hv2
              have hv3 : (v.size : Int) ≤ 200 := by omega
              clear hv2
              cases g with
              | false =>
                go_wp2_with fail
                go_ret
                exact ⟨by rw [← HM.out]; simp [H1.out, H2.out, H3.out, H4.out, HV.out], HB.out⟩
              | true =>
                by_cases h0 : v.size = 0
                · have h5 := empty_of h0
                  subst h5
                  go_wp2_with fail
                  go_ret
                  exact ⟨by rw [← HM.out]; simp [H1.out, H2.out, H3.out, H4.out, HV.out]; rfl, HB.out⟩
                · have h6 := ne_empty h0
                  have H0 := Aside0.mk h0
                  clear h0
                  go_wp2_with fail
                  go_ret
                  exact ⟨by rw [← HM.out]; simp [H1.out, H2.out, H3.out, H4.out, HV.out, H0.out]; exact ne_nil H0.out, HB.out⟩
            · have HV := Aside0.mk hv2
              have hv3 : ¬ (v.size : Int) ≤ 200 := by omega
              have hv4 : decide ((v.size : Int) ≤ 200) = false := decide_eq_false hv3
              clear hv2
              go_wp2_with fail
              go_ret
              exact ⟨by rw [← HM.out]; simp [H1.out, H2.out, H3.out, H4.out, HV.out], HB.out⟩
        · have hd : (er == 0) = false := beq_eq_false_iff_ne.2 he
          have HE := Aside0.mk he
          clear he
          go_wp2_with fail
          go_ret
          exact ⟨by rw [← HM.out]; simp [H1.out, H2.out, H3.out, HE.out], HB.out⟩
end Go.Proofs.Ytmkabbfglijckaa.A
