/- Which versions may be: the document's. -/
import Derived.Test.YtmkabbfglijckaaBMay
namespace Go.Proofs.Ytmkabbfglijckaa.A
open Go.RowKit Go.Proofs.YtmkabbfglijckaaW.PrintWords Go.Proofs.YtmkabbfglijckaaW.PrintLast Go.Proofs.YtmkabbfglijckaaW.PrintMore
set_option linter.unusedVariables false
set_option linter.unusedSimpArgs false

set_option maxRecDepth 100000 in
set_option maxHeartbeats 4000000 in
theorem may6_calls (k : ByteArray) (br ep sq f t : Int) (v : ByteArray) (g : Bool) (w : World) (hk : k.size ≤ 100000) (hv : v.size ≤ 9223372036854775807) :
    Calls Try.prog 15 #[.agg #[.string k, .int .i64 br, .int .i64 ep, .int .i64 sq, .int .i64 f, .int .i64 t, .string v, .bool g]] w fun e w' => e = .returned (.bool (mayV ⟨k, br, ep, sq, f, t, v, g⟩)) ∧ Below w.heap.size w w' := by
  obtain ⟨M, hM⟩ : ∃ M, mayV ⟨k, br, ep, sq, f, t, v, g⟩ = M := ⟨_, rfl⟩
  rw [hM]
  unfold mayV stampV at hM
  simp only at hM
  have HM := Aside0.mk hM
  clear hM
  go_enter Try.func15, Try.ntmps15
  go_wp2_with fail
  (with_reducible refine (O.refsplit_calls k _ hk).mono ?_)
  rintro e w1 ⟨rfl, hb1⟩
  have hX := box_keep (heap_alloc_new w (vrBox k br ep sq f t v g)) hb1
  have HX := Aside0.mk hX
  have HB1 := Aside0.mk (below_step (below_alloc (Below.refl w.heap.size w) (vrBox k br ep sq f t v g)) hb1)
  obtain ⟨x0, x1, x2, x3, x4, x5, x6, x7⟩ := vr_cells hX
  clear hX hb1
  generalize hsk : O.splitK k = sk at *
  obtain ⟨s1, s2, er⟩ := sk
  have HSK := Aside0.mk hsk
  clear hsk
  go_wp2_with fail
  (with_reducible refine (rmay_calls f t _).mono ?_)
  rintro e w2 ⟨rfl, hb2⟩
  have HX2 := Aside0.mk (box_keep HX.out hb2)
  have HB := Aside0.mk (below_step HB1.out hb2)
  clear x0 x1 x2 x3 x4 x5 x6 x7 hb2 HX HB1
  obtain ⟨x0, x1, x2, x3, x4, x5, x6, x7⟩ := vr_cells HX2.out
  generalize h4 : S.Sp.may ⟨f, t⟩ = b4 at *
  have H4 := Aside0.mk h4
  clear h4
  by_cases he : er = 0
  · subst he
    cases b4 with
    | false =>
      go_wp2_with fail
      go_ret
      exact ⟨by rw [← HM.out]; simp [H4.out], HB.out⟩
    | true =>
      by_cases hv2 : v.size ≤ 200
      · have HV := Aside0.mk hv2
        have hv3 : (v.size : Int) ≤ 200 := by omega
        clear hv2
        cases g with
        | false =>
          by_cases c1 : 0 ≤ br
          · have C1 := Aside0.mk c1
            by_cases c2 : br ≤ 15
            · have C2 := Aside0.mk c2
              by_cases c3 : 1 ≤ ep
              · have C3 := Aside0.mk c3
                by_cases c4 : ep ≤ 10000
                · have C4 := Aside0.mk c4
                  by_cases c5 : 1 ≤ sq
                  · have C5 := Aside0.mk c5
                    by_cases c6 : sq ≤ 100000
                    · have C6 := Aside0.mk c6
                      go_wp2_with fail
                      go_ret
                      exact ⟨by rw [← HM.out]; simp [H4.out, HV.out, inB, C1.out, C2.out, C3.out, C4.out, C5.out, C6.out] <;> omega, HB.out⟩
                    · have C6 := Aside0.mk c6
                      have hd5 : decide (sq ≤ 100000) = false := decide_eq_false c6
                      go_wp2_with fail
                      go_ret
                      exact ⟨by rw [← HM.out]; simp [H4.out, HV.out, inB, C1.out, C2.out, C3.out, C4.out, C5.out, C6.out] <;> omega, HB.out⟩
                  · have C5 := Aside0.mk c5
                    have hd4 : decide (1 ≤ sq) = false := decide_eq_false c5
                    go_wp2_with fail
                    go_ret
                    exact ⟨by rw [← HM.out]; simp [H4.out, HV.out, inB, C1.out, C2.out, C3.out, C4.out, C5.out] <;> omega, HB.out⟩
                · have C4 := Aside0.mk c4
                  have hd3 : decide (ep ≤ 10000) = false := decide_eq_false c4
                  go_wp2_with fail
                  go_ret
                  exact ⟨by rw [← HM.out]; simp [H4.out, HV.out, inB, C1.out, C2.out, C3.out, C4.out] <;> omega, HB.out⟩
              · have C3 := Aside0.mk c3
                have hd2 : decide (1 ≤ ep) = false := decide_eq_false c3
                go_wp2_with fail
                go_ret
                exact ⟨by rw [← HM.out]; simp [H4.out, HV.out, inB, C1.out, C2.out, C3.out] <;> omega, HB.out⟩
            · have C2 := Aside0.mk c2
              have hd1 : decide (br ≤ 15) = false := decide_eq_false c2
              go_wp2_with fail
              go_ret
              exact ⟨by rw [← HM.out]; simp [H4.out, HV.out, inB, C1.out, C2.out] <;> omega, HB.out⟩
          · have C1 := Aside0.mk c1
            have hd0 : decide (0 ≤ br) = false := decide_eq_false c1
            go_wp2_with fail
            go_ret
            exact ⟨by rw [← HM.out]; simp [H4.out, HV.out, inB, C1.out] <;> omega, HB.out⟩
        | true =>
          by_cases h0 : v.size = 0
          · have h5 := empty_of h0
            subst h5
            by_cases c1 : 0 ≤ br
            · have C1 := Aside0.mk c1
              by_cases c2 : br ≤ 15
              · have C2 := Aside0.mk c2
                by_cases c3 : 1 ≤ ep
                · have C3 := Aside0.mk c3
                  by_cases c4 : ep ≤ 10000
                  · have C4 := Aside0.mk c4
                    by_cases c5 : 1 ≤ sq
                    · have C5 := Aside0.mk c5
                      by_cases c6 : sq ≤ 100000
                      · have C6 := Aside0.mk c6
                        go_wp2_with fail
                        go_ret
                        exact ⟨by rw [← HM.out]; simp [H4.out, HV.out, inB, C1.out, C2.out, C3.out, C4.out, C5.out, C6.out] <;> first | omega | rfl, HB.out⟩
                      · have C6 := Aside0.mk c6
                        have hd5 : decide (sq ≤ 100000) = false := decide_eq_false c6
                        go_wp2_with fail
                        go_ret
                        exact ⟨by rw [← HM.out]; simp [H4.out, HV.out, inB, C1.out, C2.out, C3.out, C4.out, C5.out, C6.out] <;> omega, HB.out⟩
                    · have C5 := Aside0.mk c5
                      have hd4 : decide (1 ≤ sq) = false := decide_eq_false c5
                      go_wp2_with fail
                      go_ret
                      exact ⟨by rw [← HM.out]; simp [H4.out, HV.out, inB, C1.out, C2.out, C3.out, C4.out, C5.out] <;> omega, HB.out⟩
                  · have C4 := Aside0.mk c4
                    have hd3 : decide (ep ≤ 10000) = false := decide_eq_false c4
                    go_wp2_with fail
                    go_ret
                    exact ⟨by rw [← HM.out]; simp [H4.out, HV.out, inB, C1.out, C2.out, C3.out, C4.out] <;> omega, HB.out⟩
                · have C3 := Aside0.mk c3
                  have hd2 : decide (1 ≤ ep) = false := decide_eq_false c3
                  go_wp2_with fail
                  go_ret
                  exact ⟨by rw [← HM.out]; simp [H4.out, HV.out, inB, C1.out, C2.out, C3.out] <;> omega, HB.out⟩
              · have C2 := Aside0.mk c2
                have hd1 : decide (br ≤ 15) = false := decide_eq_false c2
                go_wp2_with fail
                go_ret
                exact ⟨by rw [← HM.out]; simp [H4.out, HV.out, inB, C1.out, C2.out] <;> omega, HB.out⟩
            · have C1 := Aside0.mk c1
              have hd0 : decide (0 ≤ br) = false := decide_eq_false c1
              go_wp2_with fail
              go_ret
              exact ⟨by rw [← HM.out]; simp [H4.out, HV.out, inB, C1.out] <;> omega, HB.out⟩
          · have h6 := ne_empty h0
            have h8 : (v.toList == ([] : List UInt8)) = false := beq_eq_false_iff_ne.2 (ne_nil h0)
            have h9 : ¬ v.toList = [] := ne_nil h0
            have H0 := Aside0.mk h0
            clear h0
            go_wp2_with fail
            go_ret
            exact ⟨by rw [← HM.out]; simp [H4.out, HV.out, H0.out], HB.out⟩
      · have HV := Aside0.mk hv2
        have hv3 : ¬ (v.size : Int) ≤ 200 := by omega
        have hv4 : (200 : Int) < (v.size : Int) := by omega
        clear hv2
        go_wp2_with fail
        go_ret
        exact ⟨by rw [← HM.out]; simp [H4.out, HV.out], HB.out⟩
  · have hd : (er == 0) = false := beq_eq_false_iff_ne.2 he
    have hd2 : (er != 0) = true := bne_iff_ne.2 he
    have HE := Aside0.mk he
    clear he
    go_wp2_with fail
    go_ret
    exact ⟨by rw [← HM.out]; simp [HE.out], HB.out⟩
end Go.Proofs.Ytmkabbfglijckaa.A
