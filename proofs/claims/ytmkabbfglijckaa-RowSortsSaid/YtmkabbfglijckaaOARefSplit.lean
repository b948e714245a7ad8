/- A key's table and text: the document's. -/
import Derived.Test.YtmkabbfglijckaaOACanon
import Derived.Test.YtmkabbfglijckaaOARefRead
namespace Go.Proofs.Ytmkabbfglijckaa.A.O
open Go.RowKit Go.Proofs.YtmkabbfglijckaaW.PrintWords Go.Proofs.YtmkabbfglijckaaW.PrintLast Go.Proofs.YtmkabbfglijckaaW.PrintMore
set_option linter.unusedVariables false
set_option linter.unusedSimpArgs false

set_option maxRecDepth 100000 in
set_option maxHeartbeats 2000000 in
theorem refsplit_calls (key : ByteArray) (w : World) (hs : key.size ≤ 100000) :
    Calls Try.prog 29 #[.string key] w fun e w' => e = .returned (.tuple #[.int .i64 (splitK key).1, .string (splitK key).2.1, .int .i64 (splitK key).2.2]) ∧ Below w.heap.size w w' := by
  have hsp := splitK.eq_1 key
  have hcan := key_canon key
  have hcap := grownCap_ge w key.size 0 5
  have kb := fun W => print_bytes (P := Try.prog) 9 29 5 Try.underlying9 Try.underlying29 Try.underlying5 key W
  have HCAN := Aside0.mk hcan
  have HSP := Aside0.mk hsp
  clear hcan hsp
  go_enter Try.func29, Try.ntmps29
  go_wp2_with fail
  (with_reducible refine (refread_calls _ _ _ (bytesOf key) _ (bytes_C w _ key (by omega)) hcap (bytesOf_range key) hs).mono ?_)
  rintro e w2 ⟨v2, rfl, HO2, hb2⟩
  have HB2 := Aside0.mk (below_step (bytes_below (Below.refl w.heap.size w) (Nat.le_refl _) 5 key) hb2)
  have HSP2 := HSP.out; clear HSP
  have hcan := HCAN.out
  generalize (readB (bytesOf key)).2 = er at *
  generalize (readB (bytesOf key)).1 = l at *
  have HO := Aside0.mk (Kd.R_lower HO2 (show w.heap.size ≤ _ by rw [Lib.bytesWorld_size]; omega))
  clear hb2 kb HO2 HCAN
  by_cases he : er = 0
  · rw [if_pos he] at HSP2
    subst he
    obtain ⟨n, hn⟩ : ∃ n, l.length = n := ⟨_, rfl⟩
    obtain ⟨A2, c2, rfl, hc2, HC2⟩ := OPt_readn HO.out n hn
    by_cases hn2 : n = 2
    · subst hn2
      obtain ⟨p, q, rfl⟩ : ∃ p q, l = [p, q] := by
        match l, hn with
        | [p, q], _ => exact ⟨p, q, rfl⟩
      obtain ⟨g, rfl, hg⟩ := R_block HO.out (by omega)
      obtain ⟨⟨b0, b1, b2⟩, ⟨b3, b4, b5⟩⟩ := row_cells2 HO.out
      obtain ⟨pt, pn, ps⟩ := p
      obtain ⟨qt, qn, qs⟩ := q
      dsimp only at b0 b1 b2 b3 b4 b5 HSP2
      have HSP := Aside0.mk HSP2
      have HCAN := Aside0.mk hcan
      clear HSP2 HC2 hn hcan
      by_cases h1 : pt = false
      · subst h1
        by_cases h2 : qt = true
        · subst h2
          by_cases h3 : pn < 0
          · have HSP2 := HSP.out; clear HSP
            rw [if_neg (fun h => by have := h.2.2.1; unfold keyErr at this; rw [if_pos (.inl h3)] at this; omega)] at HSP2
            have HSP := Aside0.mk HSP2
            clear HSP2 HCAN
            go_wp2_with fail
            go_ret3
            exact ⟨by rw [HSP.out]; rfl, HB2.out⟩
          · by_cases h4 : 3 < pn
            · have HSP2 := HSP.out; clear HSP
              rw [if_neg (fun h => by have := h.2.2.1; unfold keyErr at this; rw [if_pos (.inr (by omega))] at this; omega)] at HSP2
              have HSP := Aside0.mk HSP2
              clear HSP2 HCAN
              go_wp2_with fail
              go_ret3
              exact ⟨by rw [HSP.out]; rfl, HB2.out⟩
            · by_cases h5 : 40 < qs.size
              · have HSP2 := HSP.out; clear HSP
                rw [if_neg (fun h => by have := h.2.2.1; unfold keyErr at this; rw [if_neg (by omega), if_pos h5] at this; omega)] at HSP2
                have HSP := Aside0.mk HSP2
                have h6 : (40 : Int) < (qs.size : Int) := by omega
                clear HSP2 HCAN
                go_wp2_with fail
                go_ret3
                exact ⟨by rw [HSP.out]; rfl, HB2.out⟩
              · have hke : keyErr pn qs = 0 := by unfold keyErr; rw [if_neg (by omega), if_neg h5]
                have hks := HCAN.out pn qn ps qs rfl rfl hke
                have HSP2 := HSP.out; clear HSP
                rw [if_pos ⟨rfl, rfl, hke, hks⟩] at HSP2
                have HSP := Aside0.mk HSP2
                have h6 : ¬ (40 : Int) < (qs.size : Int) := by omega
                clear HSP2 HCAN hke hks
                go_wp2_with fail
                go_quiet (fail)
                go_wp2_with fail
                go_ret3
                exact ⟨by rw [HSP.out]; first | rfl | kernel_rfl, by first | exact HB2.out | exact below_step HB2.out (by repeat (with_reducible first | exact Below.refl _ _ | apply pw_below_drewN | apply below_drew1))⟩
        · have hq : qt = false := by simpa using h2
          have HSP2 := HSP.out; clear HSP
          rw [if_neg (fun h => h2 h.2.1)] at HSP2
          have HSP := Aside0.mk HSP2
          clear HSP2 HCAN
          subst hq
          go_wp2_with fail
          go_ret3
          exact ⟨by rw [HSP.out]; rfl, HB2.out⟩
      · have hp : pt = true := by simpa using h1
        have HSP2 := HSP.out; clear HSP
        rw [if_neg (fun h => h1 h.1)] at HSP2
        have HSP := Aside0.mk HSP2
        clear HSP2 HCAN
        subst hp
        go_wp2_with fail
        go_ret3
        exact ⟨by rw [HSP.out]; rfl, HB2.out⟩
    · have hnn : ¬ (n : Int) = 2 := by omega
      have HSP : Aside0 (splitK key = (0, { data := #[] }, 2)) := ⟨by
        rw [HSP2]
        match l, hn with
        | [], _ => rfl
        | [_], _ => rfl
        | [_, _], h => exact (hn2 h.symm).elim
        | _ :: _ :: _ :: _, _ => rfl⟩
      clear HSP2 HC2 hn hcan
      go_wp2_with fail
      go_ret3
      exact ⟨by rw [HSP.out]; rfl, HB2.out⟩
  · rw [if_neg he] at HSP2
    have HSP := Aside0.mk HSP2
    clear HSP2 hcan
    go_wp2_with fail
    go_ret3
    exact ⟨by rw [HSP.out]; rfl, HB2.out⟩

end Go.Proofs.Ytmkabbfglijckaa.A.O
