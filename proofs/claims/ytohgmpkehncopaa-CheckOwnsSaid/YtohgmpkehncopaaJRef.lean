/- The document's frames at the beginning of bytes, and lists of bytes compared that are the same. -/
import Derived.Test.YtohgmpkehncopaaJAll
import Derived.Deep.QuietTactic
import Derived.StillTailTactics
namespace Go.Proofs.Ytohgmpkehncopaa.A
open Go.RowKit Go.Proofs.YtohgmpkehncopaaW.PrintWords Go.Proofs.YtohgmpkehncopaaW.PrintLast Go.Proofs.YtohgmpkehncopaaW.PrintMore
set_option linter.unusedVariables false
set_option linter.unusedSimpArgs false

set_option maxHeartbeats 1600000 in
theorem first_yes (A : Option Addr) (n c : Nat) (l : List Int) (w : World) (hr : U8.C w A n l) (hc : n ≤ c) (hb : ∀ x ∈ l, 0 ≤ x ∧ x ≤ 255) (h : okF l = true) :
    Calls Try.prog 25 #[.slice A n c] w fun e w' => ∃ A2 c2, e = .returned (.tuple #[.slice A2 (ownOf l).length c2, .int .i64 (8 + num4 l), .int .i64 0]) ∧ (ownOf l).length ≤ c2 ∧ (∀ V : World, U8.C V A n l → U8.C V A2 (ownOf l).length (ownOf l)) ∧ Below w.heap.size w w' := by
  have hnl := hr.1
  subst hnl
  obtain ⟨hs1, hs⟩ := (okF_iff l).1 h
  have hs2 := hs1
  unfold Short at hs2
  have h8 : 8 ≤ l.length := by omega
  have h : 8 + num4 l ≤ l.length := by omega
  clear hs1 hs2
  have HR := Aside0.mk hr
  have HBY := Aside0.mk hb
  have hm : l.length ≤ 9223372036854775807 := hr.2.1
  obtain ⟨hn0, hn1⟩ := num4_range hb
  obtain ⟨A2, c2, hk2, hC2, hl2⟩ := cutm A c l 8 (8 + num4 l) (by omega) (by omega) h hc
  obtain ⟨A3, c3, hk3, hC3, hl3⟩ := cutm A c l 4 8 (by omega) (by omega) (by omega) hc
  have HS := Aside0.mk hs
  have HC2 := Aside0.mk (hC2 _ hr)
  have HCA := Aside0.mk hC2
  have HC3 := Aside0.mk (hC3 _ hr)
  have HBO := Aside0.mk (own_range hb)
  have h48 : num4 ((l.take 8).drop 4) = num4 (l.drop 4) := num4_take l h8
  have h4 : 4 ≤ ((l.take (8 : Int).toNat).drop (4 : Int).toNat).length := by rw [List.length_drop, List.length_take]; omega
  have HB4 : Aside0 (∀ x ∈ (l.take (8 : Int).toNat).drop (4 : Int).toNat, 0 ≤ x ∧ x ≤ 255) := ⟨fun x hx => hb x (List.mem_of_mem_take (List.mem_of_mem_drop hx))⟩
  have hn : ¬ (l.length : Int) < 8 + num4 l := by omega
  have ho : (l.take (8 + num4 l).toNat).drop (8 : Int).toNat = ownOf l := rfl
  have hl4 : (l.take (8 : Int).toNat).drop (4 : Int).toNat = (l.take 8).drop 4 := rfl
  rw [ho] at hk2 HC2 HCA hl2
  rw [hl4] at hk3 HC3 hl3 h4 HB4
  clear hC2 hC3 ho hl4 hr hb hs
  rw [← h48] at HS
  clear h48
  generalize ownOf l = O at *
  generalize (l.take 8).drop 4 = D at *
  generalize hN : num4 l = N at *
  generalize hN4 : num4 D = N4 at *
  have HN := Aside0.mk hN
  have HN4 := Aside0.mk hN4
  have hne : (sum O == N4) = true := by simpa using HS.out
  have hne2 : (sum O != N4) = false := by simpa using HS.out
  clear hN hN4
  go_enter Try.func25, Try.ntmps25
  go_wp2_with ((go_at_call 29); (with_reducible refine (refnumber_calls _ _ _ _ ?_ hc HBY.out (by omega)).mono ?_); exact (by repeat (with_reducible first | exact HR.out | refine Kd.C_drewN ?_ _ | refine Kd.C_drew ?_)); rw [HN.out]; rintro e w1 ⟨rfl, n1, rfl⟩)
  go_region_with (first
    | ((go_at_call 12); (with_reducible refine (refsum_calls _ _ O _ ?_ hl2 HBO.out).mono ?_); exact (by repeat (with_reducible first | exact HC2.out | refine Kd.C_drewN ?_ _ | refine Kd.C_drew ?_)); rintro e w5 ⟨rfl, hb5⟩; have hf := Aside0.mk (below_step (w := w) (by repeat (with_reducible first | exact Below.refl _ _ | apply pw_below_drewN | apply below_drew1)) hb5); clear hb5)
    | ((go_at_call 29); (with_reducible refine (refnumber_calls _ _ D _ ?_ hl3 HB4.out h4).mono ?_); (repeat (with_reducible first | exact HC3.out | exact Kd.C_below HC3.out hf.out | refine Kd.C_drewN ?_ _ | refine Kd.C_drew ?_)); rw [HN4.out]; rintro e w1 ⟨rfl, n1, rfl⟩))
  all_goals go_wp2
  all_goals go_ret3
  all_goals exact ⟨A2, c2, by kernel_rfl, hl2, HCA.out, by repeat (with_reducible first | exact hf.out | apply pw_below_drewN | apply below_drew1)⟩
theorem first_no (A : Option Addr) (n c : Nat) (l : List Int) (w : World) (hr : U8.C w A n l) (hc : n ≤ c) (hb : ∀ x ∈ l, 0 ≤ x ∧ x ≤ 255) (h : okF l = false) :
    Calls Try.prog 25 #[.slice A n c] w fun e w' => ∃ m er, e = .returned (.tuple #[.slice none 0 0, .int .i64 m, .int .i64 er]) ∧ (er != 0) = true ∧ Below w.heap.size w w' := by
  have hn := hr.1
  subst hn
  by_cases hs : Short l
  · refine (first_short A c l w hr hc hb hs).mono ?_
    rintro e w' ⟨rfl, hb1⟩
    exact ⟨_, _, rfl, rfl, hb1⟩
  · have hs' := hs
    unfold Short at hs'
    refine (first_bad A c l w hr hc hb (by omega) (by omega) ?_).mono ?_
    · intro e
      rw [(okF_iff l).2 ⟨hs, e⟩] at h
      cases h
    · rintro e w' ⟨rfl, hb1⟩
      exact ⟨_, _, rfl, rfl, hb1⟩
/-- The heads of what lies in bytes that came in. -/
def HeadsC (w0 : World) (hs : List (Option Addr × Nat × Nat)) (ll : List (List Int)) : Prop := Heads w0 hs ll
theorem rest_drop (l : List Int) (q : Nat) : ((l.drop q).drop (8 + num4 (l.drop q)).toNat) = restOf (l.drop q) := rfl
set_option maxRecDepth 100000 in
set_option maxHeartbeats 4000000 in
theorem refframes_calls (A : Option Addr) (n c : Nat) (l : List Int) (w : World) (hr : U8.C w A n l) (hc : n ≤ c) (hby : ∀ x ∈ l, 0 ≤ x ∧ x ≤ 255) (hl : n ≤ 100000) :
    Calls Try.prog 19 #[.slice A n c] w fun e w' => ∃ v hs, e = .returned (.tuple #[v, .int .i64 (frn (frs (n + 1) l))]) ∧ OR Hd 22 w' w.heap.size v hs ∧ Heads w hs (frs (n + 1) l) ∧ Below w.heap.size w w' := by
  have HR := Aside0.mk hr
  have HBY := Aside0.mk hby
  have hn := hr.1
  have HFN := Aside0.mk (frn_frs (n + 1) l hby)
  clear hr hby
  go_enter Try.func19, Try.ntmps19
  go_wp2_with fail
  go_loopw [4, 5] (fun v4 v5 w' => ∃ (pre : List (List Int)) (f q : Nat) (hs : List (Option Addr × Nat × Nat)), v5 = .int .i64 q ∧ Aside0 (pre ++ frs (f + 1) (l.drop q) = frs (n + 1) l) ∧ Aside0 (frn pre = q) ∧ q ≤ n ∧ n - q ≤ f ∧ Aside0 (OR Hd 22 w' w.heap.size v4 hs) ∧ Aside0 (Heads w hs pre) ∧ Aside0 (Below w.heap.size w w')) (fun _ v5 _ => n - (intOf v5).toNat)
  case atStart => exact ⟨[], n, 0, [], rfl, ⟨rfl⟩, ⟨rfl⟩, Nat.zero_le _, by omega, ⟨Kd.R_nil _ _ _ _ _⟩, ⟨Heads_nil w⟩, ⟨Below.refl _ _⟩⟩
  case round =>
    obtain ⟨pre, f, q, hs, rfl, HE, HQ, hqn, hqf, HO, HH, HB⟩ := hrel
    obtain ⟨A1, c1, hk1, hC1, hl1⟩ := cutf A c l (q : Int) (by omega) (by omega) (by omega)
    have et : ((q : Int)).toNat = q := by omega
    rw [et] at hC1 hl1 hk1
    rw [hn] at hk1 hC1
    obtain ⟨m, hm⟩ : ∃ m, (l.drop q).length = m := ⟨_, rfl⟩
    rw [hm] at hk1 hl1 hC1
    have HCA := Aside0.mk hC1
    have HCR := Aside0.mk (hC1 w HR.out)
    have HM := Aside0.mk hm
    have hmq : m = n - q := by rw [← hm, List.length_drop, hn]
    have HBD : Aside0 (∀ x ∈ l.drop q, 0 ≤ x ∧ x ≤ 255) := ⟨fun x hx => HBY.out x (List.mem_of_mem_drop hx)⟩
    have HCw := Aside0.mk (Kd.C_below HCR.out HB.out)
    have hhl : hs.length = pre.length := HH.out.1
    have hpl := frs_len pre
    rw [HQ.out] at hpl
    have hq0 : (0 : Int) ≤ (q : Int) := by omega
    have hq1 : (q : Int) ≤ (n : Int) := by omega
    have hlq : hs.length ≤ 1000000000 := by omega
    have HMQ := Aside0.mk hmq
    clear hC1 hm et hpl hmq
    obtain ⟨D, hD⟩ : ∃ D, l.drop q = D := ⟨_, rfl⟩
    have HD := Aside0.mk hD
    rw [hD] at HCA HCR HM HBD HCw HE
    clear hD
    cases hok : okF D with
    | false =>
      have HSn := Aside0.mk (first_no A1 m c1 D wr HCw.out hl1 HBD.out hok)
      have HFR : Aside0 (pre = frs (n + 1) l) := ⟨by have h := HE.out; rw [frs_no hok, List.append_nil] at h; exact h⟩
      clear hok
      go_wp2_with fail
      (with_reducible refine HSn.out.mono ?_)
      rintro e w1 ⟨m1, er, rfl, her, hb1⟩
      have HO1 := Aside0.mk (Kd.R_below HO.out hb1)
      have HB1 := Aside0.mk (below_step HB.out hb1)
      clear hb1
      go_wp2_with fail
      go_ret2
      exact ⟨_, hs, by rw [← HFR.out, HQ.out]; rfl, HO1.out, by rw [← HFR.out]; exact HH.out, HB1.out⟩
    | true =>
      have HYs := Aside0.mk (first_yes A1 m c1 D wr HCw.out hl1 HBD.out hok)
      have hlr := rest_len HBD.out hok
      obtain ⟨n0, n1⟩ := num4_range HBD.out
      have hlo : ((ownOf D).length : Int) = num4 D := by
        have h1 := ((okF_iff D).1 hok).1
        unfold Short at h1
        unfold ownOf
        rw [List.length_drop, List.length_take]
        omega
      have HFR : Aside0 ((pre ++ [ownOf D]) ++ frs f (restOf D) = frs (n + 1) l) := ⟨by have h := HE.out; rw [frs_yes hok] at h; rw [← h]; simp⟩
      obtain ⟨r, hr⟩ : ∃ r, (8 + num4 D) = ((8 + r : Nat) : Int) := ⟨(ownOf D).length, by omega⟩
      have hro : (ownOf D).length = r := by omega
      rw [HM.out, hro] at hlr
      have hrest : restOf D = l.drop (q + (8 + r)) := by
        unfold restOf
        rw [hr, ← HD.out, List.drop_drop]
        rfl
      have HREST := Aside0.mk hrest
      have HHA : Aside0 (∀ A2 c2, (ownOf D).length ≤ c2 → (∀ V : World, U8.C V A1 m D → U8.C V A2 (ownOf D).length (ownOf D)) → Heads w (hs ++ [(A2, r, c2)]) (pre ++ [ownOf D])) := ⟨fun A2 c2 h1 h2 => by
        have h3 := h2 w HCR.out
        rw [hro] at h3 h1
        exact Heads_add HH.out h3 h1⟩
      have HQ2 : Aside0 (frn (pre ++ [ownOf D]) = q + (8 + r)) := ⟨by
        rw [frn_append, HQ.out]
        show q + ((ownOf D).length + 8 + 0) = _
        omega⟩
      have hr' : (8 + num4 D) = 8 + (r : Int) := by omega
      have hY2 := HYs.out
      rw [hr', hro] at hY2
      have HY2 := Aside0.mk hY2
      have HRO := Aside0.mk hro
      have HMQ2 : Aside0 (q + (8 + r) ≤ n) := ⟨by have := HMQ.out; omega⟩
      have hqr : q + (8 + r) ≤ n := HMQ2.out
      clear hok hro hrest hY2 HYs hlo n0 n1 hr hr' HE HQ
      go_wp2_with fail
      (with_reducible refine HY2.out.mono ?_)
      rintro e w1 ⟨A2, c2, rfl, hc2, hT2, hb1⟩
      have HH2 := Aside0.mk (HHA.out A2 c2 (by rw [HRO.out]; exact hc2) (by rw [HRO.out]; exact hT2))
      have HO1 := Aside0.mk (Kd.R_below HO.out hb1)
      have HB1 := Aside0.mk (below_step HB.out hb1)
      clear hb1 hT2 hc2 HHA HO HB
      go_wp2_with ((with_reducible refine gate_dst (N := 24) rfl ?_); refine app_head (v := u4) (s := .tmp 21) (x := .tmp 23) (A := A2) (n := r) (c := c2) rfl rfl rfl rfl HO1.out HB1.out.size hlq ?_; intro v1 w2 hO2 hb2 _; have HO2 := Aside0.mk hO2; have HB2 := Aside0.mk (HB1.out.trans hb2); clear hO2 hb2)
      go_roundw
      case rel => exact ⟨pre ++ [ownOf D], f - 1, q + (8 + r), hs ++ [(A2, r, c2)], by push_cast; rfl, ⟨by rw [show f - 1 + 1 = f by omega, ← HREST.out]; exact HFR.out⟩, HQ2, HMQ2.out, by omega, HO2, HH2, HB2⟩
      case measure => simp [intOf]; omega
set_option maxRecDepth 100000 in
set_option maxHeartbeats 4000000 in
/-- Lists of bytes compared that are the same. -/
theorem same3_calls (A B : Option Addr) (n c d : Nat) (ll : List (List Int)) (w : World) (hr : Kd.C (Kd.slice 5 U8) w A n ll) (hs : Kd.C (Kd.slice 5 U8) w B n ll) (hc : n ≤ c) (hd : n ≤ d) :
    Calls Try.prog 20 #[.slice A n c, .slice B n d] w fun e w' => e = .returned (.bool true) ∧ Below w.heap.size w w' := by
  have hm : n ≤ 9223372036854775807 := hr.2.1
  have hn := hr.1
  subst hn
  have HR := Aside0.mk hr
  have HS := Aside0.mk hs
  clear hr hs
  obtain ⟨n, hn⟩ : ∃ n, ll.length = n := ⟨_, rfl⟩
  have HN := Aside0.mk hn
  rw [hn] at hc hd hm ⊢
  clear hn
  go_enter Try.func20, Try.ntmps20
  go_wp2_with fail
  go_loopw [5] (fun v5 w' => ∃ k : Nat, k ≤ n ∧ v5 = .int .i64 k ∧ Aside0 (Below w.heap.size w w')) (fun v5 _ => n - (intOf v5).toNat)
  case atStart => exact ⟨0, Nat.zero_le _, rfl, ⟨Below.refl _ _⟩⟩
  case round =>
    obtain ⟨k, hk, rfl, HB⟩ := hrel
    by_cases hlt : k < n
    · obtain ⟨ad, A1, c1, rfl, q1, hc1, hC1⟩ := C_atS HR.out k (by rw [HN.out]; exact hlt)
      obtain ⟨bd, B1, d1, rfl, q2, hd1, hD1⟩ := C_atS HS.out k (by rw [HN.out]; exact hlt)
      have HBd := Aside0.mk (below_drew1 HB.out)
      have p1 := pw_cell_below HBd.out q1
      have p2 := pw_cell_below HBd.out q2
      have e1 := C_string' (c := c1) (Kd.C_below hC1 HBd.out)
      have e2 := C_string' (c := d1) (Kd.C_below hD1 HBd.out)
      clear q1 q2 hC1 hD1
      generalize ll.getD k [] = x at *
      have i1 : (k : Int) < (n : Int) := by omega
      have i2 : (0 : Int) ≤ (k : Int) := by omega
      go_wp2_with fail
      go_still (by kernel_rfl)
      go_wp2_with fail
      go_roundw
      case rel => exact ⟨k + 1, hlt, rfl, HBd⟩
      case measure => simp [intOf]; omega
    · obtain rfl : k = n := by omega
      go_wp2_with fail
      go_ret
      exact ⟨rfl, HB.out⟩
end Go.Proofs.Ytohgmpkehncopaa.A
