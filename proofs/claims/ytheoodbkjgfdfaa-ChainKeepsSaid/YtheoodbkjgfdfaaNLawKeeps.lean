/- ChainKeeps: what stays, and what is told to be no more, is what the document says; and it may be put again. -/
import Derived.Test.YtheoodbkjgfdfaaNKeepC
namespace Go.Proofs.Ytheoodbkjgfdfaa.A
open R
open Go.RowKit Go.Proofs.YtheoodbkjgfdfaaW.PrintWords Go.Proofs.YtheoodbkjgfdfaaW.PrintLast Go.Proofs.YtheoodbkjgfdfaaW.PrintMore
set_option linter.unusedVariables false
set_option linter.unusedSimpArgs false

theorem srt_ext : ∀ (a b : List Vr), SrtV a → SrtV b → (∀ p, p ∈ a ↔ p ∈ b) → a = b
  | [], [], _, _, _ => rfl
  | [], y :: b, _, _, h => absurd ((h y).2 List.mem_cons_self) (by simp)
  | x :: a, [], _, _, h => absurd ((h x).1 List.mem_cons_self) (by simp)
  | x :: a, y :: b, ha, hb, h => by
    have hxy : x = y := by
      rcases List.mem_cons.1 ((h x).1 List.mem_cons_self) with e | h1
      · exact e
      · rcases List.mem_cons.1 ((h y).2 List.mem_cons_self) with e | h2
        · exact e.symm
        · have c1 := List.rel_of_pairwise_cons hb h1
          have c2 := List.rel_of_pairwise_cons ha h2
          have c3 := cmpV_swap x y
          omega
    subst hxy
    rw [srt_ext a b (List.Pairwise.tail ha) (List.Pairwise.tail hb) (fun p => ?_)]
    constructor
    · intro hp
      rcases List.mem_cons.1 ((h p).1 (List.mem_cons_of_mem _ hp)) with e | h1
      · have := List.rel_of_pairwise_cons ha hp
        rw [e, cmpV_self] at this
        omega
      · exact h1
    · intro hp
      rcases List.mem_cons.1 ((h p).2 (List.mem_cons_of_mem _ hp)) with e | h1
      · have := List.rel_of_pairwise_cons hb hp
        rw [e, cmpV_self] at this
        omega
      · exact h1
theorem srt_same {l : List Vr} (h : SrtV l) {p q : Vr} (hp : p ∈ l) (hq : q ∈ l) (h0 : cmpV p q = 0) : p = q := by
  obtain ⟨i, hi, rfl⟩ := List.mem_iff_getElem.1 hp
  obtain ⟨j, hj, rfl⟩ := List.mem_iff_getElem.1 hq
  have hs := List.pairwise_iff_getElem.1 h
  rcases Nat.lt_trichotomy i j with h1 | h1 | h1
  · have := hs i j hi hj h1
    omega
  · subst h1
    rfl
  · have h2 := hs j i hj hi h1
    have h3 := cmpV_swap l[i] l[j]
    omega
/-- One that was gone, put again. -/
theorem add_back {l cl : List Vr} {e : Int} {i : Nat} {p : Vr} (h : SrtV l) (hc : SrtV cl) (hm : ∀ q, q ∈ cl ↔ q ∈ stayV l e ∨ q ∈ (goneV l e).take i) (hi : i < (goneV l e).length) (hp : (goneV l e).getD i default = p) (hy : mayV p = true) :
    (addV cl p).2 = 0 ∧ ∀ q, q ∈ (addV cl p).1 ↔ q ∈ stayV l e ∨ q ∈ (goneV l e).take (i + 1) := by
  have hgs : SrtV (goneV l e) := List.Pairwise.sublist List.filter_sublist h
  have hts : (goneV l e).take (i + 1) = (goneV l e).take i ++ [p] := by rw [takeD _ i hi, hp]
  have hpg : p ∈ goneV l e := by
    rw [← hp, List.getD_eq_getElem?_getD, List.getElem?_eq_getElem hi]
    exact List.getElem_mem hi
  have hpl : p ∈ l := (List.mem_filter.1 hpg).1
  have hn : hadV cl p = false := by
    cases hb : hadV cl p with
    | false => rfl
    | true =>
      obtain ⟨q, hq, h0⟩ := List.any_eq_true.1 hb
      have h0' := of_decide_eq_true h0
      have hql : q ∈ l := by
        rcases (hm q).1 hq with h1 | h1
        · exact (List.mem_filter.1 h1).1
        · exact (List.mem_filter.1 (List.mem_of_mem_take h1)).1
      have hqp := srt_same h hql hpl h0'
      subst hqp
      rcases (hm q).1 hq with h1 | h1
      · have a1 := (List.mem_filter.1 h1).2
        have a2 := (List.mem_filter.1 hpg).2
        rw [a1] at a2
        cases a2
      · have hsx : SrtV ((goneV l e).take (i + 1)) := List.Pairwise.sublist (List.take_sublist _ _) hgs
        rw [hts] at hsx
        have := (List.pairwise_append.1 hsx).2.2 q h1 q (by simp)
        rw [cmpV_self] at this
        omega
  obtain ⟨e1, _, _⟩ := ofV_add hc hy hn
  rw [e1]
  refine ⟨rfl, fun q => ?_⟩
  have hab : q ∈ aV cl p ∨ q ∈ bV cl p ↔ q ∈ cl := by rw [← List.mem_append, ab_is]
  rw [hts, List.mem_append, List.mem_cons, List.mem_append, List.mem_singleton]
  constructor
  · rintro (h1 | h1 | h1)
    · rcases (hm q).1 (hab.1 (.inl h1)) with h2 | h2
      · exact .inl h2
      · exact .inr (.inl h2)
    · exact .inr (.inr h1)
    · rcases (hm q).1 (hab.1 (.inr h1)) with h2 | h2
      · exact .inl h2
      · exact .inr (.inl h2)
  · rintro (h1 | h1 | h1)
    · rcases hab.2 ((hm q).2 (.inl h1)) with h2 | h2
      · exact .inl h2
      · exact .inr (.inr h2)
    · rcases hab.2 ((hm q).2 (.inr h1)) with h2 | h2
      · exact .inl h2
      · exact .inr (.inr h2)
    · exact .inr (.inl h1)
theorem stay_or (l : List Vr) (e : Int) (q : Vr) : (q ∈ stayV l e ∨ q ∈ goneV l e) ↔ q ∈ l := by
  unfold stayV goneV
  rw [List.mem_filter, List.mem_filter]
  constructor
  · rintro (h | h) <;> exact h.1
  · intro h
    cases hb : decide (q.ep ≤ e) with
    | true => exact .inl ⟨h, rfl⟩
    | false => exact .inr ⟨h, rfl⟩
theorem epochs1_calls (w : World) : Calls Try.prog 21 #[.int .i64 1] w fun e w' => e = .returned (.func (.func 43) #[] #[]) ∧ w = w' := by
  go_enter Try.func21, Try.ntmps21
  go_wp2_with fail
  go_ret
  exact ⟨rfl, rfl⟩
theorem epochs2_calls (w : World) : Calls Try.prog 21 #[.int .i64 2] w fun e w' => e = .returned (.func (.func 44) #[] #[]) ∧ w = w' := by
  go_enter Try.func21, Try.ntmps21
  go_wp2_with fail
  go_ret
  exact ⟨rfl, rfl⟩
theorem epochs3_calls (w : World) : Calls Try.prog 21 #[.int .i64 3] w fun e w' => e = .returned (.func (.func 45) #[] #[]) ∧ w = w' := by
  go_enter Try.func21, Try.ntmps21
  go_wp2_with fail
  go_ret
  exact ⟨rfl, rfl⟩
set_option maxRecDepth 100000 in
set_option maxHeartbeats 16000000 in
theorem keeps_calls (w : World) (A : Option Addr) (c : Nat) (pl : List Pu) (hr : KPu.C w A pl.length pl) (hc : pl.length ≤ c) (hg : ∀ d ∈ pl, d.fits) (epoch : Int) (hep : IntKind.i64.min ≤ epoch ∧ epoch ≤ IntKind.i64.max) :
    Calls Try.prog 7 #[.slice A pl.length c, .int .i64 epoch] w fun e w' => e = .returned (.bool true) ∧ Below w.heap.size w w' := by
  clear hep
  have HFL := Aside0.mk (filled_calls w A pl.length c pl hr hc hg)
  clear hr hc hg
  have j0 : epoch = 1 ∨ epoch = 2 ∨ epoch = 3 ∨ epoch < 1 ∨ 3 < epoch := by omega
  go_enter Try.func7, Try.ntmps7
  rcases j0 with rfl | rfl | rfl | j0 | j0
  · go_wp2_with fail
    (with_reducible refine HFL.out.mono ?_)
    rintro e w1 ⟨X, v, l, rfl, hF, hl40⟩
    obtain ⟨n, hn⟩ : ∃ n, l.length = n := ⟨_, rfl⟩
    obtain ⟨A1, c1, rfl, hc1, hC1⟩ := OVr_readn hF.2.1 n hn
    obtain ⟨its, hI⟩ := hF.1
    have HSR := Aside0.mk (IXi_srt hI)
    have HKC := Aside0.mk (keep_one_calls w1 w.heap.size X its l hI (by omega))
    have HF := Aside0.mk hF
    have HN := Aside0.mk hn
    have hn40 : n ≤ 40 := by omega
    clear hF hI hC1 hn hl40 HFL
    go_wp2_with fail
    (with_reducible refine (epochs1_calls w1).mono ?_)
    rintro e w1' ⟨rfl, rfl⟩
    go_wp2_with fail
    (with_reducible refine HKC.out.mono ?_)
    rintro e w2 ⟨v2, rfl, hO2, hI2, hif2, hb2⟩
    obtain ⟨ng, hng⟩ : ∃ ng, (goneV l 1).length = ng := ⟨_, rfl⟩
    obtain ⟨ns, hns⟩ : ∃ ns, (stayV l 1).length = ns := ⟨_, rfl⟩
    have HSG : Aside0 (ns + ng = n) := ⟨by rw [← hns, ← hng, ← HN.out]; exact stay_gone l 1⟩
    have hng4 : ng ≤ 40 := by have := HSG.out; omega
    obtain ⟨A2, c2, rfl, hc2, hC2⟩ := OVr_readn hO2 ng hng
    have HC2 := Aside0.mk hC2
    have HI2 := Aside0.mk hI2
    have HR2 := Aside0.mk (OVr_ifr HF.out.2.1 hif2)
    have HB2 := Aside0.mk (HF.out.2.2.1.trans hb2)
    have HNG := Aside0.mk hng
    have HNS := Aside0.mk hns
    have HRC2 : Aside0 (KVr.C w2 A1 n l) := ⟨by
      obtain ⟨q1, q2, q3⟩ := Kd.R_reads' HR2.out
      rwa [HN.out] at q3⟩
    have HK3 := Aside0.mk (keep13_calls A1 n c1 l 1 w2 HRC2.out hc1 (by omega))
    clear hO2 hC2 hI2 hif2 hb2 hng hns HKC
    go_wp2_with fail
    (with_reducible refine HK3.out.mono ?_)
    rintro e w3 ⟨v3, u3, rfl, hO3, hP3, -, hb3⟩
    obtain ⟨A3, c3, rfl, hc3, hC3⟩ := OVr_readn hO3 ns HNS.out
    obtain ⟨A4, c4, rfl, hc4, hC4⟩ := OVr_readn hP3 ng HNG.out
    have HC3 := Aside0.mk hC3
    have HC4 := Aside0.mk hC4
    have HP3 := Aside0.mk hP3
    have HR3 := Aside0.mk (Kd.R_below HR2.out hb3)
    have HB3 := Aside0.mk (below_step HB2.out hb3)
    have HI3 : Aside0 (∃ its', IXi w3 w.heap.size X (stayV l 1).length its' (stayV l 1)) := ⟨by obtain ⟨i', h9⟩ := HI2.out; exact ⟨i', IXi_below h9 hb3⟩⟩
    have HS3 := Aside0.mk (same_calls A2 A4 ng c2 c4 (goneV l 1) w3 (Kd.C_below HC2.out hb3) hC4 hc2 hc4)
    clear hO3 hP3 hC3 hC4 hb3 HK3
    go_wp2_with fail
    (with_reducible refine HS3.out.mono ?_)
    rintro e w4 ⟨rfl, hb4⟩
    have HB4 := Aside0.mk (below_step HB3.out hb4)
    have HK34 := Aside0.mk hb4
    obtain ⟨its3, hI3⟩ := HI3.out
    have HI4 := Aside0.mk (IXi_below hI3 hb4)
    have HLK := Aside0.mk (like_calls w4 w.heap.size X its3 (stayV l 1) A3 ns c3 HI4.out (Kd.C_below HC3.out hb4) hc3 (by have := HNS.out; have := HSG.out; omega))
    clear hb4 hI3
    go_wp2_with fail
    (with_reducible refine HLK.out.mono ?_)
    rintro e w5 ⟨rfl, hb5⟩
    have HB5 := Aside0.mk (below_step HB4.out hb5)
    have HI5 := Aside0.mk (IXi_below HI4.out hb5)
    have HR5 := Aside0.mk (Kd.R_below HR3.out (below_step HK34.out hb5))
    have HP5 := Aside0.mk (Kd.R_below HP3.out (below_step HK34.out hb5))
    clear hb5
    go_wp2_with fail
    go_loopw [13] (fun v13 w' => ∃ (i : Nat) (cl : List Vr), v13 = .int .i64 i ∧ i ≤ ng ∧ Aside0 ((∃ its', IXi w' w.heap.size X cl.length its' cl) ∧ cl.length = ns + i ∧ ∀ q, q ∈ cl ↔ q ∈ stayV l 1 ∨ q ∈ (goneV l 1).take i) ∧ Aside0 (IFr w5 w') ∧ Aside0 (Below w.heap.size w w')) (fun v13 _ => ng - (intOf v13).toNat)
    case atStart => exact ⟨0, stayV l 1, rfl, Nat.zero_le _, ⟨⟨its3, HI5.out⟩, HNS.out, fun q => by simp⟩, ⟨IFr.refl _⟩, HB5⟩
    case round =>
      obtain ⟨i, cl, rfl, hin, HI, HIF, HB⟩ := hrel
      by_cases hlt : i < ng
      · have hgl : i < (goneV l 1).length := by rw [HNG.out]; exact hlt
        obtain ⟨p, hp⟩ : ∃ p, (goneV l 1).getD i default = p := ⟨_, rfl⟩
        have HPC : Aside0 (KVr.C wr A4 ng (goneV l 1)) := ⟨by
          obtain ⟨q1, q2, q3⟩ := Kd.R_reads' (OVr_ifr HP5.out HIF.out)
          rwa [HNG.out] at q3⟩
        obtain ⟨ad, hA, -⟩ := C_atVr HPC.out i hlt
        subst hA
        obtain ⟨q0, q1, q2, q3, q4, q5, q6, q7⟩ := vr8 rfl HPC.out i hlt p hp
        have hpl : p ∈ l := by
          have h9 : p ∈ goneV l 1 := by rw [← hp, List.getD_eq_getElem?_getD, List.getElem?_eq_getElem hgl]; exact List.getElem_mem hgl
          exact (List.mem_filter.1 h9).1
        have hgp := HF.out.2.2.2 p hpl
        obtain ⟨⟨its', hIc⟩, hcl, hcm⟩ := HI.out
        obtain ⟨ha1, ha2⟩ := add_back HSR.out (IXi_srt hIc) hcm hgl hp hgp.1
        have hsg := HSG.out
        have hia := iadd_calls wr w.heap.size X (cl.length : Int) its' cl p 2 hIc (by omega) (by omega) (by omega) (by omega) (by omega)
        have hal := add_len cl p
        rw [ha1, if_pos rfl] at hia hal
        have HIA := Aside0.mk hia
        have HAL := Aside0.mk hal
        have HA2 := Aside0.mk ha2
        have HCL := Aside0.mk hcl
        have j1 : (i : Int) < (ng : Int) := by omega
        have j2 : (0 : Int) ≤ (i : Int) := by omega
        clear hp hgl hpl hgp hIc hcl hcm ha1 ha2 hsg hia hal
        go_wp2_with fail
        (with_reducible refine HIA.out.mono ?_)
        rintro e w6 ⟨rfl, ⟨its6, hI6, -, -⟩, hif6, hb6⟩
        have HI6 : Aside0 (∃ its', IXi w6 w.heap.size X (addV cl p).1.length its' (addV cl p).1) := ⟨⟨its6, by rw [HAL.out]; push_cast; exact hI6⟩⟩
        have HIF6 := Aside0.mk (HIF.out.trans hif6)
        have HB6 := Aside0.mk (HB.out.trans hb6)
        clear hI6 hif6 hb6 q0 q1 q2 q3 q4 q5 q6 q7
        go_wp2_with fail
        go_roundw
        case rel => exact ⟨i + 1, (addV cl p).1, by push_cast; rfl, hlt, ⟨HI6.out, by rw [HAL.out, HCL.out]; omega, HA2.out⟩, HIF6, HB6⟩
        case measure => simp [intOf]; omega
      · have j1 : ¬ (i : Int) < (ng : Int) := by omega
        obtain ⟨⟨its', hIc⟩, hcl, hcm⟩ := HI.out
        have hce : cl = l := srt_ext cl l (IXi_srt hIc) HSR.out (fun q => by
          rw [hcm q, List.take_of_length_le (by rw [HNG.out]; omega)]
          exact stay_or l 1 q)
        subst hce
        have HRC : Aside0 (KVr.C wr A1 n cl) := ⟨by
          obtain ⟨q1, q2, q3⟩ := Kd.R_reads' (OVr_ifr HR5.out HIF.out)
          rwa [HN.out] at q3⟩
        have HLK9 := Aside0.mk (like_calls wr w.heap.size X its' cl A1 n c1 hIc HRC.out hc1 (by have := HN.out; omega))
        clear hIc hcl hcm hlt
        go_wp2_with fail
        (with_reducible refine HLK9.out.mono ?_)
        rintro e w7 ⟨rfl, hb7⟩
        have HB7 := Aside0.mk (below_step HB.out hb7)
        clear hb7
        go_wp2_with fail
        (with_reducible refine (lives_calls w7).mono ?_)
        rintro e w8 ⟨rfl, hb8⟩
        have HB8 := Aside0.mk (below_step HB7.out hb8)
        clear hb8
        go_wp2_with fail
        go_ret
        exact ⟨rfl, HB8.out⟩
  · go_wp2_with fail
    (with_reducible refine HFL.out.mono ?_)
    rintro e w1 ⟨X, v, l, rfl, hF, hl40⟩
    obtain ⟨n, hn⟩ : ∃ n, l.length = n := ⟨_, rfl⟩
    obtain ⟨A1, c1, rfl, hc1, hC1⟩ := OVr_readn hF.2.1 n hn
    obtain ⟨its, hI⟩ := hF.1
    have HSR := Aside0.mk (IXi_srt hI)
    have HKC := Aside0.mk (keep_two_calls w1 w.heap.size X its l hI (by omega))
    have HF := Aside0.mk hF
    have HN := Aside0.mk hn
    have hn40 : n ≤ 40 := by omega
    clear hF hI hC1 hn hl40 HFL
    go_wp2_with fail
    (with_reducible refine (epochs2_calls w1).mono ?_)
    rintro e w1' ⟨rfl, rfl⟩
    go_wp2_with fail
    (with_reducible refine HKC.out.mono ?_)
    rintro e w2 ⟨v2, rfl, hO2, hI2, hif2, hb2⟩
    obtain ⟨ng, hng⟩ : ∃ ng, (goneV l 2).length = ng := ⟨_, rfl⟩
    obtain ⟨ns, hns⟩ : ∃ ns, (stayV l 2).length = ns := ⟨_, rfl⟩
    have HSG : Aside0 (ns + ng = n) := ⟨by rw [← hns, ← hng, ← HN.out]; exact stay_gone l 2⟩
    have hng4 : ng ≤ 40 := by have := HSG.out; omega
    obtain ⟨A2, c2, rfl, hc2, hC2⟩ := OVr_readn hO2 ng hng
    have HC2 := Aside0.mk hC2
    have HI2 := Aside0.mk hI2
    have HR2 := Aside0.mk (OVr_ifr HF.out.2.1 hif2)
    have HB2 := Aside0.mk (HF.out.2.2.1.trans hb2)
    have HNG := Aside0.mk hng
    have HNS := Aside0.mk hns
    have HRC2 : Aside0 (KVr.C w2 A1 n l) := ⟨by
      obtain ⟨q1, q2, q3⟩ := Kd.R_reads' HR2.out
      rwa [HN.out] at q3⟩
    have HK3 := Aside0.mk (keep13_calls A1 n c1 l 2 w2 HRC2.out hc1 (by omega))
    clear hO2 hC2 hI2 hif2 hb2 hng hns HKC
    go_wp2_with fail
    (with_reducible refine HK3.out.mono ?_)
    rintro e w3 ⟨v3, u3, rfl, hO3, hP3, -, hb3⟩
    obtain ⟨A3, c3, rfl, hc3, hC3⟩ := OVr_readn hO3 ns HNS.out
    obtain ⟨A4, c4, rfl, hc4, hC4⟩ := OVr_readn hP3 ng HNG.out
    have HC3 := Aside0.mk hC3
    have HC4 := Aside0.mk hC4
    have HP3 := Aside0.mk hP3
    have HR3 := Aside0.mk (Kd.R_below HR2.out hb3)
    have HB3 := Aside0.mk (below_step HB2.out hb3)
    have HI3 : Aside0 (∃ its', IXi w3 w.heap.size X (stayV l 2).length its' (stayV l 2)) := ⟨by obtain ⟨i', h9⟩ := HI2.out; exact ⟨i', IXi_below h9 hb3⟩⟩
    have HS3 := Aside0.mk (same_calls A2 A4 ng c2 c4 (goneV l 2) w3 (Kd.C_below HC2.out hb3) hC4 hc2 hc4)
    clear hO3 hP3 hC3 hC4 hb3 HK3
    go_wp2_with fail
    (with_reducible refine HS3.out.mono ?_)
    rintro e w4 ⟨rfl, hb4⟩
    have HB4 := Aside0.mk (below_step HB3.out hb4)
    have HK34 := Aside0.mk hb4
    obtain ⟨its3, hI3⟩ := HI3.out
    have HI4 := Aside0.mk (IXi_below hI3 hb4)
    have HLK := Aside0.mk (like_calls w4 w.heap.size X its3 (stayV l 2) A3 ns c3 HI4.out (Kd.C_below HC3.out hb4) hc3 (by have := HNS.out; have := HSG.out; omega))
    clear hb4 hI3
    go_wp2_with fail
    (with_reducible refine HLK.out.mono ?_)
    rintro e w5 ⟨rfl, hb5⟩
    have HB5 := Aside0.mk (below_step HB4.out hb5)
    have HI5 := Aside0.mk (IXi_below HI4.out hb5)
    have HR5 := Aside0.mk (Kd.R_below HR3.out (below_step HK34.out hb5))
    have HP5 := Aside0.mk (Kd.R_below HP3.out (below_step HK34.out hb5))
    clear hb5
    go_wp2_with fail
    go_loopw [13] (fun v13 w' => ∃ (i : Nat) (cl : List Vr), v13 = .int .i64 i ∧ i ≤ ng ∧ Aside0 ((∃ its', IXi w' w.heap.size X cl.length its' cl) ∧ cl.length = ns + i ∧ ∀ q, q ∈ cl ↔ q ∈ stayV l 2 ∨ q ∈ (goneV l 2).take i) ∧ Aside0 (IFr w5 w') ∧ Aside0 (Below w.heap.size w w')) (fun v13 _ => ng - (intOf v13).toNat)
    case atStart => exact ⟨0, stayV l 2, rfl, Nat.zero_le _, ⟨⟨its3, HI5.out⟩, HNS.out, fun q => by simp⟩, ⟨IFr.refl _⟩, HB5⟩
    case round =>
      obtain ⟨i, cl, rfl, hin, HI, HIF, HB⟩ := hrel
      by_cases hlt : i < ng
      · have hgl : i < (goneV l 2).length := by rw [HNG.out]; exact hlt
        obtain ⟨p, hp⟩ : ∃ p, (goneV l 2).getD i default = p := ⟨_, rfl⟩
        have HPC : Aside0 (KVr.C wr A4 ng (goneV l 2)) := ⟨by
          obtain ⟨q1, q2, q3⟩ := Kd.R_reads' (OVr_ifr HP5.out HIF.out)
          rwa [HNG.out] at q3⟩
        obtain ⟨ad, hA, -⟩ := C_atVr HPC.out i hlt
        subst hA
        obtain ⟨q0, q1, q2, q3, q4, q5, q6, q7⟩ := vr8 rfl HPC.out i hlt p hp
        have hpl : p ∈ l := by
          have h9 : p ∈ goneV l 2 := by rw [← hp, List.getD_eq_getElem?_getD, List.getElem?_eq_getElem hgl]; exact List.getElem_mem hgl
          exact (List.mem_filter.1 h9).1
        have hgp := HF.out.2.2.2 p hpl
        obtain ⟨⟨its', hIc⟩, hcl, hcm⟩ := HI.out
        obtain ⟨ha1, ha2⟩ := add_back HSR.out (IXi_srt hIc) hcm hgl hp hgp.1
        have hsg := HSG.out
        have hia := iadd_calls wr w.heap.size X (cl.length : Int) its' cl p 2 hIc (by omega) (by omega) (by omega) (by omega) (by omega)
        have hal := add_len cl p
        rw [ha1, if_pos rfl] at hia hal
        have HIA := Aside0.mk hia
        have HAL := Aside0.mk hal
        have HA2 := Aside0.mk ha2
        have HCL := Aside0.mk hcl
        have j1 : (i : Int) < (ng : Int) := by omega
        have j2 : (0 : Int) ≤ (i : Int) := by omega
        clear hp hgl hpl hgp hIc hcl hcm ha1 ha2 hsg hia hal
        go_wp2_with fail
        (with_reducible refine HIA.out.mono ?_)
        rintro e w6 ⟨rfl, ⟨its6, hI6, -, -⟩, hif6, hb6⟩
        have HI6 : Aside0 (∃ its', IXi w6 w.heap.size X (addV cl p).1.length its' (addV cl p).1) := ⟨⟨its6, by rw [HAL.out]; push_cast; exact hI6⟩⟩
        have HIF6 := Aside0.mk (HIF.out.trans hif6)
        have HB6 := Aside0.mk (HB.out.trans hb6)
        clear hI6 hif6 hb6 q0 q1 q2 q3 q4 q5 q6 q7
        go_wp2_with fail
        go_roundw
        case rel => exact ⟨i + 1, (addV cl p).1, by push_cast; rfl, hlt, ⟨HI6.out, by rw [HAL.out, HCL.out]; omega, HA2.out⟩, HIF6, HB6⟩
        case measure => simp [intOf]; omega
      · have j1 : ¬ (i : Int) < (ng : Int) := by omega
        obtain ⟨⟨its', hIc⟩, hcl, hcm⟩ := HI.out
        have hce : cl = l := srt_ext cl l (IXi_srt hIc) HSR.out (fun q => by
          rw [hcm q, List.take_of_length_le (by rw [HNG.out]; omega)]
          exact stay_or l 2 q)
        subst hce
        have HRC : Aside0 (KVr.C wr A1 n cl) := ⟨by
          obtain ⟨q1, q2, q3⟩ := Kd.R_reads' (OVr_ifr HR5.out HIF.out)
          rwa [HN.out] at q3⟩
        have HLK9 := Aside0.mk (like_calls wr w.heap.size X its' cl A1 n c1 hIc HRC.out hc1 (by have := HN.out; omega))
        clear hIc hcl hcm hlt
        go_wp2_with fail
        (with_reducible refine HLK9.out.mono ?_)
        rintro e w7 ⟨rfl, hb7⟩
        have HB7 := Aside0.mk (below_step HB.out hb7)
        clear hb7
        go_wp2_with fail
        (with_reducible refine (lives_calls w7).mono ?_)
        rintro e w8 ⟨rfl, hb8⟩
        have HB8 := Aside0.mk (below_step HB7.out hb8)
        clear hb8
        go_wp2_with fail
        go_ret
        exact ⟨rfl, HB8.out⟩
  · go_wp2_with fail
    (with_reducible refine HFL.out.mono ?_)
    rintro e w1 ⟨X, v, l, rfl, hF, hl40⟩
    obtain ⟨n, hn⟩ : ∃ n, l.length = n := ⟨_, rfl⟩
    obtain ⟨A1, c1, rfl, hc1, hC1⟩ := OVr_readn hF.2.1 n hn
    obtain ⟨its, hI⟩ := hF.1
    have HSR := Aside0.mk (IXi_srt hI)
    have HKC := Aside0.mk (keep_three_calls w1 w.heap.size X its l hI (by omega))
    have HF := Aside0.mk hF
    have HN := Aside0.mk hn
    have hn40 : n ≤ 40 := by omega
    clear hF hI hC1 hn hl40 HFL
    go_wp2_with fail
    (with_reducible refine (epochs3_calls w1).mono ?_)
    rintro e w1' ⟨rfl, rfl⟩
    go_wp2_with fail
    (with_reducible refine HKC.out.mono ?_)
    rintro e w2 ⟨v2, rfl, hO2, hI2, hif2, hb2⟩
    obtain ⟨ng, hng⟩ : ∃ ng, (goneV l 3).length = ng := ⟨_, rfl⟩
    obtain ⟨ns, hns⟩ : ∃ ns, (stayV l 3).length = ns := ⟨_, rfl⟩
    have HSG : Aside0 (ns + ng = n) := ⟨by rw [← hns, ← hng, ← HN.out]; exact stay_gone l 3⟩
    have hng4 : ng ≤ 40 := by have := HSG.out; omega
    obtain ⟨A2, c2, rfl, hc2, hC2⟩ := OVr_readn hO2 ng hng
    have HC2 := Aside0.mk hC2
    have HI2 := Aside0.mk hI2
    have HR2 := Aside0.mk (OVr_ifr HF.out.2.1 hif2)
    have HB2 := Aside0.mk (HF.out.2.2.1.trans hb2)
    have HNG := Aside0.mk hng
    have HNS := Aside0.mk hns
    have HRC2 : Aside0 (KVr.C w2 A1 n l) := ⟨by
      obtain ⟨q1, q2, q3⟩ := Kd.R_reads' HR2.out
      rwa [HN.out] at q3⟩
    have HK3 := Aside0.mk (keep13_calls A1 n c1 l 3 w2 HRC2.out hc1 (by omega))
    clear hO2 hC2 hI2 hif2 hb2 hng hns HKC
    go_wp2_with fail
    (with_reducible refine HK3.out.mono ?_)
    rintro e w3 ⟨v3, u3, rfl, hO3, hP3, -, hb3⟩
    obtain ⟨A3, c3, rfl, hc3, hC3⟩ := OVr_readn hO3 ns HNS.out
    obtain ⟨A4, c4, rfl, hc4, hC4⟩ := OVr_readn hP3 ng HNG.out
    have HC3 := Aside0.mk hC3
    have HC4 := Aside0.mk hC4
    have HP3 := Aside0.mk hP3
    have HR3 := Aside0.mk (Kd.R_below HR2.out hb3)
    have HB3 := Aside0.mk (below_step HB2.out hb3)
    have HI3 : Aside0 (∃ its', IXi w3 w.heap.size X (stayV l 3).length its' (stayV l 3)) := ⟨by obtain ⟨i', h9⟩ := HI2.out; exact ⟨i', IXi_below h9 hb3⟩⟩
    have HS3 := Aside0.mk (same_calls A2 A4 ng c2 c4 (goneV l 3) w3 (Kd.C_below HC2.out hb3) hC4 hc2 hc4)
    clear hO3 hP3 hC3 hC4 hb3 HK3
    go_wp2_with fail
    (with_reducible refine HS3.out.mono ?_)
    rintro e w4 ⟨rfl, hb4⟩
    have HB4 := Aside0.mk (below_step HB3.out hb4)
    have HK34 := Aside0.mk hb4
    obtain ⟨its3, hI3⟩ := HI3.out
    have HI4 := Aside0.mk (IXi_below hI3 hb4)
    have HLK := Aside0.mk (like_calls w4 w.heap.size X its3 (stayV l 3) A3 ns c3 HI4.out (Kd.C_below HC3.out hb4) hc3 (by have := HNS.out; have := HSG.out; omega))
    clear hb4 hI3
    go_wp2_with fail
    (with_reducible refine HLK.out.mono ?_)
    rintro e w5 ⟨rfl, hb5⟩
    have HB5 := Aside0.mk (below_step HB4.out hb5)
    have HI5 := Aside0.mk (IXi_below HI4.out hb5)
    have HR5 := Aside0.mk (Kd.R_below HR3.out (below_step HK34.out hb5))
    have HP5 := Aside0.mk (Kd.R_below HP3.out (below_step HK34.out hb5))
    clear hb5
    go_wp2_with fail
    go_loopw [13] (fun v13 w' => ∃ (i : Nat) (cl : List Vr), v13 = .int .i64 i ∧ i ≤ ng ∧ Aside0 ((∃ its', IXi w' w.heap.size X cl.length its' cl) ∧ cl.length = ns + i ∧ ∀ q, q ∈ cl ↔ q ∈ stayV l 3 ∨ q ∈ (goneV l 3).take i) ∧ Aside0 (IFr w5 w') ∧ Aside0 (Below w.heap.size w w')) (fun v13 _ => ng - (intOf v13).toNat)
    case atStart => exact ⟨0, stayV l 3, rfl, Nat.zero_le _, ⟨⟨its3, HI5.out⟩, HNS.out, fun q => by simp⟩, ⟨IFr.refl _⟩, HB5⟩
    case round =>
      obtain ⟨i, cl, rfl, hin, HI, HIF, HB⟩ := hrel
      by_cases hlt : i < ng
      · have hgl : i < (goneV l 3).length := by rw [HNG.out]; exact hlt
        obtain ⟨p, hp⟩ : ∃ p, (goneV l 3).getD i default = p := ⟨_, rfl⟩
        have HPC : Aside0 (KVr.C wr A4 ng (goneV l 3)) := ⟨by
          obtain ⟨q1, q2, q3⟩ := Kd.R_reads' (OVr_ifr HP5.out HIF.out)
          rwa [HNG.out] at q3⟩
        obtain ⟨ad, hA, -⟩ := C_atVr HPC.out i hlt
        subst hA
        obtain ⟨q0, q1, q2, q3, q4, q5, q6, q7⟩ := vr8 rfl HPC.out i hlt p hp
        have hpl : p ∈ l := by
          have h9 : p ∈ goneV l 3 := by rw [← hp, List.getD_eq_getElem?_getD, List.getElem?_eq_getElem hgl]; exact List.getElem_mem hgl
          exact (List.mem_filter.1 h9).1
        have hgp := HF.out.2.2.2 p hpl
        obtain ⟨⟨its', hIc⟩, hcl, hcm⟩ := HI.out
        obtain ⟨ha1, ha2⟩ := add_back HSR.out (IXi_srt hIc) hcm hgl hp hgp.1
        have hsg := HSG.out
        have hia := iadd_calls wr w.heap.size X (cl.length : Int) its' cl p 2 hIc (by omega) (by omega) (by omega) (by omega) (by omega)
        have hal := add_len cl p
        rw [ha1, if_pos rfl] at hia hal
        have HIA := Aside0.mk hia
        have HAL := Aside0.mk hal
        have HA2 := Aside0.mk ha2
        have HCL := Aside0.mk hcl
        have j1 : (i : Int) < (ng : Int) := by omega
        have j2 : (0 : Int) ≤ (i : Int) := by omega
        clear hp hgl hpl hgp hIc hcl hcm ha1 ha2 hsg hia hal
        go_wp2_with fail
        (with_reducible refine HIA.out.mono ?_)
        rintro e w6 ⟨rfl, ⟨its6, hI6, -, -⟩, hif6, hb6⟩
        have HI6 : Aside0 (∃ its', IXi w6 w.heap.size X (addV cl p).1.length its' (addV cl p).1) := ⟨⟨its6, by rw [HAL.out]; push_cast; exact hI6⟩⟩
        have HIF6 := Aside0.mk (HIF.out.trans hif6)
        have HB6 := Aside0.mk (HB.out.trans hb6)
        clear hI6 hif6 hb6 q0 q1 q2 q3 q4 q5 q6 q7
        go_wp2_with fail
        go_roundw
        case rel => exact ⟨i + 1, (addV cl p).1, by push_cast; rfl, hlt, ⟨HI6.out, by rw [HAL.out, HCL.out]; omega, HA2.out⟩, HIF6, HB6⟩
        case measure => simp [intOf]; omega
      · have j1 : ¬ (i : Int) < (ng : Int) := by omega
        obtain ⟨⟨its', hIc⟩, hcl, hcm⟩ := HI.out
        have hce : cl = l := srt_ext cl l (IXi_srt hIc) HSR.out (fun q => by
          rw [hcm q, List.take_of_length_le (by rw [HNG.out]; omega)]
          exact stay_or l 3 q)
        subst hce
        have HRC : Aside0 (KVr.C wr A1 n cl) := ⟨by
          obtain ⟨q1, q2, q3⟩ := Kd.R_reads' (OVr_ifr HR5.out HIF.out)
          rwa [HN.out] at q3⟩
        have HLK9 := Aside0.mk (like_calls wr w.heap.size X its' cl A1 n c1 hIc HRC.out hc1 (by have := HN.out; omega))
        clear hIc hcl hcm hlt
        go_wp2_with fail
        (with_reducible refine HLK9.out.mono ?_)
        rintro e w7 ⟨rfl, hb7⟩
        have HB7 := Aside0.mk (below_step HB.out hb7)
        clear hb7
        go_wp2_with fail
        (with_reducible refine (lives_calls w7).mono ?_)
        rintro e w8 ⟨rfl, hb8⟩
        have HB8 := Aside0.mk (below_step HB7.out hb8)
        clear hb8
        go_wp2_with fail
        go_ret
        exact ⟨rfl, HB8.out⟩
  · go_wp2_with fail
    (with_reducible refine HFL.out.mono ?_)
    rintro e w1 ⟨X, v, l, rfl, hF, hl40⟩
    obtain ⟨n, hn⟩ : ∃ n, l.length = n := ⟨_, rfl⟩
    obtain ⟨A1, c1, rfl, hc1, hC1⟩ := OVr_readn hF.2.1 n hn
    obtain ⟨its, hI⟩ := hF.1
    have HSR := Aside0.mk (IXi_srt hI)
    have HKC := Aside0.mk (keep_three_calls w1 w.heap.size X its l hI (by omega))
    have HF := Aside0.mk hF
    have HN := Aside0.mk hn
    have hn40 : n ≤ 40 := by omega
    clear hF hI hC1 hn hl40 HFL
    go_wp2_with fail
    (with_reducible refine (epochs3_calls w1).mono ?_)
    rintro e w1' ⟨rfl, rfl⟩
    go_wp2_with fail
    (with_reducible refine HKC.out.mono ?_)
    rintro e w2 ⟨v2, rfl, hO2, hI2, hif2, hb2⟩
    obtain ⟨ng, hng⟩ : ∃ ng, (goneV l 3).length = ng := ⟨_, rfl⟩
    obtain ⟨ns, hns⟩ : ∃ ns, (stayV l 3).length = ns := ⟨_, rfl⟩
    have HSG : Aside0 (ns + ng = n) := ⟨by rw [← hns, ← hng, ← HN.out]; exact stay_gone l 3⟩
    have hng4 : ng ≤ 40 := by have := HSG.out; omega
    obtain ⟨A2, c2, rfl, hc2, hC2⟩ := OVr_readn hO2 ng hng
    have HC2 := Aside0.mk hC2
    have HI2 := Aside0.mk hI2
    have HR2 := Aside0.mk (OVr_ifr HF.out.2.1 hif2)
    have HB2 := Aside0.mk (HF.out.2.2.1.trans hb2)
    have HNG := Aside0.mk hng
    have HNS := Aside0.mk hns
    have HRC2 : Aside0 (KVr.C w2 A1 n l) := ⟨by
      obtain ⟨q1, q2, q3⟩ := Kd.R_reads' HR2.out
      rwa [HN.out] at q3⟩
    have HK3 := Aside0.mk (keep13_calls A1 n c1 l 3 w2 HRC2.out hc1 (by omega))
    clear hO2 hC2 hI2 hif2 hb2 hng hns HKC
    go_wp2_with fail
    (with_reducible refine HK3.out.mono ?_)
    rintro e w3 ⟨v3, u3, rfl, hO3, hP3, -, hb3⟩
    obtain ⟨A3, c3, rfl, hc3, hC3⟩ := OVr_readn hO3 ns HNS.out
    obtain ⟨A4, c4, rfl, hc4, hC4⟩ := OVr_readn hP3 ng HNG.out
    have HC3 := Aside0.mk hC3
    have HC4 := Aside0.mk hC4
    have HP3 := Aside0.mk hP3
    have HR3 := Aside0.mk (Kd.R_below HR2.out hb3)
    have HB3 := Aside0.mk (below_step HB2.out hb3)
    have HI3 : Aside0 (∃ its', IXi w3 w.heap.size X (stayV l 3).length its' (stayV l 3)) := ⟨by obtain ⟨i', h9⟩ := HI2.out; exact ⟨i', IXi_below h9 hb3⟩⟩
    have HS3 := Aside0.mk (same_calls A2 A4 ng c2 c4 (goneV l 3) w3 (Kd.C_below HC2.out hb3) hC4 hc2 hc4)
    clear hO3 hP3 hC3 hC4 hb3 HK3
    go_wp2_with fail
    (with_reducible refine HS3.out.mono ?_)
    rintro e w4 ⟨rfl, hb4⟩
    have HB4 := Aside0.mk (below_step HB3.out hb4)
    have HK34 := Aside0.mk hb4
    obtain ⟨its3, hI3⟩ := HI3.out
    have HI4 := Aside0.mk (IXi_below hI3 hb4)
    have HLK := Aside0.mk (like_calls w4 w.heap.size X its3 (stayV l 3) A3 ns c3 HI4.out (Kd.C_below HC3.out hb4) hc3 (by have := HNS.out; have := HSG.out; omega))
    clear hb4 hI3
    go_wp2_with fail
    (with_reducible refine HLK.out.mono ?_)
    rintro e w5 ⟨rfl, hb5⟩
    have HB5 := Aside0.mk (below_step HB4.out hb5)
    have HI5 := Aside0.mk (IXi_below HI4.out hb5)
    have HR5 := Aside0.mk (Kd.R_below HR3.out (below_step HK34.out hb5))
    have HP5 := Aside0.mk (Kd.R_below HP3.out (below_step HK34.out hb5))
    clear hb5
    go_wp2_with fail
    go_loopw [13] (fun v13 w' => ∃ (i : Nat) (cl : List Vr), v13 = .int .i64 i ∧ i ≤ ng ∧ Aside0 ((∃ its', IXi w' w.heap.size X cl.length its' cl) ∧ cl.length = ns + i ∧ ∀ q, q ∈ cl ↔ q ∈ stayV l 3 ∨ q ∈ (goneV l 3).take i) ∧ Aside0 (IFr w5 w') ∧ Aside0 (Below w.heap.size w w')) (fun v13 _ => ng - (intOf v13).toNat)
    case atStart => exact ⟨0, stayV l 3, rfl, Nat.zero_le _, ⟨⟨its3, HI5.out⟩, HNS.out, fun q => by simp⟩, ⟨IFr.refl _⟩, HB5⟩
    case round =>
      obtain ⟨i, cl, rfl, hin, HI, HIF, HB⟩ := hrel
      by_cases hlt : i < ng
      · have hgl : i < (goneV l 3).length := by rw [HNG.out]; exact hlt
        obtain ⟨p, hp⟩ : ∃ p, (goneV l 3).getD i default = p := ⟨_, rfl⟩
        have HPC : Aside0 (KVr.C wr A4 ng (goneV l 3)) := ⟨by
          obtain ⟨q1, q2, q3⟩ := Kd.R_reads' (OVr_ifr HP5.out HIF.out)
          rwa [HNG.out] at q3⟩
        obtain ⟨ad, hA, -⟩ := C_atVr HPC.out i hlt
        subst hA
        obtain ⟨q0, q1, q2, q3, q4, q5, q6, q7⟩ := vr8 rfl HPC.out i hlt p hp
        have hpl : p ∈ l := by
          have h9 : p ∈ goneV l 3 := by rw [← hp, List.getD_eq_getElem?_getD, List.getElem?_eq_getElem hgl]; exact List.getElem_mem hgl
          exact (List.mem_filter.1 h9).1
        have hgp := HF.out.2.2.2 p hpl
        obtain ⟨⟨its', hIc⟩, hcl, hcm⟩ := HI.out
        obtain ⟨ha1, ha2⟩ := add_back HSR.out (IXi_srt hIc) hcm hgl hp hgp.1
        have hsg := HSG.out
        have hia := iadd_calls wr w.heap.size X (cl.length : Int) its' cl p 2 hIc (by omega) (by omega) (by omega) (by omega) (by omega)
        have hal := add_len cl p
        rw [ha1, if_pos rfl] at hia hal
        have HIA := Aside0.mk hia
        have HAL := Aside0.mk hal
        have HA2 := Aside0.mk ha2
        have HCL := Aside0.mk hcl
        have j1 : (i : Int) < (ng : Int) := by omega
        have j2 : (0 : Int) ≤ (i : Int) := by omega
        clear hp hgl hpl hgp hIc hcl hcm ha1 ha2 hsg hia hal
        go_wp2_with fail
        (with_reducible refine HIA.out.mono ?_)
        rintro e w6 ⟨rfl, ⟨its6, hI6, -, -⟩, hif6, hb6⟩
        have HI6 : Aside0 (∃ its', IXi w6 w.heap.size X (addV cl p).1.length its' (addV cl p).1) := ⟨⟨its6, by rw [HAL.out]; push_cast; exact hI6⟩⟩
        have HIF6 := Aside0.mk (HIF.out.trans hif6)
        have HB6 := Aside0.mk (HB.out.trans hb6)
        clear hI6 hif6 hb6 q0 q1 q2 q3 q4 q5 q6 q7
        go_wp2_with fail
        go_roundw
        case rel => exact ⟨i + 1, (addV cl p).1, by push_cast; rfl, hlt, ⟨HI6.out, by rw [HAL.out, HCL.out]; omega, HA2.out⟩, HIF6, HB6⟩
        case measure => simp [intOf]; omega
      · have j1 : ¬ (i : Int) < (ng : Int) := by omega
        obtain ⟨⟨its', hIc⟩, hcl, hcm⟩ := HI.out
        have hce : cl = l := srt_ext cl l (IXi_srt hIc) HSR.out (fun q => by
          rw [hcm q, List.take_of_length_le (by rw [HNG.out]; omega)]
          exact stay_or l 3 q)
        subst hce
        have HRC : Aside0 (KVr.C wr A1 n cl) := ⟨by
          obtain ⟨q1, q2, q3⟩ := Kd.R_reads' (OVr_ifr HR5.out HIF.out)
          rwa [HN.out] at q3⟩
        have HLK9 := Aside0.mk (like_calls wr w.heap.size X its' cl A1 n c1 hIc HRC.out hc1 (by have := HN.out; omega))
        clear hIc hcl hcm hlt
        go_wp2_with fail
        (with_reducible refine HLK9.out.mono ?_)
        rintro e w7 ⟨rfl, hb7⟩
        have HB7 := Aside0.mk (below_step HB.out hb7)
        clear hb7
        go_wp2_with fail
        (with_reducible refine (lives_calls w7).mono ?_)
        rintro e w8 ⟨rfl, hb8⟩
        have HB8 := Aside0.mk (below_step HB7.out hb8)
        clear hb8
        go_wp2_with fail
        go_ret
        exact ⟨rfl, HB8.out⟩
  · have j9 : ¬ epoch < 1 := by omega
    go_wp2_with fail
    (with_reducible refine HFL.out.mono ?_)
    rintro e w1 ⟨X, v, l, rfl, hF, hl40⟩
    obtain ⟨n, hn⟩ : ∃ n, l.length = n := ⟨_, rfl⟩
    obtain ⟨A1, c1, rfl, hc1, hC1⟩ := OVr_readn hF.2.1 n hn
    obtain ⟨its, hI⟩ := hF.1
    have HSR := Aside0.mk (IXi_srt hI)
    have HKC := Aside0.mk (keep_three_calls w1 w.heap.size X its l hI (by omega))
    have HF := Aside0.mk hF
    have HN := Aside0.mk hn
    have hn40 : n ≤ 40 := by omega
    clear hF hI hC1 hn hl40 HFL
    go_wp2_with fail
    (with_reducible refine (epochs3_calls w1).mono ?_)
    rintro e w1' ⟨rfl, rfl⟩
    go_wp2_with fail
    (with_reducible refine HKC.out.mono ?_)
    rintro e w2 ⟨v2, rfl, hO2, hI2, hif2, hb2⟩
    obtain ⟨ng, hng⟩ : ∃ ng, (goneV l 3).length = ng := ⟨_, rfl⟩
    obtain ⟨ns, hns⟩ : ∃ ns, (stayV l 3).length = ns := ⟨_, rfl⟩
    have HSG : Aside0 (ns + ng = n) := ⟨by rw [← hns, ← hng, ← HN.out]; exact stay_gone l 3⟩
    have hng4 : ng ≤ 40 := by have := HSG.out; omega
    obtain ⟨A2, c2, rfl, hc2, hC2⟩ := OVr_readn hO2 ng hng
    have HC2 := Aside0.mk hC2
    have HI2 := Aside0.mk hI2
    have HR2 := Aside0.mk (OVr_ifr HF.out.2.1 hif2)
    have HB2 := Aside0.mk (HF.out.2.2.1.trans hb2)
    have HNG := Aside0.mk hng
    have HNS := Aside0.mk hns
    have HRC2 : Aside0 (KVr.C w2 A1 n l) := ⟨by
      obtain ⟨q1, q2, q3⟩ := Kd.R_reads' HR2.out
      rwa [HN.out] at q3⟩
    have HK3 := Aside0.mk (keep13_calls A1 n c1 l 3 w2 HRC2.out hc1 (by omega))
    clear hO2 hC2 hI2 hif2 hb2 hng hns HKC
    go_wp2_with fail
    (with_reducible refine HK3.out.mono ?_)
    rintro e w3 ⟨v3, u3, rfl, hO3, hP3, -, hb3⟩
    obtain ⟨A3, c3, rfl, hc3, hC3⟩ := OVr_readn hO3 ns HNS.out
    obtain ⟨A4, c4, rfl, hc4, hC4⟩ := OVr_readn hP3 ng HNG.out
    have HC3 := Aside0.mk hC3
    have HC4 := Aside0.mk hC4
    have HP3 := Aside0.mk hP3
    have HR3 := Aside0.mk (Kd.R_below HR2.out hb3)
    have HB3 := Aside0.mk (below_step HB2.out hb3)
    have HI3 : Aside0 (∃ its', IXi w3 w.heap.size X (stayV l 3).length its' (stayV l 3)) := ⟨by obtain ⟨i', h9⟩ := HI2.out; exact ⟨i', IXi_below h9 hb3⟩⟩
    have HS3 := Aside0.mk (same_calls A2 A4 ng c2 c4 (goneV l 3) w3 (Kd.C_below HC2.out hb3) hC4 hc2 hc4)
    clear hO3 hP3 hC3 hC4 hb3 HK3
    go_wp2_with fail
    (with_reducible refine HS3.out.mono ?_)
    rintro e w4 ⟨rfl, hb4⟩
    have HB4 := Aside0.mk (below_step HB3.out hb4)
    have HK34 := Aside0.mk hb4
    obtain ⟨its3, hI3⟩ := HI3.out
    have HI4 := Aside0.mk (IXi_below hI3 hb4)
    have HLK := Aside0.mk (like_calls w4 w.heap.size X its3 (stayV l 3) A3 ns c3 HI4.out (Kd.C_below HC3.out hb4) hc3 (by have := HNS.out; have := HSG.out; omega))
    clear hb4 hI3
    go_wp2_with fail
    (with_reducible refine HLK.out.mono ?_)
    rintro e w5 ⟨rfl, hb5⟩
    have HB5 := Aside0.mk (below_step HB4.out hb5)
    have HI5 := Aside0.mk (IXi_below HI4.out hb5)
    have HR5 := Aside0.mk (Kd.R_below HR3.out (below_step HK34.out hb5))
    have HP5 := Aside0.mk (Kd.R_below HP3.out (below_step HK34.out hb5))
    clear hb5
    go_wp2_with fail
    go_loopw [13] (fun v13 w' => ∃ (i : Nat) (cl : List Vr), v13 = .int .i64 i ∧ i ≤ ng ∧ Aside0 ((∃ its', IXi w' w.heap.size X cl.length its' cl) ∧ cl.length = ns + i ∧ ∀ q, q ∈ cl ↔ q ∈ stayV l 3 ∨ q ∈ (goneV l 3).take i) ∧ Aside0 (IFr w5 w') ∧ Aside0 (Below w.heap.size w w')) (fun v13 _ => ng - (intOf v13).toNat)
    case atStart => exact ⟨0, stayV l 3, rfl, Nat.zero_le _, ⟨⟨its3, HI5.out⟩, HNS.out, fun q => by simp⟩, ⟨IFr.refl _⟩, HB5⟩
    case round =>
      obtain ⟨i, cl, rfl, hin, HI, HIF, HB⟩ := hrel
      by_cases hlt : i < ng
      · have hgl : i < (goneV l 3).length := by rw [HNG.out]; exact hlt
        obtain ⟨p, hp⟩ : ∃ p, (goneV l 3).getD i default = p := ⟨_, rfl⟩
        have HPC : Aside0 (KVr.C wr A4 ng (goneV l 3)) := ⟨by
          obtain ⟨q1, q2, q3⟩ := Kd.R_reads' (OVr_ifr HP5.out HIF.out)
          rwa [HNG.out] at q3⟩
        obtain ⟨ad, hA, -⟩ := C_atVr HPC.out i hlt
        subst hA
        obtain ⟨q0, q1, q2, q3, q4, q5, q6, q7⟩ := vr8 rfl HPC.out i hlt p hp
        have hpl : p ∈ l := by
          have h9 : p ∈ goneV l 3 := by rw [← hp, List.getD_eq_getElem?_getD, List.getElem?_eq_getElem hgl]; exact List.getElem_mem hgl
          exact (List.mem_filter.1 h9).1
        have hgp := HF.out.2.2.2 p hpl
        obtain ⟨⟨its', hIc⟩, hcl, hcm⟩ := HI.out
        obtain ⟨ha1, ha2⟩ := add_back HSR.out (IXi_srt hIc) hcm hgl hp hgp.1
        have hsg := HSG.out
        have hia := iadd_calls wr w.heap.size X (cl.length : Int) its' cl p 2 hIc (by omega) (by omega) (by omega) (by omega) (by omega)
        have hal := add_len cl p
        rw [ha1, if_pos rfl] at hia hal
        have HIA := Aside0.mk hia
        have HAL := Aside0.mk hal
        have HA2 := Aside0.mk ha2
        have HCL := Aside0.mk hcl
        have j1 : (i : Int) < (ng : Int) := by omega
        have j2 : (0 : Int) ≤ (i : Int) := by omega
        clear hp hgl hpl hgp hIc hcl hcm ha1 ha2 hsg hia hal
        go_wp2_with fail
        (with_reducible refine HIA.out.mono ?_)
        rintro e w6 ⟨rfl, ⟨its6, hI6, -, -⟩, hif6, hb6⟩
        have HI6 : Aside0 (∃ its', IXi w6 w.heap.size X (addV cl p).1.length its' (addV cl p).1) := ⟨⟨its6, by rw [HAL.out]; push_cast; exact hI6⟩⟩
        have HIF6 := Aside0.mk (HIF.out.trans hif6)
        have HB6 := Aside0.mk (HB.out.trans hb6)
        clear hI6 hif6 hb6 q0 q1 q2 q3 q4 q5 q6 q7
        go_wp2_with fail
        go_roundw
        case rel => exact ⟨i + 1, (addV cl p).1, by push_cast; rfl, hlt, ⟨HI6.out, by rw [HAL.out, HCL.out]; omega, HA2.out⟩, HIF6, HB6⟩
        case measure => simp [intOf]; omega
      · have j1 : ¬ (i : Int) < (ng : Int) := by omega
        obtain ⟨⟨its', hIc⟩, hcl, hcm⟩ := HI.out
        have hce : cl = l := srt_ext cl l (IXi_srt hIc) HSR.out (fun q => by
          rw [hcm q, List.take_of_length_le (by rw [HNG.out]; omega)]
          exact stay_or l 3 q)
        subst hce
        have HRC : Aside0 (KVr.C wr A1 n cl) := ⟨by
          obtain ⟨q1, q2, q3⟩ := Kd.R_reads' (OVr_ifr HR5.out HIF.out)
          rwa [HN.out] at q3⟩
        have HLK9 := Aside0.mk (like_calls wr w.heap.size X its' cl A1 n c1 hIc HRC.out hc1 (by have := HN.out; omega))
        clear hIc hcl hcm hlt
        go_wp2_with fail
        (with_reducible refine HLK9.out.mono ?_)
        rintro e w7 ⟨rfl, hb7⟩
        have HB7 := Aside0.mk (below_step HB.out hb7)
        clear hb7
        go_wp2_with fail
        (with_reducible refine (lives_calls w7).mono ?_)
        rintro e w8 ⟨rfl, hb8⟩
        have HB8 := Aside0.mk (below_step HB7.out hb8)
        clear hb8
        go_wp2_with fail
        go_ret
        exact ⟨rfl, HB8.out⟩
end Go.Proofs.Ytheoodbkjgfdfaa.A
