/- ChainOrder: what is told does not hang on the row in which versions are put, nor on levels. -/
import Derived.Test.YtheoodbkjgfdfaaNLives
namespace Go.Proofs.Ytheoodbkjgfdfaa.A
open R
open Go.RowKit Go.Proofs.YtheoodbkjgfdfaaW.PrintWords Go.Proofs.YtheoodbkjgfdfaaW.PrintLast Go.Proofs.YtheoodbkjgfdfaaW.PrintMore
set_option linter.unusedVariables false
set_option linter.unusedSimpArgs false

theorem add_front {l : List Vr} (h : SrtV l) (i : Nat) (hi : i < l.length) (p : Vr) (hp : l.getD i default = p) (hm : mayV p = true) : addV (l.drop (i + 1)) p = (l.drop i, 0) := by
  have e : l.drop i = p :: l.drop (i + 1) := by
    rw [List.drop_eq_getElem_cons hi, ← hp, List.getD_eq_getElem?_getD, List.getElem?_eq_getElem hi]
    rfl
  have hs : SrtV (l.drop i) := List.Pairwise.sublist (List.drop_sublist _ _) h
  rw [e] at hs ⊢
  have hall : ∀ q ∈ l.drop (i + 1), 0 < cmpV q p := fun q hq => by
    have h1 := List.rel_of_pairwise_cons hs hq
    have h2 := cmpV_swap p q
    omega
  obtain ⟨h1, h2⟩ := tw_app (p := fun q => decide (cmpV q p < 0)) [] (l.drop (i + 1)) (fun q hq => nomatch hq) (fun q hq => decide_eq_false (by have := hall q hq; omega))
  have h3 : hadV (l.drop (i + 1)) p = false := by
    unfold hadV
    rw [List.any_eq_false]
    intro q hq hc
    have := hall q hq
    have := of_decide_eq_true hc
    omega
  have e1 : aV (l.drop (i + 1)) p = [] := h1
  have e2 : bV (l.drop (i + 1)) p = l.drop (i + 1) := h2
  unfold addV
  rw [if_neg (by rw [hm]; simp), if_neg (by rw [h3]; simp), e1, e2]
  rfl
set_option maxRecDepth 100000 in
set_option maxHeartbeats 8000000 in
theorem order_calls (w : World) (A : Option Addr) (c : Nat) (pl : List Pu) (hr : KPu.C w A pl.length pl) (hc : pl.length ≤ c) (hg : ∀ d ∈ pl, d.fits) :
    Calls Try.prog 3 #[.slice A pl.length c] w fun e w' => e = .returned (.bool true) ∧ Below w.heap.size w w' := by
  have hm := hr.2.1
  obtain ⟨n0, hn0⟩ : ∃ n0, pl.length = n0 := ⟨_, rfl⟩
  have HFA : Aside0 (30 < n0 → Calls Try.prog 8 #[.slice A 30 c] w fun e w' => ∃ X v l, e = .returned (.tuple #[.pointer (some ⟨X, 0, none⟩), v, .bool true]) ∧ FI w w' X v l ∧ l.length ≤ 40) := ⟨fun h30 => by
    have h9 := filled_calls w A (pl.take 30).length c (pl.take 30) (C_take_any hr 30) (by rw [List.length_take]; omega) (fun d hd => hg d (List.mem_of_mem_take hd))
    rw [List.length_take, show min 30 pl.length = 30 by omega] at h9
    exact h9⟩
  have HFB := Aside0.mk (filled_calls w A pl.length c pl hr hc hg)
  rw [hn0] at HFB hc hm ⊢
  clear hr hg hn0
  go_enter Try.func3, Try.ntmps3
  have j0 : (30 : Int) < (n0 : Int) ∨ ¬ (30 : Int) < (n0 : Int) := by omega
  rcases j0 with j0 | j0
  · have k0 : (30 : Int) ≤ (c : Int) := by omega
    have k1 : 30 ≤ c := by omega
    have HFL := Aside0.mk (HFA.out (by omega))
    clear HFA HFB
    go_wp2_with fail
    (with_reducible refine HFL.out.mono ?_)
    rintro e w1 ⟨X, v, l, rfl, hF, hl40⟩
    obtain ⟨n, hn⟩ : ∃ n, l.length = n := ⟨_, rfl⟩
    obtain ⟨A1, c1, rfl, hc1, hC1⟩ := OVr_readn hF.2.1 n hn
    obtain ⟨its, hI⟩ := hF.1
    have HI := Aside0.mk hI
    have HF := Aside0.mk hF
    have HN := Aside0.mk hn
    have HL := Aside0.mk (show l.length ≤ 4000 by omega)
    have HC := Aside0.mk hC1
    have HB1 := Aside0.mk hF.2.2.1
    have hn40 : n ≤ 40 := by omega
    clear hF hI hC1 hn hl40 HFL
    have HSR := Aside0.mk (IXi_srt HI.out)
    have HGD := Aside0.mk HF.out.2.2.2
    have j4 : IntKind.i64.wrap ((n : Int) - 1) = (n : Int) - 1 := IntWalk.i64_in _ (by omega)
    go_wp2_with fail
    (with_reducible refine (xnew_calls w1).mono ?_)
    rintro e w2 ⟨Y, rfl, hY, hb2⟩
    have HY2 : Aside0 (∃ its', IXi w2 w1.heap.size Y (l.drop n).length its' (l.drop n)) := ⟨⟨[], by rw [List.drop_of_length_le (by rw [HN.out]; exact Nat.le_refl _)]; exact hY⟩⟩
    have HK2 := Aside0.mk hb2
    clear hY hb2
    go_wp2_with fail
    go_loopw [7] (fun v7 w' => ∃ j : Nat, v7 = .int .i64 ((j : Int) - 1) ∧ j ≤ n ∧ Aside0 (∃ its', IXi w' w1.heap.size Y (l.drop j).length its' (l.drop j)) ∧ Aside0 (Below w1.heap.size w1 w')) (fun v7 _ => (intOf v7 + 1).toNat)
    case atStart => exact ⟨n, rfl, Nat.le_refl _, HY2, HK2⟩
    case round =>
      obtain ⟨j, rfl, hjn, HY, HK⟩ := hrel
      cases j with
      | succ i =>
        rw [show ((i + 1 : Nat) : Int) - 1 = (i : Int) by omega]
        have hil : i < n := by omega
        have hln : i < l.length := by have := HN.out; omega
        obtain ⟨ad, rfl, -⟩ := C_atVr HC.out i hil
        obtain ⟨p, hp⟩ : ∃ p, l.getD i default = p := ⟨_, rfl⟩
        obtain ⟨q0, q1, q2, q3, q4, q5, q6, q7⟩ := vr8 rfl (Kd.C_below HC.out HK.out) i hil p hp
        have hgp := HGD.out p (by rw [← hp, List.getD_eq_getElem?_getD, List.getElem?_eq_getElem hln]; exact List.getElem_mem hln)
        have haf := add_front HSR.out i hln p hp hgp.1
        obtain ⟨its', hIY⟩ := HY.out
        have hld := List.length_drop (i := i) (l := l)
        have hld1 := List.length_drop (i := i + 1) (l := l)
        have hlen9 := HN.out
        have hia := iadd_calls wr w1.heap.size Y ((l.drop (i + 1)).length : Int) its' (l.drop (i + 1)) p 1 hIY (by omega) (by omega) (by omega) (by omega) (by omega)
        rw [haf, if_pos rfl, show (((l.drop (i + 1)).length : Int) + 1) = ((l.drop i).length : Int) by omega] at hia
        have HIA := Aside0.mk hia
        have j1 : (0 : Int) ≤ (i : Int) := by omega
        have j2 : (i : Int) < (n : Int) := by omega
        have j3 : IntKind.i64.wrap ((i : Int) - 1) = (i : Int) - 1 := IntWalk.i64_in _ (by omega)
        clear hp hgp haf hIY hld hld1 hia hlen9
        go_wp2_with fail
        (with_reducible refine HIA.out.mono ?_)
        rintro e w3 ⟨rfl, ⟨its3, hI3, -, -⟩, -, hb3⟩
        have HY3 : Aside0 (∃ its', IXi w3 w1.heap.size Y (l.drop i).length its' (l.drop i)) := ⟨⟨its3, hI3⟩⟩
        have HK3 := Aside0.mk (HK.out.trans hb3)
        clear hI3 hb3
        go_wp2_with fail
        go_roundw
        case rel => exact ⟨i, rfl, by omega, HY3, HK3⟩
        case measure => simp [intOf] <;> omega
      | zero =>
        rw [show ((0 : Nat) : Int) - 1 = -1 from rfl]
        have HX := Aside0.mk (xall_calls wr w.heap.size X l.length its l (IXi_below HI.out HK.out) HL.out)
        go_wp2_with fail
        (with_reducible refine HX.out.mono ?_)
        rintro e w4 ⟨v4, rfl, hO4, hb4⟩
        obtain ⟨A4, c4, rfl, hc4, hC4⟩ := OVr_readn hO4 n HN.out
        have HC4 := Aside0.mk hC4
        have HK4 := Aside0.mk (below_step HK.out hb4)
        have HY4 : Aside0 (∃ its', IXi w4 w1.heap.size Y l.length its' l) := ⟨by
          obtain ⟨its', hI'⟩ := HY.out
          rw [List.drop_zero] at hI'
          exact ⟨its', IXi_below hI' hb4⟩⟩
        clear hO4 hC4 hb4
        obtain ⟨its4, hI4⟩ := HY4.out
        have HI4 := Aside0.mk hI4
        have HX4 := Aside0.mk (xall_calls w4 w1.heap.size Y l.length its4 l hI4 HL.out)
        clear hI4
        go_wp2_with fail
        (with_reducible refine HX4.out.mono ?_)
        rintro e w5 ⟨v5, rfl, hO5, hb5⟩
        obtain ⟨A5, c5, rfl, hc5, hC5⟩ := OVr_readn hO5 n HN.out
        have HK5 := Aside0.mk (below_step HK4.out hb5)
        have HI5 := Aside0.mk (IXi_below HI4.out hb5)
        have HS5 := Aside0.mk (same_calls A4 A5 n c4 c5 l w5 (Kd.C_below HC4.out hb5) hC5 hc4 hc5)
        clear hO5 hC5 hb5
        go_wp2_with fail
        (with_reducible refine HS5.out.mono ?_)
        rintro e w6 ⟨rfl, hb6⟩
        have HK6 := Aside0.mk (below_step HK5.out hb6)
        have HS6 := Aside0.mk (like_calls w6 w1.heap.size Y its4 l A1 n c1 (IXi_below HI5.out hb6) (Kd.C_below HC.out HK6.out) hc1 HL.out)
        clear hb6
        go_wp2_with fail
        (with_reducible refine HS6.out.mono ?_)
        rintro e w7 ⟨rfl, hb7⟩
        have HK7 := Aside0.mk (below_step HK6.out hb7)
        clear hb7
        go_wp2_with fail
        (with_reducible refine (lives_calls w7).mono ?_)
        rintro e w8 ⟨rfl, hb8⟩
        have HB8 := Aside0.mk (below_step (below_step HB1.out HK7.out) hb8)
        clear hb8
        go_wp2_with fail
        go_ret
        exact ⟨rfl, HB8.out⟩
  · have HFL := HFB
    clear HFA HFB
    go_wp2_with fail
    (with_reducible refine HFL.out.mono ?_)
    rintro e w1 ⟨X, v, l, rfl, hF, hl40⟩
    obtain ⟨n, hn⟩ : ∃ n, l.length = n := ⟨_, rfl⟩
    obtain ⟨A1, c1, rfl, hc1, hC1⟩ := OVr_readn hF.2.1 n hn
    obtain ⟨its, hI⟩ := hF.1
    have HI := Aside0.mk hI
    have HF := Aside0.mk hF
    have HN := Aside0.mk hn
    have HL := Aside0.mk (show l.length ≤ 4000 by omega)
    have HC := Aside0.mk hC1
    have HB1 := Aside0.mk hF.2.2.1
    have hn40 : n ≤ 40 := by omega
    clear hF hI hC1 hn hl40 HFL
    have HSR := Aside0.mk (IXi_srt HI.out)
    have HGD := Aside0.mk HF.out.2.2.2
    have j4 : IntKind.i64.wrap ((n : Int) - 1) = (n : Int) - 1 := IntWalk.i64_in _ (by omega)
    go_wp2_with fail
    (with_reducible refine (xnew_calls w1).mono ?_)
    rintro e w2 ⟨Y, rfl, hY, hb2⟩
    have HY2 : Aside0 (∃ its', IXi w2 w1.heap.size Y (l.drop n).length its' (l.drop n)) := ⟨⟨[], by rw [List.drop_of_length_le (by rw [HN.out]; exact Nat.le_refl _)]; exact hY⟩⟩
    have HK2 := Aside0.mk hb2
    clear hY hb2
    go_wp2_with fail
    go_loopw [7] (fun v7 w' => ∃ j : Nat, v7 = .int .i64 ((j : Int) - 1) ∧ j ≤ n ∧ Aside0 (∃ its', IXi w' w1.heap.size Y (l.drop j).length its' (l.drop j)) ∧ Aside0 (Below w1.heap.size w1 w')) (fun v7 _ => (intOf v7 + 1).toNat)
    case atStart => exact ⟨n, rfl, Nat.le_refl _, HY2, HK2⟩
    case round =>
      obtain ⟨j, rfl, hjn, HY, HK⟩ := hrel
      cases j with
      | succ i =>
        rw [show ((i + 1 : Nat) : Int) - 1 = (i : Int) by omega]
        have hil : i < n := by omega
        have hln : i < l.length := by have := HN.out; omega
        obtain ⟨ad, rfl, -⟩ := C_atVr HC.out i hil
        obtain ⟨p, hp⟩ : ∃ p, l.getD i default = p := ⟨_, rfl⟩
        obtain ⟨q0, q1, q2, q3, q4, q5, q6, q7⟩ := vr8 rfl (Kd.C_below HC.out HK.out) i hil p hp
        have hgp := HGD.out p (by rw [← hp, List.getD_eq_getElem?_getD, List.getElem?_eq_getElem hln]; exact List.getElem_mem hln)
        have haf := add_front HSR.out i hln p hp hgp.1
        obtain ⟨its', hIY⟩ := HY.out
        have hld := List.length_drop (i := i) (l := l)
        have hld1 := List.length_drop (i := i + 1) (l := l)
        have hlen9 := HN.out
        have hia := iadd_calls wr w1.heap.size Y ((l.drop (i + 1)).length : Int) its' (l.drop (i + 1)) p 1 hIY (by omega) (by omega) (by omega) (by omega) (by omega)
        rw [haf, if_pos rfl, show (((l.drop (i + 1)).length : Int) + 1) = ((l.drop i).length : Int) by omega] at hia
        have HIA := Aside0.mk hia
        have j1 : (0 : Int) ≤ (i : Int) := by omega
        have j2 : (i : Int) < (n : Int) := by omega
        have j3 : IntKind.i64.wrap ((i : Int) - 1) = (i : Int) - 1 := IntWalk.i64_in _ (by omega)
        clear hp hgp haf hIY hld hld1 hia hlen9
        go_wp2_with fail
        (with_reducible refine HIA.out.mono ?_)
        rintro e w3 ⟨rfl, ⟨its3, hI3, -, -⟩, -, hb3⟩
        have HY3 : Aside0 (∃ its', IXi w3 w1.heap.size Y (l.drop i).length its' (l.drop i)) := ⟨⟨its3, hI3⟩⟩
        have HK3 := Aside0.mk (HK.out.trans hb3)
        clear hI3 hb3
        go_wp2_with fail
        go_roundw
        case rel => exact ⟨i, rfl, by omega, HY3, HK3⟩
        case measure => simp [intOf] <;> omega
      | zero =>
        rw [show ((0 : Nat) : Int) - 1 = -1 from rfl]
        have HX := Aside0.mk (xall_calls wr w.heap.size X l.length its l (IXi_below HI.out HK.out) HL.out)
        go_wp2_with fail
        (with_reducible refine HX.out.mono ?_)
        rintro e w4 ⟨v4, rfl, hO4, hb4⟩
        obtain ⟨A4, c4, rfl, hc4, hC4⟩ := OVr_readn hO4 n HN.out
        have HC4 := Aside0.mk hC4
        have HK4 := Aside0.mk (below_step HK.out hb4)
        have HY4 : Aside0 (∃ its', IXi w4 w1.heap.size Y l.length its' l) := ⟨by
          obtain ⟨its', hI'⟩ := HY.out
          rw [List.drop_zero] at hI'
          exact ⟨its', IXi_below hI' hb4⟩⟩
        clear hO4 hC4 hb4
        obtain ⟨its4, hI4⟩ := HY4.out
        have HI4 := Aside0.mk hI4
        have HX4 := Aside0.mk (xall_calls w4 w1.heap.size Y l.length its4 l hI4 HL.out)
        clear hI4
        go_wp2_with fail
        (with_reducible refine HX4.out.mono ?_)
        rintro e w5 ⟨v5, rfl, hO5, hb5⟩
        obtain ⟨A5, c5, rfl, hc5, hC5⟩ := OVr_readn hO5 n HN.out
        have HK5 := Aside0.mk (below_step HK4.out hb5)
        have HI5 := Aside0.mk (IXi_below HI4.out hb5)
        have HS5 := Aside0.mk (same_calls A4 A5 n c4 c5 l w5 (Kd.C_below HC4.out hb5) hC5 hc4 hc5)
        clear hO5 hC5 hb5
        go_wp2_with fail
        (with_reducible refine HS5.out.mono ?_)
        rintro e w6 ⟨rfl, hb6⟩
        have HK6 := Aside0.mk (below_step HK5.out hb6)
        have HS6 := Aside0.mk (like_calls w6 w1.heap.size Y its4 l A1 n c1 (IXi_below HI5.out hb6) (Kd.C_below HC.out HK6.out) hc1 HL.out)
        clear hb6
        go_wp2_with fail
        (with_reducible refine HS6.out.mono ?_)
        rintro e w7 ⟨rfl, hb7⟩
        have HK7 := Aside0.mk (below_step HK6.out hb7)
        clear hb7
        go_wp2_with fail
        (with_reducible refine (lives_calls w7).mono ?_)
        rintro e w8 ⟨rfl, hb8⟩
        have HB8 := Aside0.mk (below_step (below_step HB1.out HK7.out) hb8)
        clear hb8
        go_wp2_with fail
        go_ret
        exact ⟨rfl, HB8.out⟩
end Go.Proofs.Ytheoodbkjgfdfaa.A
