/- An index of versions, and the document's row beside it. -/
import Derived.Test.YtheoodbkjgfdfaaNPut
import Derived.Test.YtheoodbkjgfdfaaIHeld
namespace Go.Proofs.Ytheoodbkjgfdfaa.A
open R
open Go.RowKit Go.Proofs.YtheoodbkjgfdfaaW.PrintWords Go.Proofs.YtheoodbkjgfdfaaW.PrintLast Go.Proofs.YtheoodbkjgfdfaaW.PrintMore
set_option linter.unusedVariables false
set_option linter.unusedSimpArgs false

theorem ver_notix {W : World} {g : Nat} {v : Vr} (h : W.heap[g]? = some (vrB v)) : ∀ cs q fr, W.heap[g]? = some (.cells cs q fr) → ¬ ixT q := fun cs q fr hc => by
  rw [h] at hc
  injection hc with hc
  injection hc with _ e2
  rw [← e2]
  unfold ixT
  decide
set_option maxRecDepth 100000 in
set_option maxHeartbeats 4000000 in
theorem filled_calls (w : World) (A : Option Addr) (n c : Nat) (pl : List Pu) (hr : KPu.C w A n pl) (hc : n ≤ c) (hg : ∀ d ∈ pl, d.fits) :
    Calls Try.prog 8 #[.slice A n c] w fun e w' => ∃ X v l, e = .returned (.tuple #[.pointer (some ⟨X, 0, none⟩), v, .bool true]) ∧ FI w w' X v l ∧ l.length ≤ 40 := by
  have HM := Aside0.mk hr.2.1
  have HN := Aside0.mk hr.1
  have HR := Aside0.mk hr
  have HG := Aside0.mk hg
  clear hr hg
  go_enter Try.func8, Try.ntmps8
  go_wp2_with fail
  (with_reducible refine (xnew_calls w).mono ?_)
  rintro e w1 ⟨X, rfl, hX, hb1⟩
  have HF1 : Aside0 (FI w w1 X (.slice none 0 0) []) := ⟨⟨⟨[], hX⟩, OVr_nil _ _, hb1, fun p hp => nomatch hp⟩⟩
  clear hX hb1
  go_wp2_with fail
  go_loopw [6, 7, 8, 9, 10] (fun v6 v7 v8 v9 v10 w' => ∃ (i : Nat) (l : List Vr), v7 = .int .i64 i ∧ i ≤ n ∧ i ≤ 40 ∧ Aside0 (FI w w' X v6 l) ∧ Aside0 (l.length ≤ i)) (fun _ v7 _ _ _ _ => 40 - (intOf v7).toNat)
  case atStart => exact ⟨0, [], rfl, Nat.zero_le _, by omega, HF1, ⟨Nat.le_refl _⟩⟩
  case round =>
    obtain ⟨i, l, rfl, hin, hi40, HF, HLI⟩ := hrel
    by_cases hlt : i < n ∧ i < 40
    · obtain ⟨hl1, hl2⟩ := hlt
      obtain ⟨p, hp⟩ : ∃ p, pl.getD i default = p := ⟨_, rfl⟩
      have hfd : p.fits := by
        rw [← hp]
        refine HG.out _ ?_
        rw [List.getD_eq_getElem?_getD, List.getElem?_eq_getElem (by have := HN.out; omega)]
        exact List.getElem_mem _
      obtain ⟨ad, rfl, q0, q1, q2, q3, q4, q5, q6, q7, q8⟩ := C_atPu (Kd.C_below HR.out HF.out.2.2.1) i hl1 p hp
      obtain ⟨v, hv⟩ : ∃ v, cutV p.v = v := ⟨_, rfl⟩
      have HCUT : Aside0 (∀ W, Calls Try.prog 23 #[.agg #[.string p.v.k, .int .i64 p.v.br, .int .i64 p.v.ep, .int .i64 p.v.sq, .int .i64 p.v.f, .int .i64 p.v.t, .string p.v.v, .bool p.v.g]] W fun e w' => e = .returned (.agg #[.string v.k, .int .i64 v.br, .int .i64 v.ep, .int .i64 v.sq, .int .i64 v.f, .int .i64 v.t, .string v.v, .bool v.g]) ∧ Below W.heap.size W w') := ⟨fun W => by
        have h1 := hfd.1
        have h2 := hfd.2
        simp only [maxLen] at h1 h2
        rw [← hv]
        exact cut_calls p.v.k p.v.br p.v.ep p.v.sq p.v.f p.v.t p.v.v p.v.g W (by omega) (by omega)⟩
      have hvk : v.k.size ≤ 110 := by rw [← hv]; exact cutS_le _ _
      have hvv : v.v.size ≤ 210 := by rw [← hv]; exact cutS_le _ _
      have j1 : (i : Int) < (n : Int) := by omega
      have j2 : (0 : Int) ≤ (i : Int) := by omega
      have j3 : (i : Int) < 40 := by omega
      have HROW : Aside0 (∀ W, Below w.heap.size w W → W.cell? (ad.add (i * 9)) = some (.string p.v.k) ∧ W.cell? ⟨(ad.add (i * 9)).block, (ad.add (i * 9)).off + 1, none⟩ = some (.int .i64 p.v.br) ∧ W.cell? ⟨(ad.add (i * 9)).block, (ad.add (i * 9)).off + 2, none⟩ = some (.int .i64 p.v.ep) ∧ W.cell? ⟨(ad.add (i * 9)).block, (ad.add (i * 9)).off + 3, none⟩ = some (.int .i64 p.v.sq) ∧ W.cell? ⟨(ad.add (i * 9)).block, (ad.add (i * 9)).off + 4, none⟩ = some (.int .i64 p.v.f) ∧ W.cell? ⟨(ad.add (i * 9)).block, (ad.add (i * 9)).off + 5, none⟩ = some (.int .i64 p.v.t) ∧ W.cell? ⟨(ad.add (i * 9)).block, (ad.add (i * 9)).off + 6, none⟩ = some (.string p.v.v) ∧ W.cell? ⟨(ad.add (i * 9)).block, (ad.add (i * 9)).off + 7, none⟩ = some (.bool p.v.g) ∧ W.cell? ⟨(ad.add (i * 9)).block, (ad.add (i * 9)).off + 8, none⟩ = some (.int .i64 p.lv)) := ⟨fun W hb => pu9 rfl (Kd.C_below HR.out hb) i hl1 p hp⟩
      clear hp hv hfd
      go_wp2_with fail
      (with_reducible refine (HCUT.out wr).mono ?_)
      rintro e w2 ⟨rfl, hb2⟩
      have HF2 := Aside0.mk (FI_below HF.out hb2)
      clear hb2 q0 q1 q2 q3 q4 q5 q6 q7 q8
      go_wp2_with fail
      obtain ⟨its, hI⟩ := HF2.out.1
      have hs := IXi_srt hI
      obtain ⟨n6, hn6⟩ : ∃ n6, l.length = n6 := ⟨_, rfl⟩
      obtain ⟨A6, c6, rfl, hc6, hC6⟩ := OVr_readn HF2.out.2.1 n6 hn6
      obtain ⟨g, hg⟩ : ∃ g, w2.heap.size = g := ⟨_, rfl⟩
      obtain ⟨w3, hw3⟩ : ∃ w3, w2.alloc (vrBox v.k v.br v.ep v.sq v.f v.t v.v v.g) = w3 := ⟨_, rfl⟩
      have hb3 : Below w2.heap.size w2 w3 := by rw [← hw3]; exact below_alloc (Below.refl _ _) _
      have hz3 : w3.heap[g]? = some (vrB v) := by rw [← hw3, ← hg]; exact blk_new w2 _
      have HF3 := Aside0.mk (FI_below HF2.out hb3)
      have HI3 := Aside0.mk (IXi_below hI hb3)
      have HZ3 := Aside0.mk hz3
      rw [hw3]
      have hli := HLI.out
      have HRA := Aside0.mk (radd_calls A6 n6 c6 w.heap.size l v w3 HF3.out.2.1 HF3.out.2.2.1.size (by omega) hs (by omega) (by omega))
      have HLL := Aside0.mk (add_len l v)
      have HGD := Aside0.mk (GdV_add (v := v) HF2.out.2.2.2 hvk hvv)
      have HIA0 := Aside0.mk (fun W (h : IXi W w.heap.size X l.length its l) => iadd_calls W w.heap.size X l.length its l v p.lv h (by omega) (by omega) (by omega) (by omega) (by omega))
      obtain ⟨cd, hcd⟩ : ∃ cd, (addV l v).2 = cd := ⟨_, rfl⟩
      obtain ⟨l', hl'⟩ : ∃ l', (addV l v).1 = l' := ⟨_, rfl⟩
      rw [hcd, hl'] at HRA HLL
      rw [hl'] at HGD
      simp only [hcd, hl'] at HIA0
      have HLN : Aside0 (l.length ≤ i) := HLI
      clear hcd hl' hb3 hz3 hw3 hI hC6 hn6 hli
      (with_reducible refine HRA.out.mono ?_)
      rintro e w4 ⟨u, rfl, hO4, hb4⟩
      have HO4 := Aside0.mk hO4
      have HB4 := Aside0.mk (below_step HF3.out.2.2.1 hb4)
      have HZ4 := Aside0.mk (box_keep HZ3.out hb4)
      have HIA := Aside0.mk (HIA0.out w4.drew (IXi_below HI3.out (below_step hb4 (below_drew1 (Below.refl _ _)))))
      clear hO4 hb4
      go_wp2_with fail
      refine wp_region_held_drew (S := (fun w' => w'.heap[g]? = some (vrB v) ∧ Below w.heap.size w w')) (by kernel_rfl) ⟨HZ4.out, HB4.out.drew⟩ (fun hHeld => ?_)
      (refine hd_take 0 (v := ?_) rfl (by kernel_rfl) (by kernel_rfl) (fun _ _ _ h => h) (by assumption) ?_ ?_; rotate_left; (intro w hSw; (try dsimp only at hSw); go_simp; first | done | with_reducible rfl); simp only [Act.put, List.setIfInBounds_toArray, List.set_cons_zero, List.set_cons_succ])
      (refine hd_take 1 (v := ?_) rfl (by kernel_rfl) (by kernel_rfl) (fun _ _ _ h => h) (by assumption) ?_ ?_; rotate_left; (intro w hSw; (try dsimp only at hSw); obtain ⟨r0, r1, r2, r3, r4, r5, r6, r7⟩ := vr_cells hSw.1; obtain ⟨q0, q1, q2, q3, q4, q5, q6, q7, q8⟩ := HROW.out _ hSw.2; go_simp; first | done | with_reducible rfl); simp only [Act.put, List.setIfInBounds_toArray, List.set_cons_zero, List.set_cons_succ])
      (refine hd_take 2 (v := ?_) rfl (by kernel_rfl) (by kernel_rfl) (fun _ _ _ h => h) (by assumption) ?_ ?_; rotate_left; (intro w hSw; (try dsimp only at hSw); go_simp; first | done | with_reducible rfl); simp only [Act.put, List.setIfInBounds_toArray, List.set_cons_zero, List.set_cons_succ])
      (refine hd_take 3 (v := ?_) rfl (by kernel_rfl) (by kernel_rfl) (fun _ _ _ h => h) (by assumption) ?_ ?_; rotate_left; (intro w hSw; (try dsimp only at hSw); go_simp; first | done | with_reducible rfl); simp only [Act.put, List.setIfInBounds_toArray, List.set_cons_zero, List.set_cons_succ])
      (refine hd_take 4 (v := ?_) rfl (by kernel_rfl) (by kernel_rfl) (fun _ _ _ h => h) (by assumption) ?_ ?_; rotate_left; (intro w hSw; (try dsimp only at hSw); go_simp; first | done | with_reducible rfl); simp only [Act.put, List.setIfInBounds_toArray, List.set_cons_zero, List.set_cons_succ])
      (refine hd_take 5 (v := ?_) rfl (by kernel_rfl) (by kernel_rfl) (fun _ _ _ h => h) (by assumption) ?_ ?_; rotate_left; (intro w hSw; (try dsimp only at hSw); go_simp; first | done | with_reducible rfl); simp only [Act.put, List.setIfInBounds_toArray, List.set_cons_zero, List.set_cons_succ])
      (refine hd_take 6 (v := ?_) rfl (by kernel_rfl) (by kernel_rfl) (fun _ _ _ h => h) (by assumption) ?_ ?_; rotate_left; (intro w hSw; (try dsimp only at hSw); obtain ⟨r0, r1, r2, r3, r4, r5, r6, r7⟩ := vr_cells hSw.1; obtain ⟨q0, q1, q2, q3, q4, q5, q6, q7, q8⟩ := HROW.out _ hSw.2; go_simp; first | done | with_reducible rfl); simp only [Act.put, List.setIfInBounds_toArray, List.set_cons_zero, List.set_cons_succ])
      (refine hd_take 8 (v := ?_) rfl (by kernel_rfl) (by kernel_rfl) (fun _ _ _ h => h) (by assumption) ?_ ?_; rotate_left; (intro w hSw; (try dsimp only at hSw); go_simp; first | done | with_reducible rfl); simp only [Act.put, List.setIfInBounds_toArray, List.set_cons_zero, List.set_cons_succ])
      refine hd_one 7 rfl (by kernel_rfl) (fun K hK => ?_)
      go_simp
      go_wp2_with ((go_at_call 10); (with_reducible refine HIA.out.mono ?_); rintro e w5 ⟨rfl, ⟨its', hI5, -, -⟩, hif, hbw⟩)
      refine hK.out _ _ ⟨(hif.block g (box_lt HZ4.out) (ver_notix HZ4.out)).trans HZ4.out, HB4.out.drew.trans hbw⟩ (fun hHeld => ?_)
      have HI5 := Aside0.mk hI5
      have HO5 := Aside0.mk (OVr_ifr HO4.out (W1 := w5) ((IFr.of_below (below_drew1 (Below.refl _ _))).trans hif))
      clear hK K hI5 hif hbw
      (refine hd_take 9 (v := ?_) rfl (by kernel_rfl) (by kernel_rfl) (fun _ _ _ h => h) (by assumption) ?_ ?_; rotate_left; (intro w hSw; (try dsimp only at hSw); go_simp; first | done | with_reducible rfl); simp only [Act.put, List.setIfInBounds_toArray, List.set_cons_zero, List.set_cons_succ])
      refine wpAnyH_done (by kernel_rfl) ?_ _
      have HB5 := Aside0.mk hHeld.2
      clear hHeld

      go_wp2_with fail
      go_roundw
      case rel =>
        refine ⟨i + 1, l', by push_cast; rfl, hl1, by omega, ⟨⟨its', ?_⟩, HO5.out, HB5.out, HGD.out⟩, ⟨?_⟩⟩
        · have h9 := HI5.out
          have h8 := HLL.out
          by_cases h0 : cd = 0
          · rw [if_pos h0] at h9 h8
            rw [h8]
            exact h9
          · rw [if_neg h0] at h9 h8
            rw [h8]
            exact h9
        · have h8 := HLL.out
          have h7 := HLN.out
          split at h8 <;> omega
      case measure => simp [intOf]; omega
    · have j1 : (¬ (i : Int) < (n : Int)) ∨ ((i : Int) < (n : Int) ∧ ¬ (i : Int) < 40) := by omega
      clear hlt
      rcases j1 with j1 | ⟨j1, j2⟩
      all_goals
        go_wp2_with fail
        go_ret3
        exact ⟨X, _, rfl, l, HF.out, by have := HLI.out; omega⟩
end Go.Proofs.Ytheoodbkjgfdfaa.A
