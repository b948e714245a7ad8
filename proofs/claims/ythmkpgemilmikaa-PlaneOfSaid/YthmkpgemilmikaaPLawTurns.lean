/- PlaneTurns: what two that are turned have in common is what they have in common, turned; what is left of one has no point of the other; nothing is left of one without itself. -/
import Derived.Test.YthmkpgemilmikaaPLawAreas
import Derived.Test.YthmkpgemilmikaaIHeld
namespace Go.Proofs.Ythmkpgemilmikaa.A
open Go.RowKit Go.Proofs.YthmkpgemilmikaaW.PrintWords Go.Proofs.YthmkpgemilmikaaW.PrintLast Go.Proofs.YthmkpgemilmikaaW.PrintMore
attribute [local go_sem] run_store_cx
set_option linter.unusedVariables false
set_option linter.unusedSimpArgs false

section
theorem eqS2 (d : Nat) (w : World) (x0 y0 : Int) (x1 y1 : Int) :
    (Op.equalIn (d + 2) 23 (.agg #[.int .i64 x0, .int .i64 x1]) (.agg #[.int .i64 y0, .int .i64 y1])).run Try.prog w = .ok (x0 == y0 && (x1 == y1)) w := by
  refine eqA_of Try.underlying23 (by kernel_rfl) ?_
  refine eqf_cons (by rfl) (by go_simp; rfl) (by go_simp; rfl) (by go_simp) ?_
  exact eqf_last (by rfl) (by go_simp; rfl) (by go_simp; rfl) (by go_simp)
theorem eqR4 (d : Nat) (w : World) (x0 y0 : Int) (x1 y1 : Int) (x2 y2 : Int) (x3 y3 : Int) :
    (Op.equalIn (d + 3) 25 (.agg #[.int .i64 x0, .int .i64 x1, .int .i64 x2, .int .i64 x3]) (.agg #[.int .i64 y0, .int .i64 y1, .int .i64 y2, .int .i64 y3])).run Try.prog w = .ok ((x0 == y0 && (x1 == y1)) && ((x2 == y2 && (x3 == y3)))) w := by
  refine eqA_of Try.underlying25 (by kernel_rfl) ?_
  refine eqf_cons (by rfl) (by go_simp) (by go_simp) (eqS2 (d + 0) w _ _ _ _) ?_
  exact eqf_last (by rfl) (by go_simp) (by go_simp) (eqS2 (d + 0) w _ _ _ _)

theorem eqR_self (d : Nat) (w : World) (a b c e : Int) : (Op.equalIn (d + 3) 25 (.agg #[.int .i64 a, .int .i64 b, .int .i64 c, .int .i64 e]) (.agg #[.int .i64 a, .int .i64 b, .int .i64 c, .int .i64 e])).run Try.prog w = .ok true w := by
  have h := eqR4 d w a a b b c c e e
  rw [h]
  simp
end
theorem turn_ok (r : Rc) (h : r.ok) : r.turn.ok := by
  unfold Rc.ok Rc.turn at *
  simp only at *
  omega
theorem meetB_turn (a b : Rc) : meetB a.turn b.turn = meetB a b := by
  unfold meetB Rc.live meetR Rc.turn
  simp only
  rw [Bool.and_comm]
theorem meetX_turn (a b : Rc) : meetX a.turn b.turn = (meetX a b).turn := by
  unfold meetX
  rw [meetB_turn]
  split
  · rfl
  · rfl
theorem minus_self (r : Rc) (h : r.live = true ∨ r = R0) : (minusR r r).length = 0 := by
  unfold minusR
  rcases h with h | rfl
  · have hm : meetB r r = true := by unfold meetB meetR Rc.live at *; simpa using h
    rw [if_pos hm]
    unfold fourOf meetR
    simp [List.filter, Rc.live]
  · rfl
theorem mkR_live (e t : S.Sp) : (mkR e t).live = true ∨ mkR e t = R0 := by
  unfold mkR
  split
  · rename_i h
    rw [Bool.and_eq_true, S.may_iff, S.may_iff] at h
    left
    unfold Rc.live
    simp only [Bool.and_eq_true, decide_eq_true_eq]
    omega
  · exact .inr rfl
theorem minus_mem (a b : Rc) (x y : Int) (r : Rc) (hr : r ∈ minusR a b) (h : r.inn x y) : a.inn x y ∧ ¬ b.inn x y := by
  have h1 := minus_cnt a b x y
  by_cases h2 : a.inn x y ∧ ¬ b.inn x y
  · exact h2
  · rw [if_neg h2] at h1
    unfold cnt at h1
    rw [List.sum_eq_zero_iff_forall_eq_nat] at h1
    have h3 := h1 (ind r x y) (List.mem_map.2 ⟨r, hr, rfl⟩)
    unfold ind at h3
    rw [if_pos h] at h3
    cases h3
set_option maxRecDepth 100000 in
set_option maxHeartbeats 16000000 in
theorem turns_calls (w : World) (c1 : Array Value) (a : RR) (hk1 : KRR.K w a (Value.agg c1).cells.toList) (_g1 : a.fits) (c2 : Array Value) (b : RR) (hk2 : KRR.K w b (Value.agg c2).cells.toList) (_g2 : b.fits) (ep : Int) (_ge : IntKind.i64.min ≤ ep ∧ ep ≤ IntKind.i64.max) (t : Int) (_gt : IntKind.i64.min ≤ t ∧ t ≤ IntKind.i64.max) :
    Calls Try.prog 5 #[.agg c1, .agg c2, .int .i64 ep, .int .i64 t] w fun e w' => e = .returned (.bool true) ∧ Below w.heap.size w w' := by
  have e1 := RR_agg hk1
  have e2 := RR_agg hk2
  subst e1 e2
  clear hk1 hk2 _g1 _g2 _ge _gt
  have hxok : a.rc.ok := mkR_ok _ _
  have hyok : b.rc.ok := mkR_ok _ _
  have hms := minus_self a.rc (mkR_live _ _)
  have HOF := Aside0.mk (fun W => lof_calls a.e0 a.e1 a.t0 a.t1 W)
  have HOF2 := Aside0.mk (fun W => lof_calls b.e0 b.e1 b.t0 b.t1 W)
  rw [show mkR ⟨a.e0, a.e1⟩ ⟨a.t0, a.t1⟩ = a.rc from rfl] at HOF
  rw [show mkR ⟨b.e0, b.e1⟩ ⟨b.t0, b.t1⟩ = b.rc from rfl] at HOF2
  obtain ⟨x, hx⟩ : ∃ x, a.rc = x := ⟨_, rfl⟩
  obtain ⟨y, hy⟩ : ∃ y, b.rc = y := ⟨_, rfl⟩
  rw [hx] at HOF hxok hms
  rw [hy] at HOF2 hyok
  obtain ⟨bx, hbx⟩ : ∃ c, (S.Sp.may ⟨a.e0, a.e1⟩ && S.Sp.may ⟨a.t0, a.t1⟩) = c := ⟨_, rfl⟩
  obtain ⟨by', hby⟩ : ∃ c, (S.Sp.may ⟨b.e0, b.e1⟩ && S.Sp.may ⟨b.t0, b.t1⟩) = c := ⟨_, rfl⟩
  rw [hbx] at HOF
  rw [hby] at HOF2
  have hlen := minus_len x y
  have HMOK := Aside0.mk (minus_ok x y hxok hyok)
  have HMEM := Aside0.mk (fun r hr => minus_mem x y ep t r hr)
  have HME := Aside0.mk (fun W => meet_calls x y hxok hyok W)
  have HMI := Aside0.mk (fun W => minus_calls x y hxok hyok W)
  have HMS := Aside0.mk (fun W => minus_calls x x hxok hxok W)
  have HTX := Aside0.mk (fun W => turn_calls x hxok W)
  have HTY := Aside0.mk (fun W => turn_calls y hyok W)
  have HMT := Aside0.mk (fun W => meet_calls x.turn y.turn (turn_ok x hxok) (turn_ok y hyok) W)
  have HTM := Aside0.mk (fun W => turn_calls (meetX x y) (meetX_ok x y hxok hyok) W)
  have HLS := Aside0.mk (fun W => lsides_calls (meetX x y).turn (turn_ok _ (meetX_ok x y hxok hyok)) W)
  have HHX := Aside0.mk (fun W => phas_calls x hxok ep t W)
  have HHY := Aside0.mk (fun W => phas_calls y hyok ep t W)
  rw [has_inn x hxok] at HHX
  rw [has_inn y hyok] at HHY
  rw [meetX_turn, meetB_turn] at HMT
  obtain ⟨m, hm⟩ : ∃ m, meetX x y = m := ⟨_, rfl⟩
  obtain ⟨mb, hmb⟩ : ∃ m, meetB x y = m := ⟨_, rfl⟩
  obtain ⟨l, hl⟩ : ∃ l, minusR x y = l := ⟨_, rfl⟩
  obtain ⟨xt, hxt⟩ : ∃ m, x.turn = m := ⟨_, rfl⟩
  obtain ⟨yt, hyt⟩ : ∃ m, y.turn = m := ⟨_, rfl⟩
  rw [hm] at HME HMT HTM HLS
  obtain ⟨mt, hmt⟩ : ∃ mt, m.turn = mt := ⟨_, rfl⟩
  rw [hmb] at HME HMT
  rw [hl] at hlen HMOK HMI HMEM
  rw [hxt] at HTX HMT
  rw [hyt] at HTY HMT
  rw [hmt] at HMT HTM HLS
  have hq := fun d W => eqR_self d W (mt.e0 : Int) (mt.e1 : Int) (mt.t0 : Int) (mt.t1 : Int)
  obtain ⟨n, hn⟩ : ∃ n, l.length = n := ⟨_, rfl⟩
  rw [hn] at hlen
  have HN := Aside0.mk hn
  have HMS0 := Aside0.mk hms
  obtain ⟨g, hg⟩ : ∃ g, w.heap.size = g := ⟨_, rfl⟩
  obtain ⟨W, hW⟩ : ∃ W, (w.alloc (fB a.e0 a.e1 a.t0 a.t1)).alloc (fB b.e0 b.e1 b.t0 b.t1) = W := ⟨_, rfl⟩
  have hb : Below w.heap.size w W := by rw [← hW]; exact below_alloc (below_alloc (Below.refl _ _) _) _
  have z0 : W.heap[g]? = some (fB a.e0 a.e1 a.t0 a.t1) := by rw [← hW, ← hg]; exact blk_alloc (blk_new w _) _
  have z1 : W.heap[g + 1]? = some (fB b.e0 b.e1 b.t0 b.t1) := by
    have h9 := blk_new (w.alloc (fB a.e0 a.e1 a.t0 a.t1)) (fB b.e0 b.e1 b.t0 b.t1)
    rw [World.size_alloc, hg, hW] at h9
    exact h9
  obtain ⟨c0, c1, c2, c3, -⟩ := four_cells z0
  obtain ⟨d0, d1, d2, d3, -⟩ := four_cells z1
  have HZ1 := Aside0.mk z1
  have HB := Aside0.mk hb
  clear hxok hyok hx hy hbx hby hm hmb hl hxt hyt hmt hn hms hb z0 z1
  go_enter Try.func5, Try.ntmps5
  go_wp2_with fail
  (with_reducible refine (HOF.out W).mono ?_)
  rintro e w1 ⟨rfl, hb1⟩
  obtain ⟨g1, hg1⟩ : ∃ g, w1.heap.size = g := ⟨_, rfl⟩
  obtain ⟨W1, hW1⟩ : ∃ W1, w1.alloc (rBox x) = W1 := ⟨_, rfl⟩
  have hb1' : Below W.heap.size W W1 := by rw [← hW1]; exact below_alloc hb1 _
  have hx1 : W1.heap[g1]? = some (rBox x) := by rw [← hW1, ← hg1]; exact blk_new w1 _
  clear c0 c1 c2 c3 d0 d1 d2 d3
  obtain ⟨d0, d1, d2, d3, -⟩ := four_cells (blk_below HZ1.out hb1')
  have HB1 := Aside0.mk (below_step HB.out hb1')
  have HX1 := Aside0.mk hx1
  clear hb1 hb1' hx1
  go_wp2_with fail
  (with_reducible refine (HOF2.out W1).mono ?_)
  rintro e w2 ⟨rfl, hb2⟩
  obtain ⟨g2, hg2⟩ : ∃ g, w2.heap.size = g := ⟨_, rfl⟩
  obtain ⟨W2, hW2⟩ : ∃ W2, w2.alloc (rBox y) = W2 := ⟨_, rfl⟩
  have hb2' : Below W1.heap.size W1 W2 := by rw [← hW2]; exact below_alloc hb2 _
  have hx2 : W2.heap[g2]? = some (rBox y) := by rw [← hW2, ← hg2]; exact blk_new w2 _
  clear d0 d1 d2 d3
  have hx12 := blk_below HX1.out hb2'
  obtain ⟨c0, c1, -⟩ := two_cells hx12
  obtain ⟨d0, d1, -⟩ := two_cells hx2
  have HB2 := Aside0.mk (below_step HB1.out hb2')
  have HX2 := Aside0.mk (show W2.heap[g1]? = some (rBox x) ∧ W2.heap[g2]? = some (rBox y) from ⟨hx12, hx2⟩)
  clear hb2 hb2' hx2 hx12
  go_wp2_with fail
  (with_reducible refine (HME.out W2).mono ?_)
  rintro e w3 ⟨rfl, hb3⟩
  obtain ⟨g3, hg3⟩ : ∃ g, w3.heap.size = g := ⟨_, rfl⟩
  obtain ⟨W3, hW3⟩ : ∃ W3, w3.alloc (rBox m) = W3 := ⟨_, rfl⟩
  have hb3' : Below W2.heap.size W2 W3 := by rw [← hW3]; exact below_alloc hb3 _
  have hx3 : W3.heap[g3]? = some (rBox m) := by rw [← hW3, ← hg3]; exact blk_new w3 _
  clear c0 c1 d0 d1
  have HB3 := Aside0.mk (below_step HB2.out hb3')
  have HX3 := Aside0.mk (show W3.heap[g1]? = some (rBox x) ∧ W3.heap[g2]? = some (rBox y) ∧ W3.heap[g3]? = some (rBox m) from ⟨blk_below HX2.out.1 hb3', blk_below HX2.out.2 hb3', hx3⟩)
  clear hb3 hb3' hx3
  go_wp2_with fail
  refine wp_region_held_drew (S := (fun w' => Below W3.heap.size W3 w')) (by kernel_rfl) (below_drew1 (Below.refl _ _)) (fun hHeld => ?_)
  (refine hd_take 0 (v := ?_) rfl (by kernel_rfl) (by kernel_rfl) (fun _ _ _ h => h) (by assumption) ?_ ?_; rotate_left; (intro w hSw; (try dsimp only at hSw); obtain ⟨s0, s1, -⟩ := two_cells (blk_below HX3.out.1 hSw); obtain ⟨s2, s3, -⟩ := two_cells (blk_below HX3.out.2.1 hSw); go_simp; first | done | with_reducible rfl); simp only [Act.put, List.setIfInBounds_toArray, List.set_cons_zero, List.set_cons_succ])
  (refine hd_take 2 (v := ?_) rfl (by kernel_rfl) (by kernel_rfl) (fun _ _ _ h => h) (by assumption) ?_ ?_; rotate_left; (intro w hSw; (try dsimp only at hSw); obtain ⟨s0, s1, -⟩ := two_cells (blk_below HX3.out.1 hSw); obtain ⟨s2, s3, -⟩ := two_cells (blk_below HX3.out.2.1 hSw); go_simp; first | done | with_reducible rfl); simp only [Act.put, List.setIfInBounds_toArray, List.set_cons_zero, List.set_cons_succ])
  refine hd_two 1 8 rfl rfl (by kernel_rfl) (fun K hK => ?_) (fun K hK => ?_)
  rotate_left
  focus
    obtain ⟨g5, hg5⟩ : ∃ g, W3.drew.heap.size = g := ⟨_, rfl⟩
    obtain ⟨W5, hW5⟩ : ∃ W5, W3.drew.alloc rB0 = W5 := ⟨_, rfl⟩
    have hbA : Below W3.drew.heap.size W3.drew W5 := by rw [← hW5]; exact below_alloc (Below.refl _ _) _
    have HA : Aside0 (W5.heap[g5]? = some rB0) := ⟨by rw [← hW5, ← hg5]; exact blk_new W3.drew _⟩
    have HGE : Aside0 (W3.heap.size ≤ g5) := ⟨by rw [← hg5]; exact hHeld.size⟩
    go_simp
    refine hK.out _ _ (below_step hHeld hbA) (fun hHeld => ?_)
    clear hK K hbA
    refine hd_one 1 rfl (by kernel_rfl) (fun K hK => ?_)
    go_simp
    go_wp2_with ((go_at_call 16); (with_reducible refine (HTX.out _).mono ?_); rintro e v1 ⟨rfl, hb1⟩)
    have HA := Aside0.mk (blk_below HA.out hb1)
    have HGE := HGE
    refine hK.out _ _ (below_step hHeld hb1) (fun hHeld => ?_)
    clear hK K hb1
    refine hd_one 3 rfl (by kernel_rfl) (fun K hK => ?_)
    go_simp
    go_wp2_with ((go_at_call 16); (with_reducible refine (HTY.out _).mono ?_); rintro e v3 ⟨rfl, hb3⟩)
    have HA := Aside0.mk (blk_below HA.out hb3)
    have HGE := HGE
    refine hK.out _ _ (below_step hHeld hb3) (fun hHeld => ?_)
    clear hK K hb3
    refine hd_one 4 rfl (by kernel_rfl) (fun K hK => ?_)
    go_simp
    go_wp2_with ((go_at_call 10); (with_reducible refine (HMT.out _).mono ?_); rintro e v4 ⟨rfl, hb4⟩)
    have HA := Aside0.mk (blk_below HA.out hb4)
    have HGE := HGE
    refine hK.out _ _ (below_step hHeld hb4) (fun hHeld => ?_)
    clear hK K hb4
    (refine hd_take 5 (v := ?_) rfl (by kernel_rfl) (by kernel_rfl) (fun _ _ _ h => h) (by assumption) ?_ ?_; rotate_left; (intro w hSw; (try dsimp only at hSw); go_simp; first | done | with_reducible rfl); simp only [Act.put, List.setIfInBounds_toArray, List.set_cons_zero, List.set_cons_succ])
    (refine hd_take 6 (v := ?_) rfl (by kernel_rfl) (by kernel_rfl) (fun _ _ _ h => h) (by assumption) ?_ ?_; rotate_left; (intro w hSw; (try dsimp only at hSw); go_simp; first | done | with_reducible rfl); simp only [Act.put, List.setIfInBounds_toArray, List.set_cons_zero, List.set_cons_succ])
    (refine hd_take 7 (v := ?_) rfl (by kernel_rfl) (by kernel_rfl) (fun _ _ _ h => h) (by assumption) ?_ ?_; rotate_left; (intro w hSw; (try dsimp only at hSw); go_simp; first | done | with_reducible rfl); simp only [Act.put, List.setIfInBounds_toArray, List.set_cons_zero, List.set_cons_succ])
    obtain ⟨d0, d1, df⟩ := two_cells HA.out
    have d2 := df 0
    have d3 := df 1
    obtain ⟨W6, hW6⟩ : ∃ W6, (v4.setCell ⟨g5, 0, none⟩ (cx mt.e0 mt.t0)).setCell ⟨g5, 1, none⟩ (cx mt.e1 mt.t1) = W6 := ⟨_, rfl⟩
    have hb6 : Below W3.heap.size W3 W6 := by rw [← hW6]; exact below_set (below_set hHeld HGE.out) HGE.out
    have HM6 : Aside0 (W6.heap[g5]? = some (rBox mt)) := ⟨by rw [← hW6]; exact two_set HA.out⟩
    refine hd_one 9 rfl (by kernel_rfl) (fun K hK => ?_)
    go_simp
    refine hK.out _ _ hb6 (fun hHeld => ?_)
    clear hK K d0 d1 d2 d3 df hW6
    (refine hd_take 10 (v := ?_) rfl (by kernel_rfl) (by kernel_rfl) (fun _ _ _ h => h) (by assumption) ?_ ?_; rotate_left; (intro w hSw; (try dsimp only at hSw); go_simp; first | done | with_reducible rfl); simp only [Act.put, List.setIfInBounds_toArray, List.set_cons_zero, List.set_cons_succ])
    refine wpAnyH_done (by kernel_rfl) ?_ _
    have HB6 := Aside0.mk hb6
    clear hb6 hHeld
  rotate_left
  focus
    go_simp
    go_wp2_with ((go_at_call 16); (with_reducible refine (HTX.out _).mono ?_); rintro e v1 ⟨rfl, hb1⟩)
    refine hK.out _ _ (below_step hHeld hb1) (fun hHeld => ?_)
    clear hK K hb1
    refine hd_two 3 8 rfl rfl (by kernel_rfl) (fun K hK => ?_) (fun K hK => ?_)
    rotate_left
    focus
      obtain ⟨g5, hg5⟩ : ∃ g, v1.heap.size = g := ⟨_, rfl⟩
      obtain ⟨W5, hW5⟩ : ∃ W5, v1.alloc rB0 = W5 := ⟨_, rfl⟩
      have hbA : Below v1.heap.size v1 W5 := by rw [← hW5]; exact below_alloc (Below.refl _ _) _
      have HA : Aside0 (W5.heap[g5]? = some rB0) := ⟨by rw [← hW5, ← hg5]; exact blk_new v1 _⟩
      have HGE : Aside0 (W3.heap.size ≤ g5) := ⟨by rw [← hg5]; exact hHeld.size⟩
      go_simp
      refine hK.out _ _ (below_step hHeld hbA) (fun hHeld => ?_)
      clear hK K hbA
      refine hd_one 3 rfl (by kernel_rfl) (fun K hK => ?_)
      go_simp
      go_wp2_with ((go_at_call 16); (with_reducible refine (HTY.out _).mono ?_); rintro e v3 ⟨rfl, hb3⟩)
      have HA := Aside0.mk (blk_below HA.out hb3)
      have HGE := HGE
      refine hK.out _ _ (below_step hHeld hb3) (fun hHeld => ?_)
      clear hK K hb3
      refine hd_one 4 rfl (by kernel_rfl) (fun K hK => ?_)
      go_simp
      go_wp2_with ((go_at_call 10); (with_reducible refine (HMT.out _).mono ?_); rintro e v4 ⟨rfl, hb4⟩)
      have HA := Aside0.mk (blk_below HA.out hb4)
      have HGE := HGE
      refine hK.out _ _ (below_step hHeld hb4) (fun hHeld => ?_)
      clear hK K hb4
      (refine hd_take 5 (v := ?_) rfl (by kernel_rfl) (by kernel_rfl) (fun _ _ _ h => h) (by assumption) ?_ ?_; rotate_left; (intro w hSw; (try dsimp only at hSw); go_simp; first | done | with_reducible rfl); simp only [Act.put, List.setIfInBounds_toArray, List.set_cons_zero, List.set_cons_succ])
      (refine hd_take 6 (v := ?_) rfl (by kernel_rfl) (by kernel_rfl) (fun _ _ _ h => h) (by assumption) ?_ ?_; rotate_left; (intro w hSw; (try dsimp only at hSw); go_simp; first | done | with_reducible rfl); simp only [Act.put, List.setIfInBounds_toArray, List.set_cons_zero, List.set_cons_succ])
      (refine hd_take 7 (v := ?_) rfl (by kernel_rfl) (by kernel_rfl) (fun _ _ _ h => h) (by assumption) ?_ ?_; rotate_left; (intro w hSw; (try dsimp only at hSw); go_simp; first | done | with_reducible rfl); simp only [Act.put, List.setIfInBounds_toArray, List.set_cons_zero, List.set_cons_succ])
      obtain ⟨d0, d1, df⟩ := two_cells HA.out
      have d2 := df 0
      have d3 := df 1
      obtain ⟨W6, hW6⟩ : ∃ W6, (v4.setCell ⟨g5, 0, none⟩ (cx mt.e0 mt.t0)).setCell ⟨g5, 1, none⟩ (cx mt.e1 mt.t1) = W6 := ⟨_, rfl⟩
      have hb6 : Below W3.heap.size W3 W6 := by rw [← hW6]; exact below_set (below_set hHeld HGE.out) HGE.out
      have HM6 : Aside0 (W6.heap[g5]? = some (rBox mt)) := ⟨by rw [← hW6]; exact two_set HA.out⟩
      refine hd_one 9 rfl (by kernel_rfl) (fun K hK => ?_)
      go_simp
      refine hK.out _ _ hb6 (fun hHeld => ?_)
      clear hK K d0 d1 d2 d3 df hW6
      (refine hd_take 10 (v := ?_) rfl (by kernel_rfl) (by kernel_rfl) (fun _ _ _ h => h) (by assumption) ?_ ?_; rotate_left; (intro w hSw; (try dsimp only at hSw); go_simp; first | done | with_reducible rfl); simp only [Act.put, List.setIfInBounds_toArray, List.set_cons_zero, List.set_cons_succ])
      refine wpAnyH_done (by kernel_rfl) ?_ _
      have HB6 := Aside0.mk hb6
      clear hb6 hHeld
    rotate_left
    focus
      go_simp
      go_wp2_with ((go_at_call 16); (with_reducible refine (HTY.out _).mono ?_); rintro e v3 ⟨rfl, hb3⟩)
      refine hK.out _ _ (below_step hHeld hb3) (fun hHeld => ?_)
      clear hK K hb3
      refine hd_two 4 8 rfl rfl (by kernel_rfl) (fun K hK => ?_) (fun K hK => ?_)
      rotate_left
      focus
        obtain ⟨g5, hg5⟩ : ∃ g, v3.heap.size = g := ⟨_, rfl⟩
        obtain ⟨W5, hW5⟩ : ∃ W5, v3.alloc rB0 = W5 := ⟨_, rfl⟩
        have hbA : Below v3.heap.size v3 W5 := by rw [← hW5]; exact below_alloc (Below.refl _ _) _
        have HA : Aside0 (W5.heap[g5]? = some rB0) := ⟨by rw [← hW5, ← hg5]; exact blk_new v3 _⟩
        have HGE : Aside0 (W3.heap.size ≤ g5) := ⟨by rw [← hg5]; exact hHeld.size⟩
        go_simp
        refine hK.out _ _ (below_step hHeld hbA) (fun hHeld => ?_)
        clear hK K hbA
        refine hd_one 4 rfl (by kernel_rfl) (fun K hK => ?_)
        go_simp
        go_wp2_with ((go_at_call 10); (with_reducible refine (HMT.out _).mono ?_); rintro e v4 ⟨rfl, hb4⟩)
        have HA := Aside0.mk (blk_below HA.out hb4)
        have HGE := HGE
        refine hK.out _ _ (below_step hHeld hb4) (fun hHeld => ?_)
        clear hK K hb4
        (refine hd_take 5 (v := ?_) rfl (by kernel_rfl) (by kernel_rfl) (fun _ _ _ h => h) (by assumption) ?_ ?_; rotate_left; (intro w hSw; (try dsimp only at hSw); go_simp; first | done | with_reducible rfl); simp only [Act.put, List.setIfInBounds_toArray, List.set_cons_zero, List.set_cons_succ])
        (refine hd_take 6 (v := ?_) rfl (by kernel_rfl) (by kernel_rfl) (fun _ _ _ h => h) (by assumption) ?_ ?_; rotate_left; (intro w hSw; (try dsimp only at hSw); go_simp; first | done | with_reducible rfl); simp only [Act.put, List.setIfInBounds_toArray, List.set_cons_zero, List.set_cons_succ])
        (refine hd_take 7 (v := ?_) rfl (by kernel_rfl) (by kernel_rfl) (fun _ _ _ h => h) (by assumption) ?_ ?_; rotate_left; (intro w hSw; (try dsimp only at hSw); go_simp; first | done | with_reducible rfl); simp only [Act.put, List.setIfInBounds_toArray, List.set_cons_zero, List.set_cons_succ])
        obtain ⟨d0, d1, df⟩ := two_cells HA.out
        have d2 := df 0
        have d3 := df 1
        obtain ⟨W6, hW6⟩ : ∃ W6, (v4.setCell ⟨g5, 0, none⟩ (cx mt.e0 mt.t0)).setCell ⟨g5, 1, none⟩ (cx mt.e1 mt.t1) = W6 := ⟨_, rfl⟩
        have hb6 : Below W3.heap.size W3 W6 := by rw [← hW6]; exact below_set (below_set hHeld HGE.out) HGE.out
        have HM6 : Aside0 (W6.heap[g5]? = some (rBox mt)) := ⟨by rw [← hW6]; exact two_set HA.out⟩
        refine hd_one 9 rfl (by kernel_rfl) (fun K hK => ?_)
        go_simp
        refine hK.out _ _ hb6 (fun hHeld => ?_)
        clear hK K d0 d1 d2 d3 df hW6
        (refine hd_take 10 (v := ?_) rfl (by kernel_rfl) (by kernel_rfl) (fun _ _ _ h => h) (by assumption) ?_ ?_; rotate_left; (intro w hSw; (try dsimp only at hSw); go_simp; first | done | with_reducible rfl); simp only [Act.put, List.setIfInBounds_toArray, List.set_cons_zero, List.set_cons_succ])
        refine wpAnyH_done (by kernel_rfl) ?_ _
        have HB6 := Aside0.mk hb6
        clear hb6 hHeld
      rotate_left
      focus
        go_simp
        go_wp2_with ((go_at_call 10); (with_reducible refine (HMT.out _).mono ?_); rintro e v4 ⟨rfl, hb4⟩)
        refine hK.out _ _ (below_step hHeld hb4) (fun hHeld => ?_)
        clear hK K hb4
        (refine hd_take 5 (v := ?_) rfl (by kernel_rfl) (by kernel_rfl) (fun _ _ _ h => h) (by assumption) ?_ ?_; rotate_left; (intro w hSw; (try dsimp only at hSw); go_simp; first | done | with_reducible rfl); simp only [Act.put, List.setIfInBounds_toArray, List.set_cons_zero, List.set_cons_succ])
        (refine hd_take 6 (v := ?_) rfl (by kernel_rfl) (by kernel_rfl) (fun _ _ _ h => h) (by assumption) ?_ ?_; rotate_left; (intro w hSw; (try dsimp only at hSw); go_simp; first | done | with_reducible rfl); simp only [Act.put, List.setIfInBounds_toArray, List.set_cons_zero, List.set_cons_succ])
        (refine hd_take 7 (v := ?_) rfl (by kernel_rfl) (by kernel_rfl) (fun _ _ _ h => h) (by assumption) ?_ ?_; rotate_left; (intro w hSw; (try dsimp only at hSw); go_simp; first | done | with_reducible rfl); simp only [Act.put, List.setIfInBounds_toArray, List.set_cons_zero, List.set_cons_succ])
        refine hd_one 8 rfl (by kernel_rfl) (fun K hK => ?_)
        obtain ⟨g5, hg5⟩ : ∃ g, v4.heap.size = g := ⟨_, rfl⟩
        obtain ⟨W5, hW5⟩ : ∃ W5, v4.alloc rB0 = W5 := ⟨_, rfl⟩
        have hbA : Below v4.heap.size v4 W5 := by rw [← hW5]; exact below_alloc (Below.refl _ _) _
        have HA : Aside0 (W5.heap[g5]? = some rB0) := ⟨by rw [← hW5, ← hg5]; exact blk_new v4 _⟩
        have HGE : Aside0 (W3.heap.size ≤ g5) := ⟨by rw [← hg5]; exact hHeld.size⟩
        go_simp
        refine hK.out _ _ (below_step hHeld hbA) (fun hHeld => ?_)
        clear hK K hbA
        obtain ⟨d0, d1, df⟩ := two_cells HA.out
        have d2 := df 0
        have d3 := df 1
        obtain ⟨W6, hW6⟩ : ∃ W6, (W5.setCell ⟨g5, 0, none⟩ (cx mt.e0 mt.t0)).setCell ⟨g5, 1, none⟩ (cx mt.e1 mt.t1) = W6 := ⟨_, rfl⟩
        have hb6 : Below W3.heap.size W3 W6 := by rw [← hW6]; exact below_set (below_set hHeld HGE.out) HGE.out
        have HM6 : Aside0 (W6.heap[g5]? = some (rBox mt)) := ⟨by rw [← hW6]; exact two_set HA.out⟩
        refine hd_one 9 rfl (by kernel_rfl) (fun K hK => ?_)
        go_simp
        refine hK.out _ _ hb6 (fun hHeld => ?_)
        clear hK K d0 d1 d2 d3 df hW6
        (refine hd_take 10 (v := ?_) rfl (by kernel_rfl) (by kernel_rfl) (fun _ _ _ h => h) (by assumption) ?_ ?_; rotate_left; (intro w hSw; (try dsimp only at hSw); go_simp; first | done | with_reducible rfl); simp only [Act.put, List.setIfInBounds_toArray, List.set_cons_zero, List.set_cons_succ])
        refine wpAnyH_done (by kernel_rfl) ?_ _
        have HB6 := Aside0.mk hb6
        clear hb6 hHeld
  all_goals
    have HX6 := Aside0.mk (show W6.heap[g1]? = some (rBox x) ∧ W6.heap[g2]? = some (rBox y) ∧ W6.heap[g3]? = some (rBox m) from ⟨blk_below HX3.out.1 HB6.out, blk_below HX3.out.2.1 HB6.out, blk_below HX3.out.2.2 HB6.out⟩)
    go_wp2_with fail
    refine wp_region_held_drew (S := (fun w' => Below W6.heap.size W6 w')) (by kernel_rfl) (below_drew1 (Below.refl _ _)) (fun hHeld => ?_)
    (refine hd_take 0 (v := ?_) rfl (by kernel_rfl) (by kernel_rfl) (fun _ _ _ h => h) (by assumption) ?_ ?_; rotate_left; (intro w hSw; (try dsimp only at hSw); go_simp; first | done | with_reducible rfl); simp only [Act.put, List.setIfInBounds_toArray, List.set_cons_zero, List.set_cons_succ])
    (refine hd_take 1 (v := ?_) rfl (by kernel_rfl) (by kernel_rfl) (fun _ _ _ h => h) (by assumption) ?_ ?_; rotate_left; (intro w hSw; (try dsimp only at hSw); go_simp; first | done | with_reducible rfl); simp only [Act.put, List.setIfInBounds_toArray, List.set_cons_zero, List.set_cons_succ])
    (refine hd_take 2 (v := ?_) rfl (by kernel_rfl) (by kernel_rfl) (fun _ _ _ h => h) (by assumption) ?_ ?_; rotate_left; (intro w hSw; (try dsimp only at hSw); go_simp; first | done | with_reducible rfl); simp only [Act.put, List.setIfInBounds_toArray, List.set_cons_zero, List.set_cons_succ])
    (refine hd_take 3 (v := ?_) rfl (by kernel_rfl) (by kernel_rfl) (fun _ _ _ h => h) (by assumption) ?_ ?_; rotate_left; (intro w hSw; (try dsimp only at hSw); go_simp; first | done | with_reducible rfl); simp only [Act.put, List.setIfInBounds_toArray, List.set_cons_zero, List.set_cons_succ])
    (refine hd_take 4 (v := ?_) rfl (by kernel_rfl) (by kernel_rfl) (fun _ _ _ h => h) (by assumption) ?_ ?_; rotate_left; (intro w hSw; (try dsimp only at hSw); obtain ⟨s0, s1, -⟩ := two_cells (blk_below HM6.out hSw); obtain ⟨s2, s3, -⟩ := two_cells (blk_below HX6.out.2.2 hSw); go_simp; first | done | with_reducible rfl); simp only [Act.put, List.setIfInBounds_toArray, List.set_cons_zero, List.set_cons_succ])
    (refine hd_take 6 (v := ?_) rfl (by kernel_rfl) (by kernel_rfl) (fun _ _ _ h => h) (by assumption) ?_ ?_; rotate_left; (intro w hSw; (try dsimp only at hSw); obtain ⟨s0, s1, -⟩ := two_cells (blk_below HM6.out hSw); obtain ⟨s2, s3, -⟩ := two_cells (blk_below HX6.out.2.2 hSw); go_simp; first | done | with_reducible rfl); simp only [Act.put, List.setIfInBounds_toArray, List.set_cons_zero, List.set_cons_succ])
    refine hd_one 5 rfl (by kernel_rfl) (fun K hK => ?_)
    go_simp
    go_wp2_with ((go_at_call 14); (with_reducible refine (HLS.out _).mono ?_); rintro e u1 ⟨rfl, hc1⟩)
    refine hK.out _ _ (below_step hHeld hc1) (fun hHeld => ?_)
    clear hK K hc1
    refine hd_one 7 rfl (by kernel_rfl) (fun K hK => ?_)
    go_simp
    go_wp2_with ((go_at_call 16); (with_reducible refine (HTM.out _).mono ?_); rintro e u2 ⟨rfl, hc2⟩)
    refine hK.out _ _ (below_step hHeld hc2) (fun hHeld => ?_)
    clear hK K hc2
    refine hd_one 8 rfl (by kernel_rfl) (fun K hK => ?_)
    go_simp
    go_wp2_with ((go_at_call 14); (with_reducible refine (HLS.out _).mono ?_); rintro e u3 ⟨rfl, hc3⟩)
    refine hK.out _ _ (below_step hHeld hc3) (fun hHeld => ?_)
    clear hK K hc3
    (refine hd_take 9 (v := ?_) rfl (by kernel_rfl) (by kernel_rfl) (fun _ _ _ h => h) (by assumption) ?_ ?_; rotate_left; (intro w hSw; (try dsimp only at hSw); go_simp; first | done | with_reducible rfl); simp only [Act.put, List.setIfInBounds_toArray, List.set_cons_zero, List.set_cons_succ])
    (refine hd_take 10 (v := ?_) rfl (by kernel_rfl) (by kernel_rfl) (fun _ _ _ h => h) (by assumption) ?_ ?_; rotate_left; (intro w hSw; (try dsimp only at hSw); go_simp; first | done | with_reducible rfl); simp only [Act.put, List.setIfInBounds_toArray, List.set_cons_zero, List.set_cons_succ])
    refine wpAnyH_done (by kernel_rfl) ?_ _
    have HBu := Aside0.mk (below_step (below_step HB3.out HB6.out) hHeld)
    have HXu := Aside0.mk (show u3.heap[g1]? = some (rBox x) ∧ u3.heap[g2]? = some (rBox y) from ⟨blk_below HX6.out.1 hHeld, blk_below HX6.out.2.1 hHeld⟩)
    obtain ⟨p0, p1, -⟩ := two_cells HXu.out.1
    obtain ⟨p2, p3, -⟩ := two_cells HXu.out.2
    clear hHeld
    go_wp2_with fail
    (with_reducible refine (HMI.out u3).mono ?_)
    rintro e w7 ⟨v7, rfl, hO7, hb7⟩
    obtain ⟨A7, c7, rfl, hc7, hC7⟩ := ORc_readn hO7 n HN.out
    have HC7 := Aside0.mk hC7
    have HB7 := Aside0.mk (below_step HBu.out hb7)
    have HX7 := Aside0.mk (show w7.heap[g1]? = some (rBox x) ∧ w7.heap[g2]? = some (rBox y) from ⟨blk_below HXu.out.1 hb7, blk_below HXu.out.2 hb7⟩)
    clear p0 p1 p2 p3 hO7 hC7 hb7
    go_wp2_with fail
    go_loopw [18] (fun v18 w' => ∃ (k : Nat), k ≤ n ∧ v18 = .int .i64 k ∧ Aside0 (Below w7.heap.size w7 w')) (fun v18 _ => n - (intOf v18).toNat)
    case atStart => exact ⟨0, Nat.zero_le _, rfl, ⟨Below.refl _ _⟩⟩
    case round =>
      obtain ⟨k, hk, rfl, HBk⟩ := hrel
      by_cases hlt : k < n
      · have hln : k < l.length := by rw [HN.out]; exact hlt
        obtain ⟨ad, rfl, q0, q1⟩ := C_atRc (Kd.C_below HC7.out HBk.out) k hlt
        have hmem := HMEM.out _ (rect_getD hln)
        have hrok := HMOK.out _ (rect_getD hln)
        obtain ⟨r, hr⟩ : ∃ r, l.getD k default = r := ⟨_, rfl⟩
        rw [hr] at q0 q1 hmem hrok
        have HHR := Aside0.mk (phas_calls r hrok ep t wr)
        rw [has_inn r hrok] at HHR
        obtain ⟨rb, hrb⟩ : ∃ b, decide (r.inn ep t) = b := ⟨_, rfl⟩
        rw [hrb] at HHR
        have j1 : (k : Int) < (n : Int) := by omega
        have j2 : (0 : Int) ≤ (k : Int) := by omega
        cases rb with
        | true =>
          obtain ⟨m1, m2⟩ := hmem (of_decide_eq_true hrb)
          have HHX2 := Aside0.mk HHX.out
          have HHY2 := Aside0.mk HHY.out
          rw [decide_eq_true m1] at HHX2
          rw [decide_eq_false m2] at HHY2
          clear hr hrb hmem hrok hln m1 m2
          go_wp2_with fail
          (with_reducible refine HHR.out.mono ?_)
          rintro e w8 ⟨rfl, hb8⟩
          have HX8 := Aside0.mk (show w8.heap[g1]? = some (rBox x) ∧ w8.heap[g2]? = some (rBox y) from ⟨blk_below (blk_below HX7.out.1 HBk.out) hb8, blk_below (blk_below HX7.out.2 HBk.out) hb8⟩)
          have HB8 := Aside0.mk (below_step HBk.out hb8)
          clear hb8 q0 q1
          obtain ⟨p0, p1, -⟩ := two_cells HX8.out.2
          go_wp2_with fail
          (with_reducible refine (HHY2.out w8).mono ?_)
          rintro e w9 ⟨rfl, hb9⟩
          have HB9 := Aside0.mk (below_step HB8.out hb9)
          clear p0 p1
          obtain ⟨p0, p1, -⟩ := two_cells (blk_below HX8.out.1 hb9)
          clear hb9
          go_wp2_with fail
          (with_reducible refine (HHX2.out w9).mono ?_)
          rintro e w10 ⟨rfl, hb10⟩
          have HB10 := Aside0.mk (below_step HB9.out hb10)
          clear hb10 p0 p1
          go_wp2_with fail
          go_roundw
          case rel => exact ⟨k + 1, hlt, by push_cast; rfl, HB10⟩
          case measure => simp [intOf]; omega
        | false =>
          clear hr hrb hmem hrok hln
          go_wp2_with fail
          (with_reducible refine HHR.out.mono ?_)
          rintro e w8 ⟨rfl, hb8⟩
          have HB8 := Aside0.mk (below_step HBk.out hb8)
          clear hb8 q0 q1
          go_wp2_with fail
          go_roundw
          case rel => exact ⟨k + 1, hlt, by push_cast; rfl, HB8⟩
          case measure => simp [intOf]; omega
      · have j1 : ¬ (k : Int) < (n : Int) := by omega
        have HB8 := Aside0.mk (below_step HB7.out HBk.out)
        obtain ⟨p0, p1, -⟩ := two_cells (blk_below HX7.out.1 HBk.out)
        go_wp2_with fail
        (with_reducible refine (HMS.out wr).mono ?_)
        rintro e w9 ⟨v9, rfl, hO9, hb9⟩
        obtain ⟨A9, c9, rfl, hc9, hC9⟩ := ORc_readn hO9 0 HMS0.out
        have HB9 := Aside0.mk (below_step HB8.out hb9)
        clear p0 p1 hO9 hC9 hb9
        go_wp2_with fail
        (with_reducible refine (lives_calls _).mono ?_)
        rintro e w10 ⟨rfl, hb10⟩
        have HB10 := Aside0.mk (below_step HB9.out hb10)
        clear hb10
        go_wp2_with fail
        clear hg
        go_ret
        exact ⟨rfl, HB10.out⟩
end Go.Proofs.Ythmkpgemilmikaa.A
