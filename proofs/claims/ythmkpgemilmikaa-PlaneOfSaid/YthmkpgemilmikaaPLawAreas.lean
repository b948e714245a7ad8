/- PlaneAreas: the areas of what two have in common, and of what is left of one, add up to that of this one. -/
import Derived.Test.YthmkpgemilmikaaPPure
import Derived.Test.YthmkpgemilmikaaAOpen
namespace Go.Proofs.Ythmkpgemilmikaa.A
open Go.RowKit Go.Proofs.YthmkpgemilmikaaW.PrintWords Go.Proofs.YthmkpgemilmikaaW.PrintLast Go.Proofs.YthmkpgemilmikaaW.PrintMore
attribute [local go_sem] run_store_cx
set_option linter.unusedVariables false
set_option linter.unusedSimpArgs false

/-- Two spans, as they come in. -/
structure RR where
  e0 : Int
  e1 : Int
  t0 : Int
  t1 : Int
instance : Inhabited RR := ⟨⟨0, 0, 0, 0⟩⟩
def KRR : Kd RR := Kd.iso (Kd.pair (Kd.int .i64) (Kd.pair (Kd.int .i64) (Kd.pair (Kd.int .i64) (Kd.int .i64)))) (fun r => (r.e0, r.e1, r.t0, r.t1))
theorem KRR_K (w : World) (r : RR) : KRR.K w r [.int .i64 r.e0, .int .i64 r.e1, .int .i64 r.t0, .int .i64 r.t1] := ⟨[.int .i64 r.e0], _, rfl, rfl, ⟨[.int .i64 r.e1], _, rfl, rfl, ⟨[.int .i64 r.t0], _, rfl, rfl, rfl⟩⟩⟩
theorem KRR_of {w : World} {r : RR} {cs : List Value} (h : KRR.K w r cs) : cs = [.int .i64 r.e0, .int .i64 r.e1, .int .i64 r.t0, .int .i64 r.t1] := by
  obtain ⟨_, _, rfl, rfl, ⟨_, _, rfl, rfl, ⟨_, _, rfl, rfl, rfl⟩⟩⟩ := h
  rfl
def RR.fits (r : RR) : Prop := (IntKind.i64.min ≤ r.e0 ∧ r.e0 ≤ IntKind.i64.max) ∧ (IntKind.i64.min ≤ r.e1 ∧ r.e1 ≤ IntKind.i64.max) ∧ (IntKind.i64.min ≤ r.t0 ∧ r.t0 ≤ IntKind.i64.max) ∧ (IntKind.i64.min ≤ r.t1 ∧ r.t1 ≤ IntKind.i64.max)
theorem opens_sp2 : Opens 23 (Kd.pair (Kd.int .i64) (Kd.int .i64)) (fun p => (IntKind.i64.min ≤ p.1 ∧ p.1 ≤ IntKind.i64.max) ∧ (IntKind.i64.min ≤ p.2 ∧ p.2 ≤ IntKind.i64.max)) := by
  intro H enc w base spare held fuel cs x h
  obtain ⟨xs, n, rfl, rfl, hl, hx, hf⟩ := DataW.trod_struct Try.underlying23 h
  have hl2 : cs.length = 2 := hl.trans (by kernel_rfl)
  match cs, hl2 with
  | [c0, c1], _ =>
    have f0 := hf 0 _ rfl
    have f1 := hf 1 _ rfl
    have hx2 : xs.length = 2 := hx
    match xs, hx2 with
    | [x0, x1], _ =>
      obtain ⟨a, ha, _, hw⟩ := DataW.trod_int (x := x0) Try.underlying3 f0
      obtain ⟨b, hb, _, hw2⟩ := DataW.trod_int (x := x1) Try.underlying3 f1
      have hci : Try.prog.cellsOf 3 = 1 := by kernel_rfl
      have ha' : c0 = .int .i64 a := by simpa [hci] using ha
      have hb' : c1 = .int .i64 b := by simpa [hci] using hb
      subst ha' hb'
      exact ⟨(a, b), ⟨[.int .i64 a], [.int .i64 b], rfl, rfl, rfl⟩, by simpa [Lit.wf] using hw, by simpa [Lit.wf] using hw2⟩
theorem opens_R : Opens 25 KRR RR.fits := by
  intro H enc w base spare held fuel cs x h
  obtain ⟨xs, n, rfl, rfl, hl, hx, hf⟩ := DataW.trod_struct Try.underlying25 h
  have hl2 : cs.length = 4 := hl.trans (by kernel_rfl)
  match cs, hl2 with
  | [c0, c1, c2, c3], _ =>
    have f0 := hf 0 _ rfl
    have f1 := hf 1 _ rfl
    have hx2 : xs.length = 2 := hx
    match xs, hx2 with
    | [x0, x1], _ =>
      obtain ⟨⟨a, b⟩, hk1, g1⟩ := opens_sp2 _ _ _ _ _ _ _ _ _ f0
      obtain ⟨⟨c, d⟩, hk2, g2⟩ := opens_sp2 _ _ _ _ _ _ _ _ _ f1
      have hcs : Try.prog.cellsOf 23 = 2 := by kernel_rfl
      obtain ⟨_, _, e1, rfl, rfl⟩ := hk1
      obtain ⟨_, _, e2, rfl, rfl⟩ := hk2
      have e1' : c0 = .int .i64 a ∧ c1 = .int .i64 b := by simpa [hcs] using e1
      have e2' : c2 = .int .i64 c ∧ c3 = .int .i64 d := by simpa [hcs] using e2
      obtain ⟨rfl, rfl⟩ := e1'
      obtain ⟨rfl, rfl⟩ := e2'
      exact ⟨⟨a, b, c, d⟩, KRR_K _ _, g1.1, g1.2, g2.1, g2.2⟩
def RR.rc (r : RR) : Rc := mkR ⟨r.e0, r.e1⟩ ⟨r.t0, r.t1⟩
theorem RR_agg {w : World} {c : Array Value} {r : RR} (h : KRR.K w r (Value.agg c).cells.toList) : c = #[.int .i64 r.e0, .int .i64 r.e1, .int .i64 r.t0, .int .i64 r.t1] := by
  have h2 := KRR_of h
  have h3 : (Value.agg c).cells = c := rfl
  rw [h3] at h2
  exact Array.toList_inj.1 h2
theorem rc_below (r : RR) (h1 : r.e1 ≤ 1048576) (h2 : r.t1 ≤ 1048576) : r.rc.below 1048576 := by
  unfold RR.rc mkR Rc.below
  split
  · simp only; omega
  · simp only; omega
set_option maxRecDepth 100000 in
set_option maxHeartbeats 4000000 in
theorem areas_walk (w : World) (a b : RR) (h1 : a.e1 ≤ 1048576) (h2 : a.t1 ≤ 1048576) (h3 : b.e1 ≤ 1048576) (h4 : b.t1 ≤ 1048576) :
    Calls Try.prog 3 #[.agg #[.int .i64 a.e0, .int .i64 a.e1, .int .i64 a.t0, .int .i64 a.t1], .agg #[.int .i64 b.e0, .int .i64 b.e1, .int .i64 b.t0, .int .i64 b.t1]] w fun e w' => e = .returned (.bool true) ∧ Below w.heap.size w w' := by
  have hxok : a.rc.ok := mkR_ok _ _
  have hyok : b.rc.ok := mkR_ok _ _
  have HOF := Aside0.mk (fun W => lof_calls a.e0 a.e1 a.t0 a.t1 W)
  have HOF2 := Aside0.mk (fun W => lof_calls b.e0 b.e1 b.t0 b.t1 W)
  rw [show mkR ⟨a.e0, a.e1⟩ ⟨a.t0, a.t1⟩ = a.rc from rfl] at HOF
  rw [show mkR ⟨b.e0, b.e1⟩ ⟨b.t0, b.t1⟩ = b.rc from rfl] at HOF2
  have hsum := sumA_minus a.rc b.rc hxok hyok (rc_below a h1 h2)
  have hlen := minus_len a.rc b.rc
  have hmok := minus_ok a.rc b.rc hxok hyok
  have hxx := meetX_ok a.rc b.rc hxok hyok
  have hle : a.rc.area ≤ 4611686018427387904 := by unfold Rc.area; split <;> omega
  obtain ⟨x, hx⟩ : ∃ x, a.rc = x := ⟨_, rfl⟩
  obtain ⟨y, hy⟩ : ∃ y, b.rc = y := ⟨_, rfl⟩
  rw [hx] at HOF hsum hlen hmok hxok hxx hle
  rw [hy] at HOF2 hsum hlen hmok hyok hxx
  obtain ⟨bx, hbx⟩ : ∃ c, (S.Sp.may ⟨a.e0, a.e1⟩ && S.Sp.may ⟨a.t0, a.t1⟩) = c := ⟨_, rfl⟩
  obtain ⟨by', hby⟩ : ∃ c, (S.Sp.may ⟨b.e0, b.e1⟩ && S.Sp.may ⟨b.t0, b.t1⟩) = c := ⟨_, rfl⟩
  rw [hbx] at HOF
  rw [hby] at HOF2
  have HME := Aside0.mk (fun W => meet_calls x y hxok hyok W)
  have HMI := Aside0.mk (fun W => minus_calls x y hxok hyok W)
  have HAM := Aside0.mk (fun W => area_calls (meetX x y) hxx W)
  have HAX := Aside0.mk (fun W => area_calls x hxok W)
  obtain ⟨m, hm⟩ : ∃ m, meetX x y = m := ⟨_, rfl⟩
  obtain ⟨mb, hmb⟩ : ∃ m, meetB x y = m := ⟨_, rfl⟩
  obtain ⟨l, hl⟩ : ∃ l, minusR x y = l := ⟨_, rfl⟩
  rw [hm] at hsum HME HAM
  rw [hmb] at HME
  rw [hl] at hsum hlen hmok HMI
  obtain ⟨am, ham⟩ : ∃ k, m.area = k := ⟨_, rfl⟩
  obtain ⟨ax, hax⟩ : ∃ k, x.area = k := ⟨_, rfl⟩
  rw [ham] at hsum HAM
  rw [hax] at hsum HAX hle
  have HSUM := Aside0.mk hsum
  have HMOK := Aside0.mk hmok
  obtain ⟨n, hn⟩ : ∃ n, l.length = n := ⟨_, rfl⟩
  rw [hn] at hlen
  have HN := Aside0.mk hn
  obtain ⟨g, hg⟩ : ∃ g, w.heap.size = g := ⟨_, rfl⟩
  obtain ⟨W, hW⟩ : ∃ W, (w.alloc (fB a.e0 a.e1 a.t0 a.t1)).alloc (fB b.e0 b.e1 b.t0 b.t1) = W := ⟨_, rfl⟩
  have hb : Below w.heap.size w W := by rw [← hW]; exact below_alloc (below_alloc (Below.refl _ _) _) _
  have z0 : W.heap[g]? = some (fB a.e0 a.e1 a.t0 a.t1) := by rw [← hW, ← hg]; exact blk_alloc (blk_new w _) _
  have z1 : W.heap[g + 1]? = some (fB b.e0 b.e1 b.t0 b.t1) := by
    have h9 := blk_new (w.alloc (fB a.e0 a.e1 a.t0 a.t1)) (fB b.e0 b.e1 b.t0 b.t1)
    rw [World.size_alloc, hg, hW] at h9
    exact h9
  obtain ⟨c0, c1, c2, c3, -⟩ := four_cells z0
  obtain ⟨d0, d1, d2, d3, -⟩ := four_cells z1
  have HZ1 := Aside0.mk z1
  have HB := Aside0.mk hb
  clear hxok hyok hsum hmok hxx hx hy hbx hby hm hmb hl ham hax hn hb z0 z1
  go_enter Try.func3, Try.ntmps3
  go_wp2_with fail
  (with_reducible refine (HOF.out W).mono ?_)
  rintro e w1 ⟨rfl, hb1⟩
  obtain ⟨g1, hg1⟩ : ∃ g, w1.heap.size = g := ⟨_, rfl⟩
  obtain ⟨W1, hW1⟩ : ∃ W1, w1.alloc (rBox x) = W1 := ⟨_, rfl⟩
  have hb1' : Below W.heap.size W W1 := by rw [← hW1]; exact below_alloc hb1 _
  have hx1 : W1.heap[g1]? = some (rBox x) := by rw [← hW1, ← hg1]; exact blk_new w1 _
  clear c0 c1 c2 c3 d0 d1 d2 d3
  obtain ⟨d0, d1, d2, d3, -⟩ := four_cells (blk_below HZ1.out hb1')
  have HB1 := Aside0.mk (below_step HB.out hb1')
  have HX1 := Aside0.mk hx1
  clear hb1 hb1' hx1
  go_wp2_with fail
  (with_reducible refine (HOF2.out W1).mono ?_)
  rintro e w2 ⟨rfl, hb2⟩
  obtain ⟨g2, hg2⟩ : ∃ g, w2.heap.size = g := ⟨_, rfl⟩
  obtain ⟨W2, hW2⟩ : ∃ W2, w2.alloc (rBox y) = W2 := ⟨_, rfl⟩
  have hb2' : Below W1.heap.size W1 W2 := by rw [← hW2]; exact below_alloc hb2 _
  have hx2 : W2.heap[g2]? = some (rBox y) := by rw [← hW2, ← hg2]; exact blk_new w2 _
  clear d0 d1 d2 d3
  have hx12 := blk_below HX1.out hb2'
  obtain ⟨c0, c1, -⟩ := two_cells hx12
  obtain ⟨d0, d1, -⟩ := two_cells hx2
  have HB2 := Aside0.mk (below_step HB1.out hb2')
  have HX2 := Aside0.mk (show W2.heap[g1]? = some (rBox x) ∧ W2.heap[g2]? = some (rBox y) from ⟨hx12, hx2⟩)
  clear hb2 hb2' hx2 hx12
  go_wp2_with fail
  (with_reducible refine (HME.out W2).mono ?_)
  rintro e w3 ⟨rfl, hb3⟩
  obtain ⟨g3, hg3⟩ : ∃ g, w3.heap.size = g := ⟨_, rfl⟩
  obtain ⟨W3, hW3⟩ : ∃ W3, w3.alloc (rBox m) = W3 := ⟨_, rfl⟩
  have hb3' : Below W2.heap.size W2 W3 := by rw [← hW3]; exact below_alloc hb3 _
  have hx3 : W3.heap[g3]? = some (rBox m) := by rw [← hW3, ← hg3]; exact blk_new w3 _
  clear c0 c1 d0 d1
  obtain ⟨e0, e1, -⟩ := two_cells hx3
  have HB3 := Aside0.mk (below_step HB2.out hb3')
  have HX3 := Aside0.mk (show W3.heap[g1]? = some (rBox x) ∧ W3.heap[g2]? = some (rBox y) from ⟨blk_below HX2.out.1 hb3', blk_below HX2.out.2 hb3'⟩)
  clear hb3 hb3' hx3
  go_wp2_with fail
  (with_reducible refine (HAM.out W3).mono ?_)
  rintro e w4 ⟨rfl, hb4⟩
  have HB4 := Aside0.mk (below_step HB3.out hb4)
  have HX4 := Aside0.mk (show w4.heap[g1]? = some (rBox x) ∧ w4.heap[g2]? = some (rBox y) from ⟨blk_below HX3.out.1 hb4, blk_below HX3.out.2 hb4⟩)
  clear e0 e1 hb4
  obtain ⟨c0, c1, -⟩ := two_cells HX4.out.1
  obtain ⟨d0, d1, -⟩ := two_cells HX4.out.2
  go_wp2_with fail
  (with_reducible refine (HMI.out w4).mono ?_)
  rintro e w5 ⟨v5, rfl, hO5, hb5⟩
  obtain ⟨A5, c5, rfl, hc5, hC5⟩ := ORc_readn hO5 n HN.out
  have HC5 := Aside0.mk hC5
  have HB5 := Aside0.mk (below_step HB4.out hb5)
  have HX5 := Aside0.mk (blk_below HX4.out.1 hb5)
  clear c0 c1 d0 d1 hO5 hC5 hb5
  go_wp2_with fail
  go_loopw [11, 13] (fun v11 v13 w' => ∃ (k s : Nat), k ≤ n ∧ v13 = .int .i64 k ∧ v11 = .int .i64 s ∧ Aside0 (s = am + sumA (l.take k)) ∧ Aside0 (Below w5.heap.size w5 w')) (fun _ v13 _ => n - (intOf v13).toNat)
  case atStart => exact ⟨0, am, Nat.zero_le _, rfl, rfl, ⟨rfl⟩, ⟨Below.refl _ _⟩⟩
  case round =>
    obtain ⟨k, s, hk, rfl, rfl, HS, HBk⟩ := hrel
    by_cases hlt : k < n
    · have hln : k < l.length := by rw [HN.out]; exact hlt
      obtain ⟨ad, rfl, q0, q1⟩ := C_atRc (Kd.C_below HC5.out HBk.out) k hlt
      have k1 := sumA_take l k hln
      have k2 := sumA_le l (k + 1)
      have hrok := HMOK.out _ (rect_getD hln)
      obtain ⟨r, hr⟩ : ∃ r, l.getD k default = r := ⟨_, rfl⟩
      rw [hr] at q0 q1 k1 hrok
      have HAC := Aside0.mk (area_calls r hrok wr)
      obtain ⟨ar, har⟩ : ∃ x, r.area = x := ⟨_, rfl⟩
      rw [har] at HAC k1
      have k3 : s + ar ≤ 4611686018427387904 := by have := HS.out; have := HSUM.out; omega
      have HS2 : Aside0 (s + ar = am + sumA (l.take (k + 1))) := ⟨by rw [k1, HS.out]; omega⟩
      have j1 : (k : Int) < (n : Int) := by omega
      have j2 : (0 : Int) ≤ (k : Int) := by omega
      clear hr har k1 k2 hrok hln
      go_wp2_with fail
      (with_reducible refine HAC.out.mono ?_)
      rintro e w6 ⟨rfl, hb6⟩
      have HB6 := Aside0.mk (below_step HBk.out hb6)
      clear hb6 q0 q1
      go_wp2_with fail
      go_roundw
      case rel => exact ⟨k + 1, s + ar, hlt, by push_cast; rfl, by push_cast; rfl, HS2, HB6⟩
      case measure => simp [intOf]; omega
    · have j1 : ¬ (k : Int) < (n : Int) := by omega
      have hsx : s = ax := by rw [HS.out, List.take_of_length_le (by have := HN.out; omega)]; exact HSUM.out
      subst hsx
      obtain ⟨c0, c1, -⟩ := two_cells (blk_below HX5.out HBk.out)
      go_wp2_with fail
      (with_reducible refine (HAX.out wr).mono ?_)
      rintro e w7 ⟨rfl, hb7⟩
      have HB7 := Aside0.mk (below_step (below_step HB5.out HBk.out) hb7)
      clear hb7 c0 c1
      go_wp2_with fail
      (with_reducible refine (lives_calls _).mono ?_)
      rintro e w8 ⟨rfl, hb8⟩
      have HB8 := Aside0.mk (below_step HB7.out hb8)
      clear hb8
      go_wp2_with fail
      clear hg
      go_ret
      exact ⟨rfl, HB8.out⟩
set_option maxRecDepth 100000 in
set_option maxHeartbeats 4000000 in
theorem areas_big (w : World) (a b : RR) (h : ¬ (a.e1 ≤ 1048576 ∧ a.t1 ≤ 1048576 ∧ b.e1 ≤ 1048576 ∧ b.t1 ≤ 1048576)) :
    Calls Try.prog 3 #[.agg #[.int .i64 a.e0, .int .i64 a.e1, .int .i64 a.t0, .int .i64 a.t1], .agg #[.int .i64 b.e0, .int .i64 b.e1, .int .i64 b.t0, .int .i64 b.t1]] w fun e w' => e = .returned (.bool true) ∧ Below w.heap.size w w' := by
  obtain ⟨g, hg⟩ : ∃ g, w.heap.size = g := ⟨_, rfl⟩
  obtain ⟨W, hW⟩ : ∃ W, (w.alloc (fB a.e0 a.e1 a.t0 a.t1)).alloc (fB b.e0 b.e1 b.t0 b.t1) = W := ⟨_, rfl⟩
  have hb : Below w.heap.size w W := by rw [← hW]; exact below_alloc (below_alloc (Below.refl _ _) _) _
  have z0 : W.heap[g]? = some (fB a.e0 a.e1 a.t0 a.t1) := by rw [← hW, ← hg]; exact blk_alloc (blk_new w _) _
  have z1 : W.heap[g + 1]? = some (fB b.e0 b.e1 b.t0 b.t1) := by
    have h9 := blk_new (w.alloc (fB a.e0 a.e1 a.t0 a.t1)) (fB b.e0 b.e1 b.t0 b.t1)
    rw [World.size_alloc, hg, hW] at h9
    exact h9
  obtain ⟨c0, c1, c2, c3, -⟩ := four_cells z0
  obtain ⟨d0, d1, d2, d3, -⟩ := four_cells z1
  have HB := Aside0.mk hb
  clear hb z0 z1
  have hc : ((1048576 : Int) < a.e1) ∨ (¬ (1048576 : Int) < a.e1 ∧ (1048576 : Int) < a.t1) ∨ (¬ (1048576 : Int) < a.e1 ∧ ¬ (1048576 : Int) < a.t1 ∧ (1048576 : Int) < b.e1) ∨ (¬ (1048576 : Int) < a.e1 ∧ ¬ (1048576 : Int) < a.t1 ∧ ¬ (1048576 : Int) < b.e1 ∧ (1048576 : Int) < b.t1) := by omega
  clear h
  rcases hc with p1 | ⟨p1, p2⟩ | ⟨p1, p2, p3⟩ | ⟨p1, p2, p3, p4⟩
  all_goals
    go_enter Try.func3, Try.ntmps3
    go_wp2_with fail
    (with_reducible refine (lives_calls _).mono ?_)
    rintro e w8 ⟨rfl, hb8⟩
    have HB8 := Aside0.mk (below_step HB.out hb8)
    clear hb8
    go_wp2_with fail
    clear hg
    go_ret
    exact ⟨rfl, HB8.out⟩
theorem areas_calls (w : World) (c1 : Array Value) (a : RR) (h1 : KRR.K w a (Value.agg c1).cells.toList) (_g1 : a.fits) (c2 : Array Value) (b : RR) (h2 : KRR.K w b (Value.agg c2).cells.toList) (_g2 : b.fits) :
    Calls Try.prog 3 #[.agg c1, .agg c2] w fun e w' => e = .returned (.bool true) ∧ Below w.heap.size w w' := by
  have e1 := RR_agg h1
  have e2 := RR_agg h2
  subst e1 e2
  by_cases h : a.e1 ≤ 1048576 ∧ a.t1 ≤ 1048576 ∧ b.e1 ≤ 1048576 ∧ b.t1 ≤ 1048576
  · exact areas_walk w a b h.1 h.2.1 h.2.2.1 h.2.2.2
  · exact areas_big w a b h
end Go.Proofs.Ythmkpgemilmikaa.A
