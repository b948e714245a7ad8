/- RowOrders, RowSorts: the order of versions. -/
import Derived.Test.YtmkabbfglijckaaBWrite
namespace Go.Proofs.Ytmkabbfglijckaa.A
open Go.RowKit Go.Proofs.YtmkabbfglijckaaW.PrintWords Go.Proofs.YtmkabbfglijckaaW.PrintLast Go.Proofs.YtmkabbfglijckaaW.PrintMore
open Go.Op (bytesLess)
set_option linter.unusedVariables false
set_option linter.unusedSimpArgs false

theorem firstL_neg (l : List Int) : firstL (l.map fun x => -x) = - firstL l := by
  induction l with
  | nil => rfl
  | cons x l ih =>
    rw [List.map_cons, firstL, firstL, ih]
    by_cases h : x = 0
    · rw [if_pos h, if_pos (by omega)]
    · rw [if_neg h, if_neg (by omega)]
theorem cmpV_swap (a b : Vr) : cmpV b a = - cmpV a b := by
  unfold cmpV
  rw [← firstL_neg, O.cmpS_swap, O.cmpI_swap a.br, O.cmpI_swap a.ep, O.cmpI_swap a.sq, O.cmpI_swap a.f]
  rfl
theorem cmpS_self (x : ByteArray) : O.cmpS x x = 0 := by unfold O.cmpS; rw [O.bl_self]; simp
theorem cmpI_self (x : Int) : O.cmpI x x = 0 := by unfold O.cmpI; simp
theorem cmpI_ne {x y : Int} (h : ¬ x = y) : O.cmpI x y = if x < y then -1 else 1 := by unfold O.cmpI; rw [if_neg h]
theorem cmpS_ne {x y : ByteArray} (h : ¬ x = y) : O.cmpS x y = if bytesLess x.toList y.toList then -1 else 1 := by unfold O.cmpS; rw [if_neg (str_ne h)]
theorem firstL_zero (l : List Int) : firstL (0 :: l) = firstL l := rfl
theorem firstL_ite (c : Prop) [Decidable c] (l : List Int) : firstL ((if c then -1 else 1) :: l) = if c then -1 else 1 := by
  by_cases h : c <;> simp [firstL, h]
theorem ite_neg (c : Prop) [Decidable c] : decide ((if c then (-1 : Int) else 1) = -1) = decide c := by
  by_cases h : c <;> simp [h]
theorem less_cmp (a b : Vr) : lessV a b = decide (cmpV a b = -1) := by
  unfold lessV cmpV
  by_cases hk : a.k = b.k
  · rw [if_pos hk, hk, cmpS_self, firstL_zero]
    by_cases hb : a.br = b.br
    · rw [if_pos hb, hb, cmpI_self, firstL_zero]
      by_cases he : a.ep = b.ep
      · rw [if_pos he, he, cmpI_self, firstL_zero]
        by_cases hs : a.sq = b.sq
        · rw [if_pos hs, hs, cmpI_self, firstL_zero]
          by_cases hf : a.f = b.f
          · rw [hf, cmpI_self]
            simp [firstL]
          · rw [cmpI_ne hf, firstL_ite, ite_neg]
        · rw [if_neg hs, cmpI_ne hs, firstL_ite, ite_neg]
      · rw [if_neg he, cmpI_ne he, firstL_ite, ite_neg]
    · rw [if_neg hb, cmpI_ne hb, firstL_ite, ite_neg]
  · rw [if_neg hk, cmpS_ne hk, firstL_ite, ite_neg]
    simp
theorem firstL_range (l : List Int) (h : ∀ x ∈ l, -1 ≤ x ∧ x ≤ 1) : -1 ≤ firstL l ∧ firstL l ≤ 1 := by
  induction l with
  | nil => simp [firstL]
  | cons x l ih =>
    unfold firstL
    split
    · exact ih (fun y hy => h y (List.mem_cons_of_mem _ hy))
    · exact h x (List.mem_cons_self ..)
theorem cmpV_range (a b : Vr) : -1 ≤ cmpV a b ∧ cmpV a b ≤ 1 := by
  refine firstL_range _ fun x hx => ?_
  simp only [List.mem_cons, List.not_mem_nil, or_false] at hx
  rcases hx with rfl | rfl | rfl | rfl | rfl
  · exact O.cmpS_range _ _
  · exact O.cmpI_range _ _
  · exact O.cmpI_range _ _
  · exact O.cmpI_range _ _
  · exact O.cmpI_range _ _
/-- Two boxes. -/
def B2 (w : World) (a b : Vr) (W : World) : Prop := W.heap[w.heap.size]? = some (vrB a) ∧ W.heap[w.heap.size + 1]? = some (vrB b) ∧ Below w.heap.size w W
theorem B2_step {w W W1 : World} {a b : Vr} (h : B2 w a b W) (hb : Below W.heap.size W W1) : B2 w a b W1 := ⟨box_keep h.1 hb, box_keep h.2.1 hb, below_step h.2.2 hb⟩
theorem B2_mk (w : World) (a b : Vr) : B2 w a b ((w.alloc (vrB a)).alloc (vrB b)) := by
  refine ⟨box_keep (heap_alloc_new w _) (below_alloc (Below.refl _ _) _), ?_, below_alloc (below_alloc (Below.refl _ _) _) _⟩
  have h := heap_alloc_new (w.alloc (vrB a)) (vrB b)
  rw [World.size_alloc] at h
  exact h
theorem agg_of {c : Array Value} {w : World} {y : Vr} (h : KVr.K w y (Value.agg c).cells.toList) : c = #[.string y.k, .int .i64 y.br, .int .i64 y.ep, .int .i64 y.sq, .int .i64 y.f, .int .i64 y.t, .string y.v, .bool y.g] := by
  have h := KVr_of h
  have : c.toList = vrCells y := by simpa [Value.cells] using h
  exact Array.ext' this
def Vr.fits (p : Vr) : Prop := p.k.size ≤ maxLen ∧ p.v.size ≤ maxLen
theorem opens_spn : Opens 25 (Kd.pair (Kd.int .i64) (Kd.int .i64)) (fun _ => True) := by
  intro H enc w base spare held fuel cs x h
  obtain ⟨xs, n, rfl, rfl, hl, hx, hf⟩ := DataW.trod_struct Try.underlying25 h
  have hl2 : cs.length = 2 := hl.trans (by kernel_rfl)
  match cs, hl2 with
  | [c0, c1], _ =>
    have f0 := hf 0 _ rfl
    have f1 := hf 1 _ rfl
    have hx2 : xs.length = 2 := hx
    match xs, hx2 with
    | [x0, x1], _ =>
      obtain ⟨a, ha, _, _⟩ := DataW.trod_int (x := x0) Try.underlying3 f0
      obtain ⟨b, hb, _, _⟩ := DataW.trod_int (x := x1) Try.underlying3 f1
      have hci : Try.prog.cellsOf 3 = 1 := by kernel_rfl
      have ha' : c0 = .int .i64 a := by simpa [hci] using ha
      have hb' : c1 = .int .i64 b := by simpa [hci] using hb
      subst ha' hb'
      exact ⟨(a, b), ⟨[.int .i64 a], [.int .i64 b], rfl, rfl, rfl⟩, trivial⟩
theorem opens_stp : Opens 23 (Kd.pair (Kd.int .i64) (Kd.pair (Kd.int .i64) (Kd.int .i64))) (fun _ => True) := by
  intro H enc w base spare held fuel cs x h
  obtain ⟨xs, n, rfl, rfl, hl, hx, hf⟩ := DataW.trod_struct Try.underlying23 h
  have hl2 : cs.length = 3 := hl.trans (by kernel_rfl)
  match cs, hl2 with
  | [c0, c1, c2], _ =>
    have f0 := hf 0 _ rfl
    have f1 := hf 1 _ rfl
    have f2 := hf 2 _ rfl
    have hx2 : xs.length = 3 := hx
    match xs, hx2 with
    | [x0, x1, x2], _ =>
      obtain ⟨a, ha, _, _⟩ := DataW.trod_int (x := x0) Try.underlying3 f0
      obtain ⟨b, hb, _, _⟩ := DataW.trod_int (x := x1) Try.underlying3 f1
      obtain ⟨c, hc, _, _⟩ := DataW.trod_int (x := x2) Try.underlying3 f2
      have hci : Try.prog.cellsOf 3 = 1 := by kernel_rfl
      have ha' : c0 = .int .i64 a := by simpa [hci] using ha
      have hb' : c1 = .int .i64 b := by simpa [hci] using hb
      have hc' : c2 = .int .i64 c := by simpa [hci] using hc
      subst ha' hb' hc'
      exact ⟨(a, b, c), ⟨[.int .i64 a], [.int .i64 b, .int .i64 c], rfl, rfl, ⟨[.int .i64 b], [.int .i64 c], rfl, rfl, rfl⟩⟩, trivial⟩
theorem opens_version : Opens 27 KVr Vr.fits := by
  intro H enc w base spare held fuel cs x h
  obtain ⟨xs, n, rfl, rfl, hl, hx, hf⟩ := DataW.trod_struct Try.underlying27 h
  have hl2 : cs.length = 8 := hl.trans (by kernel_rfl)
  match cs, hl2 with
  | [c0, c1, c2, c3, c4, c5, c6, c7], _ =>
    have f0 := hf 0 _ rfl
    have f1 := hf 1 _ rfl
    have f2 := hf 2 _ rfl
    have f3 := hf 3 _ rfl
    have f4 := hf 4 _ rfl
    have hx2 : xs.length = 5 := hx
    match xs, hx2 with
    | [x0, x1, x2, x3, x4], _ =>
      obtain ⟨s, hs, _, hsw⟩ := DataW.trod_string (x := x0) Try.underlying9 f0
      obtain ⟨⟨a, b, c⟩, hk1, _⟩ := opens_stp _ _ _ _ _ _ _ _ _ f1
      obtain ⟨⟨d, e⟩, hk2, _⟩ := opens_spn _ _ _ _ _ _ _ _ _ f2
      obtain ⟨v, hv, _, hvw⟩ := DataW.trod_string (x := x3) Try.underlying9 f3
      obtain ⟨g, hg, _⟩ := DataW.trod_bool (x := x4) Try.underlying4 f4
      have hcs : Try.prog.cellsOf 9 = 1 := by kernel_rfl
      have hct : Try.prog.cellsOf 23 = 3 := by kernel_rfl
      have hcp : Try.prog.cellsOf 25 = 2 := by kernel_rfl
      have hcb : Try.prog.cellsOf 4 = 1 := by kernel_rfl
      have hs' : c0 = .string s := by simpa [hcs, hct, hcp, hcb] using hs
      have hv' : c6 = .string v := by simpa [hcs, hct, hcp, hcb] using hv
      have hg' : c7 = .bool g := by simpa [hcs, hct, hcp, hcb] using hg
      obtain ⟨_, _, e1, rfl, ⟨_, _, rfl, rfl, rfl⟩⟩ := hk1
      obtain ⟨_, _, e2, rfl, rfl⟩ := hk2
      have e1' : c1 = .int .i64 a ∧ c2 = .int .i64 b ∧ c3 = .int .i64 c := by simpa [hcs, hct, hcp, hcb] using e1
      have e2' : c4 = .int .i64 d ∧ c5 = .int .i64 e := by simpa [hcs, hct, hcp, hcb] using e2
      obtain ⟨rfl, rfl, rfl⟩ := e1'
      obtain ⟨rfl, rfl⟩ := e2'
      subst hs' hv' hg'
      exact ⟨⟨s, a, b, c, d, e, v, g⟩, KVr_K _ _, hsw, hvw⟩
set_option maxRecDepth 100000 in
set_option maxHeartbeats 4000000 in
theorem orders_calls (w : World) (c1 : Array Value) (y1 : Vr) (h1 : KVr.K w y1 (Value.agg c1).cells.toList) (_g1 : y1.fits) (c2 : Array Value) (y2 : Vr) (h2 : KVr.K w y2 (Value.agg c2).cells.toList) (_g2 : y2.fits) :
    Calls Try.prog 4 #[.agg c1, .agg c2] w fun e w' => e = .returned (.bool true) ∧ Below w.heap.size w w' := by
  have e1 := agg_of h1
  have e2 := agg_of h2
  subst e1 e2
  clear h1 h2 _g1 _g2
  have hl1 := less_cmp y1 y2
  have hl2 := less_cmp y2 y1
  have hsw := cmpV_swap y1 y2
  have hrg := cmpV_range y1 y2
  rw [hsw] at hl2
  obtain ⟨k1, br1, ep1, sq1, f1, t1, v1, g1⟩ := y1
  obtain ⟨k2, br2, ep2, sq2, f2, t2, v2, g2⟩ := y2
  obtain ⟨r, hr⟩ : ∃ r, cmpV ⟨k1, br1, ep1, sq1, f1, t1, v1, g1⟩ ⟨k2, br2, ep2, sq2, f2, t2, v2, g2⟩ = r := ⟨_, rfl⟩
  rw [hr] at hl1 hl2 hsw hrg
  have HR := Aside0.mk hr
  have HS := Aside0.mk hsw
  clear hr hsw
  have HI0 := Aside0.mk (B2_mk w ⟨k1, br1, ep1, sq1, f1, t1, v1, g1⟩ ⟨k2, br2, ep2, sq2, f2, t2, v2, g2⟩)
  obtain rfl | rfl | rfl : r = 0 ∨ r = -1 ∨ r = 1 := by omega
  · have HL1 : Aside0 (lessV ⟨k1, br1, ep1, sq1, f1, t1, v1, g1⟩ ⟨k2, br2, ep2, sq2, f2, t2, v2, g2⟩ = false) := ⟨hl1.trans (by decide)⟩
    have HL2 : Aside0 (lessV ⟨k2, br2, ep2, sq2, f2, t2, v2, g2⟩ ⟨k1, br1, ep1, sq1, f1, t1, v1, g1⟩ = false) := ⟨hl2.trans (by decide)⟩
    have HSN : Aside0 (cmpV ⟨k2, br2, ep2, sq2, f2, t2, v2, g2⟩ ⟨k1, br1, ep1, sq1, f1, t1, v1, g1⟩ = 0) := ⟨HS.out.trans (by decide)⟩
    clear hl1 hl2 hrg HS
    go_enter Try.func4, Try.ntmps4
    go_wp2_with fail
    (with_reducible refine (less_calls k1 br1 ep1 sq1 f1 t1 v1 g1 k2 br2 ep2 sq2 f2 t2 v2 g2 _).mono ?_)
    rw [HL1.out]
    rintro e w1 ⟨rfl, hb1⟩
    have HI1 := Aside0.mk (B2_step HI0.out hb1)
    obtain ⟨x0, x1, x2, x3, x4, x5, x6, x7⟩ := vr_cells HI1.out.1
    obtain ⟨z0, z1, z2, z3, z4, z5, z6, z7⟩ := vr_cells HI1.out.2.1
    clear hb1 HI0
    go_wp2_with fail
    (with_reducible refine (less_calls k2 br2 ep2 sq2 f2 t2 v2 g2 k1 br1 ep1 sq1 f1 t1 v1 g1 _).mono ?_)
    rw [HL2.out]
    rintro e w2 ⟨rfl, hb2⟩
    have HI2 := Aside0.mk (B2_step HI1.out hb2)
    clear x0 x1 x2 x3 x4 x5 x6 x7 z0 z1 z2 z3 z4 z5 z6 z7 hb2 HI1
    obtain ⟨x0, x1, x2, x3, x4, x5, x6, x7⟩ := vr_cells HI2.out.1
    obtain ⟨z0, z1, z2, z3, z4, z5, z6, z7⟩ := vr_cells HI2.out.2.1
    go_wp2_with fail
    (with_reducible refine (compare_calls k1 br1 ep1 sq1 f1 t1 v1 g1 k2 br2 ep2 sq2 f2 t2 v2 g2 _).mono ?_)
    rw [HR.out]
    rintro e w3 ⟨rfl, hb3⟩
    have HI3 := Aside0.mk (B2_step HI2.out hb3)
    clear x0 x1 x2 x3 x4 x5 x6 x7 z0 z1 z2 z3 z4 z5 z6 z7 hb3 HI2
    obtain ⟨x0, x1, x2, x3, x4, x5, x6, x7⟩ := vr_cells HI3.out.1
    obtain ⟨z0, z1, z2, z3, z4, z5, z6, z7⟩ := vr_cells HI3.out.2.1
    go_wp2_with fail
    (with_reducible refine (compare_calls k2 br2 ep2 sq2 f2 t2 v2 g2 k1 br1 ep1 sq1 f1 t1 v1 g1 _).mono ?_)
    rw [HSN.out]
    rintro e w4 ⟨rfl, hb4⟩
    have HB4 := Aside0.mk (below_step HI3.out.2.2 hb4)
    clear x0 x1 x2 x3 x4 x5 x6 x7 z0 z1 z2 z3 z4 z5 z6 z7 hb4 HI3
    go_wp2_with fail
    (with_reducible refine (lives_calls _).mono ?_)
    rintro e w5 ⟨rfl, hb5⟩
    have HB5 := Aside0.mk (below_step HB4.out hb5)
    clear hb5 HB4
    go_wp2_with fail
    go_ret
    exact ⟨rfl, HB5.out⟩
  · have HL1 : Aside0 (lessV ⟨k1, br1, ep1, sq1, f1, t1, v1, g1⟩ ⟨k2, br2, ep2, sq2, f2, t2, v2, g2⟩ = true) := ⟨hl1.trans (by decide)⟩
    have HL2 : Aside0 (lessV ⟨k2, br2, ep2, sq2, f2, t2, v2, g2⟩ ⟨k1, br1, ep1, sq1, f1, t1, v1, g1⟩ = false) := ⟨hl2.trans (by decide)⟩
    have HSN : Aside0 (cmpV ⟨k2, br2, ep2, sq2, f2, t2, v2, g2⟩ ⟨k1, br1, ep1, sq1, f1, t1, v1, g1⟩ = 1) := ⟨HS.out.trans (by decide)⟩
    clear hl1 hl2 hrg HS
    go_enter Try.func4, Try.ntmps4
    go_wp2_with fail
    (with_reducible refine (less_calls k1 br1 ep1 sq1 f1 t1 v1 g1 k2 br2 ep2 sq2 f2 t2 v2 g2 _).mono ?_)
    rw [HL1.out]
    rintro e w1 ⟨rfl, hb1⟩
    have HI1 := Aside0.mk (B2_step HI0.out hb1)
    obtain ⟨x0, x1, x2, x3, x4, x5, x6, x7⟩ := vr_cells HI1.out.1
    obtain ⟨z0, z1, z2, z3, z4, z5, z6, z7⟩ := vr_cells HI1.out.2.1
    clear hb1 HI0
    go_wp2_with fail
    (with_reducible refine (less_calls k2 br2 ep2 sq2 f2 t2 v2 g2 k1 br1 ep1 sq1 f1 t1 v1 g1 _).mono ?_)
    rw [HL2.out]
    rintro e w2 ⟨rfl, hb2⟩
    have HI2 := Aside0.mk (B2_step HI1.out hb2)
    clear x0 x1 x2 x3 x4 x5 x6 x7 z0 z1 z2 z3 z4 z5 z6 z7 hb2 HI1
    obtain ⟨x0, x1, x2, x3, x4, x5, x6, x7⟩ := vr_cells HI2.out.1
    obtain ⟨z0, z1, z2, z3, z4, z5, z6, z7⟩ := vr_cells HI2.out.2.1
    go_wp2_with fail
    (with_reducible refine (compare_calls k1 br1 ep1 sq1 f1 t1 v1 g1 k2 br2 ep2 sq2 f2 t2 v2 g2 _).mono ?_)
    rw [HR.out]
    rintro e w3 ⟨rfl, hb3⟩
    have HI3 := Aside0.mk (B2_step HI2.out hb3)
    clear x0 x1 x2 x3 x4 x5 x6 x7 z0 z1 z2 z3 z4 z5 z6 z7 hb3 HI2
    obtain ⟨x0, x1, x2, x3, x4, x5, x6, x7⟩ := vr_cells HI3.out.1
    obtain ⟨z0, z1, z2, z3, z4, z5, z6, z7⟩ := vr_cells HI3.out.2.1
    go_wp2_with fail
    (with_reducible refine (compare_calls k2 br2 ep2 sq2 f2 t2 v2 g2 k1 br1 ep1 sq1 f1 t1 v1 g1 _).mono ?_)
    rw [HSN.out]
    rintro e w4 ⟨rfl, hb4⟩
    have HB4 := Aside0.mk (below_step HI3.out.2.2 hb4)
    clear x0 x1 x2 x3 x4 x5 x6 x7 z0 z1 z2 z3 z4 z5 z6 z7 hb4 HI3
    go_wp2_with fail
    (with_reducible refine (lives_calls _).mono ?_)
    rintro e w5 ⟨rfl, hb5⟩
    have HB5 := Aside0.mk (below_step HB4.out hb5)
    clear hb5 HB4
    go_wp2_with fail
    go_ret
    exact ⟨rfl, HB5.out⟩
  · have HL1 : Aside0 (lessV ⟨k1, br1, ep1, sq1, f1, t1, v1, g1⟩ ⟨k2, br2, ep2, sq2, f2, t2, v2, g2⟩ = false) := ⟨hl1.trans (by decide)⟩
    have HL2 : Aside0 (lessV ⟨k2, br2, ep2, sq2, f2, t2, v2, g2⟩ ⟨k1, br1, ep1, sq1, f1, t1, v1, g1⟩ = true) := ⟨hl2.trans (by decide)⟩
    have HSN : Aside0 (cmpV ⟨k2, br2, ep2, sq2, f2, t2, v2, g2⟩ ⟨k1, br1, ep1, sq1, f1, t1, v1, g1⟩ = -1) := ⟨HS.out.trans (by decide)⟩
    clear hl1 hl2 hrg HS
    go_enter Try.func4, Try.ntmps4
    go_wp2_with fail
    (with_reducible refine (less_calls k1 br1 ep1 sq1 f1 t1 v1 g1 k2 br2 ep2 sq2 f2 t2 v2 g2 _).mono ?_)
    rw [HL1.out]
    rintro e w1 ⟨rfl, hb1⟩
    have HI1 := Aside0.mk (B2_step HI0.out hb1)
    obtain ⟨x0, x1, x2, x3, x4, x5, x6, x7⟩ := vr_cells HI1.out.1
    obtain ⟨z0, z1, z2, z3, z4, z5, z6, z7⟩ := vr_cells HI1.out.2.1
    clear hb1 HI0
    go_wp2_with fail
    (with_reducible refine (less_calls k2 br2 ep2 sq2 f2 t2 v2 g2 k1 br1 ep1 sq1 f1 t1 v1 g1 _).mono ?_)
    rw [HL2.out]
    rintro e w2 ⟨rfl, hb2⟩
    have HI2 := Aside0.mk (B2_step HI1.out hb2)
    clear x0 x1 x2 x3 x4 x5 x6 x7 z0 z1 z2 z3 z4 z5 z6 z7 hb2 HI1
    obtain ⟨x0, x1, x2, x3, x4, x5, x6, x7⟩ := vr_cells HI2.out.1
    obtain ⟨z0, z1, z2, z3, z4, z5, z6, z7⟩ := vr_cells HI2.out.2.1
    go_wp2_with fail
    (with_reducible refine (compare_calls k1 br1 ep1 sq1 f1 t1 v1 g1 k2 br2 ep2 sq2 f2 t2 v2 g2 _).mono ?_)
    rw [HR.out]
    rintro e w3 ⟨rfl, hb3⟩
    have HI3 := Aside0.mk (B2_step HI2.out hb3)
    clear x0 x1 x2 x3 x4 x5 x6 x7 z0 z1 z2 z3 z4 z5 z6 z7 hb3 HI2
    obtain ⟨x0, x1, x2, x3, x4, x5, x6, x7⟩ := vr_cells HI3.out.1
    obtain ⟨z0, z1, z2, z3, z4, z5, z6, z7⟩ := vr_cells HI3.out.2.1
    go_wp2_with fail
    (with_reducible refine (compare_calls k2 br2 ep2 sq2 f2 t2 v2 g2 k1 br1 ep1 sq1 f1 t1 v1 g1 _).mono ?_)
    rw [HSN.out]
    rintro e w4 ⟨rfl, hb4⟩
    have HB4 := Aside0.mk (below_step HI3.out.2.2 hb4)
    clear x0 x1 x2 x3 x4 x5 x6 x7 z0 z1 z2 z3 z4 z5 z6 z7 hb4 HI3
    go_wp2_with fail
    (with_reducible refine (lives_calls _).mono ?_)
    rintro e w5 ⟨rfl, hb5⟩
    have HB5 := Aside0.mk (below_step HB4.out hb5)
    clear hb5 HB4
    go_wp2_with fail
    go_ret
    exact ⟨rfl, HB5.out⟩
end Go.Proofs.Ytmkabbfglijckaa.A
