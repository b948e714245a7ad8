/- RowSorts: the order of versions is one. -/
import Derived.Test.YtmkabbfglijckaaBLawOrders
namespace Go.Proofs.Ytmkabbfglijckaa.A
open Go.RowKit Go.Proofs.YtmkabbfglijckaaW.PrintWords Go.Proofs.YtmkabbfglijckaaW.PrintLast Go.Proofs.YtmkabbfglijckaaW.PrintMore
open Go.Op (bytesLess)
set_option linter.unusedVariables false
set_option linter.unusedSimpArgs false

def B3 (w : World) (a b c : Vr) (W : World) : Prop := W.heap[w.heap.size]? = some (vrB a) ∧ W.heap[w.heap.size + 1]? = some (vrB b) ∧ W.heap[w.heap.size + 1 + 1]? = some (vrB c) ∧ Below w.heap.size w W
theorem B3_step {w W W1 : World} {a b c : Vr} (h : B3 w a b c W) (hb : Below W.heap.size W W1) : B3 w a b c W1 := ⟨box_keep h.1 hb, box_keep h.2.1 hb, box_keep h.2.2.1 hb, below_step h.2.2.2 hb⟩
theorem B3_mk (w : World) (a b c : Vr) : B3 w a b c (((w.alloc (vrB a)).alloc (vrB b)).alloc (vrB c)) := by
  have h2 := B2_mk w a b
  have hal := below_alloc (Below.refl ((w.alloc (vrB a)).alloc (vrB b)).heap.size ((w.alloc (vrB a)).alloc (vrB b))) (vrB c)
  refine ⟨box_keep h2.1 hal, box_keep h2.2.1 hal, ?_, below_step h2.2.2 hal⟩
  have h := heap_alloc_new ((w.alloc (vrB a)).alloc (vrB b)) (vrB c)
  rw [World.size_alloc, World.size_alloc] at h
  exact h
/-- The one before the other by the key of five. -/
theorem cmpS_iff (x y : ByteArray) : (O.cmpS x y ≤ 0 ↔ ¬ bytesLess y.toList x.toList = true) ∧ (O.cmpS x y = 0 ↔ x = y) := by
  unfold O.cmpS
  rcases O.bl_tri x.toList y.toList with ⟨h1, h2, h3⟩ | h | ⟨h1, h2, h3⟩
  · simp only [h1, h2, if_true]
    refine ⟨by simp, by simp; rintro rfl; exact h3 rfl⟩
  · rw [h]
    have e : x = y := by
      apply Classical.byContradiction
      intro hn
      exact str_ne hn h
    subst e
    simp [O.bl_self]
  · simp only [h1, h2, h3, if_false, Bool.false_eq_true]
    refine ⟨by simp, by simp; rintro rfl; exact h3 rfl⟩
theorem bl_trans : ∀ x y z : List UInt8, bytesLess x y = true → bytesLess y z = true → bytesLess x z = true
  | [], [], _, h, _ => by simp [bytesLess] at h
  | [], _ :: _, [], _, h => by simp [bytesLess] at h
  | [], _ :: _, _ :: _, _, _ => by simp [bytesLess]
  | _ :: _, [], _, h, _ => by simp [bytesLess] at h
  | _ :: _, _ :: _, [], _, h => by simp [bytesLess] at h
  | a :: x, b :: y, c :: z, h1, h2 => by
    simp only [bytesLess, Bool.or_eq_true, Bool.and_eq_true, decide_eq_true_eq, beq_iff_eq] at h1 h2 ⊢
    rcases h1 with h1 | ⟨rfl, h1⟩
    · rcases h2 with h2 | ⟨rfl, h2⟩
      · left
        rw [UInt8.lt_iff_toNat_lt] at *
        omega
      · exact .inl h1
    · rcases h2 with h2 | ⟨rfl, h2⟩
      · exact .inl h2
      · exact .inr ⟨rfl, bl_trans x y z h1 h2⟩
/-- A step of an order. -/
def Lx (p q r : Int) : Prop := (p ≤ 0 → q ≤ 0 → r ≤ 0) ∧ (p = 0 → q = 0 → r = 0) ∧ (p < 0 → q ≤ 0 → r < 0) ∧ (p ≤ 0 → q < 0 → r < 0)
theorem lx_I (x y z : Int) : Lx (O.cmpI x y) (O.cmpI y z) (O.cmpI x z) := by
  unfold Lx O.cmpI
  by_cases h1 : x < y <;> by_cases h2 : x = y <;> by_cases h3 : y < z <;> by_cases h4 : y = z <;> by_cases h5 : x < z <;> by_cases h6 : x = z <;> simp only [h1, h2, h3, h4, h5, h6, if_true, if_false] <;> omega
theorem lx_S (x y z : ByteArray) : Lx (O.cmpS x y) (O.cmpS y z) (O.cmpS x z) := by
  have key : ∀ a b : ByteArray, (O.cmpS a b = -1 ∧ bytesLess a.toList b.toList = true) ∨ (O.cmpS a b = 0 ∧ a = b) ∨ (O.cmpS a b = 1 ∧ bytesLess b.toList a.toList = true) := by
    intro a b
    unfold O.cmpS
    rcases O.bl_tri a.toList b.toList with ⟨h1, h2, h3⟩ | h | ⟨h1, h2, h3⟩
    · left; simp [h1]
    · right; left
      have e : a = b := Classical.byContradiction fun hn => str_ne hn h
      subst e
      simp [O.bl_self]
    · right; right; simp [h1, h2, h3]
  have irr : ∀ a b : ByteArray, bytesLess a.toList b.toList = true → bytesLess b.toList a.toList = true → False := by
    intro a b h1 h2
    have := bl_trans _ _ _ h1 h2
    rw [O.bl_self] at this
    cases this
  unfold Lx
  rcases key x y with ⟨e1, h1⟩ | ⟨e1, rfl⟩ | ⟨e1, h1⟩
  · rcases key y z with ⟨e2, h2⟩ | ⟨e2, rfl⟩ | ⟨e2, h2⟩
    · have h := bl_trans _ _ _ h1 h2
      have e3 : O.cmpS x z = -1 := by unfold O.cmpS; rw [if_pos h]
      omega
    · omega
    · omega
  · omega
  · omega
theorem lx_first {p q r : Int} {ps qs rs : List Int} (h : Lx p q r) (ht : firstL ps ≤ 0 → firstL qs ≤ 0 → firstL rs ≤ 0) : firstL (p :: ps) ≤ 0 → firstL (q :: qs) ≤ 0 → firstL (r :: rs) ≤ 0 := by
  unfold Lx at h
  simp only [firstL]
  by_cases hp : p = 0 <;> by_cases hq : q = 0 <;> by_cases hr : r = 0 <;> simp only [hp, hq, hr, if_true, if_false] <;> intro h1 h2
  all_goals first | exact ht h1 h2 | omega
theorem cmpV_trans (a b c : Vr) (h1 : cmpV a b ≤ 0) (h2 : cmpV b c ≤ 0) : cmpV a c ≤ 0 := by
  unfold cmpV at *
  exact lx_first (lx_S _ _ _) (lx_first (lx_I _ _ _) (lx_first (lx_I _ _ _) (lx_first (lx_I _ _ _) (lx_first (lx_I _ _ _) (fun h _ => h))))) h1 h2
theorem cmpI_zero (x y : Int) : O.cmpI x y = 0 ↔ x = y := by
  unfold O.cmpI
  split
  · constructor <;> intro h <;> omega
  · split
    · constructor <;> intro h <;> omega
    · constructor <;> intro h <;> omega
theorem cmpV_zero (a b : Vr) : cmpV a b = 0 ↔ a.k = b.k ∧ (a.br = b.br ∧ a.ep = b.ep ∧ a.sq = b.sq) ∧ a.f = b.f := by
  unfold cmpV
  simp only [firstL]
  rw [← (cmpS_iff a.k b.k).2, ← cmpI_zero a.br, ← cmpI_zero a.ep, ← cmpI_zero a.sq, ← cmpI_zero a.f]
  by_cases h1 : O.cmpS a.k b.k = 0
  · by_cases h2 : O.cmpI a.br b.br = 0
    · by_cases h3 : O.cmpI a.ep b.ep = 0
      · by_cases h4 : O.cmpI a.sq b.sq = 0
        · by_cases h5 : O.cmpI a.f b.f = 0
          · simp [h1, h2, h3, h4, h5]
          · simp [h1, h2, h3, h4, h5]
        · simp [h1, h2, h3, h4]
      · simp [h1, h2, h3]
    · simp [h1, h2]
  · simp [h1]
theorem cmpV_self (a : Vr) : cmpV a a = 0 := (cmpV_zero a a).2 ⟨rfl, ⟨rfl, rfl, rfl⟩, rfl⟩
theorem eqA23 (d : Nat) (w : World) (x0 y0 : Int) (x1 y1 : Int) (x2 y2 : Int) :
    (Op.equalIn (d + 2) 23 (.agg #[.int .i64 x0, .int .i64 x1, .int .i64 x2]) (.agg #[.int .i64 y0, .int .i64 y1, .int .i64 y2])).run Try.prog w = .ok (x0 == y0 && (x1 == y1 && (x2 == y2))) w := by
  refine eqA_of Try.underlying23 (by kernel_rfl) ?_
  refine eqf_cons (by rfl) (by go_simp; rfl) (by go_simp; rfl) (by go_simp) ?_
  refine eqf_cons (by rfl) (by go_simp; rfl) (by go_simp; rfl) (by go_simp) ?_
  exact eqf_last (by rfl) (by go_simp; rfl) (by go_simp; rfl) (by go_simp)
set_option maxRecDepth 100000 in
set_option maxHeartbeats 4000000 in
theorem sorts_calls (w : World) (c1 : Array Value) (y1 : Vr) (h1 : KVr.K w y1 (Value.agg c1).cells.toList) (_g1 : y1.fits) (c2 : Array Value) (y2 : Vr) (h2 : KVr.K w y2 (Value.agg c2).cells.toList) (_g2 : y2.fits) (c3 : Array Value) (y3 : Vr) (h3 : KVr.K w y3 (Value.agg c3).cells.toList) (_g3 : y3.fits) :
    Calls Try.prog 5 #[.agg c1, .agg c2, .agg c3] w fun e w' => e = .returned (.bool true) ∧ Below w.heap.size w w' := by
  have e1 := agg_of h1
  have e2 := agg_of h2
  have e3 := agg_of h3
  subst e1 e2 e3
  clear h1 h2 h3 _g1 _g2 _g3
  have htr := cmpV_trans y1 y2 y3
  have hz := cmpV_zero y1 y2
  have hself := cmpV_self y3
  have r1 := cmpV_range y1 y2
  have r2 := cmpV_range y2 y3
  have r3 := cmpV_range y1 y3
  have hq := eqA23
  obtain ⟨k1, br1, ep1, sq1, f1, t1, v1, g1⟩ := y1
  obtain ⟨k2, br2, ep2, sq2, f2, t2, v2, g2⟩ := y2
  obtain ⟨k3, br3, ep3, sq3, f3, t3, v3, g3⟩ := y3
  obtain ⟨p, hp⟩ : ∃ r, cmpV ⟨k1, br1, ep1, sq1, f1, t1, v1, g1⟩ ⟨k2, br2, ep2, sq2, f2, t2, v2, g2⟩ = r := ⟨_, rfl⟩
  obtain ⟨q, hq2⟩ : ∃ r, cmpV ⟨k2, br2, ep2, sq2, f2, t2, v2, g2⟩ ⟨k3, br3, ep3, sq3, f3, t3, v3, g3⟩ = r := ⟨_, rfl⟩
  obtain ⟨r, hr⟩ : ∃ r, cmpV ⟨k1, br1, ep1, sq1, f1, t1, v1, g1⟩ ⟨k3, br3, ep3, sq3, f3, t3, v3, g3⟩ = r := ⟨_, rfl⟩
  rw [hp, hq2, hr] at htr
  rw [hp] at hz r1
  rw [hq2] at r2
  rw [hr] at r3
  simp only at hz
  have HP := Aside0.mk hp
  have HQ := Aside0.mk hq2
  have HRR := Aside0.mk hr
  have HS := Aside0.mk hself
  have HTR := Aside0.mk htr
  have HZ := Aside0.mk hz
  clear hp hq2 hr hself htr hz
  have HI0 := Aside0.mk (B3_mk w ⟨k1, br1, ep1, sq1, f1, t1, v1, g1⟩ ⟨k2, br2, ep2, sq2, f2, t2, v2, g2⟩ ⟨k3, br3, ep3, sq3, f3, t3, v3, g3⟩)
  go_enter Try.func5, Try.ntmps5
  go_wp2_with fail
  (with_reducible refine (compare_calls k1 br1 ep1 sq1 f1 t1 v1 g1 k2 br2 ep2 sq2 f2 t2 v2 g2 _).mono ?_)
  rw [HP.out]
  rintro e w1 ⟨rfl, hb1⟩
  have HI1 := Aside0.mk (B3_step HI0.out hb1)
  obtain ⟨x0, x1, x2, x3, x4, x5, x6, x7⟩ := vr_cells HI1.out.1
  obtain ⟨y0, y1, y2, y3, y4, y5, y6, y7⟩ := vr_cells HI1.out.2.1
  obtain ⟨z0, z1, z2, z3, z4, z5, z6, z7⟩ := vr_cells HI1.out.2.2.1
  clear hb1 HI0
  by_cases hp : p ≤ 0
  · go_wp2_with fail
    (with_reducible refine (compare_calls k2 br2 ep2 sq2 f2 t2 v2 g2 k3 br3 ep3 sq3 f3 t3 v3 g3 _).mono ?_)
    rw [HQ.out]
    rintro e w2 ⟨rfl, hb2⟩
    have HI2 := Aside0.mk (B3_step HI1.out hb2)
    clear x0 x1 x2 x3 x4 x5 x6 x7 y0 y1 y2 y3 y4 y5 y6 y7 z0 z1 z2 z3 z4 z5 z6 z7 hb2 HI1
    obtain ⟨x0, x1, x2, x3, x4, x5, x6, x7⟩ := vr_cells HI2.out.1
    obtain ⟨y0, y1, y2, y3, y4, y5, y6, y7⟩ := vr_cells HI2.out.2.1
    obtain ⟨z0, z1, z2, z3, z4, z5, z6, z7⟩ := vr_cells HI2.out.2.2.1
    by_cases hq0 : q ≤ 0
    · go_wp2_with fail
      (with_reducible refine (compare_calls k1 br1 ep1 sq1 f1 t1 v1 g1 k3 br3 ep3 sq3 f3 t3 v3 g3 _).mono ?_)
      rw [HRR.out]
      rintro e w3 ⟨rfl, hb3⟩
      have HI3 := Aside0.mk (B3_step HI2.out hb3)
      clear x0 x1 x2 x3 x4 x5 x6 x7 y0 y1 y2 y3 y4 y5 y6 y7 z0 z1 z2 z3 z4 z5 z6 z7 hb3 HI2
      obtain ⟨x0, x1, x2, x3, x4, x5, x6, x7⟩ := vr_cells HI3.out.1
      obtain ⟨y0, y1, y2, y3, y4, y5, y6, y7⟩ := vr_cells HI3.out.2.1
      obtain ⟨z0, z1, z2, z3, z4, z5, z6, z7⟩ := vr_cells HI3.out.2.2.1
      have hr0 := HTR.out hp hq0
      have hrd : decide (0 < r) = false := decide_eq_false (by omega)
      have hr2 : ¬ (0 < r) := by omega
      have hz := HZ.out
      clear HZ
      by_cases ek : k1 = k2
      · subst ek
        by_cases eb : br1 = br2
        · subst eb
          by_cases ee : ep1 = ep2
          · subst ee
            by_cases es : sq1 = sq2
            · subst es
              by_cases ef : f1 = f2
              · subst ef
                obtain rfl : p = 0 := hz.2 ⟨rfl, ⟨rfl, rfl, rfl⟩, rfl⟩
                clear hz
                go_wp2_with fail
                (with_reducible refine (compare_calls _ _ _ _ _ _ _ _ _ _ _ _ _ _ _ _ _).mono ?_)
                rw [HP.out]
                rintro e w7 ⟨rfl, hb7⟩
                have HI7 := Aside0.mk (B3_step HI3.out hb7)
                clear x0 x1 x2 x3 x4 x5 x6 x7 y0 y1 y2 y3 y4 y5 y6 y7 z0 z1 z2 z3 z4 z5 z6 z7 hb7 HI3
                obtain ⟨x0, x1, x2, x3, x4, x5, x6, x7⟩ := vr_cells HI7.out.1
                obtain ⟨y0, y1, y2, y3, y4, y5, y6, y7⟩ := vr_cells HI7.out.2.1
                obtain ⟨z0, z1, z2, z3, z4, z5, z6, z7⟩ := vr_cells HI7.out.2.2.1
                go_wp2_with fail
                (with_reducible refine (compare_calls k3 br3 ep3 sq3 f3 t3 v3 g3 k3 br3 ep3 sq3 f3 t3 v3 g3 _).mono ?_)
                rw [HS.out]
                rintro e w8 ⟨rfl, hb8⟩
                have HI8 := Aside0.mk (B3_step HI7.out hb8)
                clear x0 x1 x2 x3 x4 x5 x6 x7 y0 y1 y2 y3 y4 y5 y6 y7 z0 z1 z2 z3 z4 z5 z6 z7 hb8 HI7
                obtain ⟨x0, x1, x2, x3, x4, x5, x6, x7⟩ := vr_cells HI8.out.1
                obtain ⟨y0, y1, y2, y3, y4, y5, y6, y7⟩ := vr_cells HI8.out.2.1
                obtain ⟨z0, z1, z2, z3, z4, z5, z6, z7⟩ := vr_cells HI8.out.2.2.1
                go_wp2_with fail
                (with_reducible refine (lives_calls _).mono ?_)
                rintro e w9 ⟨rfl, hb9⟩
                have HB9 := Aside0.mk (below_step HI8.out.2.2.2 hb9)
                clear hb9 HI8 x0 x1 x2 x3 x4 x5 x6 x7 y0 y1 y2 y3 y4 y5 y6 y7 z0 z1 z2 z3 z4 z5 z6 z7
                go_wp2_with fail
                go_ret
                exact ⟨rfl, HB9.out⟩
              · have hpn : ¬ p = 0 := fun e0 => ef ((hz.1 e0).2.2)
                have hd : (f1 == f2) = false := beq_eq_false_iff_ne.2 ef
                clear ef hz
                have hp0 : (p == 0) = false := beq_eq_false_iff_ne.2 hpn
                clear hpn
                go_wp2_with fail
                (with_reducible refine (compare_calls _ _ _ _ _ _ _ _ _ _ _ _ _ _ _ _ _).mono ?_)
                rw [HP.out]
                rintro e w7 ⟨rfl, hb7⟩
                have HI7 := Aside0.mk (B3_step HI3.out hb7)
                clear x0 x1 x2 x3 x4 x5 x6 x7 y0 y1 y2 y3 y4 y5 y6 y7 z0 z1 z2 z3 z4 z5 z6 z7 hb7 HI3
                obtain ⟨x0, x1, x2, x3, x4, x5, x6, x7⟩ := vr_cells HI7.out.1
                obtain ⟨y0, y1, y2, y3, y4, y5, y6, y7⟩ := vr_cells HI7.out.2.1
                obtain ⟨z0, z1, z2, z3, z4, z5, z6, z7⟩ := vr_cells HI7.out.2.2.1
                go_wp2_with fail
                (with_reducible refine (compare_calls k3 br3 ep3 sq3 f3 t3 v3 g3 k3 br3 ep3 sq3 f3 t3 v3 g3 _).mono ?_)
                rw [HS.out]
                rintro e w8 ⟨rfl, hb8⟩
                have HI8 := Aside0.mk (B3_step HI7.out hb8)
                clear x0 x1 x2 x3 x4 x5 x6 x7 y0 y1 y2 y3 y4 y5 y6 y7 z0 z1 z2 z3 z4 z5 z6 z7 hb8 HI7
                obtain ⟨x0, x1, x2, x3, x4, x5, x6, x7⟩ := vr_cells HI8.out.1
                obtain ⟨y0, y1, y2, y3, y4, y5, y6, y7⟩ := vr_cells HI8.out.2.1
                obtain ⟨z0, z1, z2, z3, z4, z5, z6, z7⟩ := vr_cells HI8.out.2.2.1
                go_wp2_with fail
                (with_reducible refine (lives_calls _).mono ?_)
                rintro e w9 ⟨rfl, hb9⟩
                have HB9 := Aside0.mk (below_step HI8.out.2.2.2 hb9)
                clear hb9 HI8 x0 x1 x2 x3 x4 x5 x6 x7 y0 y1 y2 y3 y4 y5 y6 y7 z0 z1 z2 z3 z4 z5 z6 z7
                go_wp2_with fail
                go_ret
                exact ⟨rfl, HB9.out⟩
            · have hpn : ¬ p = 0 := fun e0 => es ((hz.1 e0).2.1.2.2)
              have hd : (sq1 == sq2) = false := beq_eq_false_iff_ne.2 es
              clear es hz
              have hp0 : (p == 0) = false := beq_eq_false_iff_ne.2 hpn
              clear hpn
              go_wp2_with fail
              (with_reducible refine (compare_calls _ _ _ _ _ _ _ _ _ _ _ _ _ _ _ _ _).mono ?_)
              rw [HP.out]
              rintro e w7 ⟨rfl, hb7⟩
              have HI7 := Aside0.mk (B3_step HI3.out hb7)
              clear x0 x1 x2 x3 x4 x5 x6 x7 y0 y1 y2 y3 y4 y5 y6 y7 z0 z1 z2 z3 z4 z5 z6 z7 hb7 HI3
              obtain ⟨x0, x1, x2, x3, x4, x5, x6, x7⟩ := vr_cells HI7.out.1
              obtain ⟨y0, y1, y2, y3, y4, y5, y6, y7⟩ := vr_cells HI7.out.2.1
              obtain ⟨z0, z1, z2, z3, z4, z5, z6, z7⟩ := vr_cells HI7.out.2.2.1
              go_wp2_with fail
              (with_reducible refine (compare_calls k3 br3 ep3 sq3 f3 t3 v3 g3 k3 br3 ep3 sq3 f3 t3 v3 g3 _).mono ?_)
              rw [HS.out]
              rintro e w8 ⟨rfl, hb8⟩
              have HI8 := Aside0.mk (B3_step HI7.out hb8)
              clear x0 x1 x2 x3 x4 x5 x6 x7 y0 y1 y2 y3 y4 y5 y6 y7 z0 z1 z2 z3 z4 z5 z6 z7 hb8 HI7
              obtain ⟨x0, x1, x2, x3, x4, x5, x6, x7⟩ := vr_cells HI8.out.1
              obtain ⟨y0, y1, y2, y3, y4, y5, y6, y7⟩ := vr_cells HI8.out.2.1
              obtain ⟨z0, z1, z2, z3, z4, z5, z6, z7⟩ := vr_cells HI8.out.2.2.1
              go_wp2_with fail
              (with_reducible refine (lives_calls _).mono ?_)
              rintro e w9 ⟨rfl, hb9⟩
              have HB9 := Aside0.mk (below_step HI8.out.2.2.2 hb9)
              clear hb9 HI8 x0 x1 x2 x3 x4 x5 x6 x7 y0 y1 y2 y3 y4 y5 y6 y7 z0 z1 z2 z3 z4 z5 z6 z7
              go_wp2_with fail
              go_ret
              exact ⟨rfl, HB9.out⟩
          · have hpn : ¬ p = 0 := fun e0 => ee ((hz.1 e0).2.1.2.1)
            have hd : (ep1 == ep2) = false := beq_eq_false_iff_ne.2 ee
            clear ee hz
            have hp0 : (p == 0) = false := beq_eq_false_iff_ne.2 hpn
            clear hpn
            go_wp2_with fail
            (with_reducible refine (compare_calls _ _ _ _ _ _ _ _ _ _ _ _ _ _ _ _ _).mono ?_)
            rw [HP.out]
            rintro e w7 ⟨rfl, hb7⟩
            have HI7 := Aside0.mk (B3_step HI3.out hb7)
            clear x0 x1 x2 x3 x4 x5 x6 x7 y0 y1 y2 y3 y4 y5 y6 y7 z0 z1 z2 z3 z4 z5 z6 z7 hb7 HI3
            obtain ⟨x0, x1, x2, x3, x4, x5, x6, x7⟩ := vr_cells HI7.out.1
            obtain ⟨y0, y1, y2, y3, y4, y5, y6, y7⟩ := vr_cells HI7.out.2.1
            obtain ⟨z0, z1, z2, z3, z4, z5, z6, z7⟩ := vr_cells HI7.out.2.2.1
            go_wp2_with fail
            (with_reducible refine (compare_calls k3 br3 ep3 sq3 f3 t3 v3 g3 k3 br3 ep3 sq3 f3 t3 v3 g3 _).mono ?_)
            rw [HS.out]
            rintro e w8 ⟨rfl, hb8⟩
            have HI8 := Aside0.mk (B3_step HI7.out hb8)
            clear x0 x1 x2 x3 x4 x5 x6 x7 y0 y1 y2 y3 y4 y5 y6 y7 z0 z1 z2 z3 z4 z5 z6 z7 hb8 HI7
            obtain ⟨x0, x1, x2, x3, x4, x5, x6, x7⟩ := vr_cells HI8.out.1
            obtain ⟨y0, y1, y2, y3, y4, y5, y6, y7⟩ := vr_cells HI8.out.2.1
            obtain ⟨z0, z1, z2, z3, z4, z5, z6, z7⟩ := vr_cells HI8.out.2.2.1
            go_wp2_with fail
            (with_reducible refine (lives_calls _).mono ?_)
            rintro e w9 ⟨rfl, hb9⟩
            have HB9 := Aside0.mk (below_step HI8.out.2.2.2 hb9)
            clear hb9 HI8 x0 x1 x2 x3 x4 x5 x6 x7 y0 y1 y2 y3 y4 y5 y6 y7 z0 z1 z2 z3 z4 z5 z6 z7
            go_wp2_with fail
            go_ret
            exact ⟨rfl, HB9.out⟩
        · have hpn : ¬ p = 0 := fun e0 => eb ((hz.1 e0).2.1.1)
          have hd : (br1 == br2) = false := beq_eq_false_iff_ne.2 eb
          clear eb hz
          have hp0 : (p == 0) = false := beq_eq_false_iff_ne.2 hpn
          clear hpn
          go_wp2_with fail
          (with_reducible refine (compare_calls _ _ _ _ _ _ _ _ _ _ _ _ _ _ _ _ _).mono ?_)
          rw [HP.out]
          rintro e w7 ⟨rfl, hb7⟩
          have HI7 := Aside0.mk (B3_step HI3.out hb7)
          clear x0 x1 x2 x3 x4 x5 x6 x7 y0 y1 y2 y3 y4 y5 y6 y7 z0 z1 z2 z3 z4 z5 z6 z7 hb7 HI3
          obtain ⟨x0, x1, x2, x3, x4, x5, x6, x7⟩ := vr_cells HI7.out.1
          obtain ⟨y0, y1, y2, y3, y4, y5, y6, y7⟩ := vr_cells HI7.out.2.1
          obtain ⟨z0, z1, z2, z3, z4, z5, z6, z7⟩ := vr_cells HI7.out.2.2.1
          go_wp2_with fail
          (with_reducible refine (compare_calls k3 br3 ep3 sq3 f3 t3 v3 g3 k3 br3 ep3 sq3 f3 t3 v3 g3 _).mono ?_)
          rw [HS.out]
          rintro e w8 ⟨rfl, hb8⟩
          have HI8 := Aside0.mk (B3_step HI7.out hb8)
          clear x0 x1 x2 x3 x4 x5 x6 x7 y0 y1 y2 y3 y4 y5 y6 y7 z0 z1 z2 z3 z4 z5 z6 z7 hb8 HI7
          obtain ⟨x0, x1, x2, x3, x4, x5, x6, x7⟩ := vr_cells HI8.out.1
          obtain ⟨y0, y1, y2, y3, y4, y5, y6, y7⟩ := vr_cells HI8.out.2.1
          obtain ⟨z0, z1, z2, z3, z4, z5, z6, z7⟩ := vr_cells HI8.out.2.2.1
          go_wp2_with fail
          (with_reducible refine (lives_calls _).mono ?_)
          rintro e w9 ⟨rfl, hb9⟩
          have HB9 := Aside0.mk (below_step HI8.out.2.2.2 hb9)
          clear hb9 HI8 x0 x1 x2 x3 x4 x5 x6 x7 y0 y1 y2 y3 y4 y5 y6 y7 z0 z1 z2 z3 z4 z5 z6 z7
          go_wp2_with fail
          go_ret
          exact ⟨rfl, HB9.out⟩
      · have hpn : ¬ p = 0 := fun e0 => ek ((hz.1 e0).1)
        have hd : (k1.toList == k2.toList) = false := beq_eq_false_iff_ne.2 (str_ne ek)
        clear ek hz
        have hp0 : (p == 0) = false := beq_eq_false_iff_ne.2 hpn
        clear hpn
        go_wp2_with fail
        (with_reducible refine (compare_calls _ _ _ _ _ _ _ _ _ _ _ _ _ _ _ _ _).mono ?_)
        rw [HP.out]
        rintro e w7 ⟨rfl, hb7⟩
        have HI7 := Aside0.mk (B3_step HI3.out hb7)
        clear x0 x1 x2 x3 x4 x5 x6 x7 y0 y1 y2 y3 y4 y5 y6 y7 z0 z1 z2 z3 z4 z5 z6 z7 hb7 HI3
        obtain ⟨x0, x1, x2, x3, x4, x5, x6, x7⟩ := vr_cells HI7.out.1
        obtain ⟨y0, y1, y2, y3, y4, y5, y6, y7⟩ := vr_cells HI7.out.2.1
        obtain ⟨z0, z1, z2, z3, z4, z5, z6, z7⟩ := vr_cells HI7.out.2.2.1
        go_wp2_with fail
        (with_reducible refine (compare_calls k3 br3 ep3 sq3 f3 t3 v3 g3 k3 br3 ep3 sq3 f3 t3 v3 g3 _).mono ?_)
        rw [HS.out]
        rintro e w8 ⟨rfl, hb8⟩
        have HI8 := Aside0.mk (B3_step HI7.out hb8)
        clear x0 x1 x2 x3 x4 x5 x6 x7 y0 y1 y2 y3 y4 y5 y6 y7 z0 z1 z2 z3 z4 z5 z6 z7 hb8 HI7
        obtain ⟨x0, x1, x2, x3, x4, x5, x6, x7⟩ := vr_cells HI8.out.1
        obtain ⟨y0, y1, y2, y3, y4, y5, y6, y7⟩ := vr_cells HI8.out.2.1
        obtain ⟨z0, z1, z2, z3, z4, z5, z6, z7⟩ := vr_cells HI8.out.2.2.1
        go_wp2_with fail
        (with_reducible refine (lives_calls _).mono ?_)
        rintro e w9 ⟨rfl, hb9⟩
        have HB9 := Aside0.mk (below_step HI8.out.2.2.2 hb9)
        clear hb9 HI8 x0 x1 x2 x3 x4 x5 x6 x7 y0 y1 y2 y3 y4 y5 y6 y7 z0 z1 z2 z3 z4 z5 z6 z7
        go_wp2_with fail
        go_ret
        exact ⟨rfl, HB9.out⟩
    · have hqd : decide (q ≤ 0) = false := decide_eq_false hq0
      have hz := HZ.out
      clear HZ
      by_cases ek : k1 = k2
      · subst ek
        by_cases eb : br1 = br2
        · subst eb
          by_cases ee : ep1 = ep2
          · subst ee
            by_cases es : sq1 = sq2
            · subst es
              by_cases ef : f1 = f2
              · subst ef
                obtain rfl : p = 0 := hz.2 ⟨rfl, ⟨rfl, rfl, rfl⟩, rfl⟩
                clear hz
                go_wp2_with fail
                (with_reducible refine (compare_calls _ _ _ _ _ _ _ _ _ _ _ _ _ _ _ _ _).mono ?_)
                rw [HP.out]
                rintro e w7 ⟨rfl, hb7⟩
                have HI7 := Aside0.mk (B3_step HI2.out hb7)
                clear x0 x1 x2 x3 x4 x5 x6 x7 y0 y1 y2 y3 y4 y5 y6 y7 z0 z1 z2 z3 z4 z5 z6 z7 hb7 HI2
                obtain ⟨x0, x1, x2, x3, x4, x5, x6, x7⟩ := vr_cells HI7.out.1
                obtain ⟨y0, y1, y2, y3, y4, y5, y6, y7⟩ := vr_cells HI7.out.2.1
                obtain ⟨z0, z1, z2, z3, z4, z5, z6, z7⟩ := vr_cells HI7.out.2.2.1
                go_wp2_with fail
                (with_reducible refine (compare_calls k3 br3 ep3 sq3 f3 t3 v3 g3 k3 br3 ep3 sq3 f3 t3 v3 g3 _).mono ?_)
                rw [HS.out]
                rintro e w8 ⟨rfl, hb8⟩
                have HI8 := Aside0.mk (B3_step HI7.out hb8)
                clear x0 x1 x2 x3 x4 x5 x6 x7 y0 y1 y2 y3 y4 y5 y6 y7 z0 z1 z2 z3 z4 z5 z6 z7 hb8 HI7
                obtain ⟨x0, x1, x2, x3, x4, x5, x6, x7⟩ := vr_cells HI8.out.1
                obtain ⟨y0, y1, y2, y3, y4, y5, y6, y7⟩ := vr_cells HI8.out.2.1
                obtain ⟨z0, z1, z2, z3, z4, z5, z6, z7⟩ := vr_cells HI8.out.2.2.1
                go_wp2_with fail
                (with_reducible refine (lives_calls _).mono ?_)
                rintro e w9 ⟨rfl, hb9⟩
                have HB9 := Aside0.mk (below_step HI8.out.2.2.2 hb9)
                clear hb9 HI8 x0 x1 x2 x3 x4 x5 x6 x7 y0 y1 y2 y3 y4 y5 y6 y7 z0 z1 z2 z3 z4 z5 z6 z7
                go_wp2_with fail
                go_ret
                exact ⟨rfl, HB9.out⟩
              · have hpn : ¬ p = 0 := fun e0 => ef ((hz.1 e0).2.2)
                have hd : (f1 == f2) = false := beq_eq_false_iff_ne.2 ef
                clear ef hz
                have hp0 : (p == 0) = false := beq_eq_false_iff_ne.2 hpn
                clear hpn
                go_wp2_with fail
                (with_reducible refine (compare_calls _ _ _ _ _ _ _ _ _ _ _ _ _ _ _ _ _).mono ?_)
                rw [HP.out]
                rintro e w7 ⟨rfl, hb7⟩
                have HI7 := Aside0.mk (B3_step HI2.out hb7)
                clear x0 x1 x2 x3 x4 x5 x6 x7 y0 y1 y2 y3 y4 y5 y6 y7 z0 z1 z2 z3 z4 z5 z6 z7 hb7 HI2
                obtain ⟨x0, x1, x2, x3, x4, x5, x6, x7⟩ := vr_cells HI7.out.1
                obtain ⟨y0, y1, y2, y3, y4, y5, y6, y7⟩ := vr_cells HI7.out.2.1
                obtain ⟨z0, z1, z2, z3, z4, z5, z6, z7⟩ := vr_cells HI7.out.2.2.1
                go_wp2_with fail
                (with_reducible refine (compare_calls k3 br3 ep3 sq3 f3 t3 v3 g3 k3 br3 ep3 sq3 f3 t3 v3 g3 _).mono ?_)
                rw [HS.out]
                rintro e w8 ⟨rfl, hb8⟩
                have HI8 := Aside0.mk (B3_step HI7.out hb8)
                clear x0 x1 x2 x3 x4 x5 x6 x7 y0 y1 y2 y3 y4 y5 y6 y7 z0 z1 z2 z3 z4 z5 z6 z7 hb8 HI7
                obtain ⟨x0, x1, x2, x3, x4, x5, x6, x7⟩ := vr_cells HI8.out.1
                obtain ⟨y0, y1, y2, y3, y4, y5, y6, y7⟩ := vr_cells HI8.out.2.1
                obtain ⟨z0, z1, z2, z3, z4, z5, z6, z7⟩ := vr_cells HI8.out.2.2.1
                go_wp2_with fail
                (with_reducible refine (lives_calls _).mono ?_)
                rintro e w9 ⟨rfl, hb9⟩
                have HB9 := Aside0.mk (below_step HI8.out.2.2.2 hb9)
                clear hb9 HI8 x0 x1 x2 x3 x4 x5 x6 x7 y0 y1 y2 y3 y4 y5 y6 y7 z0 z1 z2 z3 z4 z5 z6 z7
                go_wp2_with fail
                go_ret
                exact ⟨rfl, HB9.out⟩
            · have hpn : ¬ p = 0 := fun e0 => es ((hz.1 e0).2.1.2.2)
              have hd : (sq1 == sq2) = false := beq_eq_false_iff_ne.2 es
              clear es hz
              have hp0 : (p == 0) = false := beq_eq_false_iff_ne.2 hpn
              clear hpn
              go_wp2_with fail
              (with_reducible refine (compare_calls _ _ _ _ _ _ _ _ _ _ _ _ _ _ _ _ _).mono ?_)
              rw [HP.out]
              rintro e w7 ⟨rfl, hb7⟩
              have HI7 := Aside0.mk (B3_step HI2.out hb7)
              clear x0 x1 x2 x3 x4 x5 x6 x7 y0 y1 y2 y3 y4 y5 y6 y7 z0 z1 z2 z3 z4 z5 z6 z7 hb7 HI2
              obtain ⟨x0, x1, x2, x3, x4, x5, x6, x7⟩ := vr_cells HI7.out.1
              obtain ⟨y0, y1, y2, y3, y4, y5, y6, y7⟩ := vr_cells HI7.out.2.1
              obtain ⟨z0, z1, z2, z3, z4, z5, z6, z7⟩ := vr_cells HI7.out.2.2.1
              go_wp2_with fail
              (with_reducible refine (compare_calls k3 br3 ep3 sq3 f3 t3 v3 g3 k3 br3 ep3 sq3 f3 t3 v3 g3 _).mono ?_)
              rw [HS.out]
              rintro e w8 ⟨rfl, hb8⟩
              have HI8 := Aside0.mk (B3_step HI7.out hb8)
              clear x0 x1 x2 x3 x4 x5 x6 x7 y0 y1 y2 y3 y4 y5 y6 y7 z0 z1 z2 z3 z4 z5 z6 z7 hb8 HI7
              obtain ⟨x0, x1, x2, x3, x4, x5, x6, x7⟩ := vr_cells HI8.out.1
              obtain ⟨y0, y1, y2, y3, y4, y5, y6, y7⟩ := vr_cells HI8.out.2.1
              obtain ⟨z0, z1, z2, z3, z4, z5, z6, z7⟩ := vr_cells HI8.out.2.2.1
              go_wp2_with fail
              (with_reducible refine (lives_calls _).mono ?_)
              rintro e w9 ⟨rfl, hb9⟩
              have HB9 := Aside0.mk (below_step HI8.out.2.2.2 hb9)
              clear hb9 HI8 x0 x1 x2 x3 x4 x5 x6 x7 y0 y1 y2 y3 y4 y5 y6 y7 z0 z1 z2 z3 z4 z5 z6 z7
              go_wp2_with fail
              go_ret
              exact ⟨rfl, HB9.out⟩
          · have hpn : ¬ p = 0 := fun e0 => ee ((hz.1 e0).2.1.2.1)
            have hd : (ep1 == ep2) = false := beq_eq_false_iff_ne.2 ee
            clear ee hz
            have hp0 : (p == 0) = false := beq_eq_false_iff_ne.2 hpn
            clear hpn
            go_wp2_with fail
            (with_reducible refine (compare_calls _ _ _ _ _ _ _ _ _ _ _ _ _ _ _ _ _).mono ?_)
            rw [HP.out]
            rintro e w7 ⟨rfl, hb7⟩
            have HI7 := Aside0.mk (B3_step HI2.out hb7)
            clear x0 x1 x2 x3 x4 x5 x6 x7 y0 y1 y2 y3 y4 y5 y6 y7 z0 z1 z2 z3 z4 z5 z6 z7 hb7 HI2
            obtain ⟨x0, x1, x2, x3, x4, x5, x6, x7⟩ := vr_cells HI7.out.1
            obtain ⟨y0, y1, y2, y3, y4, y5, y6, y7⟩ := vr_cells HI7.out.2.1
            obtain ⟨z0, z1, z2, z3, z4, z5, z6, z7⟩ := vr_cells HI7.out.2.2.1
            go_wp2_with fail
            (with_reducible refine (compare_calls k3 br3 ep3 sq3 f3 t3 v3 g3 k3 br3 ep3 sq3 f3 t3 v3 g3 _).mono ?_)
            rw [HS.out]
            rintro e w8 ⟨rfl, hb8⟩
            have HI8 := Aside0.mk (B3_step HI7.out hb8)
            clear x0 x1 x2 x3 x4 x5 x6 x7 y0 y1 y2 y3 y4 y5 y6 y7 z0 z1 z2 z3 z4 z5 z6 z7 hb8 HI7
            obtain ⟨x0, x1, x2, x3, x4, x5, x6, x7⟩ := vr_cells HI8.out.1
            obtain ⟨y0, y1, y2, y3, y4, y5, y6, y7⟩ := vr_cells HI8.out.2.1
            obtain ⟨z0, z1, z2, z3, z4, z5, z6, z7⟩ := vr_cells HI8.out.2.2.1
            go_wp2_with fail
            (with_reducible refine (lives_calls _).mono ?_)
            rintro e w9 ⟨rfl, hb9⟩
            have HB9 := Aside0.mk (below_step HI8.out.2.2.2 hb9)
            clear hb9 HI8 x0 x1 x2 x3 x4 x5 x6 x7 y0 y1 y2 y3 y4 y5 y6 y7 z0 z1 z2 z3 z4 z5 z6 z7
            go_wp2_with fail
            go_ret
            exact ⟨rfl, HB9.out⟩
        · have hpn : ¬ p = 0 := fun e0 => eb ((hz.1 e0).2.1.1)
          have hd : (br1 == br2) = false := beq_eq_false_iff_ne.2 eb
          clear eb hz
          have hp0 : (p == 0) = false := beq_eq_false_iff_ne.2 hpn
          clear hpn
          go_wp2_with fail
          (with_reducible refine (compare_calls _ _ _ _ _ _ _ _ _ _ _ _ _ _ _ _ _).mono ?_)
          rw [HP.out]
          rintro e w7 ⟨rfl, hb7⟩
          have HI7 := Aside0.mk (B3_step HI2.out hb7)
          clear x0 x1 x2 x3 x4 x5 x6 x7 y0 y1 y2 y3 y4 y5 y6 y7 z0 z1 z2 z3 z4 z5 z6 z7 hb7 HI2
          obtain ⟨x0, x1, x2, x3, x4, x5, x6, x7⟩ := vr_cells HI7.out.1
          obtain ⟨y0, y1, y2, y3, y4, y5, y6, y7⟩ := vr_cells HI7.out.2.1
          obtain ⟨z0, z1, z2, z3, z4, z5, z6, z7⟩ := vr_cells HI7.out.2.2.1
          go_wp2_with fail
          (with_reducible refine (compare_calls k3 br3 ep3 sq3 f3 t3 v3 g3 k3 br3 ep3 sq3 f3 t3 v3 g3 _).mono ?_)
          rw [HS.out]
          rintro e w8 ⟨rfl, hb8⟩
          have HI8 := Aside0.mk (B3_step HI7.out hb8)
          clear x0 x1 x2 x3 x4 x5 x6 x7 y0 y1 y2 y3 y4 y5 y6 y7 z0 z1 z2 z3 z4 z5 z6 z7 hb8 HI7
          obtain ⟨x0, x1, x2, x3, x4, x5, x6, x7⟩ := vr_cells HI8.out.1
          obtain ⟨y0, y1, y2, y3, y4, y5, y6, y7⟩ := vr_cells HI8.out.2.1
          obtain ⟨z0, z1, z2, z3, z4, z5, z6, z7⟩ := vr_cells HI8.out.2.2.1
          go_wp2_with fail
          (with_reducible refine (lives_calls _).mono ?_)
          rintro e w9 ⟨rfl, hb9⟩
          have HB9 := Aside0.mk (below_step HI8.out.2.2.2 hb9)
          clear hb9 HI8 x0 x1 x2 x3 x4 x5 x6 x7 y0 y1 y2 y3 y4 y5 y6 y7 z0 z1 z2 z3 z4 z5 z6 z7
          go_wp2_with fail
          go_ret
          exact ⟨rfl, HB9.out⟩
      · have hpn : ¬ p = 0 := fun e0 => ek ((hz.1 e0).1)
        have hd : (k1.toList == k2.toList) = false := beq_eq_false_iff_ne.2 (str_ne ek)
        clear ek hz
        have hp0 : (p == 0) = false := beq_eq_false_iff_ne.2 hpn
        clear hpn
        go_wp2_with fail
        (with_reducible refine (compare_calls _ _ _ _ _ _ _ _ _ _ _ _ _ _ _ _ _).mono ?_)
        rw [HP.out]
        rintro e w7 ⟨rfl, hb7⟩
        have HI7 := Aside0.mk (B3_step HI2.out hb7)
        clear x0 x1 x2 x3 x4 x5 x6 x7 y0 y1 y2 y3 y4 y5 y6 y7 z0 z1 z2 z3 z4 z5 z6 z7 hb7 HI2
        obtain ⟨x0, x1, x2, x3, x4, x5, x6, x7⟩ := vr_cells HI7.out.1
        obtain ⟨y0, y1, y2, y3, y4, y5, y6, y7⟩ := vr_cells HI7.out.2.1
        obtain ⟨z0, z1, z2, z3, z4, z5, z6, z7⟩ := vr_cells HI7.out.2.2.1
        go_wp2_with fail
        (with_reducible refine (compare_calls k3 br3 ep3 sq3 f3 t3 v3 g3 k3 br3 ep3 sq3 f3 t3 v3 g3 _).mono ?_)
        rw [HS.out]
        rintro e w8 ⟨rfl, hb8⟩
        have HI8 := Aside0.mk (B3_step HI7.out hb8)
        clear x0 x1 x2 x3 x4 x5 x6 x7 y0 y1 y2 y3 y4 y5 y6 y7 z0 z1 z2 z3 z4 z5 z6 z7 hb8 HI7
        obtain ⟨x0, x1, x2, x3, x4, x5, x6, x7⟩ := vr_cells HI8.out.1
        obtain ⟨y0, y1, y2, y3, y4, y5, y6, y7⟩ := vr_cells HI8.out.2.1
        obtain ⟨z0, z1, z2, z3, z4, z5, z6, z7⟩ := vr_cells HI8.out.2.2.1
        go_wp2_with fail
        (with_reducible refine (lives_calls _).mono ?_)
        rintro e w9 ⟨rfl, hb9⟩
        have HB9 := Aside0.mk (below_step HI8.out.2.2.2 hb9)
        clear hb9 HI8 x0 x1 x2 x3 x4 x5 x6 x7 y0 y1 y2 y3 y4 y5 y6 y7 z0 z1 z2 z3 z4 z5 z6 z7
        go_wp2_with fail
        go_ret
        exact ⟨rfl, HB9.out⟩
  · have hpd : decide (p ≤ 0) = false := decide_eq_false hp
    have hz := HZ.out
    clear HZ
    by_cases ek : k1 = k2
    · subst ek
      by_cases eb : br1 = br2
      · subst eb
        by_cases ee : ep1 = ep2
        · subst ee
          by_cases es : sq1 = sq2
          · subst es
            by_cases ef : f1 = f2
            · subst ef
              have hp0 : p = 0 := hz.2 ⟨rfl, ⟨rfl, rfl, rfl⟩, rfl⟩
              omega
            · have hpn : ¬ p = 0 := fun e0 => ef ((hz.1 e0).2.2)
              have hd : (f1 == f2) = false := beq_eq_false_iff_ne.2 ef
              clear ef hz
              have hp0 : (p == 0) = false := beq_eq_false_iff_ne.2 hpn
              clear hpn
              go_wp2_with fail
              (with_reducible refine (compare_calls _ _ _ _ _ _ _ _ _ _ _ _ _ _ _ _ _).mono ?_)
              rw [HP.out]
              rintro e w7 ⟨rfl, hb7⟩
              have HI7 := Aside0.mk (B3_step HI1.out hb7)
              clear x0 x1 x2 x3 x4 x5 x6 x7 y0 y1 y2 y3 y4 y5 y6 y7 z0 z1 z2 z3 z4 z5 z6 z7 hb7 HI1
              obtain ⟨x0, x1, x2, x3, x4, x5, x6, x7⟩ := vr_cells HI7.out.1
              obtain ⟨y0, y1, y2, y3, y4, y5, y6, y7⟩ := vr_cells HI7.out.2.1
              obtain ⟨z0, z1, z2, z3, z4, z5, z6, z7⟩ := vr_cells HI7.out.2.2.1
              go_wp2_with fail
              (with_reducible refine (compare_calls k3 br3 ep3 sq3 f3 t3 v3 g3 k3 br3 ep3 sq3 f3 t3 v3 g3 _).mono ?_)
              rw [HS.out]
              rintro e w8 ⟨rfl, hb8⟩
              have HI8 := Aside0.mk (B3_step HI7.out hb8)
              clear x0 x1 x2 x3 x4 x5 x6 x7 y0 y1 y2 y3 y4 y5 y6 y7 z0 z1 z2 z3 z4 z5 z6 z7 hb8 HI7
              obtain ⟨x0, x1, x2, x3, x4, x5, x6, x7⟩ := vr_cells HI8.out.1
              obtain ⟨y0, y1, y2, y3, y4, y5, y6, y7⟩ := vr_cells HI8.out.2.1
              obtain ⟨z0, z1, z2, z3, z4, z5, z6, z7⟩ := vr_cells HI8.out.2.2.1
              go_wp2_with fail
              (with_reducible refine (lives_calls _).mono ?_)
              rintro e w9 ⟨rfl, hb9⟩
              have HB9 := Aside0.mk (below_step HI8.out.2.2.2 hb9)
              clear hb9 HI8 x0 x1 x2 x3 x4 x5 x6 x7 y0 y1 y2 y3 y4 y5 y6 y7 z0 z1 z2 z3 z4 z5 z6 z7
              go_wp2_with fail
              go_ret
              exact ⟨rfl, HB9.out⟩
          · have hpn : ¬ p = 0 := fun e0 => es ((hz.1 e0).2.1.2.2)
            have hd : (sq1 == sq2) = false := beq_eq_false_iff_ne.2 es
            clear es hz
            have hp0 : (p == 0) = false := beq_eq_false_iff_ne.2 hpn
            clear hpn
            go_wp2_with fail
            (with_reducible refine (compare_calls _ _ _ _ _ _ _ _ _ _ _ _ _ _ _ _ _).mono ?_)
            rw [HP.out]
            rintro e w7 ⟨rfl, hb7⟩
            have HI7 := Aside0.mk (B3_step HI1.out hb7)
            clear x0 x1 x2 x3 x4 x5 x6 x7 y0 y1 y2 y3 y4 y5 y6 y7 z0 z1 z2 z3 z4 z5 z6 z7 hb7 HI1
            obtain ⟨x0, x1, x2, x3, x4, x5, x6, x7⟩ := vr_cells HI7.out.1
            obtain ⟨y0, y1, y2, y3, y4, y5, y6, y7⟩ := vr_cells HI7.out.2.1
            obtain ⟨z0, z1, z2, z3, z4, z5, z6, z7⟩ := vr_cells HI7.out.2.2.1
            go_wp2_with fail
            (with_reducible refine (compare_calls k3 br3 ep3 sq3 f3 t3 v3 g3 k3 br3 ep3 sq3 f3 t3 v3 g3 _).mono ?_)
            rw [HS.out]
            rintro e w8 ⟨rfl, hb8⟩
            have HI8 := Aside0.mk (B3_step HI7.out hb8)
            clear x0 x1 x2 x3 x4 x5 x6 x7 y0 y1 y2 y3 y4 y5 y6 y7 z0 z1 z2 z3 z4 z5 z6 z7 hb8 HI7
            obtain ⟨x0, x1, x2, x3, x4, x5, x6, x7⟩ := vr_cells HI8.out.1
            obtain ⟨y0, y1, y2, y3, y4, y5, y6, y7⟩ := vr_cells HI8.out.2.1
            obtain ⟨z0, z1, z2, z3, z4, z5, z6, z7⟩ := vr_cells HI8.out.2.2.1
            go_wp2_with fail
            (with_reducible refine (lives_calls _).mono ?_)
            rintro e w9 ⟨rfl, hb9⟩
            have HB9 := Aside0.mk (below_step HI8.out.2.2.2 hb9)
            clear hb9 HI8 x0 x1 x2 x3 x4 x5 x6 x7 y0 y1 y2 y3 y4 y5 y6 y7 z0 z1 z2 z3 z4 z5 z6 z7
            go_wp2_with fail
            go_ret
            exact ⟨rfl, HB9.out⟩
        · have hpn : ¬ p = 0 := fun e0 => ee ((hz.1 e0).2.1.2.1)
          have hd : (ep1 == ep2) = false := beq_eq_false_iff_ne.2 ee
          clear ee hz
          have hp0 : (p == 0) = false := beq_eq_false_iff_ne.2 hpn
          clear hpn
          go_wp2_with fail
          (with_reducible refine (compare_calls _ _ _ _ _ _ _ _ _ _ _ _ _ _ _ _ _).mono ?_)
          rw [HP.out]
          rintro e w7 ⟨rfl, hb7⟩
          have HI7 := Aside0.mk (B3_step HI1.out hb7)
          clear x0 x1 x2 x3 x4 x5 x6 x7 y0 y1 y2 y3 y4 y5 y6 y7 z0 z1 z2 z3 z4 z5 z6 z7 hb7 HI1
          obtain ⟨x0, x1, x2, x3, x4, x5, x6, x7⟩ := vr_cells HI7.out.1
          obtain ⟨y0, y1, y2, y3, y4, y5, y6, y7⟩ := vr_cells HI7.out.2.1
          obtain ⟨z0, z1, z2, z3, z4, z5, z6, z7⟩ := vr_cells HI7.out.2.2.1
          go_wp2_with fail
          (with_reducible refine (compare_calls k3 br3 ep3 sq3 f3 t3 v3 g3 k3 br3 ep3 sq3 f3 t3 v3 g3 _).mono ?_)
          rw [HS.out]
          rintro e w8 ⟨rfl, hb8⟩
          have HI8 := Aside0.mk (B3_step HI7.out hb8)
          clear x0 x1 x2 x3 x4 x5 x6 x7 y0 y1 y2 y3 y4 y5 y6 y7 z0 z1 z2 z3 z4 z5 z6 z7 hb8 HI7
          obtain ⟨x0, x1, x2, x3, x4, x5, x6, x7⟩ := vr_cells HI8.out.1
          obtain ⟨y0, y1, y2, y3, y4, y5, y6, y7⟩ := vr_cells HI8.out.2.1
          obtain ⟨z0, z1, z2, z3, z4, z5, z6, z7⟩ := vr_cells HI8.out.2.2.1
          go_wp2_with fail
          (with_reducible refine (lives_calls _).mono ?_)
          rintro e w9 ⟨rfl, hb9⟩
          have HB9 := Aside0.mk (below_step HI8.out.2.2.2 hb9)
          clear hb9 HI8 x0 x1 x2 x3 x4 x5 x6 x7 y0 y1 y2 y3 y4 y5 y6 y7 z0 z1 z2 z3 z4 z5 z6 z7
          go_wp2_with fail
          go_ret
          exact ⟨rfl, HB9.out⟩
      · have hpn : ¬ p = 0 := fun e0 => eb ((hz.1 e0).2.1.1)
        have hd : (br1 == br2) = false := beq_eq_false_iff_ne.2 eb
        clear eb hz
        have hp0 : (p == 0) = false := beq_eq_false_iff_ne.2 hpn
        clear hpn
        go_wp2_with fail
        (with_reducible refine (compare_calls _ _ _ _ _ _ _ _ _ _ _ _ _ _ _ _ _).mono ?_)
        rw [HP.out]
        rintro e w7 ⟨rfl, hb7⟩
        have HI7 := Aside0.mk (B3_step HI1.out hb7)
        clear x0 x1 x2 x3 x4 x5 x6 x7 y0 y1 y2 y3 y4 y5 y6 y7 z0 z1 z2 z3 z4 z5 z6 z7 hb7 HI1
        obtain ⟨x0, x1, x2, x3, x4, x5, x6, x7⟩ := vr_cells HI7.out.1
        obtain ⟨y0, y1, y2, y3, y4, y5, y6, y7⟩ := vr_cells HI7.out.2.1
        obtain ⟨z0, z1, z2, z3, z4, z5, z6, z7⟩ := vr_cells HI7.out.2.2.1
        go_wp2_with fail
        (with_reducible refine (compare_calls k3 br3 ep3 sq3 f3 t3 v3 g3 k3 br3 ep3 sq3 f3 t3 v3 g3 _).mono ?_)
        rw [HS.out]
        rintro e w8 ⟨rfl, hb8⟩
        have HI8 := Aside0.mk (B3_step HI7.out hb8)
        clear x0 x1 x2 x3 x4 x5 x6 x7 y0 y1 y2 y3 y4 y5 y6 y7 z0 z1 z2 z3 z4 z5 z6 z7 hb8 HI7
        obtain ⟨x0, x1, x2, x3, x4, x5, x6, x7⟩ := vr_cells HI8.out.1
        obtain ⟨y0, y1, y2, y3, y4, y5, y6, y7⟩ := vr_cells HI8.out.2.1
        obtain ⟨z0, z1, z2, z3, z4, z5, z6, z7⟩ := vr_cells HI8.out.2.2.1
        go_wp2_with fail
        (with_reducible refine (lives_calls _).mono ?_)
        rintro e w9 ⟨rfl, hb9⟩
        have HB9 := Aside0.mk (below_step HI8.out.2.2.2 hb9)
        clear hb9 HI8 x0 x1 x2 x3 x4 x5 x6 x7 y0 y1 y2 y3 y4 y5 y6 y7 z0 z1 z2 z3 z4 z5 z6 z7
        go_wp2_with fail
        go_ret
        exact ⟨rfl, HB9.out⟩
    · have hpn : ¬ p = 0 := fun e0 => ek ((hz.1 e0).1)
      have hd : (k1.toList == k2.toList) = false := beq_eq_false_iff_ne.2 (str_ne ek)
      clear ek hz
      have hp0 : (p == 0) = false := beq_eq_false_iff_ne.2 hpn
      clear hpn
      go_wp2_with fail
      (with_reducible refine (compare_calls _ _ _ _ _ _ _ _ _ _ _ _ _ _ _ _ _).mono ?_)
      rw [HP.out]
      rintro e w7 ⟨rfl, hb7⟩
      have HI7 := Aside0.mk (B3_step HI1.out hb7)
      clear x0 x1 x2 x3 x4 x5 x6 x7 y0 y1 y2 y3 y4 y5 y6 y7 z0 z1 z2 z3 z4 z5 z6 z7 hb7 HI1
      obtain ⟨x0, x1, x2, x3, x4, x5, x6, x7⟩ := vr_cells HI7.out.1
      obtain ⟨y0, y1, y2, y3, y4, y5, y6, y7⟩ := vr_cells HI7.out.2.1
      obtain ⟨z0, z1, z2, z3, z4, z5, z6, z7⟩ := vr_cells HI7.out.2.2.1
      go_wp2_with fail
      (with_reducible refine (compare_calls k3 br3 ep3 sq3 f3 t3 v3 g3 k3 br3 ep3 sq3 f3 t3 v3 g3 _).mono ?_)
      rw [HS.out]
      rintro e w8 ⟨rfl, hb8⟩
      have HI8 := Aside0.mk (B3_step HI7.out hb8)
      clear x0 x1 x2 x3 x4 x5 x6 x7 y0 y1 y2 y3 y4 y5 y6 y7 z0 z1 z2 z3 z4 z5 z6 z7 hb8 HI7
      obtain ⟨x0, x1, x2, x3, x4, x5, x6, x7⟩ := vr_cells HI8.out.1
      obtain ⟨y0, y1, y2, y3, y4, y5, y6, y7⟩ := vr_cells HI8.out.2.1
      obtain ⟨z0, z1, z2, z3, z4, z5, z6, z7⟩ := vr_cells HI8.out.2.2.1
      go_wp2_with fail
      (with_reducible refine (lives_calls _).mono ?_)
      rintro e w9 ⟨rfl, hb9⟩
      have HB9 := Aside0.mk (below_step HI8.out.2.2.2 hb9)
      clear hb9 HI8 x0 x1 x2 x3 x4 x5 x6 x7 y0 y1 y2 y3 y4 y5 y6 y7 z0 z1 z2 z3 z4 z5 z6 z7
      go_wp2_with fail
      go_ret
      exact ⟨rfl, HB9.out⟩
end Go.Proofs.Ytmkabbfglijckaa.A
