/- RowApart: two versions that may be have the same bytes just if they are the same. -/
import Derived.Test.YtmkabbfglijckaaBRefWrite
import Derived.Test.YtmkabbfglijckaaBLawOrders
import Derived.Deep.RegionHeld
namespace Go.Proofs.Ytmkabbfglijckaa.A
open Go.RowKit Go.Proofs.YtmkabbfglijckaaW.PrintWords Go.Proofs.YtmkabbfglijckaaW.PrintLast Go.Proofs.YtmkabbfglijckaaW.PrintMore
set_option linter.unusedVariables false
set_option linter.unusedSimpArgs false

theorem eqT23 (d : Nat) (w : World) (x0 y0 : Int) (x1 y1 : Int) (x2 y2 : Int) :
    (Op.equalIn (d + 2) 23 (.agg #[.int .i64 x0, .int .i64 x1, .int .i64 x2]) (.agg #[.int .i64 y0, .int .i64 y1, .int .i64 y2])).run Try.prog w = .ok (x0 == y0 && (x1 == y1 && (x2 == y2))) w := by
  refine eqA_of Try.underlying23 (by kernel_rfl) ?_
  refine eqf_cons (by rfl) (by go_simp; rfl) (by go_simp; rfl) (by go_simp) ?_
  refine eqf_cons (by rfl) (by go_simp; rfl) (by go_simp; rfl) (by go_simp) ?_
  exact eqf_last (by rfl) (by go_simp; rfl) (by go_simp; rfl) (by go_simp)
theorem eqT25 (d : Nat) (w : World) (x0 y0 : Int) (x1 y1 : Int) :
    (Op.equalIn (d + 2) 25 (.agg #[.int .i64 x0, .int .i64 x1]) (.agg #[.int .i64 y0, .int .i64 y1])).run Try.prog w = .ok (x0 == y0 && (x1 == y1)) w := by
  refine eqA_of Try.underlying25 (by kernel_rfl) ?_
  refine eqf_cons (by rfl) (by go_simp; rfl) (by go_simp; rfl) (by go_simp) ?_
  exact eqf_last (by rfl) (by go_simp; rfl) (by go_simp; rfl) (by go_simp)
def eqV (a b : Vr) : Bool := a.k.toList == b.k.toList && ((a.br == b.br && (a.ep == b.ep && a.sq == b.sq)) && ((a.f == b.f && a.t == b.t) && (a.v.toList == b.v.toList && a.g == b.g)))
theorem eqA27 (d : Nat) (w : World) (k1 : ByteArray) (br1 ep1 sq1 f1 t1 : Int) (v1 : ByteArray) (g1 : Bool) (k2 : ByteArray) (br2 ep2 sq2 f2 t2 : Int) (v2 : ByteArray) (g2 : Bool) :
    (Op.equalIn (d + 3) 27 (.agg #[.string k1, .int .i64 br1, .int .i64 ep1, .int .i64 sq1, .int .i64 f1, .int .i64 t1, .string v1, .bool g1]) (.agg #[.string k2, .int .i64 br2, .int .i64 ep2, .int .i64 sq2, .int .i64 f2, .int .i64 t2, .string v2, .bool g2])).run Try.prog w = .ok (eqV ⟨k1, br1, ep1, sq1, f1, t1, v1, g1⟩ ⟨k2, br2, ep2, sq2, f2, t2, v2, g2⟩) w := by
  unfold eqV
  refine eqA_of Try.underlying27 (by kernel_rfl) ?_
  refine eqf_cons (by rfl) (by go_simp; rfl) (by go_simp; rfl) (by go_simp) ?_
  refine eqf_cons (by rfl) (by go_simp) (by go_simp) (eqT23 d w br1 br2 ep1 ep2 sq1 sq2) ?_
  refine eqf_cons (by rfl) (by go_simp) (by go_simp) (eqT25 d w f1 f2 t1 t2) ?_
  refine eqf_cons (by rfl) (by go_simp; rfl) (by go_simp; rfl) (by go_simp) ?_
  exact eqf_last (by rfl) (by go_simp; rfl) (by go_simp; rfl) (by go_simp)
theorem toList_inj {x y : ByteArray} (h : x.toList = y.toList) : x = y := Classical.byContradiction fun hn => str_ne hn h
theorem eqV_iff (a b : Vr) : eqV a b = true ↔ a = b := by
  obtain ⟨k1, br1, ep1, sq1, f1, t1, v1, g1⟩ := a
  obtain ⟨k2, br2, ep2, sq2, f2, t2, v2, g2⟩ := b
  unfold eqV
  simp only [Bool.and_eq_true, beq_iff_eq, Vr.mk.injEq]
  constructor
  · rintro ⟨h1, ⟨h2, h3, h4⟩, ⟨h5, h6⟩, h7, h8⟩
    exact ⟨toList_inj h1, h2, h3, h4, h5, h6, toList_inj h7, h8⟩
  · rintro ⟨rfl, rfl, rfl, rfl, rfl, rfl, rfl, rfl⟩
    exact ⟨rfl, ⟨rfl, rfl, rfl⟩, ⟨rfl, rfl⟩, rfl, rfl⟩
theorem strOfNums_inj {x y : List Int} (hx : ∀ z ∈ x, 0 ≤ z ∧ z ≤ 255) (hy : ∀ z ∈ y, 0 ≤ z ∧ z ≤ 255) (h : strOfNums x = strOfNums y) : x = y := by
  have e : ∀ l : List Int, (∀ z ∈ l, 0 ≤ z ∧ z ≤ 255) → bytesOf (strOfNums l) = l := by
    intro l hl
    exact O.bytesOf_str l hl
  rw [← e x hx, ← e y hy, h]
/-- The walk's state. -/
def PA (w : World) (a b : Vr) (x : Value) (X : List Int) (y : Value) (Y : List Int) (W : World) : Prop := B2 w a b W ∧ OB W 0 x X ∧ OB W 0 y Y
theorem PA_below {w W W1 : World} {a b : Vr} {x y : Value} {X Y : List Int} (h : PA w a b x X y Y W) (hb : Below W.heap.size W W1) : PA w a b x X y Y W1 :=
  ⟨B2_step h.1 hb, Kd.R_below h.2.1 hb, Kd.R_below h.2.2 hb⟩
theorem PA_S {w w' : World} {a b : Vr} {x y : Value} {X Y : List Int} (h : PA w a b x X y Y w') : w'.cell? ⟨w.heap.size, 0, none⟩ = some (.string a.k) ∧ w'.cell? ⟨w.heap.size, 1, none⟩ = some (.int .i64 a.br) ∧ w'.cell? ⟨w.heap.size, 2, none⟩ = some (.int .i64 a.ep) ∧ w'.cell? ⟨w.heap.size, 3, none⟩ = some (.int .i64 a.sq) ∧ w'.cell? ⟨w.heap.size, 4, none⟩ = some (.int .i64 a.f) ∧ w'.cell? ⟨w.heap.size, 5, none⟩ = some (.int .i64 a.t) ∧ w'.cell? ⟨w.heap.size, 6, none⟩ = some (.string a.v) ∧ w'.cell? ⟨w.heap.size, 7, none⟩ = some (.bool a.g) ∧ w'.cell? ⟨(w.heap.size + 1), 0, none⟩ = some (.string b.k) ∧ w'.cell? ⟨(w.heap.size + 1), 1, none⟩ = some (.int .i64 b.br) ∧ w'.cell? ⟨(w.heap.size + 1), 2, none⟩ = some (.int .i64 b.ep) ∧ w'.cell? ⟨(w.heap.size + 1), 3, none⟩ = some (.int .i64 b.sq) ∧ w'.cell? ⟨(w.heap.size + 1), 4, none⟩ = some (.int .i64 b.f) ∧ w'.cell? ⟨(w.heap.size + 1), 5, none⟩ = some (.int .i64 b.t) ∧ w'.cell? ⟨(w.heap.size + 1), 6, none⟩ = some (.string b.v) ∧ w'.cell? ⟨(w.heap.size + 1), 7, none⟩ = some (.bool b.g) ∧ (convert 29 9 x).run Try.prog w' = .ok (.string (strOfNums X)) w' ∧ (convert 29 9 y).run Try.prog w' = .ok (.string (strOfNums Y)) w' ∧ Aside0 (PA w a b x X y Y w') := by
  obtain ⟨a0, a1, a2, a3, a4, a5, a6, a7⟩ := vr_cells h.1.1
  obtain ⟨b0, b1, b2, b3, b4, b5, b6, b7⟩ := vr_cells h.1.2.1
  exact ⟨a0, a1, a2, a3, a4, a5, a6, a7, b0, b1, b2, b3, b4, b5, b6, b7, OB_string h.2.1, OB_string h.2.2, ⟨h⟩⟩
theorem B2_setA {w W : World} {a b : Vr} (h : B2 w a b W) (p : Vr) : B2 w p b (set8 W w.heap.size p) := ⟨set8_heap h.1 p, (set8_far W p (by omega)).trans h.2.1, set8_below h.2.2 (Nat.le_refl _) p⟩
theorem B2_setB {w W : World} {a b : Vr} (h : B2 w a b W) (p : Vr) : B2 w a p (set8 W (w.heap.size + 1) p) := ⟨(set8_far W p (by omega)).trans h.1, set8_heap h.2.1 p, set8_below h.2.2 (Nat.le_succ _) p⟩
theorem PA_i {w w' : World} {a b : Vr} {x y : Value} {X Y : List Int} (h : PA w a b x X y Y w') : B2 w a b w' := h.1
set_option maxRecDepth 100000 in
set_option maxHeartbeats 8000000 in
theorem apart_calls (w : World) (c1 : Array Value) (y1 : Vr) (h1 : KVr.K w y1 (Value.agg c1).cells.toList) (g1 : y1.fits) (c2 : Array Value) (y2 : Vr) (h2 : KVr.K w y2 (Value.agg c2).cells.toList) (g2 : y2.fits) :
    Calls Try.prog 3 #[.agg c1, .agg c2] w fun e w' => e = .returned (.bool true) ∧ Below w.heap.size w w' := by
  have e1 := agg_of h1
  have e2 := agg_of h2
  subst e1 e2
  obtain ⟨G1, G2⟩ := g1
  obtain ⟨G3, G4⟩ := g2
  clear h1 h2
  obtain ⟨K, B, E, S, F, T, V, G⟩ := y1
  obtain ⟨K', B', E', S', F', T', V', G'⟩ := y2
  have i1 : K.size ≤ 9223372036854775807 := G1
  have i2 : V.size ≤ 9223372036854775807 := G2
  have i3 : K'.size ≤ 9223372036854775807 := G3
  have i4 : V'.size ≤ 9223372036854775807 := G4
  have hs1 := cutS_size K 110
  have hs2 := cutS_size V 210
  have hs3 := cutS_size K' 110
  have hs4 := cutS_size V' 210
  have hq := eqA27
  have HI0 := Aside0.mk (B2_mk w ⟨K, B, E, S, F, T, V, G⟩ ⟨K', B', E', S', F', T', V', G'⟩)
  clear G1 G2 G3 G4
  go_enter Try.func3, Try.ntmps3
  go_wp2_with fail
  (with_reducible refine (cut_calls K B E S F T V G _ i1 i2).mono ?_)
  rintro e w1 ⟨rfl, hb1⟩
  have HI1 := Aside0.mk (B2_step HI0.out hb1)
  obtain ⟨x0, x1, x2, x3, x4, x5, x6, x7⟩ := vr_cells HI1.out.1
  obtain ⟨z0, z1, z2, z3, z4, z5, z6, z7⟩ := vr_cells HI1.out.2.1
  have fx := vr_frozen HI1.out.1
  have fz := vr_frozen HI1.out.2.1
  have HI2 := Aside0.mk (B2_setA HI1.out ⟨cutS K 110, B, E, S, F, T, cutS V 210, G⟩)
  clear hb1 HI0
  generalize cutS K 110 = k1 at *
  generalize cutS V 210 = v1 at *
  go_wp2_with fail
  rw [set8_eq]
  obtain ⟨w2, hw2⟩ : ∃ w2, set8 w1 w.heap.size ⟨k1, B, E, S, F, T, v1, G⟩ = w2 := ⟨_, rfl⟩
  rw [hw2]
  have HI2 : Aside0 (B2 w ⟨k1, B, E, S, F, T, v1, G⟩ ⟨K', B', E', S', F', T', V', G'⟩ w2) := by rw [← hw2]; exact HI2
  clear hw2 x0 x1 x2 x3 x4 x5 x6 x7 z0 z1 z2 z3 z4 z5 z6 z7 fx fz HI1
  (with_reducible refine (cut_calls K' B' E' S' F' T' V' G' _ i3 i4).mono ?_)
  rintro e w3 ⟨rfl, hb3⟩
  have HI3 := Aside0.mk (B2_step HI2.out hb3)
  obtain ⟨x0, x1, x2, x3, x4, x5, x6, x7⟩ := vr_cells HI3.out.1
  obtain ⟨z0, z1, z2, z3, z4, z5, z6, z7⟩ := vr_cells HI3.out.2.1
  have fx := vr_frozen HI3.out.1
  have fz := vr_frozen HI3.out.2.1
  have HI4 := Aside0.mk (B2_setB HI3.out ⟨cutS K' 110, B', E', S', F', T', cutS V' 210, G'⟩)
  clear hb3 HI2
  generalize cutS K' 110 = k2 at *
  generalize cutS V' 210 = v2 at *
  go_wp2_with fail
  rw [set8_eq]
  obtain ⟨w4, hw4⟩ : ∃ w4, set8 w3 (w.heap.size + 1) ⟨k2, B', E', S', F', T', v2, G'⟩ = w4 := ⟨_, rfl⟩
  rw [hw4]
  have HI4 : Aside0 (B2 w ⟨k1, B, E, S, F, T, v1, G⟩ ⟨k2, B', E', S', F', T', v2, G'⟩ w4) := by rw [← hw4]; exact HI4
  clear hw4 x0 x1 x2 x3 x4 x5 x6 x7 z0 z1 z2 z3 z4 z5 z6 z7 fx fz HI3
  (with_reducible refine (write_calls k1 B E S F T v1 G _ (by omega) (by omega)).mono ?_)
  rintro e w5 ⟨x, rfl, hx, hb5⟩
  have HI5 := Aside0.mk (B2_step HI4.out hb5)
  obtain ⟨x0, x1, x2, x3, x4, x5, x6, x7⟩ := vr_cells HI5.out.1
  obtain ⟨z0, z1, z2, z3, z4, z5, z6, z7⟩ := vr_cells HI5.out.2.1
  have fx := vr_frozen HI5.out.1
  have fz := vr_frozen HI5.out.2.1
  have HX5 := Aside0.mk (Kd.R_lower hx (Nat.zero_le _))
  clear hx hb5 HI4
  go_wp2_with fail
  (with_reducible refine (write_calls k2 B' E' S' F' T' v2 G' _ (by omega) (by omega)).mono ?_)
  rintro e w6 ⟨y, rfl, hy, hb6⟩
  have HP : Aside0 (PA w ⟨k1, B, E, S, F, T, v1, G⟩ ⟨k2, B', E', S', F', T', v2, G'⟩ x (writeB ⟨k1, B, E, S, F, T, v1, G⟩) y (writeB ⟨k2, B', E', S', F', T', v2, G'⟩) w6) := ⟨B2_step HI5.out hb6, Kd.R_below HX5.out hb6, Kd.R_lower hy (Nat.zero_le _)⟩
  clear hy hb6 HI5 HX5 x0 x1 x2 x3 x4 x5 x6 x7 z0 z1 z2 z3 z4 z5 z6 z7 fx fz
  cases hm1 : mayV ⟨k1, B, E, S, F, T, v1, G⟩ with
  | false =>
    have e1 : writeE ⟨k1, B, E, S, F, T, v1, G⟩ = 1 := by unfold writeE; rw [hm1]; rfl
    rw [e1]
    clear hm1 e1
    go_wp2_with fail
    (with_reducible refine (lives_calls _).mono ?_)
    rintro e w7 ⟨rfl, hb7⟩
    have HB7 := Aside0.mk (below_step (PA_i HP.out).2.2 hb7)
    clear hb7 HP
    go_wp2_with fail
    go_ret
    exact ⟨rfl, HB7.out⟩
  | true =>
    have e1 : writeE ⟨k1, B, E, S, F, T, v1, G⟩ = 0 := by unfold writeE; rw [hm1]; rfl
    rw [e1]
    cases hm2 : mayV ⟨k2, B', E', S', F', T', v2, G'⟩ with
    | false =>
      have e2 : writeE ⟨k2, B', E', S', F', T', v2, G'⟩ = 1 := by unfold writeE; rw [hm2]; rfl
      rw [e2]
      clear hm2 e2 e1 hm1
      go_wp2_with fail
      (with_reducible refine (lives_calls _).mono ?_)
      rintro e w7 ⟨rfl, hb7⟩
      have HB7 := Aside0.mk (below_step (PA_i HP.out).2.2 hb7)
      clear hb7 HP
      go_wp2_with fail
      go_ret
      exact ⟨rfl, HB7.out⟩
    | true =>
      have e2 : writeE ⟨k2, B', E', S', F', T', v2, G'⟩ = 0 := by unfold writeE; rw [hm2]; rfl
      rw [e2]
      have hw1 : writeB ⟨k1, B, E, S, F, T, v1, G⟩ = bytesV ⟨k1, B, E, S, F, T, v1, G⟩ := by unfold writeB; rw [hm1]; rfl
      have hw2 : writeB ⟨k2, B', E', S', F', T', v2, G'⟩ = bytesV ⟨k2, B', E', S', F', T', v2, G'⟩ := by unfold writeB; rw [hm2]; rfl
      have hinj : (strOfNums (bytesV ⟨k1, B, E, S, F, T, v1, G⟩) = strOfNums (bytesV ⟨k2, B', E', S', F', T', v2, G'⟩)) ↔ eqV ⟨k1, B, E, S, F, T, v1, G⟩ ⟨k2, B', E', S', F', T', v2, G'⟩ = true := by
        rw [eqV_iff]
        constructor
        · intro h
          exact bytesV_inj hm1 hm2 (strOfNums_inj (bytesV_range _) (bytesV_range _) h)
        · intro h
          rw [h]
      rw [hw1, hw2] at HP
      clear e1 e2 hm1 hm2 hw1 hw2
      generalize bytesV ⟨k1, B, E, S, F, T, v1, G⟩ = X at *
      generalize bytesV ⟨k2, B', E', S', F', T', v2, G'⟩ = Y at *
      obtain ⟨x0, x1, x2, x3, x4, x5, x6, x7⟩ := vr_cells (PA_i HP.out).1
      obtain ⟨z0, z1, z2, z3, z4, z5, z6, z7⟩ := vr_cells (PA_i HP.out).2.1
      have cx : (convert 29 9 x).run Try.prog w6.drew = .ok (.string (strOfNums X)) w6.drew := OB_string (Kd.R_drew HP.out.2.1)
      have cy : (convert 29 9 y).run Try.prog w6.drew = .ok (.string (strOfNums Y)) w6.drew := OB_string (Kd.R_drew HP.out.2.2)
      cases hev : eqV ⟨k1, B, E, S, F, T, v1, G⟩ ⟨k2, B', E', S', F', T', v2, G'⟩ with
      | true =>
        have hes : ((strOfNums X).toList == (strOfNums Y).toList) = true := by
          exact beq_iff_eq.2 (by rw [hinj.2 hev])
        clear hinj
        go_wp2_with fail
        go_still_tail 10, (by kernel_rfl)
        go_wp2_with fail
        (with_reducible refine (lives_calls _).mono ?_)
        rintro e w7 ⟨rfl, hb7⟩
        have HB7 := Aside0.mk (below_step (PA_i (PA_below HP.out (below_drew1 (Below.refl _ _)))).2.2 hb7)
        clear hb7 HP
        go_wp2_with fail
        go_ret
        exact ⟨rfl, HB7.out⟩
      | false =>
        have hes : ((strOfNums X).toList == (strOfNums Y).toList) = false := by
          refine beq_eq_false_iff_ne.2 (fun h => ?_)
          have := hinj.1 (toList_inj h)
          rw [hev] at this
          cases this
        clear hinj
        go_wp2_with fail
        go_still_tail 10, (by kernel_rfl)
        go_wp2_with fail
        (with_reducible refine (lives_calls _).mono ?_)
        rintro e w7 ⟨rfl, hb7⟩
        have HB7 := Aside0.mk (below_step (PA_i (PA_below HP.out (below_drew1 (Below.refl _ _)))).2.2 hb7)
        clear hb7 HP
        go_wp2_with fail
        go_ret
        exact ⟨rfl, HB7.out⟩
end Go.Proofs.Ytmkabbfglijckaa.A
