/- What a rectangle's sides, points and area are; how it is turned; which ones may be. -/
import Derived.Test.YthmkpgemilmikaaPRect
import Derived.Test.YthmkpgemilmikaaIHeld
import Derived.ChangeAlike
import Derived.BigRegion
namespace Go.Proofs.Ythmkpgemilmikaa.A
open Go.RowKit Go.Proofs.YthmkpgemilmikaaW.PrintWords Go.Proofs.YthmkpgemilmikaaW.PrintLast Go.Proofs.YthmkpgemilmikaaW.PrintMore
set_option linter.unusedVariables false
set_option linter.unusedSimpArgs false

theorem maskN (a : Nat) (ha : a < 18446744073709551616) : bits .and .u64 (a : Int) 4294967295 = ((a % 4294967296 : Nat) : Int) := by
  have h := bits_and_u64_nat a 4294967295 ha (by omega)
  have e : a &&& 4294967295 = a % 4294967296 := Nat.and_two_pow_sub_one_eq_mod a 32
  rw [e] at h
  exact h
theorem divN (a : Nat) : (a : Int) / 4294967296 = ((a / 4294967296 : Nat) : Int) := by omega
theorem mulN (a b : Nat) : (a : Int) * (b : Int) = ((a * b : Nat) : Int) := (Int.natCast_mul a b).symm
theorem addN (a b : Nat) : (a : Int) + (b : Int) = ((a + b : Nat) : Int) := (Int.natCast_add a b).symm
theorem wrapN (a : Nat) (ha : a < 18446744073709551616) : IntKind.u64.wrap (a : Int) = (a : Int) := by rw [IntKind.wrap_u64]; omega
theorem wrapM (a : Nat) : IntKind.u64.wrap (a : Int) = ((a % 18446744073709551616 : Nat) : Int) := by rw [IntKind.wrap_u64]; omega
set_option maxHeartbeats 1000000 in
/-- The walk is the shelf's (Any.bits_Mul64), at this program. -/
theorem mul64_calls (x y : Nat) (hx : x < 18446744073709551616) (hy : y < 18446744073709551616) (w : World) :
    Calls Try.prog 22 #[.int .u64 (x : Int), .int .u64 (y : Int)] w fun e w' => e = .returned (.tuple #[.int .u64 ((x * y / 18446744073709551616 : Nat) : Int), .int .u64 ((x * y % 18446744073709551616 : Nat) : Int)]) ∧ w' = w := by
  obtain ⟨bd, bt, bw, hhi⟩ := Lib.mul64_hi x y hx hy
  have ba := Lib.half_mul_le (a := x / 4294967296) (b := y / 4294967296) (by omega) (by omega)
  have bb := Lib.half_mul_le (a := x / 4294967296) (b := y % 4294967296) (by omega) (by omega)
  have bc := Lib.half_mul_le (a := x % 4294967296) (b := y / 4294967296) (by omega) (by omega)
  have ba' : x / 4294967296 * (y / 4294967296) < 18446744073709551616 := by omega
  have bb' : x / 4294967296 * (y % 4294967296) < 18446744073709551616 := by omega
  have bc' : x % 4294967296 * (y / 4294967296) < 18446744073709551616 := by omega
  have bh1 : x / 4294967296 * (y / 4294967296) + (x / 4294967296 * (y % 4294967296) + x % 4294967296 * (y % 4294967296) / 4294967296) / 4294967296 < 18446744073709551616 := by omega
  have bh : x / 4294967296 * (y / 4294967296) + (x / 4294967296 * (y % 4294967296) + x % 4294967296 * (y % 4294967296) / 4294967296) / 4294967296 + ((x / 4294967296 * (y % 4294967296) + x % 4294967296 * (y % 4294967296) / 4294967296) % 4294967296 + x % 4294967296 * (y / 4294967296)) / 4294967296 < 18446744073709551616 := by
    rw [hhi]
    have := Nat.mul_lt_mul_of_lt_of_le hx (Nat.le_of_lt hy) (by omega)
    omega
  go_enter Try.func22, Try.ntmps22
  go_wp2
  simp only [maskN x hx, maskN y hy, divN, mulN, addN, wrapN _ bd, wrapN _ bb', wrapN _ bt, maskN _ bt, wrapN _ bc', wrapN _ bw, wrapN _ ba', wrapN _ bh1, wrapN _ bh, wrapM (x * y)]
  rw [hhi]
  go_ret2
  exact ⟨rfl, rfl⟩
theorem two_cells {w : World} {g : Nat} {u v : Value} {t : TypeId} (h : w.heap[g]? = some (.cells #[u, v] t)) : w.cell? ⟨g, 0, none⟩ = some u ∧ w.cell? ⟨g, 1, none⟩ = some v ∧ (∀ o, w.frozen? ⟨g, o, none⟩ = false) := by
  refine ⟨?_, ?_, fun o => by simp [World.frozen?, h]⟩ <;> (rw [cell_of_row _ _ _ _ _ _ h]; rfl)
theorem far2 {W : World} {g g' o : Nat} {x u v : Value} (h : W.drew.cell? ⟨g, o, none⟩ = some x) (hne : g' ≠ g) : ((W.setCell ⟨g', 0, none⟩ u).setCell ⟨g', 1, none⟩ v).drew.cell? ⟨g, o, none⟩ = some x := by
  show ((W.setCell ⟨g', 0, none⟩ u).setCell ⟨g', 1, none⟩ v).cell? ⟨g, o, none⟩ = some x
  rw [World.cell?_setCell_far _ ⟨g', 1, none⟩ ⟨g, o, none⟩ _ hne, World.cell?_setCell_far _ ⟨g', 0, none⟩ ⟨g, o, none⟩ _ hne]
  exact h
theorem two_set {w : World} {g : Nat} {u v u' v' : Value} {t : TypeId} (h : w.heap[g]? = some (.cells #[u, v] t)) : ((w.setCell ⟨g, 0, none⟩ u').setCell ⟨g, 1, none⟩ v').heap[g]? = some (.cells #[u', v'] t) := by
  have hl := (Array.getElem?_eq_some_iff.1 h).1
  have he := (Array.getElem?_eq_some_iff.1 h).2
  simp only [World.setCell]
  rw [Array.getElem?_eq_getElem (by simpa using hl)]
  simp [Array.getElem_modify, he]
abbrev spB (a b : Nat) : Obj := .cells #[.int .i64 (a : Int), .int .i64 (b : Int)] 23
theorem infoRect : (Try.prog.info? 29).map (·.size) = some 2 := by kernel_rfl
theorem infoSpan : (Try.prog.info? 23).map (·.size) = some 2 := by kernel_rfl
theorem psides_calls (r : Rc) (hr : r.ok) (w : World) :
    Calls Try.prog 24 #[rv r] w fun e w' => e = .returned (.tuple #[.int .i64 (r.e0 : Int), .int .i64 (r.e1 : Int), .agg #[.int .i64 (r.t0 : Int), .int .i64 (r.t1 : Int)]]) ∧ Below w.heap.size w w' := by
  obtain ⟨a, b, c, d⟩ := r
  obtain ⟨h1, h2, h3, h4⟩ := hr
  simp only at h1 h2 h3 h4
  obtain ⟨g, hg⟩ : ∃ g, w.heap.size = g := ⟨_, rfl⟩
  obtain ⟨W, hW⟩ : ∃ W, (w.alloc (rB4 a b c d)).alloc (.cells #[.int .i64 0, .int .i64 0] 23) = W := ⟨_, rfl⟩
  have hb : Below w.heap.size w W := by rw [← hW]; exact below_alloc (below_alloc (Below.refl _ _) _) _
  have hx0 : W.heap[g]? = some (rB4 a b c d) := by rw [← hW, ← hg]; exact blk_alloc (blk_new w _) _
  have hx1 : W.heap[g + 1]? = some (.cells #[.int .i64 0, .int .i64 0] 23) := by
    have h9 := heap_alloc_new (w.alloc (rB4 a b c d)) (.cells #[.int .i64 0, .int .i64 0] 23)
    rw [World.size_alloc, hg, hW] at h9
    exact h9
  obtain ⟨c0, c1, -⟩ := two_cells (w := W.drew) hx0
  obtain ⟨d0, d1, df⟩ := two_cells (w := W.drew) hx1
  have d2 := df 0
  have d3 := df 1
  have d4 : W.cell? ⟨g + 1, 1, none⟩ = some (.int .i64 0) := d1
  have d5 : W.frozen? ⟨g + 1, 1, none⟩ = false := df 1
  clear df
  go_enter Try.func24, Try.ntmps24
  go_wp2_with fail
  refine wp_region_held_drew (S := (fun w' => w'.cell? ⟨g, 0, none⟩ = some (cx a c) ∧ w'.cell? ⟨g, 1, none⟩ = some (cx b d))) (by kernel_rfl) ⟨c0, c1⟩ (fun hHeld => ?_)
  (refine hd_take 0 (v := ?_) rfl (by kernel_rfl) (by kernel_rfl) (fun _ _ _ h => h) (by assumption) ?_ ?_; rotate_left; (intro w hSw; (try dsimp only at hSw); go_simp; first | done | with_reducible rfl); simp only [Act.put, List.setIfInBounds_toArray, List.set_cons_zero, List.set_cons_succ])
  (refine hd_take 1 (v := ?_) rfl (by kernel_rfl) (by kernel_rfl) (fun _ _ _ h => h) (by assumption) ?_ ?_; rotate_left; (intro w hSw; (try dsimp only at hSw); go_simp; first | done | with_reducible rfl); simp only [Act.put, List.setIfInBounds_toArray, List.set_cons_zero, List.set_cons_succ])
  (refine hd_take 2 (v := ?_) rfl (by kernel_rfl) (by kernel_rfl) (fun _ _ _ h => h) (by assumption) ?_ ?_; rotate_left; (intro w hSw; (try dsimp only at hSw); go_simp; first | done | with_reducible rfl); simp only [Act.put, List.setIfInBounds_toArray, List.set_cons_zero, List.set_cons_succ])
  (refine hd_take 4 (v := ?_) rfl (by kernel_rfl) (by kernel_rfl) (fun _ _ _ h => h) (by assumption) ?_ ?_; rotate_left; (intro w hSw; (try dsimp only at hSw); go_simp; first | done | with_reducible rfl); simp only [Act.put, List.setIfInBounds_toArray, List.set_cons_zero, List.set_cons_succ])
  (refine hd_take 5 (v := ?_) rfl (by kernel_rfl) (by kernel_rfl) (fun _ _ _ h => h) (by assumption) ?_ ?_; rotate_left; (intro w hSw; (try dsimp only at hSw); go_simp; first | done | with_reducible rfl); simp only [Act.put, List.setIfInBounds_toArray, List.set_cons_zero, List.set_cons_succ])
  (refine hd_take 6 (v := ?_) rfl (by kernel_rfl) (by kernel_rfl) (fun _ _ _ h => h) (by assumption) ?_ ?_; rotate_left; (intro w hSw; (try dsimp only at hSw); go_simp; first | done | with_reducible rfl); simp only [Act.put, List.setIfInBounds_toArray, List.set_cons_zero, List.set_cons_succ])
  (refine hd_take 8 (v := ?_) rfl (by kernel_rfl) (by kernel_rfl) (fun _ _ _ h => h) (by assumption) ?_ ?_; rotate_left; (intro w hSw; (try dsimp only at hSw); go_simp; first | done | with_reducible rfl); simp only [Act.put, List.setIfInBounds_toArray, List.set_cons_zero, List.set_cons_succ])
  (refine hd_take 9 (v := ?_) rfl (by kernel_rfl) (by kernel_rfl) (fun _ _ _ h => h) (by assumption) ?_ ?_; rotate_left; (intro w hSw; (try dsimp only at hSw); go_simp; first | done | with_reducible rfl); simp only [Act.put, List.setIfInBounds_toArray, List.set_cons_zero, List.set_cons_succ])
  (refine hd_take 10 (v := ?_) rfl (by kernel_rfl) (by kernel_rfl) (fun _ _ _ h => h) (by assumption) ?_ ?_; rotate_left; (intro w hSw; (try dsimp only at hSw); go_simp; first | done | with_reducible rfl); simp only [Act.put, List.setIfInBounds_toArray, List.set_cons_zero, List.set_cons_succ])
  (refine hd_take 12 (v := ?_) rfl (by kernel_rfl) (by kernel_rfl) (fun _ _ _ h => h) (by assumption) ?_ ?_; rotate_left; (intro w hSw; (try dsimp only at hSw); go_simp; first | done | with_reducible rfl); simp only [Act.put, List.setIfInBounds_toArray, List.set_cons_zero, List.set_cons_succ])
  (refine hd_take 13 (v := ?_) rfl (by kernel_rfl) (by kernel_rfl) (fun _ _ _ h => h) (by assumption) ?_ ?_; rotate_left; (intro w hSw; (try dsimp only at hSw); go_simp; first | done | with_reducible rfl); simp only [Act.put, List.setIfInBounds_toArray, List.set_cons_zero, List.set_cons_succ])
  (refine hd_take 14 (v := ?_) rfl (by kernel_rfl) (by kernel_rfl) (fun _ _ _ h => h) (by assumption) ?_ ?_; rotate_left; (intro w hSw; (try dsimp only at hSw); go_simp; first | done | with_reducible rfl); simp only [Act.put, List.setIfInBounds_toArray, List.set_cons_zero, List.set_cons_succ])
  refine hd_one 3 rfl (by kernel_rfl) (fun K hK => ?_)
  go_simp
  go_wp2_with ((go_at_call 30); (with_reducible refine (whole_calls _ a (by omega)).mono ?_); rintro e w' ⟨rfl, rfl⟩)
  refine hK.out _ _ hHeld (fun hHeld => ?_)
  clear hK K
  refine hd_one 7 rfl (by kernel_rfl) (fun K hK => ?_)
  go_simp
  go_wp2_with ((go_at_call 30); (with_reducible refine (whole_calls _ b (by omega)).mono ?_); rintro e w' ⟨rfl, rfl⟩)
  refine hK.out _ _ hHeld (fun hHeld => ?_)
  clear hK K
  refine hd_one 11 rfl (by kernel_rfl) (fun K hK => ?_)
  go_simp
  go_wp2_with ((go_at_call 30); (with_reducible refine (whole_calls _ c (by omega)).mono ?_); rintro e w' ⟨rfl, rfl⟩)
  refine hK.out _ _ hHeld (fun hHeld => ?_)
  clear hK K
  refine hd_one 15 rfl (by kernel_rfl) (fun K hK => ?_)
  go_simp
  go_wp2_with ((go_at_call 30); (with_reducible refine (whole_calls _ d (by omega)).mono ?_); rintro e w' ⟨rfl, rfl⟩)
  refine hK.out _ _ hHeld (fun hHeld => ?_)
  clear hK K
  (refine hd_take 16 (v := ?_) rfl (by kernel_rfl) (by kernel_rfl) (fun _ _ _ h => h) (by assumption) ?_ ?_; rotate_left; (intro w hSw; (try dsimp only at hSw); go_simp; first | done | with_reducible rfl); simp only [Act.put, List.setIfInBounds_toArray, List.set_cons_zero, List.set_cons_succ])
  (refine hd_take 17 (v := ?_) rfl (by kernel_rfl) (by kernel_rfl) (fun _ _ _ h => h) (by assumption) ?_ ?_; rotate_left; (intro w hSw; (try dsimp only at hSw); go_simp; first | done | with_reducible rfl); simp only [Act.put, List.setIfInBounds_toArray, List.set_cons_zero, List.set_cons_succ])
  (refine hd_take 18 (v := ?_) rfl (by kernel_rfl) (by kernel_rfl) (fun _ _ _ h => h) (by assumption) ?_ ?_; rotate_left; (intro w hSw; (try dsimp only at hSw); go_simp; first | done | with_reducible rfl); simp only [Act.put, List.setIfInBounds_toArray, List.set_cons_zero, List.set_cons_succ])
  refine hd_one 19 rfl (by kernel_rfl) (fun K hK => ?_)
  go_simp
  refine hK.out _ _ ⟨far2 c0 (by omega), far2 c1 (by omega)⟩ (fun hHeld => ?_)
  clear hK K
  refine wpAnyH_done (by kernel_rfl) ?_ _
  go_wp2
  have hf := two_set (u' := .int .i64 (c : Int)) (v' := .int .i64 (d : Int)) hx1
  have hb3 : Below w.heap.size w (((W.setCell ⟨g + 1, 0, none⟩ (.int .i64 (c : Int))).setCell ⟨g + 1, 1, none⟩ (.int .i64 (d : Int))).drew) := below_drew1 (below_set (below_set hb (by omega)) (by omega))
  refine bodyPost_ret (results_list (rs := [.tmp 2, .tmp 3, .cell 4 23]) rfl (by simp) (.tmp (.tmp (.cell (g + 1) _ _ _ _ rfl hf Try.underlying23 rfl infoSpan .nil)))) rfl ⟨rfl, hb3⟩
def Rc.has (r : Rc) (x y : Int) : Bool := decide ((r.e0 : Int) ≤ x ∧ x < (r.e1 : Int)) && S.Sp.has ⟨(r.t0 : Int), (r.t1 : Int)⟩ y
set_option maxHeartbeats 1000000 in
theorem phas_calls (r : Rc) (hr : r.ok) (x y : Int) (w : World) :
    Calls Try.prog 15 #[rv r, .int .i64 x, .int .i64 y] w fun e w' => e = .returned (.bool (r.has x y)) ∧ Below w.heap.size w w' := by
  obtain ⟨g, hg⟩ : ∃ g, w.heap.size = g := ⟨_, rfl⟩
  obtain ⟨W, hW⟩ : ∃ W, w.alloc (rBox r) = W := ⟨_, rfl⟩
  have hb : Below w.heap.size w W := by rw [← hW]; exact below_alloc (Below.refl _ _) _
  have hx0 : W.heap[g]? = some (rBox r) := by rw [← hW, ← hg]; exact blk_new w _
  obtain ⟨c0, c1, -⟩ := two_cells hx0
  have HS := Aside0.mk (psides_calls r hr W)
  have HB := Aside0.mk hb
  have hh : r.has x y = (decide ((r.e0 : Int) ≤ x ∧ x < (r.e1 : Int)) && S.Sp.has ⟨(r.t0 : Int), (r.t1 : Int)⟩ y) := rfl
  have HH := Aside0.mk hh
  clear hb hh hx0
  go_enter Try.func15, Try.ntmps15
  go_wp2_with fail
  (with_reducible refine HS.out.mono ?_)
  rintro e w1 ⟨rfl, hb1⟩
  have HB1 := Aside0.mk (below_step HB.out hb1)
  obtain ⟨g2, hg2⟩ : ∃ g, w1.heap.size = g := ⟨_, rfl⟩
  obtain ⟨W2, hW2⟩ : ∃ W2, w1.alloc (spB r.t0 r.t1) = W2 := ⟨_, rfl⟩
  have hb2 : Below w.heap.size w W2 := by rw [← hW2]; exact below_alloc HB1.out _
  have HB2 := Aside0.mk hb2
  have hx2 : W2.heap[g2]? = some (spB r.t0 r.t1) := by rw [← hW2, ← hg2]; exact blk_new w1 _
  obtain ⟨d0, d1, -⟩ := two_cells hx2
  clear hb1 hb2 hx2
  by_cases h1 : (r.e0 : Int) ≤ x
  · by_cases h2 : x < (r.e1 : Int)
    · go_wp2_with fail
      (with_reducible refine (S.has_calls (r.t0 : Int) (r.t1 : Int) y W2).mono ?_)
      rintro e w3 ⟨rfl, rfl⟩
      have HB3 : Aside0 (Below w.heap.size w ((W2.alloc (S.spBox (r.t0 : Int) (r.t1 : Int))).alloc (S.spBox (r.t0 : Int) (r.t1 : Int)))) := ⟨below_alloc (below_alloc HB2.out _) _⟩
      have HE : Aside0 (r.has x y = S.Sp.has ⟨(r.t0 : Int), (r.t1 : Int)⟩ y) := ⟨by rw [HH.out, decide_eq_true ⟨h1, h2⟩, Bool.true_and]⟩
      cases hv : S.Sp.has ⟨(r.t0 : Int), (r.t1 : Int)⟩ y with
      | true =>
        have HV := Aside0.mk hv
        clear hv
        go_wp2_with fail
        go_ret
        exact ⟨by rw [HE.out, HV.out]; rfl, HB3.out⟩
      | false =>
        have HV := Aside0.mk hv
        clear hv
        go_wp2_with fail
        go_ret
        exact ⟨by rw [HE.out, HV.out]; rfl, HB3.out⟩
    · have HE : Aside0 (r.has x y = false) := ⟨by rw [HH.out, decide_eq_false (fun h => h2 h.2), Bool.false_and]⟩
      go_wp2_with fail
      go_ret
      exact ⟨by rw [HE.out]; rfl, by first | exact HB2.out | (rw [← hg]; exact HB2.out)⟩
  · have HE : Aside0 (r.has x y = false) := ⟨by rw [HH.out, decide_eq_false (fun h => h1 h.1), Bool.false_and]⟩
    go_wp2_with fail
    go_ret
    exact ⟨by rw [HE.out]; rfl, by first | exact HB2.out | (rw [← hg]; exact HB2.out)⟩
def Rc.area (r : Rc) : Nat := if 4611686018427387904 < (r.e1 - r.e0) * (r.t1 - r.t0) then 4611686018427387904 else (r.e1 - r.e0) * (r.t1 - r.t0)
set_option maxHeartbeats 1000000 in
theorem area_calls (r : Rc) (hr : r.ok) (w : World) :
    Calls Try.prog 11 #[rv r] w fun e w' => e = .returned (.int .i64 (r.area : Int)) ∧ Below w.heap.size w w' := by
  obtain ⟨a, b, c, d⟩ := r
  obtain ⟨h1, h2, h3, h4⟩ := hr
  simp only at h1 h2 h3 h4
  have har : Rc.area ⟨a, b, c, d⟩ = if 4611686018427387904 < (b - a) * (d - c) then 4611686018427387904 else (b - a) * (d - c) := rfl
  obtain ⟨g, hg⟩ : ∃ g, w.heap.size = g := ⟨_, rfl⟩
  obtain ⟨W, hW⟩ : ∃ W, w.alloc (rB4 a b c d) = W := ⟨_, rfl⟩
  have hb : Below w.heap.size w W := by rw [← hW]; exact below_alloc (Below.refl _ _) _
  have hx0 : W.heap[g]? = some (rB4 a b c d) := by rw [← hW, ← hg]; exact blk_new w _
  obtain ⟨c0, c1, -⟩ := two_cells hx0
  have hsub := sub_cx b d a c (by omega) (by omega) h1 h3
  obtain ⟨x, hx⟩ : ∃ x, b - a = x := ⟨_, rfl⟩
  obtain ⟨y, hy⟩ : ∃ x, d - c = x := ⟨_, rfl⟩
  rw [hx, hy] at hsub har
  have hx4 : x ≤ 1099511627776 := by omega
  have hy4 : y ≤ 1099511627776 := by omega
  have b1 := backU_E x (by omega)
  have b2 := backU_E y (by omega)
  have HM := Aside0.mk (mul64_calls x y (by omega) (by omega) W)
  obtain ⟨hi, hhi⟩ : ∃ k, x * y / 18446744073709551616 = k := ⟨_, rfl⟩
  obtain ⟨lo, hlo⟩ : ∃ k, x * y % 18446744073709551616 = k := ⟨_, rfl⟩
  rw [hhi, hlo] at HM
  have HAR := Aside0.mk har
  obtain ⟨p, hp⟩ : ∃ p, x * y = p := ⟨_, rfl⟩
  rw [hp] at hhi hlo HAR
  have HB := Aside0.mk hb
  have HHL := Aside0.mk (show p / 18446744073709551616 = hi ∧ p % 18446744073709551616 = lo from ⟨hhi, hlo⟩)
  clear hx hy hp har hb hx0 hhi hlo h1 h3
  go_enter Try.func11, Try.ntmps11
  go_wp2_with fail
  (with_reducible refine HM.out.mono ?_)
  rintro e w1 ⟨rfl, rfl⟩
  by_cases k1 : 0 < hi
  · have HE : Aside0 (Rc.area ⟨a, b, c, d⟩ = 4611686018427387904) := ⟨by rw [HAR.out, if_pos (by have := HHL.out; omega)]⟩
    have k2 : (0 : Int) < (hi : Int) := by omega
    go_wp2_with fail
    go_ret
    exact ⟨by rw [HE.out]; rfl, HB.out⟩
  · have k2 : ¬ (0 : Int) < (hi : Int) := by omega
    by_cases k3 : 4611686018427387904 < lo
    · have HE : Aside0 (Rc.area ⟨a, b, c, d⟩ = 4611686018427387904) := ⟨by rw [HAR.out, if_pos (by have := HHL.out; omega)]⟩
      have k4 : (4611686018427387904 : Int) < (lo : Int) := by omega
      go_wp2_with fail
      go_ret
      exact ⟨by rw [HE.out]; rfl, HB.out⟩
    · have HE : Aside0 (Rc.area ⟨a, b, c, d⟩ = lo) := ⟨by have := HHL.out; rw [HAR.out, if_neg (by omega)]; omega⟩
      have k4 : ¬ (4611686018427387904 : Int) < (lo : Int) := by omega
      go_wp2_with fail
      go_ret
      exact ⟨by rw [HE.out]; rfl, HB.out⟩
end Go.Proofs.Ythmkpgemilmikaa.A
