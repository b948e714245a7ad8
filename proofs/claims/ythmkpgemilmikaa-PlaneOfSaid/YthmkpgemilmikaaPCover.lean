/- What is left of a rectangle; the law's words on rectangles. -/
import Derived.Test.YthmkpgemilmikaaPMinus
namespace Go.Proofs.Ythmkpgemilmikaa.A
open Go.RowKit Go.Proofs.YthmkpgemilmikaaW.PrintWords Go.Proofs.YthmkpgemilmikaaW.PrintLast Go.Proofs.YthmkpgemilmikaaW.PrintMore
attribute [local go_sem] run_store_cx
set_option linter.unusedVariables false
set_option linter.unusedSimpArgs false

abbrev fB (a b c d : Int) : Obj := .cells #[.int .i64 a, .int .i64 b, .int .i64 c, .int .i64 d] 25
theorem four_cells {w : World} {g : Nat} {u v x y : Value} {t : TypeId} (h : w.heap[g]? = some (.cells #[u, v, x, y] t)) : w.cell? ⟨g, 0, none⟩ = some u ∧ w.cell? ⟨g, 1, none⟩ = some v ∧ w.cell? ⟨g, 2, none⟩ = some x ∧ w.cell? ⟨g, 3, none⟩ = some y ∧ (∀ o, w.frozen? ⟨g, o, none⟩ = false) := by
  refine ⟨?_, ?_, ?_, ?_, fun o => by simp [World.frozen?, h]⟩ <;> (rw [cell_of_row _ _ _ _ _ _ h]; rfl)
theorem four_set {w : World} {g : Nat} {u v x y u' v' x' y' : Value} {t : TypeId} (h : w.heap[g]? = some (.cells #[u, v, x, y] t)) : ((((w.setCell ⟨g, 0, none⟩ u').setCell ⟨g, 1, none⟩ v').setCell ⟨g, 2, none⟩ x').setCell ⟨g, 3, none⟩ y').heap[g]? = some (.cells #[u', v', x', y'] t) := by
  have hl := (Array.getElem?_eq_some_iff.1 h).1
  have he := (Array.getElem?_eq_some_iff.1 h).2
  simp only [World.setCell]
  rw [Array.getElem?_eq_getElem (by simpa using hl)]
  simp [Array.getElem_modify, he]
theorem infoR : (Try.prog.info? 25).map (·.size) = some 4 := by kernel_rfl
set_option maxHeartbeats 1000000 in
theorem lof_calls (x y f t : Int) (w : World) :
    Calls Try.prog 9 #[.agg #[.int .i64 x, .int .i64 y, .int .i64 f, .int .i64 t]] w fun e w' => e = .returned (.tuple #[rv (mkR ⟨x, y⟩ ⟨f, t⟩), .bool (S.Sp.may ⟨x, y⟩ && S.Sp.may ⟨f, t⟩)]) ∧ Below w.heap.size w w' := by
  obtain ⟨g, hg⟩ : ∃ g, w.heap.size = g := ⟨_, rfl⟩
  obtain ⟨W, hW⟩ : ∃ W, (w.alloc (fB x y f t)).alloc rB0 = W := ⟨_, rfl⟩
  have hb : Below w.heap.size w W := by rw [← hW]; exact below_alloc (below_alloc (Below.refl _ _) _) _
  have hx0 : W.heap[g]? = some (fB x y f t) := by rw [← hW, ← hg]; exact blk_alloc (blk_new w _) _
  have hx1 : W.heap[g + 1]? = some rB0 := by
    have h9 := heap_alloc_new (w.alloc (fB x y f t)) rB0
    rw [World.size_alloc, hg, hW] at h9
    exact h9
  obtain ⟨c0, c1, c2, c3, -⟩ := four_cells hx0
  have HO := Aside0.mk (of_calls x y f t W)
  have HB := Aside0.mk hb
  have HX := Aside0.mk hx1
  obtain ⟨r, hr⟩ : ∃ r, mkR ⟨x, y⟩ ⟨f, t⟩ = r := ⟨_, rfl⟩
  obtain ⟨b, hbb⟩ : ∃ r, (S.Sp.may ⟨x, y⟩ && S.Sp.may ⟨f, t⟩) = r := ⟨_, rfl⟩
  rw [hr, hbb] at HO ⊢
  clear hb hx0 hx1 hr hbb
  go_enter Try.func9, Try.ntmps9
  go_wp2_with fail
  (with_reducible refine HO.out.mono ?_)
  rintro e w1 ⟨rfl, hb1⟩
  have hx1 := blk_below HX.out hb1
  obtain ⟨d0, d1, df⟩ := two_cells hx1
  have d2 := df 0
  have d3 := df 1
  have HB1 := Aside0.mk (below_step HB.out hb1)
  have HX1 := Aside0.mk hx1
  clear hb1 hx1 df
  go_wp2_with fail
  have hf := two_set (u' := cx r.e0 r.t0) (v' := cx r.e1 r.t1) HX1.out
  have hb3 : Below w.heap.size w ((w1.setCell ⟨g + 1, 0, none⟩ (cx r.e0 r.t0)).setCell ⟨g + 1, 1, none⟩ (cx r.e1 r.t1)) := below_set (below_set HB1.out (by omega)) (by omega)
  refine bodyPost_ret (results_ct (p := 2) (u := 3) rfl _ _ (g + 1) _ _ _ _ rfl hf Try.underlying29 rfl infoRect) rfl ?_
  exact ⟨rfl, hb3⟩
set_option maxHeartbeats 1000000 in
theorem lsides_calls (r : Rc) (hr : r.ok) (w : World) :
    Calls Try.prog 14 #[rv r] w fun e w' => e = .returned (.agg #[.int .i64 (r.e0 : Int), .int .i64 (r.e1 : Int), .int .i64 (r.t0 : Int), .int .i64 (r.t1 : Int)]) ∧ Below w.heap.size w w' := by
  obtain ⟨g, hg⟩ : ∃ g, w.heap.size = g := ⟨_, rfl⟩
  obtain ⟨W, hW⟩ : ∃ W, (w.alloc (rBox r)).alloc (fB 0 0 0 0) = W := ⟨_, rfl⟩
  have hb : Below w.heap.size w W := by rw [← hW]; exact below_alloc (below_alloc (Below.refl _ _) _) _
  have hx0 : W.heap[g]? = some (rBox r) := by rw [← hW, ← hg]; exact blk_alloc (blk_new w _) _
  have hx1 : W.heap[g + 1]? = some (fB 0 0 0 0) := by
    have h9 := heap_alloc_new (w.alloc (rBox r)) (fB 0 0 0 0)
    rw [World.size_alloc, hg, hW] at h9
    exact h9
  obtain ⟨c0, c1, -⟩ := two_cells hx0
  have HO := Aside0.mk (psides_calls r hr W)
  have HB := Aside0.mk hb
  have HX := Aside0.mk hx1
  clear hb hx0 hx1
  go_enter Try.func14, Try.ntmps14
  go_wp2_with fail
  (with_reducible refine HO.out.mono ?_)
  rintro e w1 ⟨rfl, hb1⟩
  obtain ⟨g2, hg2⟩ : ∃ g, w1.heap.size = g := ⟨_, rfl⟩
  obtain ⟨W2, hW2⟩ : ∃ W2, w1.alloc (spB r.t0 r.t1) = W2 := ⟨_, rfl⟩
  have hb2 : Below W.heap.size W W2 := by rw [← hW2]; exact below_alloc hb1 _
  have hx2 : W2.heap[g2]? = some (spB r.t0 r.t1) := by rw [← hW2, ← hg2]; exact blk_new w1 _
  obtain ⟨e0, e1, -⟩ := two_cells hx2
  have hx1 := blk_below HX.out hb2
  obtain ⟨d0, d1, d2, d3, df⟩ := four_cells hx1
  have f0 := df 0
  have f1 := df 1
  have f2 := df 2
  have f3 := df 3
  have HB2 := Aside0.mk (below_step HB.out hb2)
  have HX1 := Aside0.mk hx1
  clear hb1 hb2 hx1 hx2 df
  go_wp2_with fail
  have hf := four_set (u' := .int .i64 (r.e0 : Int)) (v' := .int .i64 (r.e1 : Int)) (x' := .int .i64 (r.t0 : Int)) (y' := .int .i64 (r.t1 : Int)) HX1.out
  have hb3 : Below w.heap.size w ((((W2.setCell ⟨g + 1, 0, none⟩ (.int .i64 (r.e0 : Int))).setCell ⟨g + 1, 1, none⟩ (.int .i64 (r.e1 : Int))).setCell ⟨g + 1, 2, none⟩ (.int .i64 (r.t0 : Int))).setCell ⟨g + 1, 3, none⟩ (.int .i64 (r.t1 : Int))) := below_set (below_set (below_set (below_set HB2.out (by omega)) (by omega)) (by omega)) (by omega)
  refine bodyPost_ret (results_single rfl (.cell (g + 1) _ _ _ _ rfl hf Try.underlying25 rfl infoR .nil)) rfl ?_
  exact ⟨rfl, hb3⟩
def sumA (l : List Rc) : Nat := (l.map Rc.area).sum
theorem sumA_take (l : List Rc) (k : Nat) (hk : k < l.length) : sumA (l.take (k + 1)) = sumA (l.take k) + (l.getD k default).area := by
  unfold sumA
  rw [List.take_succ_eq_append_getElem hk, List.map_append, List.sum_append, List.getD_eq_getElem?_getD, List.getElem?_eq_getElem hk]
  simp
theorem sumA_le (l : List Rc) (k : Nat) : sumA (l.take k) ≤ sumA l := by
  have e : sumA l = sumA (l.take k) + sumA (l.drop k) := by
    unfold sumA
    rw [← List.sum_append, ← List.map_append, List.take_append_drop]
  omega
set_option maxHeartbeats 1000000 in
theorem larea_calls (A : Option Addr) (n c : Nat) (l : List Rc) (w : World) (hr : KRc.C w A n l) (hc : n ≤ c) (hn : n ≤ 1000000) (hok : ∀ r ∈ l, r.ok) (hs : sumA l ≤ 4611686018427387904) :
    Calls Try.prog 20 #[.slice A n c] w fun e w' => e = .returned (.int .i64 (sumA l : Int)) ∧ Below w.heap.size w w' := by
  have HR := Aside0.mk hr
  have HN := Aside0.mk hr.1
  have HOK := Aside0.mk hok
  clear hr hok
  go_enter Try.func20, Try.ntmps20
  go_wp2_with fail
  go_loopw [3, 4] (fun v3 v4 w' => ∃ (k s : Nat), k ≤ n ∧ v4 = .int .i64 k ∧ v3 = .int .i64 s ∧ Aside0 (s = sumA (l.take k)) ∧ Aside0 (Below w.heap.size w w')) (fun _ v4 _ => n - (intOf v4).toNat)
  case atStart => exact ⟨0, 0, Nat.zero_le _, rfl, rfl, ⟨rfl⟩, ⟨Below.refl _ _⟩⟩
  case round =>
    obtain ⟨k, s, hk, rfl, rfl, HS, HB⟩ := hrel
    by_cases hlt : k < n
    · have hln : k < l.length := by rw [HN.out]; exact hlt
      obtain ⟨ad, rfl, q0, q1⟩ := C_atRc (Kd.C_below HR.out HB.out) k hlt
      have h1 := sumA_take l k hln
      have h2 := sumA_le l (k + 1)
      have hrok := HOK.out (l.getD k default) (by
        rw [List.getD_eq_getElem?_getD, List.getElem?_eq_getElem hln]
        exact List.getElem_mem _)
      obtain ⟨r, hr⟩ : ∃ r, l.getD k default = r := ⟨_, rfl⟩
      rw [hr] at q0 q1 h1 hrok
      have HAC := Aside0.mk (area_calls r hrok wr)
      obtain ⟨ar, har⟩ : ∃ x, r.area = x := ⟨_, rfl⟩
      rw [har] at HAC h1
      have h3 : s + ar ≤ 4611686018427387904 := by have := HS.out; omega
      have HS2 : Aside0 (s + ar = sumA (l.take (k + 1))) := ⟨by rw [h1, HS.out]⟩
      have j1 : (k : Int) < (n : Int) := by omega
      have j2 : (0 : Int) ≤ (k : Int) := by omega
      clear hr har h1 h2 hrok hln
      go_wp2_with fail
      (with_reducible refine HAC.out.mono ?_)
      rintro e w1 ⟨rfl, hb1⟩
      have HB1 := Aside0.mk (below_step HB.out hb1)
      clear hb1 q0 q1
      go_wp2_with fail
      go_roundw
      case rel => exact ⟨k + 1, s + ar, hlt, by push_cast; rfl, by push_cast; rfl, HS2, HB1⟩
      case measure => simp [intOf]; omega
    · have j1 : ¬ (k : Int) < (n : Int) := by omega
      have HS2 : Aside0 (s = sumA l) := ⟨by rw [HS.out, List.take_of_length_le (by have := HN.out; omega)]⟩
      go_wp2_with fail
      go_ret
      exact ⟨by rw [← HS2.out]; rfl, HB.out⟩
end Go.Proofs.Ythmkpgemilmikaa.A
