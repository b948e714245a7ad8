/- What is left when several are taken away; the document's example. -/
import Derived.Test.YthmkpgemilmikaaPCover
namespace Go.Proofs.Ythmkpgemilmikaa.A
open Go.RowKit Go.Proofs.YthmkpgemilmikaaW.PrintWords Go.Proofs.YthmkpgemilmikaaW.PrintLast Go.Proofs.YthmkpgemilmikaaW.PrintMore
attribute [local go_sem] run_store_cx
set_option linter.unusedVariables false
set_option linter.unusedSimpArgs false

def stepC (L : List Rc) (b : Rc) : List Rc := L.flatMap fun a => minusR a b
def leftL (r : Rc) (l : List Rc) : List Rc := l.foldl stepC [r]
def coverL (r : Rc) (l : List Rc) : List Rc := if l.length = 0 ∧ r.isZ = true then [] else leftL r l
theorem stepC_ok (L : List Rc) (b : Rc) (hL : ∀ a ∈ L, a.ok) (hb : b.ok) : ∀ a ∈ stepC L b, a.ok := by
  intro a ha
  obtain ⟨x, hx, ha⟩ := List.mem_flatMap.1 ha
  exact minus_ok x b (hL x hx) hb a ha
theorem stepC_len (L : List Rc) (b : Rc) : (stepC L b).length ≤ 4 * L.length := by
  unfold stepC
  induction L with
  | nil => simp
  | cons x L ih =>
    have := minus_len x b
    simp only [List.flatMap_cons, List.length_append, List.length_cons]
    omega
theorem leftL_take (r : Rc) (l : List Rc) (k : Nat) (hk : k < l.length) : leftL r (l.take (k + 1)) = stepC (leftL r (l.take k)) (l.getD k default) := by
  unfold leftL
  rw [List.take_succ_eq_append_getElem hk, List.foldl_append, List.getD_eq_getElem?_getD, List.getElem?_eq_getElem hk]
  rfl
theorem leftL_ok (r : Rc) (hr : r.ok) : ∀ (l : List Rc), (∀ b ∈ l, b.ok) → ∀ a ∈ leftL r l, a.ok := by
  intro l hl
  have gen : ∀ (l : List Rc) (L : List Rc), (∀ b ∈ l, b.ok) → (∀ a ∈ L, a.ok) → ∀ a ∈ l.foldl stepC L, a.ok := by
    intro l
    induction l with
    | nil => intro L _ hL; exact hL
    | cons b l ih => intro L hl hL; exact ih _ (fun x hx => hl x (List.mem_cons_of_mem _ hx)) (stepC_ok L b hL (hl b List.mem_cons_self))
  exact gen l [r] hl (fun a ha => by rw [List.mem_singleton] at ha; rw [ha]; exact hr)
theorem leftL_len (r : Rc) (l : List Rc) : (leftL r l).length ≤ 4 ^ l.length := by
  have gen : ∀ (l : List Rc) (L : List Rc), (l.foldl stepC L).length ≤ 4 ^ l.length * L.length := by
    intro l
    induction l with
    | nil => intro L; simp
    | cons b l ih =>
      intro L
      have h1 := ih (stepC L b)
      have h2 := stepC_len L b
      have h3 := Nat.mul_le_mul_left (4 ^ l.length) h2
      rw [List.foldl_cons, List.length_cons, Nat.pow_succ]
      rw [← Nat.mul_assoc] at h3
      omega
  have := gen l [r]
  simpa [leftL] using this
theorem rect_getD {l : List Rc} {k : Nat} (hk : k < l.length) : l.getD k default ∈ l := by
  rw [List.getD_eq_getElem?_getD, List.getElem?_eq_getElem hk]
  exact List.getElem_mem _
theorem flat_step (L : List Rc) (b : Rc) (j : Nat) (hj : j < L.length) : stepC (L.take (j + 1)) b = stepC (L.take j) b ++ minusR (L.getD j default) b := by
  unfold stepC
  rw [List.take_succ_eq_append_getElem hj, List.flatMap_append, List.getD_eq_getElem?_getD, List.getElem?_eq_getElem hj]
  simp
set_option maxRecDepth 100000 in
set_option maxHeartbeats 4000000 in
theorem cover_calls (r : Rc) (hrk : r.ok) (A : Option Addr) (n c : Nat) (l : List Rc) (w : World) (hr : KRc.C w A n l) (hc : n ≤ c) (hn : n ≤ 6) (hok : ∀ b ∈ l, b.ok) :
    Calls Try.prog 19 #[rv r, .slice A n c] w fun e w' => ∃ v, e = .returned v ∧ ORc w' w.heap.size v (coverL r l) ∧ Below w.heap.size w w' := by
  have HR := Aside0.mk hr
  have HN := Aside0.mk hr.1
  have HOK := Aside0.mk hok
  have HLK := Aside0.mk (fun k => leftL_ok r hrk (l.take k) (fun b hb => hok b (List.mem_of_mem_take hb)))
  have HLL : Aside0 (∀ k, k ≤ n → (leftL r (l.take k)).length ≤ 4096) := ⟨fun k hk => by
    have h1 := leftL_len r (l.take k)
    have h2 : (l.take k).length ≤ 6 := by rw [List.length_take]; omega
    exact Nat.le_trans h1 (Nat.le_trans (Nat.pow_le_pow_right (by omega) h2) (by decide))⟩
  obtain ⟨g, hg⟩ : ∃ g, w.heap.size = g := ⟨_, rfl⟩
  obtain ⟨W, hW⟩ : ∃ W, w.alloc (rBox r) = W := ⟨_, rfl⟩
  have hb : Below w.heap.size w W := by rw [← hW]; exact below_alloc (Below.refl _ _) _
  have y0 : W.heap[g]? = some (rBox r) := by rw [← hW, ← hg]; exact blk_new w _
  obtain ⟨c0, c1, -⟩ := two_cells y0
  have HO0 : Aside0 (ORc (W.alloc (rBox r)) w.heap.size (.slice (some ⟨W.heap.size, 0, none⟩) 1 1) [r]) := ⟨ORc_lit1 r rfl hb.size⟩
  have HB0 : Aside0 (Below w.heap.size w (W.alloc (rBox r))) := ⟨below_alloc hb _⟩
  have HY0 : Aside0 ((W.alloc (rBox r)).heap[g]? = some (rBox r)) := ⟨blk_alloc y0 _⟩
  have HQ := Aside0.mk (fun d W => eqRc d W r hrk)
  obtain ⟨gs, hgs⟩ : ∃ gs, W.heap.size = gs := ⟨_, rfl⟩
  obtain ⟨V, hV⟩ : ∃ V, W.alloc (rBox r) = V := ⟨_, rfl⟩
  rw [hgs, hV] at HO0
  rw [hV] at HB0 HY0
  clear hr hok hb y0
  go_enter Try.func19, Try.ntmps19
  go_wp2_with fail
  clear c0 c1
  go_loopw [5, 7, 8, 10, 15] (fun v5 v7 v8 v10 v15 w' => ∃ (k : Nat), k ≤ n ∧ v15 = .int .i64 k ∧ Aside0 (ORc w' w.heap.size v5 (leftL r (l.take k))) ∧ Aside0 (Below w.heap.size w w') ∧ Aside0 (w'.heap[g]? = some (rBox r))) (fun _ _ _ _ v15 _ => n - (intOf v15).toNat)
  case atStart => exact ⟨0, Nat.zero_le _, rfl, HO0, HB0, HY0⟩
  case round =>
    obtain ⟨k, hk, rfl, HO, HB, HY⟩ := hrel
    by_cases hlt : k < n
    · have hln : k < l.length := by rw [HN.out]; exact hlt
      obtain ⟨ad, rfl, q0, q1⟩ := C_atRc (Kd.C_below HR.out HB.out) k hlt
      have h1 := leftL_take r l k hln
      have hbk := HOK.out _ (rect_getD hln)
      obtain ⟨b, hbb⟩ : ∃ b, l.getD k default = b := ⟨_, rfl⟩
      rw [hbb] at q0 q1 h1 hbk
      have hLk := HLK.out k
      have hLl := HLL.out k hk
      obtain ⟨L, hL⟩ : ∃ L, leftL r (l.take k) = L := ⟨_, rfl⟩
      rw [hL] at h1 hLk hLl HO
      obtain ⟨m, hm⟩ : ∃ m, L.length = m := ⟨_, rfl⟩
      rw [hm] at hLl
      obtain ⟨A5, c5, rfl, hc5, hC5⟩ := ORc_readn HO.out m hm
      obtain ⟨g7, hg7⟩ : ∃ g, wr.heap.size = g := ⟨_, rfl⟩
      obtain ⟨W7, hW7⟩ : ∃ W7, wr.alloc (rBox b) = W7 := ⟨_, rfl⟩
      have hb7 : Below wr.heap.size wr W7 := by rw [← hW7]; exact below_alloc (Below.refl _ _) _
      have hx7 : W7.heap[g7]? = some (rBox b) := by rw [← hW7, ← hg7]; exact blk_new wr _
      have HX7 := Aside0.mk hx7
      have HC7 := Aside0.mk (Kd.C_below hC5 hb7)
      have HB7 := Aside0.mk (below_step HB.out hb7)
      have HY7 := Aside0.mk (blk_below HY.out hb7)
      have H1 := Aside0.mk h1
      have HLK2 := Aside0.mk hLk
      have HBK := Aside0.mk hbk
      have HM := Aside0.mk hm
      have j1 : (k : Int) < (n : Int) := by omega
      have j2 : (0 : Int) ≤ (k : Int) := by omega
      clear h1 hbk hbb hLk hL hC5 hb7 hx7 hm hln
      go_wp2_with fail
      go_loopw [8, 10, 21] (fun v8 v10 v21 w' => ∃ (j : Nat), j ≤ m ∧ v21 = .int .i64 j ∧ Aside0 (ORc w' W7.heap.size v8 (stepC (L.take j) b)) ∧ Aside0 (Below W7.heap.size W7 w')) (fun _ _ v21 _ => m - (intOf v21).toNat)
      case atStart => exact ⟨0, Nat.zero_le _, rfl, ⟨Kd.R_nil _ _ _ _ _⟩, ⟨Below.refl _ _⟩⟩
      case round =>
        obtain ⟨j, hj, rfl, HO8, HB8⟩ := hrel
        by_cases hlt2 : j < m
        · have hlm : j < L.length := by rw [HM.out]; exact hlt2
          obtain ⟨ad5, rfl, s0, s1⟩ := C_atRc (Kd.C_below HC7.out HB8.out) j hlt2
          have hak := HLK2.out _ (rect_getD hlm)
          have hst := flat_step L b j hlm
          have hsl := stepC_len (L.take j) b
          rw [List.length_take] at hsl
          obtain ⟨a, haa⟩ : ∃ b, L.getD j default = b := ⟨_, rfl⟩
          rw [haa] at s0 s1 hak hst
          have hml := minus_len a b
          obtain ⟨x0, x1, -⟩ := two_cells (blk_below HX7.out HB8.out)
          obtain ⟨g9, hg9⟩ : ∃ g, wr.heap.size = g := ⟨_, rfl⟩
          obtain ⟨W9, hW9⟩ : ∃ W9, wr.alloc (rBox a) = W9 := ⟨_, rfl⟩
          have hb9 : Below wr.heap.size wr W9 := by rw [← hW9]; exact below_alloc (Below.refl _ _) _
          have hx9 : W9.heap[g9]? = some (rBox a) := by rw [← hW9, ← hg9]; exact blk_new wr _
          obtain ⟨t0, t1, -⟩ := two_cells hx9
          obtain ⟨t2, t3, -⟩ := two_cells (blk_below (blk_below HX7.out HB8.out) hb9)
          have HMC := Aside0.mk (minus_calls a b hak HBK.out W9)
          have HO9 := Aside0.mk (Kd.R_below HO8.out hb9)
          have HB9 := Aside0.mk (below_step HB8.out hb9)
          have HST := Aside0.mk hst
          have hsl2 : (stepC (L.take j) b).length ≤ 20000 := by omega
          have HSL := Aside0.mk hsl2
          have i1 : (j : Int) < (m : Int) := by omega
          have i2 : (0 : Int) ≤ (j : Int) := by omega
          obtain ⟨mm, hmm⟩ : ∃ mm, (minusR a b).length = mm := ⟨_, rfl⟩
          rw [hmm] at hml
          have HMM := Aside0.mk hmm
          clear hak hst hsl haa hb9 hx9 x0 x1 hsl2 hmm hlm
          go_wp2_with fail
          (with_reducible refine HMC.out.mono ?_)
          rintro e w10 ⟨v10, rfl, hO10, hb10⟩
          obtain ⟨A10, c10, rfl, hc10, hC10⟩ := ORc_readn hO10 mm HMM.out
          have HC10 := Aside0.mk hC10
          have HO11 := Aside0.mk (Kd.R_below HO9.out hb10)
          have HB11 := Aside0.mk (below_step HB9.out hb10)
          clear hO10 hC10 hb10 t0 t1 t2 t3
          go_wp2_with ((with_reducible refine gate_dst (N := 29) rfl ?_); refine app_rcs rfl rfl rfl rfl HO11.out HC10.out HB11.out.size (by have := HSL.out; omega) ?_; intro v7 w7 hO7 hb7 _; have HO7 := Aside0.mk hO7; have HB7 := Aside0.mk (HB11.out.trans hb7); clear hO7 hb7)
          go_roundw
          case rel => exact ⟨j + 1, hlt2, by push_cast; rfl, ⟨by rw [HST.out]; exact HO7.out⟩, HB7⟩
          case measure => simp [intOf]; omega
        · have i1 : ¬ (j : Int) < (m : Int) := by omega
          have HF : Aside0 (stepC (L.take j) b = leftL r (l.take (k + 1))) := ⟨by rw [H1.out, List.take_of_length_le (by have := HM.out; omega)]⟩
          go_wp2_with fail
          go_roundw
          case rel => exact ⟨k + 1, hlt, by push_cast; rfl, ⟨by rw [← HF.out]; exact Kd.R_lower HO8.out HB7.out.size⟩, ⟨below_step HB7.out HB8.out⟩, ⟨blk_below HY7.out HB8.out⟩⟩
          case measure => simp [intOf]; omega
    · clear hg
      obtain rfl : k = n := by omega
      have j1 : ¬ (k : Int) < (k : Int) := by omega
      obtain ⟨c0, c1, -⟩ := two_cells HY.out
      have HF : Aside0 (leftL r (l.take k) = leftL r l) := ⟨by rw [List.take_of_length_le (by have := HN.out; omega)]⟩
      have hcl : coverL r l = if k = 0 ∧ r.isZ = true then [] else leftL r l := by unfold coverL; rw [HN.out]
      have hq := HQ.out
      rw [show ((decide (r.e0 = 0) && decide (r.t0 = 0)) && (decide (r.e1 = 0) && decide (r.t1 = 0))) = r.isZ from rfl] at hq
      by_cases hk0 : k = 0
      · have i1 : (k : Int) = 0 := by omega
        cases hz : r.isZ with
        | true =>
          rw [hz] at hq hcl
          have HCL : Aside0 (coverL r l = []) := ⟨by rw [hcl, if_pos ⟨hk0, rfl⟩]⟩
          clear hcl hz hk0
          go_wp2_with fail
          go_ret
          exact ⟨_, rfl, by rw [HCL.out]; exact Kd.R_nil _ _ _ _ _, HB.out⟩
        | false =>
          rw [hz] at hq hcl
          have HCL : Aside0 (coverL r l = leftL r l) := ⟨by rw [hcl, if_neg (fun h => by cases h.2)]⟩
          clear hcl hz hk0
          go_wp2_with fail
          go_ret
          exact ⟨_, rfl, by rw [HCL.out, ← HF.out]; exact HO.out, HB.out⟩
      · have i1 : ¬ (k : Int) = 0 := by omega
        have i2 : ((k : Int) == 0) = false := by simpa using i1
        have HCL : Aside0 (coverL r l = leftL r l) := ⟨by rw [hcl, if_neg (fun h => hk0 h.1)]⟩
        clear hcl hk0
        go_wp2_with fail
        go_ret
        exact ⟨_, rfl, by rw [HCL.out, ← HF.out]; exact HO.out, HB.out⟩
def aL : Rc := ⟨0, 4, 0, 4⟩
def bL : Rc := ⟨1, 2, 1, 2⟩
theorem mk_aL : mkR ⟨0, 4⟩ ⟨0, 4⟩ = aL := rfl
theorem mk_bL : mkR ⟨1, 2⟩ ⟨1, 2⟩ = bL := rfl
theorem aL_ok : aL.ok := by unfold Rc.ok aL; decide
theorem bL_ok : bL.ok := by unfold Rc.ok bL; decide
theorem minus_L : (minusR aL bL).length = 4 := by decide
theorem area_L : aL.area = 16 := by decide
theorem has_L1 : aL.has 3 3 = true := by decide
theorem has_L2 : aL.has 4 3 = false := by decide
set_option maxRecDepth 100000 in
set_option maxHeartbeats 4000000 in
theorem lives_calls (w : World) : Calls Try.prog 8 #[] w fun e w' => e = .returned (.bool true) ∧ Below w.heap.size w w' := by
  have hm1 : S.Sp.may ⟨0, 4⟩ = true := by decide
  have hm2 : S.Sp.may ⟨1, 2⟩ = true := by decide
  have HO1 := Aside0.mk (of_calls 0 4 0 4 w)
  have HO2 := Aside0.mk (fun w => of_calls 1 2 1 2 w)
  rw [mk_aL, hm1] at HO1
  rw [mk_bL, hm2] at HO2
  have HOO1 : Aside0 (Calls Try.prog 21 #[.int .i64 0, .int .i64 4, .agg #[.int .i64 0, .int .i64 4]] w fun e w' => e = .returned (.tuple #[.agg #[cx aL.e0 aL.t0, cx aL.e1 aL.t1], .bool true]) ∧ Below w.heap.size w w') := HO1
  have HOO2 : Aside0 (∀ w, Calls Try.prog 21 #[.int .i64 1, .int .i64 2, .agg #[.int .i64 1, .int .i64 2]] w fun e w' => e = .returned (.tuple #[.agg #[cx bL.e0 bL.t0, cx bL.e1 bL.t1], .bool true]) ∧ Below w.heap.size w w') := HO2
  have HMI := Aside0.mk (fun w => minus_calls aL bL aL_ok bL_ok w)
  have HAR := Aside0.mk (fun w => area_calls aL aL_ok w)
  have HH1 := Aside0.mk (fun w => phas_calls aL aL_ok 3 3 w)
  have HH2 := Aside0.mk (fun w => phas_calls aL aL_ok 4 3 w)
  rw [area_L] at HAR
  rw [has_L1] at HH1
  rw [has_L2] at HH2
  have HML := Aside0.mk minus_L
  generalize aL = a at *
  generalize bL = b at *
  clear HO1 HO2 hm1 hm2
  go_enter Try.func8, Try.ntmps8
  go_wp2_with fail
  (with_reducible refine HOO1.out.mono ?_)
  rintro e w1 ⟨rfl, hb1⟩
  obtain ⟨g1, hg1⟩ : ∃ g, w1.heap.size = g := ⟨_, rfl⟩
  obtain ⟨W1, hW1⟩ : ∃ W1, w1.alloc (rBox a) = W1 := ⟨_, rfl⟩
  have hbW1 : Below w.heap.size w W1 := by rw [← hW1]; exact below_alloc hb1 _
  have hx1 : W1.heap[g1]? = some (rBox a) := by rw [← hW1, ← hg1]; exact blk_new w1 _
  have HB1 := Aside0.mk hbW1
  have HX1 := Aside0.mk hx1
  clear hb1 hbW1 hx1
  go_wp2_with fail
  (with_reducible refine (HOO2.out W1).mono ?_)
  rintro e w2 ⟨rfl, hb2⟩
  obtain ⟨g2, hg2⟩ : ∃ g, w2.heap.size = g := ⟨_, rfl⟩
  obtain ⟨W2, hW2⟩ : ∃ W2, w2.alloc (rBox b) = W2 := ⟨_, rfl⟩
  have hbW2 : Below W1.heap.size W1 W2 := by rw [← hW2]; exact below_alloc hb2 _
  have hx2 : W2.heap[g2]? = some (rBox b) := by rw [← hW2, ← hg2]; exact blk_new w2 _
  obtain ⟨d0, d1, -⟩ := two_cells hx2
  obtain ⟨c0, c1, -⟩ := two_cells (blk_below HX1.out hbW2)
  have HB2 := Aside0.mk (below_step HB1.out hbW2)
  have HX2 := Aside0.mk (blk_below HX1.out hbW2)
  clear hb2 hbW2 hx2
  go_wp2_with fail
  (with_reducible refine (HMI.out W2).mono ?_)
  rintro e w3 ⟨v3, rfl, hO3, hb3⟩
  obtain ⟨A3, c3, rfl, -, -⟩ := ORc_readn hO3 4 HML.out
  have hx3 := blk_below HX2.out hb3
  have HX3 := Aside0.mk hx3
  have HB3 := Aside0.mk (below_step HB2.out hb3)
  clear c0 c1 d0 d1
  obtain ⟨c0, c1, -⟩ := two_cells hx3
  clear hO3 hb3 hx3
  go_wp2_with fail
  (with_reducible refine (HAR.out w3).mono ?_)
  rintro e w4 ⟨rfl, hb4⟩
  have hx4 := blk_below HX3.out hb4
  have HX4 := Aside0.mk hx4
  have HB4 := Aside0.mk (below_step HB3.out hb4)
  clear c0 c1
  obtain ⟨c0, c1, -⟩ := two_cells hx4
  clear hb4 hx4
  go_wp2_with fail
  (with_reducible refine (HH1.out w4).mono ?_)
  rintro e w5 ⟨rfl, hb5⟩
  have hx5 := blk_below HX4.out hb5
  have HX5 := Aside0.mk hx5
  have HB5 := Aside0.mk (below_step HB4.out hb5)
  clear c0 c1
  obtain ⟨c0, c1, -⟩ := two_cells hx5
  clear hb5 hx5
  go_wp2_with fail
  (with_reducible refine (HH2.out w5).mono ?_)
  rintro e w6 ⟨rfl, hb6⟩
  have HB6 := Aside0.mk (below_step HB5.out hb6)
  clear hb6 c0 c1
  go_wp2_with fail
  go_ret
  exact ⟨rfl, HB6.out⟩
end Go.Proofs.Ythmkpgemilmikaa.A
