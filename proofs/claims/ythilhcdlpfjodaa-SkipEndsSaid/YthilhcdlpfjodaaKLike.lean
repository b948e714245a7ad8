/- Has a list what it must have, from a key on? -/
import Derived.Test.YthilhcdlpfjodaaKLawRows
namespace Go.Proofs.Ythilhcdlpfjodaa.A
open Go Go.RowKit Go.Shelf Go.Proofs.YthilhcdlpfjodaaW.PrintWords Go.Proofs.YthilhcdlpfjodaaW.PrintLast Go.Proofs.YthilhcdlpfjodaaW.PrintMore
attribute [local go_sem] Oper.semAt_some wide_fn wide_depth
set_option linter.unusedVariables false
set_option linter.unusedSimpArgs false

abbrev inB (k : Int) : Obj := .cells #[.int .i64 k] 3
abbrev itsB (A : Option Addr) (n c : Nat) : Obj := .cells #[.slice A n c] 25
abbrev boB (b : Bool) : Obj := .cells #[.bool b] 4
/-- What stands while the keys are told: the counter's cell alone is written. -/
def LkJ (w3 : World) (ga : Nat) (pre : List It) (W : World) : Prop := W.heap[ga]? = some (inB (pre.length : Int)) ∧ Frm [ga] w3 W
theorem LkJ_row {w3 A B : World} {ga : Nat} {pre : List It} {row : Option Nat} (h : LkJ w3 ga pre A) (hga : ga < w3.heap.size) (hg : A.grownBy B row) (hr : ∀ k, row = some k → w3.heap.size ≤ k) : LkJ w3 ga pre B := by
  obtain ⟨h1, h2⟩ := h
  have hs := h2.size
  refine ⟨(hg.block ga (by omega) (fun e => by have := hr _ e.symm; omega)).trans h1, hg.os.trans h2.os, hg.tape.trans h2.tape, hg.output.trans h2.output, Nat.le_trans hs hg.size, fun k hk hn => ?_⟩
  exact (hg.block k (by omega) (fun e => by have := hr _ e.symm; omega)).trans (h2.block k hk hn)
theorem DI_frm1 {w w3 W : World} {L i ga : Nat} {v : Value} {l : List It} (h : DI w w3 L i v l) (hf : Frm [ga] w3 W) (hga : w.heap.size ≤ ga) {k : Int} (hg : w3.heap[ga]? = some (inB k)) : DI w W L i v l := by
  obtain ⟨xs, h1, h2, h3, h4⟩ := h
  have hne : ∀ k ∈ L :: blks xs, k ∉ [ga] := fun k hk e => by
    rw [List.mem_singleton] at e
    subst e
    have := SL_types h1.1.1 k hk _ _ _ hg
    revert this
    decide
  refine ⟨xs, ⟨⟨SL_frm h1.1.1 hf hne, h1.1.2⟩, h1.2.1, ?_⟩, h2, Frm.below h3 hf (fun k hk => by rw [List.mem_singleton] at hk; rw [hk]; exact hga) (Nat.le_refl _), h4⟩
  refine Kd.R_mono (Kd.R_move (Kd.R_bound h1.2.2) ?_) (fun _ _ => trivial)
  rintro k ⟨-, a1, a2, q, hq, cells, hc⟩
  refine hf.block k a2 (fun e => ?_)
  rw [List.mem_singleton] at e
  subst e
  rw [hg] at hc
  injection hc with hc
  injection hc with e1 e2
  have : q = 47 := by simpa [KIt, Kd.iso, Kd.pair, Kd.string, Kd.int, Kd.scalar] using hq
  rw [this] at e2
  revert e2
  decide
theorem feq_nil (f : Fn) (m b : Array Value) (w : World) : (binOp .eql 44 (.func f m b) .nilFunc).run Try.prog w = .ok (.bool false) w := by
  have hp := Try.underlying44
  have h : ∀ d : Nat, (Op.equalIn (d + 1) 44 (.func f m b) .nilFunc).run Try.prog w = .ok false w := fun d => by
    simp [Op.equalIn, run_underlying hp]
  simp only [binOp]
  simp [Op.equal, Op.maxDepth, h 9999]
theorem results_cellB {fn : Func} {p : Tmp} (h : fn.results = #[.cell p 4]) (tmps : Array Value) (w : World) (g : Nat) (b : Bool) (hp : tmps.getD p undef = .pointer (some ⟨g, 0, none⟩)) (hg : w.heap[g]? = some (boB b)) :
    (results fn tmps).run Try.prog w = .ok (.bool b) w := by
  have hp' : tmps[p]?.getD undef = .pointer (some ⟨g, 0, none⟩) := by simpa using hp
  have hc := (one_cell hg).1
  have hu := Try.underlying4
  simp [results, h, hp', asAddr, go_sem, hc, hu]
set_option maxRecDepth 100000 in
set_option maxHeartbeats 4000000 in
theorem like_calls (w W : World) (L i : Nat) (v : Value) (l : List It) (h : DI w W L i v l) (hi : i ≤ 900) (key : ByteArray) :
    Calls Try.prog 20 #[.pointer (some ⟨L, 0, none⟩), v, .string key] W fun e w' => e = .returned (.bool true) ∧ Below W.heap.size W w' := by
  obtain ⟨n, hn⟩ : ∃ n, l.length = n := ⟨_, rfl⟩
  have hll := DI_len h
  have hdoc := DI_doc h
  rw [hn] at hdoc
  obtain ⟨A, c, rfl, hc, hC⟩ := hdoc
  have hn9 : n ≤ 900 := by omega
  have H := Aside0.mk h
  have HDOC : Aside0 (∀ W', DI w W' L i (.slice A n c) l → KIt.C W' A n l) := ⟨fun W' h' => by
    obtain ⟨A', c', e, hc', hC'⟩ := DI_doc h'
    rw [hn] at e hC'
    injection e with e1 e2 e3
    subst e1
    exact hC'⟩
  have HLN := Aside0.mk hn
  obtain ⟨g6, hg6⟩ : ∃ g, W.heap.size = g := ⟨_, rfl⟩
  have H0 := Aside0.mk (DI_below h (below_alloc (Below.refl W.heap.size W) (boB false)))
  obtain ⟨W0, hW0⟩ : ∃ W0, W.alloc (boB false) = W0 := ⟨_, rfl⟩
  have hx0 := heap_alloc_new W (boB false)
  rw [hW0] at H0 hx0
  have hb0 : Below W.heap.size W W0 := by rw [← hW0]; exact below_alloc (Below.refl _ _) _
  rw [hg6] at hx0
  have HX0 := Aside0.mk hx0
  have HB0 := Aside0.mk hb0
  have HLC := Aside0.mk (DI_lenc H0.out)
  rw [hn] at HLC
  have HHC := Aside0.mk (DI_height H0.out)
  have HRH := Aside0.mk (rheight_calls A n c l W0 (HDOC.out _ H0.out) hc (by omega))
  obtain ⟨ht, hht⟩ : ∃ k, heightS l = k := ⟨_, rfl⟩
  rw [hht] at HHC HRH
  clear h hll hC hn hx0 hb0 hht
  refine (callsIn_wide (n := 0)).1 ?_
  refine callsIn_of_wp_marks Try.func20 rfl trivial ?_ rfl
  simp only [Try.ntmps20, List.size_toArray, List.length_cons, List.length_nil, Nat.reduceAdd, Nat.reduceSub, Array.replicate_succ, Array.replicate_zero, List.push_toArray, List.append_toArray, List.nil_append, List.cons_append]
  refine wpIn_wide.2 ?_
  go_wp2_with fail
  (with_reducible refine HLC.out.mono ?_)
  rintro e w1 ⟨rfl, rfl⟩
  go_wp2_with fail
  (with_reducible refine HHC.out.mono ?_)
  rintro e w1 ⟨rfl, rfl⟩
  go_wp2_with fail
  (with_reducible refine HRH.out.mono ?_)
  rintro e w1 ⟨rfl, rfl⟩
  go_wp2_with fail
  go_loopw [7] (fun v7 w' => ∃ (q : Nat), v7 = .int .i64 q ∧ q ≤ 10 ∧ Aside0 (DI w w' L i (.slice A n c) l ∧ Below W.heap.size W w' ∧ w'.heap[g6]? = some (boB false))) (fun v7 _ => 10 - (intOf v7).toNat)
  case atStart => exact ⟨0, rfl, by omega, ⟨H0.out, HB0.out, HX0.out⟩⟩
  case round =>
    obtain ⟨q, rfl, hq, HI⟩ := hrel
    by_cases hq9 : q ≤ 9
    · have j1 : (q : Int) ≤ 9 := by omega
      have HRW := Aside0.mk (DI_row HI.out.1 hi (q : Int) (by omega) (by omega))
      have hxl := rowS_len l (q : Int)
      obtain ⟨X, hX⟩ : ∃ X, rowS l (q : Int) = X := ⟨_, rfl⟩
      rw [hX] at HRW hxl
      have HX := Aside0.mk hX
      have HXL : Aside0 (X.length ≤ 100000) := ⟨by have := HLN.out; omega⟩
      clear hxl hX
      go_wp2_with fail
      (with_reducible refine HRW.out.mono ?_)
      rintro e w2 ⟨A2, c2, rfl, hc2, hC2, hb2⟩
      have HC2 := Aside0.mk hC2
      have HD2 := Aside0.mk (DI_below HI.out.1 hb2)
      have HB2 := Aside0.mk (below_step HI.out.2.1 hb2)
      have HG2 := Aside0.mk (blk_keep HI.out.2.2 hb2)
      have HRR := Aside0.mk (rrow_calls A n c l (q : Int) w2 (HDOC.out _ HD2.out) hc (by omega))
      rw [HX.out] at HRR
      clear hC2 hb2
      go_wp2_with fail
      (with_reducible refine HRR.out.mono ?_)
      rintro e w3 ⟨u3, rfl, hO3, hb3⟩
      obtain ⟨A3, c3, rfl, hc3, hC3⟩ := OStr_readn hO3 _ rfl
      have HC3 := Aside0.mk hC3
      have HC23 := Aside0.mk (Kd.C_below HC2.out hb3)
      have HD3 := Aside0.mk (DI_below HD2.out hb3)
      have HB3 := Aside0.mk (below_step HB2.out hb3)
      have HG3 := Aside0.mk (blk_keep HG2.out hb3)
      clear hO3 hC3 hb3
      go_wp2_with fail
      (with_reducible refine (same_calls _ _ _ _ _ _ X X _ HC23.out HC3.out hc2 hc3 HXL.out HXL.out).mono ?_)
      rintro e w4 ⟨rfl, hb4⟩
      rw [show decide (X = X) = true by simp]
      have HD4 := Aside0.mk (show _ ∧ _ ∧ _ from ⟨DI_below HD3.out hb4, below_step HB3.out hb4, blk_keep HG3.out hb4⟩)
      clear hb4
      go_wp2_with fail
      go_roundw
      case rel => exact ⟨q + 1, by push_cast; rfl, by omega, HD4⟩
      case measure => simp [intOf]; omega
    · have j1 : ¬ (q : Int) ≤ 9 := by omega
      have HRF := Aside0.mk (rfrom_calls A n c l key wr (HDOC.out _ HI.out.1) hc (by omega))
      obtain ⟨m, hm⟩ : ∃ m, n - atS l key = m := ⟨_, rfl⟩
      rw [hm] at HRF
      have HM := Aside0.mk hm
      have hmn : m ≤ 900 := by omega
      clear hm
      go_wp2_with fail
      (with_reducible refine HRF.out.mono ?_)
      rintro e w5 ⟨A5, c5, rfl, hc5, hC5, hb5⟩
      have HC5 := Aside0.mk hC5
      have HD5 := Aside0.mk (show _ ∧ _ ∧ _ from ⟨DI_below HI.out.1 hb5, below_step HI.out.2.1 hb5, blk_keep HI.out.2.2 hb5⟩)
      clear hC5 hb5
      go_wp2_with fail
      obtain ⟨g, hg⟩ : ∃ g, w5.heap.size = g := ⟨_, rfl⟩
      (with_reducible refine (from_calls _ L key).mono ?_)
      rintro e w6 ⟨rfl, hw6⟩
      simp only [World.size_alloc, hg]
      have hz6 : w6.heap.size = g + 4 := by rw [← hw6]; simp only [World.size_alloc, hg]
      have hbb : Below w5.heap.size w5 w6 := by rw [← hw6]; exact below_alloc (below_alloc (below_alloc (below_alloc (Below.refl _ _) _) _) _) _
      have ha : ∀ (V : World) (o : Obj) (k : Nat), V.heap.size = k → (V.alloc o).heap[k]? = some o := fun V o k e => by rw [← e]; exact heap_alloc_new V o
      have hk : ∀ {V V1 : World} {k : Nat} {o o1 : Obj}, V.heap[k]? = some o → (V.alloc o1).heap[k]? = some o := fun hv => blk_keep hv (below_alloc (Below.refl _ _) _)
      have x0 : w6.heap[g]? = some (itsB A5 m c5) := by rw [← hw6]; exact hk (V1 := w6) (hk (V1 := w6) (hk (V1 := w6) (ha _ _ _ hg)))
      have x1 : w6.heap[g + 1]? = some (inB 0) := by rw [← hw6]; exact hk (V1 := w6) (hk (V1 := w6) (ha _ _ _ (by rw [World.size_alloc, hg])))
      have x2 : w6.heap[g + 1 + 1]? = some (lpB L) := by rw [← hw6]; exact hk (V1 := w6) (ha _ _ _ (by rw [World.size_alloc, World.size_alloc, hg]))
      have x3 : w6.heap[g + 1 + 1 + 1]? = some (stB key) := by rw [← hw6]; exact ha _ _ _ (by rw [World.size_alloc, World.size_alloc, World.size_alloc, hg])
      have HD6 := Aside0.mk (show DI w w6 L i (.slice A n c) l ∧ Below W.heap.size W w6 ∧ w6.heap[g6]? = some (boB false) from ⟨DI_below HD5.out.1 hbb, below_step HD5.out.2.1 hbb, blk_keep HD5.out.2.2 hbb⟩)
      have HX := Aside0.mk (show w6.heap[g]? = some (itsB A5 m c5) ∧ w6.heap[g + 1]? = some (inB 0) ∧ w6.heap[g + 1 + 1]? = some (lpB L) ∧ w6.heap[g + 1 + 1 + 1]? = some (stB key) from ⟨x0, x1, x2, x3⟩)
      have hgw : w.heap.size ≤ g := by rw [← hg]; exact (DI_b HD5.out.1).size
      have HGW := Aside0.mk hgw
      have HZ6 := Aside0.mk hz6
      have hfe := feq_nil (.func 29) #[] #[.pointer (some ⟨g + 1 + 1, 0, none⟩), .pointer (some ⟨g + 1 + 1 + 1, 0, none⟩)]
      clear hbb ha hk x0 x1 x2 x3 hw6 hgw hz6
      go_wp2_with fail
      obtain ⟨xs, k1, k2, k3, k4⟩ := HD6.out.1
      have hS6 : SK w6 L xs := k1.1
      have hT6 : xs.tail.map Nd.it = l := k1.2.1
      have hlt6 := SL_lt hS6.1
      have hne1 : ∀ k ∈ L :: blks xs, k ≠ g + 1 := fun k hk e => by
        subst e
        have := SL_types hS6.1 _ hk _ _ _ HX.out.2.1
        revert this
        decide
      have hitr := from_itr w6 (g + 1 + 1) L xs key hS6 HX.out.2.2.1 HX.out.2.2.2
      rw [hT6] at hitr
      have hga : g + 1 < w6.heap.size := by have := HZ6.out; omega
      have hmem : ∀ k ∈ (g + 1 + 1) :: (g + 1 + 1 + 1) :: L :: blks xs, k ≠ g + 1 ∧ k < w6.heap.size := fun k hk => by
        simp only [List.mem_cons] at hk
        have := HZ6.out
        rcases hk with rfl | rfl | hk
        · omega
        · omega
        · have hk' : k ∈ L :: blks xs := List.mem_cons.2 hk
          exact ⟨hne1 k hk', hlt6 k hk'⟩
      refine (wpIn_wide (n := 0)).1 ?_
      refine range_itr (α := It) rfl (enters_of Try.func29 (by kernel_rfl) rfl) hitr
        (fun X Y h k h1 h2 => h.block k h2) (fun h k => h.trans k)
        (fun X Y row hs hg hr => ⟨hg.size, fun k hk => hg.block k (by have := (hmem k hk).2; omega) (fun e => by have := (hr k e.symm).1; have := (hmem k hk).2; omega)⟩) (fun x => rfl)
        (LkJ w6 (g + 1)) (fun _ _ _ => False) (fun s X Y row hI hg hr => LkJ_row hI hga hg (fun k e => (hr k e).1)) (fun c s X Y row hI hg hr => hI) (fun s X Y hI hb => LkJ_row hI hga (grown_below hb none) (fun k e => by cases e)) (fun c s X Y hI hg => hI)
        (fun pre x s X Y row hI hg hr => hI) ⟨HX.out.2.1, Frm.refl _ _⟩
        (a₁ := ?_) ?assign ?body ?done ?stop
      case assign =>
        intro lp x W' K hK
        gi_wp2
        exact hK
      case body =>
        rintro lp pre x W' hsW hI hOk
        have HDW := Aside0.mk (DI_frm1 HD6.out.1 hI.2 (by have := HGW.out; omega) HX.out.2.1)
        have hCW := HC5.out W' (HDOC.out W' HDW.out)
        have hpl : pre.length + 1 ≤ m := by
          have h1 := hOk.length_le
          rw [hCW.1, List.length_append] at h1
          exact h1
        obtain ⟨ad, rfl, q0, q1, q2⟩ := C_atIt hCW pre.length (by omega)
        have hx : (fromS l key).getD pre.length default = x := by
          obtain ⟨t, ht⟩ := hOk
          rw [← ht, List.getD_eq_getElem?_getD, List.append_assoc, List.getElem?_append_right (Nat.le_refl _), Nat.sub_self]
          rfl
        rw [hx] at q0 q2
        have hxg := (hI.2.block g (by have := HZ6.out; omega) (by simp)).trans HX.out.1
        obtain ⟨p0, f0⟩ := one_cell hxg
        obtain ⟨p1, f1⟩ := one_cell hI.1
        have HI := Aside0.mk hI
        have HOK := Aside0.mk hOk
        obtain ⟨z, hz⟩ : ∃ z, pre.length = z := ⟨_, rfl⟩
        rw [hz] at p1 q0 q1 q2 hpl
        have HZ := Aside0.mk hz
        have i1 : ¬ (m : Int) ≤ (z : Int) := by omega
        have i2 : (z : Int) < (m : Int) := by omega
        have i3 : (0 : Int) ≤ (z : Int) := by omega
        clear hCW hx hxg hI hOk q1 hz hitr k1 k2 k3 k4 hS6 hT6 hlt6
        gi_wp2
        refine ⟨Keep2.set _ _ (.inl (by omega)), ⟨by rw [World.size_setCell]; exact Nat.le_refl _, fun k hk => Below.heap_setCell _ _ _ k (hmem k hk).1⟩, ?_, Frm.set HI.out.2 (by simp) _⟩
        have h1 := one_set (v := .int .i64 ((z : Int) + 1)) HI.out.1
        rw [h1, List.length_append, HZ.out]
        rfl
      case done =>
        rintro ys W' hS hI hK
        subst hS
        have HDW := Aside0.mk (DI_frm1 HD6.out.1 hI.2 (by have := HGW.out; omega) HX.out.2.1)
        have HBW : Aside0 (Below W.heap.size W W') := ⟨Frm.below HD6.out.2.1 hI.2 (fun k hk => by rw [List.mem_singleton] at hk; rw [hk]; have := HD5.out.2.1.size; omega) (Nat.le_refl _)⟩
        have hCW := HC5.out W' (HDOC.out W' HDW.out)
        have hxg := (hI.2.block g (by have := HZ6.out; omega) (by simp)).trans HX.out.1
        have hx6 : W'.heap[g6]? = some (boB false) := by
          have hlt := (Array.getElem?_eq_some_iff.1 HD6.out.2.2).1
          refine (hI.2.block g6 hlt (fun e => ?_)).trans HD6.out.2.2
          rw [List.mem_singleton] at e
          have h1 := HD6.out.2.2
          rw [e, HX.out.2.1] at h1
          injection h1 with h1
          injection h1 with h1 h2
          revert h2
          decide
        have h1 := hI.1
        rw [hCW.1] at h1
        have HP0 := Aside0.mk hxg
        have HP1 := Aside0.mk h1
        have HP6 := Aside0.mk hx6
        have HK := Aside0.mk hK
        have HFL := Aside0.mk (DI_floor HDW.out key)
        have HRFL := Aside0.mk (fun (V : World) (hV : KIt.C V A n l) => rfloor_calls A n c l key V hV hc (by omega))
        obtain ⟨f, hf⟩ : ∃ k, (floorS l key).1 = k := ⟨_, rfl⟩
        obtain ⟨is, his⟩ : ∃ k, (floorS l key).2 = k := ⟨_, rfl⟩
        rw [hf, his] at HFL HRFL
        clear hCW hxg hx6 h1 hI hK hf his hitr k1 k2 k3 k4 hS6 hT6 hlt6 hne1 hga hmem
        go_wp2_with fail
        (with_reducible refine HFL.out.mono ?_)
        rintro e w7 ⟨rfl, hb7⟩
        have HDW7 := Aside0.mk (DI_below HDW.out hb7)
        have HB7 := Aside0.mk (below_step HBW.out hb7)
        have HX7 := Aside0.mk (show w7.heap[g]? = _ ∧ w7.heap[g + 1]? = _ ∧ w7.heap[g6]? = _ ∧ w7.heap[w6.heap.size]? = _ from ⟨blk_keep HP0.out hb7, blk_keep HP1.out hb7, blk_keep HP6.out hb7, blk_keep HK.out hb7⟩)
        clear hb7
        go_wp2_with fail
        (with_reducible refine (HRFL.out _ (HDOC.out _ HDW7.out)).mono ?_)
        rintro e w8 ⟨rfl, hb8⟩
        have HB8 := Aside0.mk (below_step HB7.out hb8)
        have HX8 := Aside0.mk (show w8.heap[g]? = _ ∧ w8.heap[g + 1]? = _ ∧ w8.heap[g6]? = _ ∧ w8.heap[w6.heap.size]? = _ from ⟨blk_keep HX7.out.1 hb8, blk_keep HX7.out.2.1 hb8, blk_keep HX7.out.2.2.1 hb8, blk_keep HX7.out.2.2.2 hb8⟩)
        clear hb8
        obtain ⟨p0, f0⟩ := one_cell HX8.out.1
        obtain ⟨p1, f1⟩ := one_cell HX8.out.2.1
        obtain ⟨p6, f6⟩ := one_cell HX8.out.2.2.1
        go_wp2_with fail
        have hlt6 : g6 < w6.heap.size := (Array.getElem?_eq_some_iff.1 HD6.out.2.2).1
        have hK2 : (w8.setCell ⟨g6, 0, none⟩ (.bool true)).heap[w6.heap.size]? = some (.deferred (some [])) := (Below.heap_setCell _ _ _ _ (fun e => by simp only at e; omega)).trans HX8.out.2.2.2
        refine ⟨by simp, .inl ⟨_, _, rfl, run_takeDeferred hK2, ?_⟩⟩
        have hgp := grownBy_putObj' (w8.setCell ⟨g6, 0, none⟩ (.bool true)) w6.heap.size (.deferred none)
        have hr6 : ((w8.setCell ⟨g6, 0, none⟩ (.bool true)).putObj w6.heap.size (.deferred none)).heap[g6]? = some (boB true) := (World.putObj_heap_other (by omega)).trans (one_set HX8.out.2.2.1)
        have hbs : Below W.heap.size W (w8.setCell ⟨g6, 0, none⟩ (.bool true)) := below_set HB8.out (by omega)
        exact ⟨_, results_cellB rfl _ _ g6 true rfl hr6, rfl, hbs.grown hgp hbs.size (fun k e => by cases e; omega)⟩
      case stop =>
        intro c' pre W' _ h _
        exact h.elim
end Go.Proofs.Ythilhcdlpfjodaa.A
