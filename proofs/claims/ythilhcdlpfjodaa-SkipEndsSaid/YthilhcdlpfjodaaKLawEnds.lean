/- SkipEnds: what is told from a key on may be ended anywhere. -/
import Derived.Test.YthilhcdlpfjodaaKLike
namespace Go.Proofs.Ythilhcdlpfjodaa.A
open Go Go.RowKit Go.Shelf Go.Proofs.YthilhcdlpfjodaaW.PrintWords Go.Proofs.YthilhcdlpfjodaaW.PrintLast Go.Proofs.YthilhcdlpfjodaaW.PrintMore
attribute [local go_sem] Oper.semAt_some wide_fn wide_depth
set_option linter.unusedVariables false
set_option linter.unusedSimpArgs false

def EndX (c : Code) : Prop := c = Code.exit 2
/-- A block from before the list is written: all stays. -/
theorem DI_set {w W : World} {L i : Nat} {v : Value} {l : List It} (h : DI w W L i v l) (b : Nat) (u : Value) (hb : b < w.heap.size) : DI (w.setCell ⟨b, 0, none⟩ u) (W.setCell ⟨b, 0, none⟩ u) L i v l := by
  obtain ⟨xs, h1, h2, h3, h4⟩ := h
  have hs : (w.setCell ⟨b, 0, none⟩ u).heap.size = w.heap.size := World.size_setCell _ _ _
  have hf : Frm [b] W (W.setCell ⟨b, 0, none⟩ u) := Frm.set (Frm.refl _ _) (by simp) _
  refine ⟨xs, ⟨⟨SL_frm h1.1.1 hf (fun k hk e => by rw [List.mem_singleton] at e; have := h2 k hk; omega), h1.1.2⟩, h1.2.1, ?_⟩, by rw [hs]; exact h2, ?_, h4⟩
  · rw [hs]
    refine Kd.R_mono (Kd.R_move (Kd.R_bound h1.2.2) ?_) (fun _ _ => trivial)
    rintro k ⟨-, a1, a2, -⟩
    exact hf.block k a2 (fun e => by rw [List.mem_singleton] at e; omega)
  · rw [hs]
    refine ⟨h3.os, h3.tape, h3.output, by rw [hs, World.size_setCell]; exact h3.size, fun k hk => ?_⟩
    by_cases e : k = b
    · subst e
      have h5 := h3.block k hk
      have hk2 : k < W.heap.size := Nat.lt_of_lt_of_le hk h3.size
      simp only [World.setCell]
      rw [Array.getElem?_eq_getElem hk, Array.getElem?_eq_getElem hk2] at h5
      injection h5 with h5
      rw [Array.getElem?_eq_getElem (by simpa using hk2), Array.getElem?_eq_getElem (by simpa using hk)]
      simp [Array.getElem_modify, h5]
    · exact (Below.heap_setCell W _ _ k e).trans ((h3.block k hk).trans (Below.heap_setCell w _ _ k e).symm)
set_option maxRecDepth 100000 in
set_option maxHeartbeats 4000000 in
theorem ends_calls (w : World) (A : Option Addr) (c : Nat) (dl : List Dd) (hr : KDd.C w A dl.length dl) (hc : dl.length ≤ c) (hg : ∀ d ∈ dl, d.fits) (key : ByteArray) (hkey : key.size ≤ maxLen) (N : Int) (hN : IntKind.i64.min ≤ N ∧ N ≤ IntKind.i64.max) :
    Calls Try.prog 6 #[.slice A dl.length c, .string key, .int .i64 N] w fun e w' => e = .returned (.bool true) ∧ Below w.heap.size w w' := by
  have hm := hr.2.1
  obtain ⟨n, hn⟩ : ∃ n, dl.length = n := ⟨_, rfl⟩
  rw [hn] at hr hc hm ⊢
  have HR := Aside0.mk hr
  have HNN := Aside0.mk hn
  have HG := Aside0.mk hg
  have HKEY : Aside0 (key.size ≤ 9223372036854775807) := ⟨by simp only [maxLen] at hkey; omega⟩
  have hN1 : -9223372036854775808 ≤ N := hN.1
  have hN2 : N ≤ 9223372036854775807 := hN.2
  clear hr hn hg hkey hN
  refine (callsIn_wide (n := 0)).1 ?_
  refine callsIn_of_wp_marks Try.func6 rfl trivial ?_ rfl
  simp only [Try.ntmps6, List.size_toArray, List.length_cons, List.length_nil, Nat.reduceAdd, Nat.reduceSub, Array.replicate_succ, Array.replicate_zero, List.push_toArray, List.append_toArray, List.nil_append, List.cons_append]
  refine wpIn_wide.2 ?_
  go_wp2_with fail
  obtain ⟨g0, hg0⟩ : ∃ g, w.heap.size = g := ⟨_, rfl⟩
  obtain ⟨W0, hW0⟩ : ∃ W0, (w.alloc (inB N)).alloc (boB false) = W0 := ⟨_, rfl⟩
  have hb0 : Below w.heap.size w W0 := by rw [← hW0]; exact below_alloc (below_alloc (Below.refl _ _) _) _
  have hz0 : W0.heap.size = g0 + 2 := by rw [← hW0]; simp only [World.size_alloc, hg0]
  have hx5 : W0.heap[g0]? = some (inB N) := by rw [← hW0, ← hg0]; exact blk_keep (heap_alloc_new w _) (below_alloc (Below.refl _ _) _)
  have hx6 : W0.heap[g0 + 1]? = some (boB false) := by
    have h1 := heap_alloc_new (w.alloc (inB N)) (boB false)
    rw [World.size_alloc, hg0, hW0] at h1
    exact h1
  have HB0 := Aside0.mk hb0
  have HZ0 := Aside0.mk hz0
  have HX0 := Aside0.mk (show W0.heap[g0]? = some (inB N) ∧ W0.heap[g0 + 1]? = some (boB false) from ⟨hx5, hx6⟩)
  have HR0 := Aside0.mk (Kd.C_below HR.out hb0)
  simp only [hW0, hg0]
  clear hb0 hz0 hx5 hx6 hW0 HR
  (with_reducible refine (DI_new W0).mono ?_)
  rintro e w1 ⟨L, rfl, hD1⟩
  have HD1 := Aside0.mk hD1
  clear hD1
  go_wp2_with fail
  go_loopw [8, 9] (fun v8 v9 w' => ∃ (i : Nat) (l : List It), v9 = .int .i64 i ∧ i ≤ n ∧ i ≤ 40 ∧ Aside0 (DI W0 w' L i v8 l)) (fun _ v9 _ => 60 - (intOf v9).toNat)
  case atStart => exact ⟨0, [], rfl, Nat.zero_le _, by omega, HD1⟩
  case round =>
    obtain ⟨i, l, rfl, hin, hi40, HD⟩ := hrel
    by_cases hlt : i < n ∧ i < 40
    · obtain ⟨hl1, hl2⟩ := hlt
      obtain ⟨ad, rfl, q0, q1, q2, q3⟩ := C_atDd (Kd.C_below HR0.out (DI_b HD.out)) i hl1
      have hfd : (dl.getD i default).fits := HG.out _ (by
        rw [List.getD_eq_getElem?_getD, List.getElem?_eq_getElem (by rw [HNN.out]; exact hl1)]
        exact List.getElem_mem _)
      obtain ⟨d, hd⟩ : ∃ d, dl.getD i default = d := ⟨_, rfl⟩
      rw [hd] at q0 q1 q2 q3 hfd
      have HDO := Aside0.mk (DI_does HD.out d (by omega) (by unfold Dd.fits at hfd; simp only [maxLen] at hfd; omega))
      have j1 : (i : Int) < (n : Int) := by omega
      have j2 : (0 : Int) ≤ (i : Int) := by omega
      have j3 : (i : Int) < 40 := by omega
      clear hd hfd
      go_wp2_with fail
      (with_reducible refine HDO.out.mono ?_)
      rintro e w2 ⟨v2, rfl, hD2⟩
      have HD2 := Aside0.mk hD2
      clear hD2
      go_wp2_with fail
      go_roundw
      case rel => exact ⟨i + 1, _, by push_cast; rfl, hl1, by omega, HD2⟩
      case measure => simp [intOf]; omega
    · have j1 : (¬ (i : Int) < (n : Int)) ∨ ((i : Int) < (n : Int) ∧ ¬ (i : Int) < 40) := by omega
      obtain ⟨nl, hnl⟩ : ∃ n, l.length = n := ⟨_, rfl⟩
      have hll := DI_len HD.out
      have hdoc := DI_doc HD.out
      rw [hnl] at hdoc hll
      obtain ⟨Al, cl, rfl, hcl, hCl⟩ := hdoc
      have hnl9 : nl ≤ 900 := by omega
      have HDOC : Aside0 (∀ V W', DI V W' L i (.slice Al nl cl) l → KIt.C W' Al nl l) := ⟨fun V W' h' => by
        obtain ⟨A', c', e, hc', hC'⟩ := DI_doc h'
        rw [hnl] at e hC'
        injection e with e1 e2 e3
        subst e1
        exact hC'⟩
      have HNL := Aside0.mk hnl
      have hi9 : i ≤ 900 := by omega
      obtain ⟨key2, hk2⟩ : ∃ k, fewS key = k := ⟨_, rfl⟩
      have HK2 := Aside0.mk hk2
      have HRF := Aside0.mk (rfrom_calls Al nl cl l key2 wr hCl hcl (by omega))
      obtain ⟨m, hm2⟩ : ∃ m, nl - atS l key2 = m := ⟨_, rfl⟩
      rw [hm2] at HRF
      have hmn : m ≤ 900 := by omega
      have HM := Aside0.mk hm2
      clear hlt hll hCl hnl hk2 hm2
      rcases j1 with j1 | ⟨j1, j2⟩
      all_goals
        go_wp2_with fail
        (with_reducible refine (few_calls key _ HKEY.out).mono ?_)
        rintro e w2 ⟨rfl, rfl⟩
        rw [HK2.out]
        go_wp2_with fail
        (with_reducible refine HRF.out.mono ?_)
        rintro e w5 ⟨A5, c5, rfl, hc5, hC5, hb5⟩
        have HC5 := Aside0.mk hC5
        have HD5 := Aside0.mk (DI_below HD.out hb5)
        obtain ⟨g, hg⟩ : ∃ g, w5.heap.size = g := ⟨_, rfl⟩
        obtain ⟨W6, hW6⟩ : ∃ W6, w5.alloc (itsB A5 m c5) = W6 := ⟨_, rfl⟩
        have hb6 : Below w5.heap.size w5 W6 := by rw [← hW6]; exact below_alloc (Below.refl _ _) _
        have HD6 := Aside0.mk (DI_below HD5.out hb6)
        have hxg : W6.heap[g]? = some (itsB A5 m c5) := by rw [← hW6, ← hg]; exact heap_alloc_new w5 _
        have HXG := Aside0.mk hxg
        have hz6 : W6.heap.size = g + 1 := by rw [← hW6, World.size_alloc, hg]
        have hx5 := blk_keep HX0.out.1 (DI_b HD6.out)
        have HX6 := Aside0.mk (show W6.heap[g0]? = some (inB N) ∧ W6.heap[g0 + 1]? = some (boB false) from ⟨hx5, blk_keep HX0.out.2 (DI_b HD6.out)⟩)
        obtain ⟨p5, f5⟩ := one_cell hx5
        clear hC5 hb5 hx5 hb6 hxg
        by_cases hneg : N < 0
        case' pos =>
          obtain ⟨z, hz⟩ : ∃ z : Int, -(N + 1) = z := ⟨_, rfl⟩
          have hz0 : 0 ≤ z := by omega
          have hz1 : z ≤ 9223372036854775807 := by omega
          obtain ⟨r, hr⟩ : ∃ r : Nat, z % 10 = (r : Int) := ⟨(z % 10).toNat, by omega⟩
          have hr10 : r < 10 := by omega
          go_wp2_with fail
          obtain ⟨V0, hV0⟩ : ∃ V0, (W0.setCell ⟨g0, 0, none⟩ (.int .i64 z)).setCell ⟨g0, 0, none⟩ (.int .i64 (1 + (r : Int))) = V0 := ⟨_, rfl⟩
          obtain ⟨W7, hW7⟩ : ∃ W7, ((W6.setCell ⟨g0, 0, none⟩ (.int .i64 z)).setCell ⟨g0, 0, none⟩ (.int .i64 (1 + (r : Int)))).alloc (inB 0) = W7 := ⟨_, rfl⟩
          have hd7 := DI_below (DI_set (DI_set HD6.out g0 (.int .i64 z) (by have := HZ0.out; omega)) g0 (.int .i64 (1 + (r : Int))) (by rw [World.size_setCell]; have := HZ0.out; omega)) (below_alloc (Below.refl _ _) (inB 0))
          have hv0 : V0.heap[g0]? = some (inB (1 + (r : Int))) := by rw [← hV0]; exact one_set (one_set HX0.out.1)
          have hv1 : V0.heap[g0 + 1]? = some (boB false) := by rw [← hV0]; exact (Below.heap_setCell _ _ _ _ (fun e => by simp only at e; omega)).trans ((Below.heap_setCell _ _ _ _ (fun e => by simp only at e; omega)).trans HX0.out.2)
          have hvs : V0.heap.size = g0 + 2 := by rw [← hV0, World.size_setCell, World.size_setCell, HZ0.out]
          have hvb : Below w.heap.size w V0 := by rw [← hV0]; exact below_set (below_set HB0.out (by rw [hg0]; exact Nat.le_refl _)) (by rw [hg0]; exact Nat.le_refl _)
          have hzz : ((W6.setCell ⟨g0, 0, none⟩ (.int .i64 z)).setCell ⟨g0, 0, none⟩ (.int .i64 (1 + (r : Int)))).heap.size = g + 1 := by rw [World.size_setCell, World.size_setCell, hz6]
          have hw7 : W7.heap[g + 1]? = some (inB 0) := by rw [← hW7, ← hzz]; exact heap_alloc_new _ _
          have hw70 : W7.heap[g]? = some (itsB A5 m c5) := by rw [← hW7]; exact blk_keep ((Below.heap_setCell _ _ _ _ (fun e => by simp only at e; have := (DI_b HD5.out).size; have := HZ0.out; omega)).trans ((Below.heap_setCell _ _ _ _ (fun e => by simp only at e; have := (DI_b HD5.out).size; have := HZ0.out; omega)).trans HXG.out)) (below_alloc (Below.refl _ _) _)
          have hw7s : W7.heap.size = g + 2 := by rw [← hW7, World.size_alloc, hzz]
          rw [hV0, hW7] at hd7
          simp only [hW7]
        case' neg =>
          have hz0 : 0 ≤ N := by omega
          obtain ⟨r, hr⟩ : ∃ r : Nat, N % 10 = (r : Int) := ⟨(N % 10).toNat, by omega⟩
          have hr10 : r < 10 := by omega
          go_wp2_with fail
          obtain ⟨V0, hV0⟩ : ∃ V0, W0.setCell ⟨g0, 0, none⟩ (.int .i64 (1 + (r : Int))) = V0 := ⟨_, rfl⟩
          obtain ⟨W7, hW7⟩ : ∃ W7, (W6.setCell ⟨g0, 0, none⟩ (.int .i64 (1 + (r : Int)))).alloc (inB 0) = W7 := ⟨_, rfl⟩
          have hd7 := DI_below (DI_set HD6.out g0 (.int .i64 (1 + (r : Int))) (by have := HZ0.out; omega)) (below_alloc (Below.refl _ _) (inB 0))
          have hv0 : V0.heap[g0]? = some (inB (1 + (r : Int))) := by rw [← hV0]; exact one_set HX0.out.1
          have hv1 : V0.heap[g0 + 1]? = some (boB false) := by rw [← hV0]; exact (Below.heap_setCell _ _ _ _ (fun e => by simp only at e; omega)).trans HX0.out.2
          have hvs : V0.heap.size = g0 + 2 := by rw [← hV0, World.size_setCell, HZ0.out]
          have hvb : Below w.heap.size w V0 := by rw [← hV0]; exact below_set HB0.out (by rw [hg0]; exact Nat.le_refl _)
          have hzz : (W6.setCell ⟨g0, 0, none⟩ (.int .i64 (1 + (r : Int)))).heap.size = g + 1 := by rw [World.size_setCell, hz6]
          have hw7 : W7.heap[g + 1]? = some (inB 0) := by rw [← hW7, ← hzz]; exact heap_alloc_new _ _
          have hw70 : W7.heap[g]? = some (itsB A5 m c5) := by rw [← hW7]; exact blk_keep ((Below.heap_setCell _ _ _ _ (fun e => by simp only at e; have := (DI_b HD5.out).size; have := HZ0.out; omega)).trans HXG.out) (below_alloc (Below.refl _ _) _)
          have hw7s : W7.heap.size = g + 2 := by rw [← hW7, World.size_alloc, hzz]
          rw [hV0, hW7] at hd7
          simp only [hW7]
        all_goals
          have HD7 := Aside0.mk hd7
          have HX7 := Aside0.mk (show W7.heap[g]? = some (itsB A5 m c5) ∧ W7.heap[g + 1]? = some (inB 0) ∧ W7.heap.size = g + 2 from ⟨hw70, hw7, hw7s⟩)
          have HV := Aside0.mk (show V0.heap[g0]? = some (inB (1 + (r : Int))) ∧ V0.heap[g0 + 1]? = some (boB false) ∧ V0.heap.size = g0 + 2 ∧ Below w.heap.size w V0 from ⟨hv0, hv1, hvs, hvb⟩)
          clear hd7 hw70 hw7 hw7s hv0 hv1 hvs hvb hzz hV0 hW7 hz0 hneg hr hz6 hN1 hN2 p5 f5
          (with_reducible refine (few_calls key _ HKEY.out).mono ?_)
          rintro e w2 ⟨rfl, rfl⟩
          rw [HK2.out]
          go_wp2_with fail
          (with_reducible refine (from_calls _ L key2).mono ?_)
          rintro e w8 ⟨rfl, hw8⟩
          simp only [HX7.out.2.2]
          have hz8 : w8.heap.size = g + 4 := by rw [← hw8]; simp only [World.size_alloc, HX7.out.2.2]
          have hbb : Below W7.heap.size W7 w8 := by rw [← hw8]; exact below_alloc (below_alloc (Below.refl _ _) _) _
          have x2 : w8.heap[g + 2]? = some (lpB L) := by
            rw [← hw8, ← HX7.out.2.2]
            exact blk_keep (heap_alloc_new _ _) (below_alloc (Below.refl _ _) _)
          have x3 : w8.heap[g + 2 + 1]? = some (stB key2) := by
            have h1 := heap_alloc_new (W7.alloc (lpB L)) (stB key2)
            rw [World.size_alloc, HX7.out.2.2, hw8] at h1
            exact h1
          have HD8 := Aside0.mk (DI_below HD7.out hbb)
          have HX8 := Aside0.mk (show w8.heap[g]? = some (itsB A5 m c5) ∧ w8.heap[g + 1]? = some (inB 0) ∧ w8.heap[g + 2]? = some (lpB L) ∧ w8.heap[g + 2 + 1]? = some (stB key2) ∧ w8.heap.size = g + 4 from ⟨blk_keep HX7.out.1 hbb, blk_keep HX7.out.2.1 hbb, x2, x3, hz8⟩)
          have hfe := feq_nil (.func 29) #[] #[.pointer (some ⟨g + 2, 0, none⟩), .pointer (some ⟨g + 2 + 1, 0, none⟩)]
          have hgv : g0 + 2 ≤ g := by have h1 := (DI_b HD7.out).size; have h2 := HV.out.2.2.1; have h3 := hg; have h4 := (DI_b HD5.out).size; have h5 := HZ0.out; omega
          have HGV := Aside0.mk hgv
          clear hbb x2 x3 hw8 hz8 hgv
          go_wp2_with fail
          obtain ⟨xs, k1, k2, k3, k4⟩ := HD8.out
          have hS8 : SK w8 L xs := k1.1
          have hT8 : xs.tail.map Nd.it = l := k1.2.1
          have hlt8 := SL_lt hS8.1
          have hne1 : ∀ k ∈ L :: blks xs, k ≠ g + 1 := fun k hk e => by
            subst e
            have := SL_types hS8.1 _ hk _ _ _ HX8.out.2.1
            revert this
            decide
          have hitr := from_itr w8 (g + 2) L xs key2 hS8 HX8.out.2.2.1 HX8.out.2.2.2.1
          rw [hT8] at hitr
          have hga : g + 1 < w8.heap.size := by have := HX8.out.2.2.2.2; omega
          have hmem : ∀ k ∈ (g + 2) :: (g + 2 + 1) :: L :: blks xs, k ≠ g + 1 ∧ k < w8.heap.size := fun k hk => by
            simp only [List.mem_cons] at hk
            have := HX8.out.2.2.2.2
            rcases hk with rfl | rfl | hk
            · omega
            · omega
            · have hk' : k ∈ L :: blks xs := List.mem_cons.2 hk
              exact ⟨hne1 k hk', hlt8 k hk'⟩
          refine (wpIn_wide (n := 0)).1 ?_
          refine range_itr (α := It) rfl (enters_of Try.func29 (by kernel_rfl) rfl) hitr
            (fun X Y h k h1 h2 => h.block k h2) (fun h k => h.trans k)
            (fun X Y row hs hg hr => ⟨hg.size, fun k hk => hg.block k (by have := (hmem k hk).2; omega) (fun e => by have := (hr k e.symm).1; have := (hmem k hk).2; omega)⟩) (fun x => rfl)
            (LkJ w8 (g + 1)) (fun c' pre V => EndX c' ∧ pre.length = r + 1 ∧ LkJ w8 (g + 1) pre V) (fun s X Y row hI hg hr => LkJ_row hI hga hg (fun k e => (hr k e).1)) (fun c s X Y row hI hg hr => ⟨hI.1, hI.2.1, LkJ_row hI.2.2 hga hg (fun k e => (hr k e).1)⟩) (fun s X Y hI hb => LkJ_row hI hga (grown_below hb none) (fun k e => by cases e)) (fun c s X Y hI hg => ⟨hI.1, hI.2.1, LkJ_row hI.2.2 hga (grown_below hg none) (fun k e => by cases e)⟩)
            (fun pre x s X Y row hI hg hr => hI) ⟨HX8.out.2.1, Frm.refl _ _⟩
            (a₁ := ?_) ?_ ?_ ?_ ?_
          case refine_2 =>
            intro lp x W' K hK
            gi_wp2
            exact hK
          case refine_3 =>
            rintro lp pre x W' hsW hI hOk
            have HDW := Aside0.mk (DI_frm1 HD8.out hI.2 (by have := HGV.out; have := HV.out.2.2.1; omega) HX8.out.2.1)
            have hCW := HC5.out W' (HDOC.out _ W' HDW.out)
            have hpl : pre.length + 1 ≤ m := by
              have h1 := hOk.length_le
              rw [hCW.1, List.length_append] at h1
              exact h1
            obtain ⟨ad, rfl, q0, q1, q2⟩ := C_atIt hCW pre.length (by omega)
            have hx : (fromS l key2).getD pre.length default = x := by
              obtain ⟨t, ht⟩ := hOk
              rw [← ht, List.getD_eq_getElem?_getD, List.append_assoc, List.getElem?_append_right (Nat.le_refl _), Nat.sub_self]
              rfl
            rw [hx] at q0 q2
            have hxg := (hI.2.block g (by have := HX8.out.2.2.2.2; omega) (by simp)).trans HX8.out.1
            have hxn := blk_keep HV.out.1 (DI_b HDW.out)
            obtain ⟨p0, f0⟩ := one_cell hxg
            obtain ⟨p1, f1⟩ := one_cell hI.1
            obtain ⟨p5, f5⟩ := one_cell hxn
            have HI := Aside0.mk hI
            have HOK := Aside0.mk hOk
            obtain ⟨z, hz⟩ : ∃ z, pre.length = z := ⟨_, rfl⟩
            rw [hz] at p1 q0 q1 q2 hpl
            have HZ := Aside0.mk hz
            have i1 : ¬ (m : Int) ≤ (z : Int) := by omega
            have i2 : (z : Int) < (m : Int) := by omega
            have i3 : (0 : Int) ≤ (z : Int) := by omega
            have hmid : Keep2 w8.heap.size W' (W'.setCell ⟨g + 1, 0, none⟩ (.int .i64 ((z : Int) + 1))) ∧ KpF ((g + 2) :: (g + 2 + 1) :: L :: blks xs) W' (W'.setCell ⟨g + 1, 0, none⟩ (.int .i64 ((z : Int) + 1))) ∧ LkJ w8 (g + 1) (pre ++ [x]) (W'.setCell ⟨g + 1, 0, none⟩ (.int .i64 ((z : Int) + 1))) := by
              refine ⟨Keep2.set _ _ (.inl (by omega)), ⟨by rw [World.size_setCell]; exact Nat.le_refl _, fun k hk => Below.heap_setCell _ _ _ k (hmem k hk).1⟩, ?_, Frm.set HI.out.2 (by simp) _⟩
              have h1 := one_set (v := .int .i64 ((z : Int) + 1)) HI.out.1
              rw [h1, List.length_append, HZ.out]
              rfl
            have HMID := Aside0.mk hmid
            have hne5 : g0 ≠ g + 1 := by have := HGV.out; omega
            obtain ⟨W9, hW9⟩ : ∃ W9, W'.setCell ⟨g + 1, 0, none⟩ (.int .i64 ((z : Int) + 1)) = W9 := ⟨_, rfl⟩
            have hy1 : W9.heap[g + 1]? = some (inB ((z : Int) + 1)) := by rw [← hW9]; exact one_set HI.out.1
            have hy5 : W9.heap[g0]? = some (inB (1 + (r : Int))) := by rw [← hW9]; exact (Below.heap_setCell _ _ _ _ hne5).trans hxn
            obtain ⟨s1, t1⟩ := one_cell hy1
            obtain ⟨s5, t5⟩ := one_cell hy5
            rw [hW9] at HMID
            have HLN : Aside0 ((pre ++ [x]).length = z + 1) := ⟨by rw [List.length_append, HZ.out]; rfl⟩
            clear hCW hx hxg hxn hI hOk q1 hz hitr k1 k2 k3 k4 hS8 hT8 hlt8 hmid hy1 hy5 hne5
            by_cases hzr : z = r
            · have i4 : ((z : Int) + 1 == 1 + (r : Int)) = true := by simp; omega
              have i5 : (z : Int) + 1 = 1 + (r : Int) := by omega
              have HZR := Aside0.mk hzr
              rw [i5] at hW9
              clear hzr i4
              gi_wp2
              exact ⟨HMID.out.1, rfl, by rw [HLN.out, HZR.out], HMID.out.2.2⟩
            · have i5 : ¬ (z : Int) + 1 = 1 + (r : Int) := by omega
              have i4 : ((z : Int) + 1 == 1 + (r : Int)) = false := by simpa using i5
              gi_wp2
              exact ⟨HMID.out.1, HMID.out.2.1, HMID.out.2.2⟩
          case' refine_4 =>
            rintro ys W' hS hI hK
            subst hS
            obtain ⟨z, hz⟩ : ∃ z, (fromS l key2).length = z := ⟨_, rfl⟩
            have hzm : z = r + 1 ∨ (z ≠ r + 1 ∧ z = m) := by
              have h1 := (HC5.out w8 (HDOC.out _ w8 HD8.out)).1
              omega
          case' refine_5 =>
            rintro c' ys W' hS ⟨hc', hlen, hI⟩ hK
            obtain rfl := hc'
            obtain ⟨z, hz⟩ : ∃ z, ys.length = z := ⟨_, rfl⟩
            have hzm : z = r + 1 ∨ (z ≠ r + 1 ∧ z = m) := .inl (by omega)
            clear hS
            refine wpIn_wide.2 ?_
          all_goals
            have HDW := Aside0.mk (DI_frm1 HD8.out hI.2 (by have := HGV.out; have := HV.out.2.2.1; omega) HX8.out.2.1)
            have hxg := (hI.2.block g (by have := HX8.out.2.2.2.2; omega) (by simp)).trans HX8.out.1
            have hxn := blk_keep HV.out.1 (DI_b HDW.out)
            have hx6 := blk_keep HV.out.2.1 (DI_b HDW.out)
            have h1 := hI.1
            rw [hz] at h1
            have HP := Aside0.mk (show W'.heap[g]? = _ ∧ W'.heap[g + 1]? = _ ∧ W'.heap[g0]? = _ ∧ W'.heap[g0 + 1]? = _ ∧ W'.heap[w8.heap.size]? = _ from ⟨hxg, h1, hxn, hx6, hK⟩)
            obtain ⟨p0, f0⟩ := one_cell hxg
            obtain ⟨p1, f1⟩ := one_cell h1
            obtain ⟨p5, f5⟩ := one_cell hxn
            have HLC := Aside0.mk (DI_lenc HDW.out)
            rw [HNL.out] at HLC
            have HBW : Aside0 (Below w.heap.size w W') := ⟨HV.out.2.2.2.trans ((DI_b HDW.out).mono (by have := HV.out.2.2.1; omega))⟩
            clear hxg hxn hx6 h1 hI hK hitr k1 k2 k3 k4 hS8 hT8 hlt8 hne1 hga hmem hz
            rcases hzm with hzm | ⟨hzm1, hzm2⟩
            case' inl =>
              have i5 : (z : Int) = 1 + (r : Int) := by omega
              have i4 : ((z : Int) == 1 + (r : Int)) = true := by simpa using i5
              clear i5 hzm
            case' inr =>
              have i5 : ¬ (z : Int) = 1 + (r : Int) := by omega
              have i4 : ((z : Int) == 1 + (r : Int)) = false := by simpa using i5
              have i6 : ((z : Int) == (m : Int)) = true := by simp; omega
              clear i5 hzm1 hzm2
            all_goals
              go_wp2_with fail
              (with_reducible refine HLC.out.mono ?_)
              rintro e w9 ⟨rfl, rfl⟩
              go_wp2_with fail
              (with_reducible refine (lives_calls _).mono ?_)
              rintro e w10 ⟨rfl, hb10⟩
              have HB10 := Aside0.mk (below_step HBW.out hb10)
              have HP10 := Aside0.mk (show w10.heap[g0 + 1]? = _ ∧ w10.heap[w8.heap.size]? = _ from ⟨blk_keep HP.out.2.2.2.1 hb10, blk_keep HP.out.2.2.2.2 hb10⟩)
              obtain ⟨p6, f6⟩ := one_cell HP10.out.1
              clear hb10
              go_wp2_with fail
              have hlt6 : g0 + 1 < w8.heap.size := by have := HX8.out.2.2.2.2; have := HGV.out; omega
              have hK2 : (w10.setCell ⟨g0 + 1, 0, none⟩ (.bool true)).heap[w8.heap.size]? = some (.deferred (some [])) := (Below.heap_setCell _ _ _ _ (fun e => by simp only at e; omega)).trans HP10.out.2
              refine ⟨by simp, .inl ⟨_, _, rfl, run_takeDeferred hK2, ?_⟩⟩
              have hgp := grownBy_putObj' (w10.setCell ⟨g0 + 1, 0, none⟩ (.bool true)) w8.heap.size (.deferred none)
              have hr6 : ((w10.setCell ⟨g0 + 1, 0, none⟩ (.bool true)).putObj w8.heap.size (.deferred none)).heap[g0 + 1]? = some (boB true) := (World.putObj_heap_other (by omega)).trans (one_set HP10.out.1)
              have hbs : Below w.heap.size w (w10.setCell ⟨g0 + 1, 0, none⟩ (.bool true)) := below_set HB10.out (by omega)
              exact ⟨_, results_cellB rfl _ _ (g0 + 1) true rfl hr6, rfl, hbs.grown hgp hbs.size (fun k e => by cases e; omega)⟩
end Go.Proofs.Ythilhcdlpfjodaa.A
