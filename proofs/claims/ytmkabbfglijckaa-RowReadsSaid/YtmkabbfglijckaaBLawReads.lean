/- RowReads: bytes are read as the document's version, or refused with its error. -/
import Derived.Test.YtmkabbfglijckaaBTake
import Derived.Test.YtmkabbfglijckaaBLawWrites
namespace Go.Proofs.Ytmkabbfglijckaa.A
open Go.RowKit Go.Proofs.YtmkabbfglijckaaW.PrintWords Go.Proofs.YtmkabbfglijckaaW.PrintLast Go.Proofs.YtmkabbfglijckaaW.PrintMore
set_option linter.unusedVariables false
set_option linter.unusedSimpArgs false

theorem OB_ne {W : World} {B g : Nat} {u : Value} {l : List Int} (h : OB W B u l) (hg : W.heap.size ≤ g) : u.ownBlock = none ∨ u.ownBlock ≠ some g := by
  obtain ⟨h0, inner, ho, hr⟩ := h
  exact .inr (fun e => by have := own_lt ho g e; omega)
theorem readV_ok (s : St) (h : (readV s).2.1 = 0) : (readV s).2.2.2 = 0 := by
  unfold readV at h ⊢
  split
  · rename_i h1
    rw [if_pos h1] at h
    exact absurd h h1
  · rename_i h1
    split
    · rename_i h2
      rw [if_neg h1, if_pos h2] at h
      cases h
    · exact Classical.byContradiction h1
set_option maxRecDepth 100000 in
set_option maxHeartbeats 8000000 in
theorem reads_calls (w : World) (A : Option Addr) (c : Nat) (l : List Int) (hr : U8.C w A l.length l) (hc : l.length ≤ c) (hb : ∀ x ∈ l, IntKind.u8.min ≤ x ∧ x ≤ IntKind.u8.max) :
    Calls Try.prog 7 #[.slice A l.length c] w fun e w' => e = .returned (.bool true) ∧ Below w.heap.size w w' := by
  have hq := eqA27
  have HR := Aside0.mk hr
  have HBL : Aside0 (∀ x ∈ l.take 500, 0 ≤ x ∧ x ≤ 255) := ⟨fun x hx => hb x (List.mem_of_mem_take hx)⟩
  obtain ⟨n0, hn0⟩ : ∃ n, l.length = n := ⟨_, rfl⟩
  rw [hn0] at hc HR ⊢
  clear hr hb hn0
  go_enter Try.func7, Try.ntmps7
  go_wp2_with fail
  (with_reducible refine (few6_calls A n0 c l _ HR.out hc).mono ?_)
  rintro e wf ⟨n, rfl, hnc, hn5, hnn, hC, hwf⟩
  rw [hwf]
  clear hwf
  have HC := Aside0.mk hC
  clear hC HR hnn hc
  generalize l.take 500 = F at *
  go_wp2_with fail
  (with_reducible refine (read6_calls A n c F _ HC.out hnc (by omega) HBL.out).mono ?_)
  have HZ := Aside0.mk (readV_zero (F, 0))
  have HOK := Aside0.mk (readV_ok (F, 0))
  have HTK := Aside0.mk (fun (w0 W : World) (g : Nat) (hf : FS w0 g A n c F) (h : RR w0 g A n c F (F, 0) W) => take_calls w0 W g A n c F (F, 0) hf h ⟨HBL.out, fun h => absurd rfl h⟩)
  obtain ⟨T, hT⟩ : ∃ T, readV (F, 0) = T := ⟨_, rfl⟩
  rw [hT] at HZ HOK HTK ⊢
  clear hT
  obtain ⟨⟨k, br, ep, sq, f, t, v, gg⟩, er, X, e2⟩ := T
  dsimp only at HZ HOK HTK ⊢
  rintro e w1 ⟨u, rfl, hO1, hb1⟩
  have hal := below_alloc (Below.refl w1.heap.size w1) (vrBox k br ep sq f t v gg)
  have HX2 : Aside0 ((w1.alloc (vrBox k br ep sq f t v gg)).heap[w1.heap.size]? = some (vrBox k br ep sq f t v gg)) := ⟨heap_alloc_new w1 _⟩
  have HO2 := Aside0.mk (Kd.R_below hO1 hal)
  have HB2 := Aside0.mk (below_step hb1 hal)
  have HC2 := Aside0.mk (Kd.C_below (Kd.C_below HC.out hb1) hal)
  clear hO1 hb1 hal HC
  go_wp2_with fail
  obtain ⟨w2, hw2⟩ : ∃ w2, w1.alloc (.cells #[.string k, .int .i64 br, .int .i64 ep, .int .i64 sq, .int .i64 f, .int .i64 t, .string v, .bool gg] 27) = w2 := ⟨_, rfl⟩
  have hsz : w1.heap.size + 1 = w2.heap.size := by rw [← hw2, World.size_alloc]
  rw [hw2, hsz]
  have HX2 : Aside0 (w2.heap[w1.heap.size]? = some (vrBox k br ep sq f t v gg)) := by rw [← hw2]; exact HX2
  have HO2 : Aside0 (OB w2 w.heap.size u (if er = 0 then X else [])) := ⟨by rw [← hw2]; exact HO2.out⟩
  have HB2 : Aside0 (Below w.heap.size w w2) := by rw [← hw2]; exact HB2
  have HC2 : Aside0 (U8.C w2 A n F) := by rw [← hw2]; exact HC2
  clear hw2
  have HFS : Aside0 (FS w2 w2.heap.size A n c F) := ⟨HC2.out, Nat.le_refl _, hnc, HBL.out, by omega⟩
  have hal := below_alloc (Below.refl w2.heap.size w2) (V.rfr A n c 0 0)
  have HR3 : Aside0 (RR w2 w2.heap.size A n c F (F, 0) (w2.alloc (V.rfr A n c 0 0))) := ⟨⟨0, heap_alloc_new w2 _, fun _ => ⟨Nat.zero_le _, rfl⟩⟩, hal⟩
  (with_reducible refine (HTK.out w2 _ w2.heap.size HFS.out HR3.out).mono ?_)
  rintro e w4 ⟨rfl, hR4, hg4⟩
  have HX4 := Aside0.mk (blk_grown (box_keep HX2.out hal) hg4 (by intro e; injection e with e; omega))
  have HO4 := Aside0.mk (OB_grown (v := u) (Kd.R_below HO2.out hal) hg4 (OB_ne HO2.out (Nat.le_refl _)))
  have HB4 : Aside0 (Below w.heap.size w w4) := ⟨(below_step HB2.out hal).grown hg4 (below_step HB2.out hal).size (fun k e => by cases e; exact HB2.out.size)⟩
  have HR4 := Aside0.mk hR4
  clear hR4 hg4 hal HR3 HX2 HO2 HB2 HC2
  have hal := below_alloc (Below.refl w4.heap.size w4) (vrBox k br ep sq f t v gg)
  have HX5 := Aside0.mk (box_keep HX4.out hal)
  have HY5 : Aside0 ((w4.alloc (vrBox k br ep sq f t v gg)).heap[w4.heap.size]? = some (vrBox k br ep sq f t v gg)) := ⟨heap_alloc_new w4 _⟩
  have HO5 := Aside0.mk (Kd.R_below HO4.out hal)
  have HR5 := Aside0.mk (RR_below HR4.out hal)
  have HB5 := Aside0.mk (below_step HB4.out hal)
  clear hal HX4 HO4 HR4 HB4
  obtain ⟨x0, x1, x2, x3, x4, x5, x6, x7⟩ := vr_cells HX5.out
  obtain ⟨y0, y1, y2, y3, y4, y5, y6, y7⟩ := vr_cells HY5.out
  by_cases her : er = 0
  · subst her
    have ho5 := HO5.out
    rw [if_pos rfl] at ho5
    have he2 : e2 = 0 := HOK.out rfl
    subst he2
    obtain ⟨⟨I, hI1, hI2⟩, hI3⟩ := HR5.out
    obtain ⟨hIn, hID⟩ := hI2 rfl
    obtain ⟨m, hm⟩ : ∃ m, X.length = m := ⟨_, rfl⟩
    have hFl : F.length = n := HFS.out.1.1
    obtain ⟨A', c', hrun, hCC, hcc⟩ := V.cutfN' A n c F (I : Int) hFl (by omega) (by omega) hnc
    rw [Int.toNat_natCast, hID, hm] at hrun hCC
    have HCC := Aside0.mk hCC
    have hself : eqV ⟨k, br, ep, sq, f, t, v, gg⟩ ⟨k, br, ep, sq, f, t, v, gg⟩ = true := (eqV_iff _ _).2 rfl
    have H1 := Aside0.mk hI1
    have HO6 := Aside0.mk ho5
    have j1 : (I : Int) ≤ (n : Int) := by omega
    have j2 : (0 : Int) ≤ (I : Int) := by omega
    clear ho5 hI1 hI2 hI3 hID hm hFl hCC hcc
    go_wp2_with fail
    obtain ⟨w5, hw5⟩ : ∃ w5, w4.alloc (.cells #[.string k, .int .i64 br, .int .i64 ep, .int .i64 sq, .int .i64 f, .int .i64 t, .string v, .bool gg] 27) = w5 := ⟨_, rfl⟩
    rw [hw5]
    obtain ⟨z, hz⟩ : ∃ z, w4.heap.size = z := ⟨_, rfl⟩
    rw [hz]
    have hd := below_drew1 (Below.refl w5.heap.size w5)
    have HX6 : Aside0 (w5.heap[w1.heap.size]? = some (vrBox k br ep sq f t v gg)) := by rw [← hw5]; exact HX5
    have HY6 : Aside0 (w5.heap[z]? = some (vrBox k br ep sq f t v gg)) := by rw [← hw5, ← hz]; exact HY5
    have HO7 : Aside0 (OB w5 w.heap.size u X) := by rw [← hw5]; exact HO6
    have HR6 : Aside0 (RR w2 w2.heap.size A n c F (X, 0) w5) := by rw [← hw5]; exact HR5
    have HB6 : Aside0 (Below w.heap.size w w5) := by rw [← hw5]; exact HB5
    have H6 : Aside0 (w5.heap[w2.heap.size]? = some (V.rfr A n c (I : Int) 0)) := by rw [← hw5]; exact H1
    clear hw5 hz HX5 HY5 HO5 HO6 HR5 HB5 H1 x0 x1 x2 x3 x4 x5 x6 x7 y0 y1 y2 y3 y4 y5 y6 y7
    obtain ⟨x0, x1, x2, x3, x4, x5, x6, x7⟩ := vr_cells (box_keep HX6.out hd)
    obtain ⟨y0, y1, y2, y3, y4, y5, y6, y7⟩ := vr_cells (box_keep HY6.out hd)
    obtain ⟨c0, c1, c2⟩ := V.rfr_cells (box_keep H6.out hd)
    have cx : (convert 29 9 u).run Try.prog w5.drew = .ok (.string (strOfNums X)) w5.drew := OB_string (Kd.R_drew HO7.out)
    have cy : (convert 29 9 (.slice A' m c')).run Try.prog w5.drew = .ok (.string (strOfNums X)) w5.drew := C_string' (HCC.out _ (RR_C HFS.out (RR_below HR6.out hd)))
    have HB7 := Aside0.mk (below_step HB6.out hd)
    clear hd HX6 HY6 HO7 HR6 H6 HB6 c0 c2 HCC HFS
    go_still_tail 20, (by kernel_rfl)
    go_wp2_with fail
    (with_reducible refine (lives_calls _).mono ?_)
    rintro e w7 ⟨rfl, hb7⟩
    have HB8 := Aside0.mk (below_step HB7.out hb7)
    clear hb7
    go_wp2_with fail
    go_ret
    exact ⟨rfl, HB8.out⟩
  · have hO := HO5.out
    rw [if_neg her] at hO
    obtain ⟨Au, cu, rfl, _, _⟩ := OB_readn hO 0 rfl
    have hz := HZ.out her
    injection hz with z1 z2 z3 z4 z5 z6 z7 z8
    subst z1 z2 z3 z4 z5 z6 z7 z8
    have hself : eqV ⟨{ data := #[] }, 0, 0, 0, 0, 0, { data := #[] }, false⟩ ⟨{ data := #[] }, 0, 0, 0, 0, 0, { data := #[] }, false⟩ = true := (eqV_iff _ _).2 rfl
    have hne : (er == 0) = false := beq_eq_false_iff_ne.2 her
    have hne2 : (er != 0) = true := bne_iff_ne.2 her
    clear hO
    go_wp2_with fail
    (with_reducible refine (lives_calls _).mono ?_)
    rintro e w7 ⟨rfl, hb7⟩
    have HB7 := Aside0.mk (below_step HB5.out hb7)
    clear hb7
    go_wp2_with fail
    go_ret
    exact ⟨rfl, HB7.out⟩
end Go.Proofs.Ytmkabbfglijckaa.A
