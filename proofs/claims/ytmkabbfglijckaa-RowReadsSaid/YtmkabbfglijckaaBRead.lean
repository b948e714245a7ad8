/- The version at the beginning of bytes: row.Read. -/
import Derived.Test.YtmkabbfglijckaaBReadV
import Derived.Deep.RegionHeldLaw
namespace Go.Proofs.Ytmkabbfglijckaa.A
open Go.RowKit Go.Proofs.YtmkabbfglijckaaW.PrintWords Go.Proofs.YtmkabbfglijckaaW.PrintLast Go.Proofs.YtmkabbfglijckaaW.PrintMore
set_option linter.unusedVariables false
set_option linter.unusedSimpArgs false

section
variable {ops : Array Oper} {rest : List Oper} {o : Oper} {a : Act} {Q : Exit → Act → World → Prop} {W : World} {B : Nat}
theorem app_bytes_step {s x : Operand} (hgd : o.guard = none) (ho : o.op = .call { callee := .builtin .append, args := #[s, x], argTypes := #[29, 29] }) {v : Value} {xs ys : List Int} {A : Option Addr} {m c : Nat} {Kc : Act → World → Prop}
    (hs : a.eval s = v) (hx : a.eval x = .slice A m c) (HO : OB W B v xs) (HR : U8.C W A m ys) (hB : B ≤ W.heap.size) (hl : xs.length + m ≤ 140737488355328)
    (h : ∀ v1 w1, OB w1 B v1 (xs ++ ys) → Below B W w1 → Kc (a.put o.dst v1) w1) :
    if Region.wanted o (yielded ops a.tmps) = true then Oper.wp Try.prog o a W Kc Q else Kc (a.put o.dst undef) W :=
  Kd.R_append_rows_step U8 (Rr := U8.K W) (w0 := W) B (by simp [Region.wanted, hgd]) s x 29 5 (.int .u8 0) 1 ho Try.underlying29 infoU8 rfl (by decide) (by decide) v xs ys A m c (fun _ => True) (fun _ => False) hs hx HO HR (fun _ _ h => h) (fun _ h => h.elim) (fun _ _ => trivial) (Below.refl B W) hB (by omega) (fun v1 w1 h1 h2 _ _ => h v1 w1 h1 h2)
end
theorem OB_lit0d (W : World) (B : Nat) (hB : B ≤ W.heap.size) : OB (W.alloc (.cells #[] 5)).drew B (.slice (some ⟨W.heap.size, 0, none⟩) 0 0) [] := Kd.R_drew (OB_lit (W := W) (B := B) [] hB (by simp))
theorem size_lit0d (W : World) : W.heap.size ≤ (W.alloc (.cells #[] 5)).drew.heap.size := by
  show W.heap.size ≤ (W.alloc (.cells #[] 5)).heap.size
  rw [World.size_alloc]
  exact Nat.le_succ _
def RY (g : Nat) (W0 : World) (z : Nat) (p : Vr) (s : St) (W : World) : Prop := (∃ A c, W.heap[g]? = some (V.rdr A s.1.length c s.2)) ∧ (∃ q : Vr, W.heap[W0.heap.size]? = some (vrB q)) ∧ W.heap[z]? = some (vrB p) ∧ Below W0.heap.size W0 W
theorem RY_below {W0 W W1 : World} {g z : Nat} {p : Vr} {s : St} (h : RY g W0 z p s W) (hb : Below W.heap.size W W1) : RY g W0 z p s W1 := by
  obtain ⟨⟨A, c, h1⟩, ⟨q, h2⟩, h3, h4⟩ := h
  exact ⟨⟨A, c, box_keep h1 hb⟩, ⟨q, box_keep h2 hb⟩, box_keep h3 hb, below_step h4 hb⟩
theorem RY_belowN {W0 W W1 : World} {g z N : Nat} {p : Vr} {s : St} (h : RY g W0 z p s W) (hb : Below N W W1) (hg : g < N) (hx : W0.heap.size < N) (hz : z < N) : RY g W0 z p s W1 := by
  obtain ⟨⟨A, c, a1⟩, ⟨q, h2⟩, h3, h4⟩ := h
  exact ⟨⟨A, c, (hb.block _ hg).trans a1⟩, ⟨q, (hb.block _ hx).trans h2⟩, (hb.block _ hz).trans h3, h4.trans ⟨hb.os, hb.tape, hb.output, hb.size, fun k hk => hb.block k (by omega)⟩⟩
theorem restY_calls {W0 W : World} {g z : Nat} {p : Vr} {s : St} (h : RY g W0 z p s W) :
    Calls Try.prog 36 #[.pointer (some ⟨g, 0, none⟩)] W fun e w' => e = .returned (.int .i64 s.1.length) ∧ w' = W := by
  obtain ⟨⟨A, c, h1⟩, _⟩ := h
  obtain ⟨b0, b1⟩ := V.rdr_cells h1
  clear h1
  go_enter Try.func36, Try.ntmps36
  go_wp2
  go_ret
  exact ⟨rfl, rfl⟩
def set8 (W : World) (x : Nat) (p : Vr) : World := W.setCells x 0 (vrCells p)
theorem set8_eq (W : World) (x : Nat) (k : ByteArray) (br ep sq f t : Int) (v : ByteArray) (b : Bool) : (((((((W.setCell ⟨x, 0, none⟩ (.string k)).setCell ⟨x, 1, none⟩ (.int .i64 br)).setCell ⟨x, 2, none⟩ (.int .i64 ep)).setCell ⟨x, 3, none⟩ (.int .i64 sq)).setCell ⟨x, 4, none⟩ (.int .i64 f)).setCell ⟨x, 5, none⟩ (.int .i64 t)).setCell ⟨x, 6, none⟩ (.string v)).setCell ⟨x, 7, none⟩ (.bool b) = set8 W x ⟨k, br, ep, sq, f, t, v, b⟩ := by
  unfold set8
  simp only [World.setCells, vrCells]
theorem set8_heap {W : World} {x : Nat} {q : Vr} (h : W.heap[x]? = some (vrB q)) (p : Vr) : (set8 W x p).heap[x]? = some (vrB p) := by
  obtain ⟨cur', h1, h2, h3⟩ := setCells_row (vrCells p) 0 W _ h (by simp)
  have e : cur' = #[.string p.k, .int .i64 p.br, .int .i64 p.ep, .int .i64 p.sq, .int .i64 p.f, .int .i64 p.t, .string p.v, .bool p.g] := by
    apply Array.ext'
    rw [h3]
    simp
  rw [e] at h1
  exact h1
theorem set8_far (W : World) {x k : Nat} (p : Vr) (hk : k ≠ x) : (set8 W x p).heap[k]? = W.heap[k]? := setCells_far (vrCells p) 0 k hk
theorem set8_same (W : World) (x : Nat) (p : Vr) : (set8 W x p).os = W.os ∧ (set8 W x p).tape = W.tape ∧ (set8 W x p).output = W.output ∧ (set8 W x p).heap.size = W.heap.size := setCells_same x (vrCells p) 0 W
theorem set8_below {N : Nat} {W0 W : World} (h : Below N W0 W) {x : Nat} (hx : N ≤ x) (p : Vr) : Below N W0 (set8 W x p) := by
  obtain ⟨a1, a2, a3, a4⟩ := set8_same W x p
  exact ⟨a1.trans h.os, a2.trans h.tape, a3.trans h.output, by rw [a4]; exact h.size, fun k hk => (set8_far W p (by omega)).trans (h.block k hk)⟩
theorem OB_set8 {W : World} {B : Nat} {u : Value} {l : List Int} (h : OB W B u l) {x : Nat} (hx : x < B) (p : Vr) : OB (set8 W x p) B u l := by
  obtain ⟨h0, inner, ho, hr⟩ := h
  refine ⟨h0, inner, own_move ho (fun k hk => set8_far W p ?_), hr⟩
  have := own_base ho _ hk
  omega
theorem readV_zero (s : St) (h : (readV s).2.1 ≠ 0) : (readV s).1 = zeroV := by
  unfold readV at h ⊢
  split
  · rfl
  · rename_i h1
    rw [if_neg h1] at h
    split
    · rfl
    · rename_i h2
      rw [if_neg h2] at h
      exact absurd rfl h
theorem readV_suffix (s : St) (h : okS s) : (∃ k, (readV s).2.2.1 = s.1.drop k) := by
  obtain ⟨a1, _, k1, e1⟩ := okS_num h
  obtain ⟨a2, _, k2, e2⟩ := okS_num a1
  obtain ⟨a3, _, k3, e3⟩ := okS_num a2
  obtain ⟨a4, _, k4, e4⟩ := okS_num a3
  obtain ⟨a5, _, k5, e5⟩ := okS_num a4
  obtain ⟨a6, _, k6, e6⟩ := okS_num a5
  obtain ⟨a7, k7, e7⟩ := okS_text 100 a6
  obtain ⟨a8, k8, e8⟩ := okS_text 200 a7
  have e : (readV s).2.2 = (t2S s).2 := by 
    unfold readV
    split
    · rfl
    · split <;> rfl
  rw [e]
  unfold t2S t1S n6S n5S n4S n3S n2S n1S
  rw [e8, e7, e6, e5, e4, e3, e2, e1]
  simp only [List.drop_drop]
  exact ⟨_, rfl⟩
theorem RY_S {W0 w' : World} {g z : Nat} {p : Vr} {s : St} (h : RY g W0 z p s w') : w'.cell? ⟨z, 0, none⟩ = some (.string p.k) ∧ w'.cell? ⟨z, 1, none⟩ = some (.int .i64 p.br) ∧ w'.cell? ⟨z, 2, none⟩ = some (.int .i64 p.ep) ∧ w'.cell? ⟨z, 3, none⟩ = some (.int .i64 p.sq) ∧ w'.cell? ⟨z, 4, none⟩ = some (.int .i64 p.f) ∧ w'.cell? ⟨z, 5, none⟩ = some (.int .i64 p.t) ∧ w'.cell? ⟨z, 6, none⟩ = some (.string p.v) ∧ w'.cell? ⟨z, 7, none⟩ = some (.bool p.g) ∧ Aside0 (RY g W0 z p s w') := by
  obtain ⟨a0, a1, a2, a3, a4, a5, a6, a7⟩ := vr_cells h.2.2.1
  exact ⟨a0, a1, a2, a3, a4, a5, a6, a7, ⟨h⟩⟩
theorem RY_set8 {W0 W : World} {g z : Nat} {p : Vr} {s : St} (h : RY g W0 z p s W) (hg : g ≠ W0.heap.size) (hz : z ≠ W0.heap.size) (q : Vr) : RY g W0 z p s (set8 W W0.heap.size q) := by
  obtain ⟨⟨A, c, a1⟩, ⟨q0, h2⟩, h3, h4⟩ := h
  exact ⟨⟨A, c, (set8_far W q hg).trans a1⟩, ⟨q, set8_heap h2 q⟩, (set8_far W q hz).trans h3, set8_below h4 (Nat.le_refl _) q⟩
theorem RY_bel {W0 W : World} {g z : Nat} {p : Vr} {s : St} (h : RY g W0 z p s W) : Below W0.heap.size W0 W := h.2.2.2
set_option maxRecDepth 100000 in
set_option maxHeartbeats 8000000 in
theorem read6_calls (A : Option Addr) (n c : Nat) (bs : List Int) (w : World) (hr : U8.C w A n bs) (hc : n ≤ c) (hl : n ≤ 100000) (hb : ∀ x ∈ bs, 0 ≤ x ∧ x ≤ 255) :
    Calls Try.prog 17 #[.slice A n c] w fun e w' => ∃ u, e = .returned (.tuple #[.agg #[.string (readV (bs, 0)).1.k, .int .i64 (readV (bs, 0)).1.br, .int .i64 (readV (bs, 0)).1.ep, .int .i64 (readV (bs, 0)).1.sq, .int .i64 (readV (bs, 0)).1.f, .int .i64 (readV (bs, 0)).1.t, .string (readV (bs, 0)).1.v, .bool (readV (bs, 0)).1.g], u, .int .i64 (readV (bs, 0)).2.1]) ∧ OB w' w.heap.size u (if (readV (bs, 0)).2.1 = 0 then (readV (bs, 0)).2.2.1 else []) ∧ Below w.heap.size w w' := by
  have HR := Aside0.mk hr
  have hok : okS (bs, 0) := ⟨hb, fun h => absurd rfl h⟩
  have HOK := Aside0.mk hok
  have hsuf := readV_suffix (bs, 0) hok
  have hzv := readV_zero (bs, 0)
  obtain ⟨T, hT⟩ : ∃ T, readV (bs, 0) = T := ⟨_, rfl⟩
  have hRVc := fun (w0 W : World) (g : Nat) (h : RS w0 g W (bs, 0)) (h0 : w0.heap.size ≤ g) => readV_calls w0 W g (bs, 0) h h0 hok
  rw [hT] at hsuf hRVc hzv ⊢
  obtain ⟨⟨k, br, ep, sq, f, t, v, gg⟩, er, s2⟩ := T
  simp only at hsuf hRVc hzv ⊢
  obtain ⟨L, hL⟩ : ∃ L, (if er = 0 then s2.1 else []) = L := ⟨_, rfl⟩
  rw [hL]
  have HL := Aside0.mk hL
  have HRV := Aside0.mk hRVc
  have HSUF := Aside0.mk hsuf
  have HZV := Aside0.mk hzv
  clear hr hb hok hT hL hRVc hsuf hzv
  go_enter Try.func17, Try.ntmps17
  go_wp2_with fail
  have HBa := Aside0.mk (below_alloc (Below.refl w.heap.size w) (vrBox { data := #[] } 0 0 0 0 0 { data := #[] } false))
  have HXa : Aside0 ((w.alloc (vrBox { data := #[] } 0 0 0 0 0 { data := #[] } false)).heap[w.heap.size]? = some (vrBox { data := #[] } 0 0 0 0 0 { data := #[] } false)) := ⟨heap_alloc_new w _⟩
  (with_reducible refine (V.read_calls A n c bs _ (Kd.C_below HR.out HBa.out) hc hl).mono ?_)
  rintro e w1 ⟨w0, rfl, hRD, hb0⟩
  have HRS : Aside0 (RS w0 w0.heap.size w1 (bs, 0)) := ⟨by obtain ⟨a1, a2, a3, a4, a5, a6⟩ := hRD; exact ⟨a1, a2, a3, a4, a5, a6⟩⟩
  have HX0 := Aside0.mk (box_keep HXa.out hb0)
  have HB0 := Aside0.mk (below_step HBa.out hb0)
  have hxw : w.heap.size < w0.heap.size := blk_lt HX0.out
  have hbr : Below w0.heap.size w0 w1 := by obtain ⟨a1, a2, a3, a4, a5, a6⟩ := hRD; exact a6
  have HX1 : Aside0 (w1.heap[w.heap.size]? = some (vrBox { data := #[] } 0 0 0 0 0 { data := #[] } false)) := ⟨(hbr.block _ hxw).trans HX0.out⟩
  have HB1 := Aside0.mk (below_step HB0.out hbr)
  have hg1 : w0.heap.size < w1.heap.size := by obtain ⟨A, c, h1, _⟩ := HRS.out; exact blk_lt h1
  clear hRD hb0 HXa HBa HX0 HB0 hbr
  go_wp2_with fail
  (with_reducible refine (HRV.out w0 _ _ HRS.out (Nat.le_refl _)).mono ?_)
  rintro e w2 ⟨rfl, hRS2, hgr2⟩
  have HX2 := Aside0.mk (blk_grown HX1.out hgr2 (by intro e; injection e with e; omega))
  have HB2 : Aside0 (Below w.heap.size w w2) := ⟨HB1.out.grown hgr2 HB1.out.size (fun k e => by cases e; omega)⟩
  have HRS2 := Aside0.mk hRS2
  clear hRS2 hgr2 HX1 HB1 HRS
  have hal := below_alloc (Below.refl w2.heap.size w2) (vrBox k br ep sq f t v gg)
  have HX3 := Aside0.mk (box_keep HX2.out hal)
  have HB3 := Aside0.mk (below_step HB2.out hal)
  have HRS3 := Aside0.mk (RS_below HRS2.out hal)
  have HZ3 : Aside0 ((w2.alloc (vrBox k br ep sq f t v gg)).heap[w2.heap.size]? = some (vrBox k br ep sq f t v gg)) := ⟨heap_alloc_new w2 _⟩
  have hz : w.heap.size < w2.heap.size := blk_lt HX2.out
  obtain ⟨r0, r1, r2, r3, r4, r5, r6, r7⟩ := vr_cells HX2.out
  have fr := vr_frozen (p := zeroV) HX2.out
  clear hal HRS2
  by_cases her : er = 0
  · subst her
    have hL := HL.out
    rw [if_pos rfl] at hL
    obtain ⟨kk, hkk⟩ := HSUF.out
    obtain ⟨r, hr⟩ : ∃ r, s2.1.length = r := ⟨_, rfl⟩
    have hbl : bs.length = n := HR.out.1
    have hrn : r ≤ n := by rw [← hr, hkk, List.length_drop]; omega
    have hdrop : bs.drop (n - r) = s2.1 := by
      rw [hkk, ← hr, hkk, List.length_drop, hbl]
      rcases Nat.lt_or_ge kk n with h | h
      · rw [show n - (n - kk) = kk by omega]
      · rw [List.drop_of_length_le (show bs.length ≤ kk by omega), List.drop_of_length_le (by omega)]
    obtain ⟨A2, c2, hrun, hC2, hl2⟩ := V.cutfN' A n c bs ((n : Int) - (r : Int)) hbl (by omega) (by omega) hc
    have e2 : ((n : Int) - (r : Int)).toNat = n - r := by omega
    simp only [e2, hdrop, hr] at hrun hC2 hl2
    have HC2 := Aside0.mk hC2
    have HRL := Aside0.mk hr
    have HLL := Aside0.mk hL
    have hj0 : (0 : Int) ≤ (n : Int) - (r : Int) := by omega
    have hj1 : (n : Int) - (r : Int) ≤ (n : Int) := by omega
    have hjw : IntKind.i64.wrap ((n : Int) - (r : Int)) = (n : Int) - (r : Int) := IntWalk.i64_in _ (by omega)
    have HRY3 : Aside0 (RY w0.heap.size w w2.heap.size ⟨k, br, ep, sq, f, t, v, gg⟩ s2 (w2.alloc (vrBox k br ep sq f t v gg))) := ⟨(by obtain ⟨A, c, h1, _⟩ := HRS3.out; exact ⟨A, c, h1⟩), ⟨zeroV, HX3.out⟩, HZ3.out, HB3.out⟩
    have hg3 : w0.heap.size < (w2.alloc (vrBox k br ep sq f t v gg)).heap.size := by obtain ⟨A, c, h1, _⟩ := HRS3.out; exact blk_lt h1
    have hz3 : w2.heap.size < (w2.alloc (vrBox k br ep sq f t v gg)).heap.size := blk_lt HZ3.out
    clear hL hkk hr hdrop hC2 e2 HRS3 HX3 HZ3 HB3 r0 r1 r2 r3 r4 r5 r6 r7 fr HX2 HB2 hbl
    go_wp2_with fail
    obtain ⟨w3, hw3⟩ : ∃ w3, w2.alloc (.cells #[.string k, .int .i64 br, .int .i64 ep, .int .i64 sq, .int .i64 f, .int .i64 t, .string v, .bool gg] 27) = w3 := ⟨_, rfl⟩
    rw [hw3]
    have HRY4 : Aside0 (RY w0.heap.size w w2.heap.size ⟨k, br, ep, sq, f, t, v, gg⟩ s2 w3.drew) := by rw [← hw3]; exact ⟨RY_below HRY3.out (below_drew1 (Below.refl _ _))⟩
    have hg4 : w0.heap.size < w3.heap.size := by rw [← hw3]; exact hg3
    have hz4 : w2.heap.size < w3.heap.size := by rw [← hw3]; exact hz3
    have HRYa : Aside0 (RY w0.heap.size w w2.heap.size ⟨k, br, ep, sq, f, t, v, gg⟩ s2 (w3.alloc (.cells #[] 5)).drew) := ⟨RY_below HRY4.out (below_alloc (Below.refl _ _) _)⟩
    clear hw3 HRY3 hg3 hz3
    go_region_held_law (fun w' => w'.cell? ⟨w2.heap.size, 0, none⟩ = some (.string k) ∧ w'.cell? ⟨w2.heap.size, 1, none⟩ = some (.int .i64 br) ∧ w'.cell? ⟨w2.heap.size, 2, none⟩ = some (.int .i64 ep) ∧ w'.cell? ⟨w2.heap.size, 3, none⟩ = some (.int .i64 sq) ∧ w'.cell? ⟨w2.heap.size, 4, none⟩ = some (.int .i64 f) ∧ w'.cell? ⟨w2.heap.size, 5, none⟩ = some (.int .i64 t) ∧ w'.cell? ⟨w2.heap.size, 6, none⟩ = some (.string v) ∧ w'.cell? ⟨w2.heap.size, 7, none⟩ = some (.bool gg) ∧ Aside0 (RY w0.heap.size w w2.heap.size ⟨k, br, ep, sq, f, t, v, gg⟩ s2 w'))
      (first
        | (with_reducible exact RY_S HRY4.out)
        | (with_reducible exact RY_S HRYa.out)
        | (with_reducible exact RY_S HRY5.out)
        | (rw [set8_eq]; with_reducible exact RY_S (RY_set8 HRY5.out (by omega) (by omega) _)))
      (first
        | ((go_at_call 36); (with_reducible refine (restY_calls (W0 := w) (z := w2.heap.size) (p := ⟨k, br, ep, sq, f, t, v, gg⟩) (s := s2) (by first | exact HRY4.out | exact HRYa.out)).mono ?_); rw [HRL.out]; rintro e _ ⟨rfl, rfl⟩)
        | (refine app_bytes_step (B := w3.heap.size) (v := .slice (some ⟨w3.heap.size, 0, none⟩) 0 0) (xs := []) (ys := s2.1) (A := A2) (m := r) (c := c2) rfl rfl rfl rfl (OB_lit0d w3 _ (Nat.le_refl _)) (HC2.out _ (Kd.C_below HR.out (RY_bel HRYa.out))) (size_lit0d w3) (by simp; omega) ?_; intro u w5 HO5 hb5; have HRY5 : Aside0 (RY w0.heap.size w w2.heap.size ⟨k, br, ep, sq, f, t, v, gg⟩ s2 w5) := ⟨RY_belowN HRYa.out hb5 hg4 (by omega) hz4⟩; obtain ⟨qx, hqx⟩ := HRY5.out.2.1; obtain ⟨r0, r1, r2, r3, r4, r5, r6, r7⟩ := vr_cells hqx; have fr := vr_frozen hqx; have HO6 := Aside0.mk HO5))
    all_goals
      rw [set8_eq]
      have hh9 := set8_heap hqx ⟨k, br, ep, sq, f, t, v, gg⟩
      have hb9 := set8_below (RY_bel HRY5.out) (Nat.le_refl w.heap.size) ⟨k, br, ep, sq, f, t, v, gg⟩
      have ho9 := OB_set8 (x := w.heap.size) HO6.out (by omega) ⟨k, br, ep, sq, f, t, v, gg⟩
      clear r0 r1 r2 r3 r4 r5 r6 r7 fr hqx
      obtain ⟨w9, hw9⟩ : ∃ w9, set8 w5 w.heap.size ⟨k, br, ep, sq, f, t, v, gg⟩ = w9 := ⟨_, rfl⟩
      rw [hw9] at hh9 hb9 ho9 ⊢
      clear hw9
      have HO9 := Aside0.mk (Kd.R_lower ho9 (show w.heap.size ≤ w3.heap.size by omega))
      have HB9 := Aside0.mk hb9
      clear ho9 hb9
      go_wp2_with fail
      obtain ⟨q0, q1, q2, q3, q4, q5, q6, q7⟩ := vr_cells hh9
      exact bodyPost_ret (v := .tuple #[.agg #[.string k, .int .i64 br, .int .i64 ep, .int .i64 sq, .int .i64 f, .int .i64 t, .string v, .bool gg], u, .int .i64 0]) (by simp [results, Try.results17, go_sem, q0, q1, q2, q3, q4, q5, q6, q7]) rfl ⟨u, rfl, by rw [← HLL.out]; exact HO9.out, HB9.out⟩
  · have hd : (er == 0) = false := beq_eq_false_iff_ne.2 her
    have hd2 : (er != 0) = true := bne_iff_ne.2 her
    have HE := Aside0.mk her
    clear her
    go_wp2_with fail
    rw [set8_eq]
    have hal := below_alloc (Below.refl (set8 w2 w.heap.size zeroV).heap.size (set8 w2 w.heap.size zeroV)) (vrBox k br ep sq f t v gg)
    have hh := box_keep (set8_heap (q := zeroV) HX2.out zeroV) hal
    have hb := below_step (set8_below HB2.out (Nat.le_refl w.heap.size) zeroV) hal
    have hz := HZV.out HE.out
    obtain ⟨w9, hw9⟩ : ∃ w9, (set8 w2 w.heap.size ⟨{ data := #[] }, 0, 0, 0, 0, 0, { data := #[] }, false⟩).alloc (.cells #[.string k, .int .i64 br, .int .i64 ep, .int .i64 sq, .int .i64 f, .int .i64 t, .string v, .bool gg] 27) = w9 := ⟨_, rfl⟩
    have hh9 : w9.heap[w.heap.size]? = some (vrB zeroV) := by rw [← hw9]; exact hh
    have hb9 : Below w.heap.size w w9 := by rw [← hw9]; exact hb
    rw [hw9]
    clear hw9 hal hh hb
    obtain ⟨q0, q1, q2, q3, q4, q5, q6, q7⟩ := vr_cells hh9
    injection hz with z0 z1 z2 z3 z4 z5 z6 z7
    subst z0 z1 z2 z3 z4 z5 z6 z7
    exact bodyPost_ret (v := .tuple #[.agg #[.string { data := #[] }, .int .i64 0, .int .i64 0, .int .i64 0, .int .i64 0, .int .i64 0, .string { data := #[] }, .bool false], .slice none 0 0, .int .i64 er]) (by simp [results, Try.results17, go_sem, q0, q1, q2, q3, q4, q5, q6, q7, zeroV]) rfl ⟨_, rfl, by rw [← HL.out, if_neg HE.out]; exact OB_nil _ _, hb9⟩
end Go.Proofs.Ytmkabbfglijckaa.A
