/- A version read of bytes: the program's. -/
import Derived.Test.YtmkabbfglijckaaBReader
import Derived.Test.YtmkabbfglijckaaBWrite
namespace Go.Proofs.Ytmkabbfglijckaa.A
open Go.RowKit Go.Proofs.YtmkabbfglijckaaW.PrintWords Go.Proofs.YtmkabbfglijckaaW.PrintLast Go.Proofs.YtmkabbfglijckaaW.PrintMore
set_option linter.unusedVariables false
set_option linter.unusedSimpArgs false

def zeroV : Vr := ⟨{ data := #[] }, 0, 0, 0, 0, 0, { data := #[] }, false⟩
def n1S (s : St) := numS s
def n2S (s : St) := numS (n1S s).2
def n3S (s : St) := numS (n2S s).2
def n4S (s : St) := numS (n3S s).2
def n5S (s : St) := numS (n4S s).2
def n6S (s : St) := numS (n5S s).2
def t1S (s : St) := textS 100 (n6S s).2
def t2S (s : St) := textS 200 (t1S s).2
def verS (s : St) : Vr := ⟨(t1S s).1, (n1S s).1, (n2S s).1, (n3S s).1, (n4S s).1, (n4S s).1 + (n5S s).1, (t2S s).1, decide ((n6S s).1 = 1)⟩
def readV (s : St) : Vr × Int × St :=
  if (t2S s).2.2 ≠ 0 then (zeroV, (t2S s).2.2, (t2S s).2)
  else if 1 < (n6S s).1 ∨ mayV (verS s) = false then (zeroV, 2, (t2S s).2)
  else (verS s, 0, (t2S s).2)
theorem textS_size (most : Int) (hm : 0 ≤ most) {s : St} (h : okS s) : ((textS most s).1.size : Int) ≤ most := by
  obtain ⟨_, ⟨h0, _⟩, _⟩ := okS_num h
  unfold textS
  split
  · exact hm
  · split
    · exact hm
    · split
      · exact hm
      · simp only
        rw [strOfNums_size, List.length_take]
        omega
theorem grownBy_set {W W1 : World} {o : Option Nat} (h : W.grownBy W1 o) {y : Nat} (hy : W.heap.size ≤ y) (j : Nat) (v : Value) : W.grownBy (W1.setCell ⟨y, j, none⟩ v) o :=
  ⟨h.os, h.tape, h.output, by rw [World.size_setCell]; exact h.size, fun i hi ho => (Below.heap_setCell _ _ v i (fun e => by simp only at e; omega)).trans (h.block i hi ho)⟩
theorem RS_set {w0 W : World} {g : Nat} {s : St} (h : RS w0 g W s) {y : Nat} (hy : y ≠ g) (h0 : w0.heap.size ≤ y) (j : Nat) (v : Value) : RS w0 g (W.setCell ⟨y, j, none⟩ v) s := by
  obtain ⟨A, c, h1, h2, h3, h4⟩ := h
  exact ⟨A, c, (Below.heap_setCell _ _ v g (fun e => hy e.symm)).trans h1, h2, h3, h4.setCell (p := ⟨y, j, none⟩) h0 _⟩
theorem errS_calls (w0 W : World) (g : Nat) (s : St) (h : RS w0 g W s) :
    Calls Try.prog 43 #[.pointer (some ⟨g, 0, none⟩)] W fun e w' => e = .returned (.int .i64 s.2) ∧ w' = W := by
  obtain ⟨A, c, h1, h2, h3, h4⟩ := h
  obtain ⟨b0, b1⟩ := V.rdr_cells h1
  clear h1 h3 h4
  go_enter Try.func43, Try.ntmps43
  go_wp2
  go_ret
  exact ⟨rfl, rfl⟩
theorem restS_calls (w0 W : World) (g : Nat) (s : St) (h : RS w0 g W s) :
    Calls Try.prog 36 #[.pointer (some ⟨g, 0, none⟩)] W fun e w' => e = .returned (.int .i64 s.1.length) ∧ w' = W := by
  obtain ⟨A, c, h1, h2, h3, h4⟩ := h
  obtain ⟨b0, b1⟩ := V.rdr_cells h1
  clear h1 h3 h4
  go_enter Try.func36, Try.ntmps36
  go_wp2
  go_ret
  exact ⟨rfl, rfl⟩
/-- The walk's state: the reader, the box of what is told, what else is as it was. -/
def RV (w0 : World) (g : Nat) (W0 W : World) (s : St) : Prop := RS w0 g W s ∧ W.heap[W0.heap.size]? = some (vrBox { data := #[] } 0 0 0 0 0 { data := #[] } false) ∧ W0.grownBy W (some g)
theorem RV_rs {w0 W0 W : World} {g : Nat} {s : St} (h : RV w0 g W0 W s) : RS w0 g W s := h.1
theorem RV_num {w0 W0 W W1 : World} {g : Nat} {s s1 : St} (h : RV w0 g W0 W s) (hg0 : g < W0.heap.size) (hR : RS w0 g W1 s1) (hg : W.grownBy W1 (some g)) : RV w0 g W0 W1 s1 :=
  ⟨hR, blk_grown h.2.1 hg (by intro e; injection e with e; omega), h.2.2.trans hg⟩
theorem RV_below {w0 W0 W W1 : World} {g : Nat} {s : St} (h : RV w0 g W0 W s) (hb : Below W.heap.size W W1) : RV w0 g W0 W1 s :=
  ⟨RS_below h.1 hb, box_keep h.2.1 hb, h.2.2.trans (grown_of_below hb _)⟩
/-- .. and the version's own box. -/
def RW (w0 : World) (g : Nat) (W0 : World) (y : Nat) (W : World) (s : St) (p : Vr) : Prop := RV w0 g W0 W s ∧ W.heap[y]? = some (vrB p)
theorem RW_rs {w0 W0 W : World} {g y : Nat} {s : St} {p : Vr} (h : RW w0 g W0 y W s p) : RS w0 g W s := h.1.1
theorem RW_num {w0 W0 W W1 : World} {g y : Nat} {s s1 : St} {p : Vr} (h : RW w0 g W0 y W s p) (hg0 : g < W0.heap.size) (hy : W0.heap.size < y) (hR : RS w0 g W1 s1) (hg : W.grownBy W1 (some g)) : RW w0 g W0 y W1 s1 p :=
  ⟨RV_num h.1 hg0 hR hg, blk_grown h.2 hg (by intro e; injection e with e; omega)⟩
theorem RW_set {w0 W0 W : World} {g y : Nat} {s : St} {p p' : Vr} (h : RW w0 g W0 y W s p) (h0 : w0.heap.size ≤ g) (hg0 : g < W0.heap.size) (hy : W0.heap.size < y) (j : Nat) (u : Value)
    (e : (#[.string p.k, .int .i64 p.br, .int .i64 p.ep, .int .i64 p.sq, .int .i64 p.f, .int .i64 p.t, .string p.v, .bool p.g] : Array Value).setIfInBounds j u = #[.string p'.k, .int .i64 p'.br, .int .i64 p'.ep, .int .i64 p'.sq, .int .i64 p'.f, .int .i64 p'.t, .string p'.v, .bool p'.g]) : RW w0 g W0 y (W.setCell ⟨y, j, none⟩ u) s p' :=
  ⟨⟨RS_set h.1.1 (by omega) (by omega) j u, (Below.heap_setCell _ _ u _ (fun e => by simp only at e; omega)).trans h.1.2.1, grownBy_set h.1.2.2 (by omega) j u⟩, blk_put h.2 j u e⟩
theorem RW_drew {w0 W0 W : World} {g y : Nat} {s : St} {p : Vr} (h : RW w0 g W0 y W s p) : RW w0 g W0 y W.drew s p :=
  ⟨RV_below h.1 (below_drew1 (Below.refl _ _)), h.2⟩
theorem RW_alloc {w0 W0 W : World} {g y : Nat} {s : St} {p : Vr} (h : RW w0 g W0 y W s p) (o : Obj) : RW w0 g W0 y (W.alloc o) s p :=
  ⟨RV_below h.1 (below_alloc (Below.refl _ _) o), box_keep h.2 (below_alloc (Below.refl _ _) o)⟩
theorem RW_below {w0 W0 W W1 : World} {g y : Nat} {s : St} {p : Vr} (h : RW w0 g W0 y W s p) (hb : Below W.heap.size W W1) : RW w0 g W0 y W1 s p :=
  ⟨RV_below h.1 hb, box_keep h.2 hb⟩
set_option maxHeartbeats 2000000 in
theorem RW_fin {w0 W0 W : World} {g y : Nat} {s : St} {p : Vr} (h : RW w0 g W0 y W s p) (h0 : w0.heap.size ≤ g) (hg0 : g < W0.heap.size) (k : ByteArray) (br ep sq f t : Int) (v : ByteArray) (b : Bool) :
    ((((((((W.setCell ⟨W0.heap.size, 0, none⟩ (.string k)).setCell ⟨W0.heap.size, 1, none⟩ (.int .i64 br)).setCell ⟨W0.heap.size, 2, none⟩ (.int .i64 ep)).setCell ⟨W0.heap.size, 3, none⟩ (.int .i64 sq)).setCell ⟨W0.heap.size, 4, none⟩ (.int .i64 f)).setCell ⟨W0.heap.size, 5, none⟩ (.int .i64 t)).setCell ⟨W0.heap.size, 6, none⟩ (.string v)).setCell ⟨W0.heap.size, 7, none⟩ (.bool b)).heap[W0.heap.size]? = some (vrBox k br ep sq f t v b) ∧
    RS w0 g ((((((((W.setCell ⟨W0.heap.size, 0, none⟩ (.string k)).setCell ⟨W0.heap.size, 1, none⟩ (.int .i64 br)).setCell ⟨W0.heap.size, 2, none⟩ (.int .i64 ep)).setCell ⟨W0.heap.size, 3, none⟩ (.int .i64 sq)).setCell ⟨W0.heap.size, 4, none⟩ (.int .i64 f)).setCell ⟨W0.heap.size, 5, none⟩ (.int .i64 t)).setCell ⟨W0.heap.size, 6, none⟩ (.string v)).setCell ⟨W0.heap.size, 7, none⟩ (.bool b)) s ∧
    W0.grownBy ((((((((W.setCell ⟨W0.heap.size, 0, none⟩ (.string k)).setCell ⟨W0.heap.size, 1, none⟩ (.int .i64 br)).setCell ⟨W0.heap.size, 2, none⟩ (.int .i64 ep)).setCell ⟨W0.heap.size, 3, none⟩ (.int .i64 sq)).setCell ⟨W0.heap.size, 4, none⟩ (.int .i64 f)).setCell ⟨W0.heap.size, 5, none⟩ (.int .i64 t)).setCell ⟨W0.heap.size, 6, none⟩ (.string v)).setCell ⟨W0.heap.size, 7, none⟩ (.bool b)) (some g) := by
  refine ⟨?_, ?_, ?_⟩
  · have h1 : (W.setCell ⟨W0.heap.size, 0, none⟩ (.string k)).heap[W0.heap.size]? = some (vrBox k 0 0 0 0 0 { data := #[] } false) := blk_put h.1.2.1 0 _ rfl
    have h2 := blk_set h1 1 (.int .i64 br)
    have h3 := blk_set h2 2 (.int .i64 ep)
    have h4 := blk_set h3 3 (.int .i64 sq)
    have h5 := blk_set h4 4 (.int .i64 f)
    have h6 := blk_set h5 5 (.int .i64 t)
    have h7 := blk_set h6 6 (.string v)
    exact blk_put h7 7 _ rfl
  · have hx : W0.heap.size ≠ g := by omega
    have hx0 : w0.heap.size ≤ W0.heap.size := by omega
    have h1 := h.1.1
    clear h
    have h1 := RS_set h1 hx hx0 0 (.string k)
    have h1 := RS_set h1 hx hx0 1 (.int .i64 br)
    have h1 := RS_set h1 hx hx0 2 (.int .i64 ep)
    have h1 := RS_set h1 hx hx0 3 (.int .i64 sq)
    have h1 := RS_set h1 hx hx0 4 (.int .i64 f)
    have h1 := RS_set h1 hx hx0 5 (.int .i64 t)
    have h1 := RS_set h1 hx hx0 6 (.string v)
    exact RS_set h1 hx hx0 7 (.bool b)
  · have h1 := h.1.2.2
    clear h
    have h1 := grownBy_set h1 (Nat.le_refl _) 0 (.string k)
    have h1 := grownBy_set h1 (Nat.le_refl _) 1 (.int .i64 br)
    have h1 := grownBy_set h1 (Nat.le_refl _) 2 (.int .i64 ep)
    have h1 := grownBy_set h1 (Nat.le_refl _) 3 (.int .i64 sq)
    have h1 := grownBy_set h1 (Nat.le_refl _) 4 (.int .i64 f)
    have h1 := grownBy_set h1 (Nat.le_refl _) 5 (.int .i64 t)
    have h1 := grownBy_set h1 (Nat.le_refl _) 6 (.string v)
    exact grownBy_set h1 (Nat.le_refl _) 7 (.bool b)
theorem vr_frozen {w : World} {x : Nat} {p : Vr} (h : w.heap[x]? = some (vrB p)) (i : Nat) : w.frozen? ⟨x, i, none⟩ = false := blk_frozen h i
set_option maxRecDepth 100000 in
set_option maxHeartbeats 8000000 in
theorem readV_calls (w0 W : World) (g : Nat) (s : St) (h : RS w0 g W s) (h0 : w0.heap.size ≤ g) (hok : okS s) :
    Calls Try.prog 35 #[.pointer (some ⟨g, 0, none⟩)] W fun e w' => e = .returned (.tuple #[.agg #[.string (readV s).1.k, .int .i64 (readV s).1.br, .int .i64 (readV s).1.ep, .int .i64 (readV s).1.sq, .int .i64 (readV s).1.f, .int .i64 (readV s).1.t, .string (readV s).1.v, .bool (readV s).1.g], .int .i64 (readV s).2.1]) ∧ RS w0 g w' (readV s).2.2 ∧ W.grownBy w' (some g) := by
  have hgW : g < W.heap.size := by obtain ⟨A, c, h1, _⟩ := h; exact blk_lt h1
  have HR : Aside0 (RV w0 g W (W.alloc (vrBox { data := #[] } 0 0 0 0 0 { data := #[] } false)) s) := ⟨RS_below h (below_alloc (Below.refl _ _) _), heap_alloc_new W _, World.grownBy_alloc W _ _⟩
  have k1 := okS_num hok
  have k2 := okS_num k1.1
  have k3 := okS_num k2.1
  have k4 := okS_num k3.1
  have k5 := okS_num k4.1
  have k6 := okS_num k5.1
  have k7 := okS_text 100 k6.1
  have k8 := okS_text 200 k7.1
  have z1 := textS_size 100 (by decide) k6.1
  have z2 := textS_size 200 (by decide) k7.1
  have hwr : IntKind.i64.wrap ((numS (numS (numS (numS s).2).2).2).1 + (numS (numS (numS (numS (numS s).2).2).2).2).1) = (numS (numS (numS (numS s).2).2).2).1 + (numS (numS (numS (numS (numS s).2).2).2).2).1 := IntWalk.i64_in _ (by have := k4.2.1; have := k5.2.1; omega)
  have K4 := Aside0.mk k4.1.1
  have K5 := Aside0.mk k5.1.1
  have K6 := Aside0.mk k6.1
  have K7 := Aside0.mk k7.1
  have Z1 := Aside0.mk z1
  have Z2 := Aside0.mk z2
  have HWR := Aside0.mk hwr
  have K1 := Aside0.mk k1.1.1
  have K2 := Aside0.mk k2.1.1
  have K3 := Aside0.mk k3.1.1
  clear k1 k2 k3 k4 k5 k6 k7 k8 z1 z2 hwr
  have HRV : Aside0 (readV s = if (t2S s).2.2 ≠ 0 then (zeroV, (t2S s).2.2, (t2S s).2) else if 1 < (n6S s).1 ∨ mayV (verS s) = false then (zeroV, 2, (t2S s).2) else (verS s, 0, (t2S s).2)) := ⟨rfl⟩
  obtain ⟨T, hT⟩ : ∃ T, readV s = T := ⟨_, rfl⟩
  rw [hT] at HRV ⊢
  unfold verS t2S t1S n6S n5S n4S n3S n2S n1S at HRV
  have K0 := Aside0.mk hok.1
  clear h hT
  go_enter Try.func35, Try.ntmps35
  go_wp2_with fail
  (with_reducible refine (numS_calls w0 _ g s (RV_rs HR.out) h0 K0.out).mono ?_)
  rintro e w1 ⟨rfl, hR1, hg1⟩
  have HR1 := Aside0.mk (RV_num HR.out hgW hR1 hg1)
  clear hR1 hg1 HR
  generalize numS s = a1 at *
  obtain ⟨a1, s1⟩ := a1
  go_wp2_with fail
  (with_reducible refine (numS_calls w0 _ g s1 (RV_rs HR1.out) h0 K1.out).mono ?_)
  rintro e w2 ⟨rfl, hR2, hg2⟩
  have HR2 := Aside0.mk (RV_num HR1.out hgW hR2 hg2)
  clear hR2 hg2 HR1
  generalize numS s1 = a2 at *
  obtain ⟨a2, s2⟩ := a2
  go_wp2_with fail
  (with_reducible refine (numS_calls w0 _ g s2 (RV_rs HR2.out) h0 K2.out).mono ?_)
  rintro e w3 ⟨rfl, hR3, hg3⟩
  have HR3 := Aside0.mk (RV_num HR2.out hgW hR3 hg3)
  clear hR3 hg3 HR2
  generalize numS s2 = a3 at *
  obtain ⟨a3, s3⟩ := a3
  have HR4 : Aside0 (RW w0 g W w3.heap.size (w3.alloc (vrBox { data := #[] } a1 a2 a3 0 0 { data := #[] } false)) s3 ⟨{ data := #[] }, a1, a2, a3, 0, 0, { data := #[] }, false⟩) := ⟨RV_below HR3.out (below_alloc (Below.refl _ _) _), heap_alloc_new w3 _⟩
  have hy : W.heap.size < w3.heap.size := blk_lt HR3.out.2.1
  clear HR3
  go_wp2_with fail
  obtain ⟨w4, hw4⟩ : ∃ w4, w3.alloc (.cells #[.string { data := #[] }, .int .i64 a1, .int .i64 a2, .int .i64 a3, .int .i64 0, .int .i64 0, .string { data := #[] }, .bool false] 27) = w4 := ⟨_, rfl⟩
  obtain ⟨y, hyy⟩ : ∃ y, w3.heap.size = y := ⟨_, rfl⟩
  rw [hw4, hyy]
  have HR4 : Aside0 (RW w0 g W y w4 s3 ⟨{ data := #[] }, a1, a2, a3, 0, 0, { data := #[] }, false⟩) := by rw [← hw4, ← hyy]; exact HR4
  rw [hyy] at hy
  clear hw4 hyy
  (with_reducible refine (numS_calls w0 _ g s3 (RW_rs HR4.out) h0 K3.out).mono ?_)
  rintro e w5 ⟨rfl, hR5, hg5⟩
  have HR5 := Aside0.mk (RW_num HR4.out hgW hy hR5 hg5)
  clear hR5 hg5 HR4
  generalize numS s3 = a4 at *
  obtain ⟨a4, s4⟩ := a4
  obtain ⟨x0, x1, x2, x3, x4, x5, x6, x7⟩ := vr_cells HR5.out.2
  have fz := vr_frozen HR5.out.2
  have HR6 := Aside0.mk (RW_set (p' := ⟨{ data := #[] }, a1, a2, a3, a4, 0, { data := #[] }, false⟩) HR5.out h0 hgW hy 4 (.int .i64 a4) rfl)
  go_wp2_with fail
  clear x0 x1 x2 x3 x4 x5 x6 x7 fz HR5
  generalize w5.setCell ⟨y, 4, none⟩ (.int .i64 a4) = w6 at *
  obtain ⟨x0, x1, x2, x3, x4, x5, x6, x7⟩ := vr_cells HR6.out.2
  have fz := vr_frozen HR6.out.2
  have HR7 := Aside0.mk (RW_drew HR6.out)
  have hwr := HWR.out
  go_region_held (fun w' => w'.cell? ⟨y, 4, none⟩ = some (.int .i64 a4))
    (first | exact x4 | (rw [World.cell?_setCell_other _ _ _ _ (by simp)]; exact x4))
    (first
      | ((go_at_call 42); (with_reducible refine (numS_calls w0 _ g s4 (RW_rs HR7.out) h0 K4.out).mono ?_); rintro e w7 ⟨rfl, hR8, hg8⟩; have HR8 := Aside0.mk (RW_num HR7.out hgW hy hR8 hg8); obtain ⟨x0, x1, x2, x3, x4, x5, x6, x7⟩ := vr_cells HR8.out.2; have fz := vr_frozen HR8.out.2))
  have HR9 := Aside0.mk (RW_set (p' := ⟨{ data := #[] }, a1, a2, a3, a4, a4 + (numS s4).1, { data := #[] }, false⟩) HR8.out h0 hgW hy 5 (.int .i64 (a4 + (numS s4).1)) rfl)
  rename_i hHeld
  clear x0 x1 x2 x3 x4 x5 x6 x7 fz hHeld hR8 hg8 HR8 HR7 HR6 hwr HWR HR4
  generalize numS s4 = a5 at *
  obtain ⟨a5, s5⟩ := a5
  simp only at HR9 ⊢
  generalize w7.setCell ⟨y, 5, none⟩ (.int .i64 (a4 + a5)) = w8 at *
  go_wp2_with fail
  (with_reducible refine (numS_calls w0 _ g s5 (RW_rs HR9.out) h0 K5.out).mono ?_)
  rintro e w9 ⟨rfl, hR10, hg10⟩
  have HR10 := Aside0.mk (RW_num HR9.out hgW hy hR10 hg10)
  clear hR10 hg10 HR9
  generalize numS s5 = a6 at *
  obtain ⟨a6, s6⟩ := a6
  obtain ⟨x0, x1, x2, x3, x4, x5, x6, x7⟩ := vr_cells HR10.out.2
  have fz := vr_frozen HR10.out.2
  by_cases h6 : a6 = 1
  · subst h6
    have HR11 := Aside0.mk (RW_set (p' := ⟨{ data := #[] }, a1, a2, a3, a4, a4 + a5, { data := #[] }, true⟩) HR10.out h0 hgW hy 7 (.bool true) rfl)
    go_wp2_with fail
    clear x0 x1 x2 x3 x4 x5 x6 x7 fz HR10
    generalize w9.setCell ⟨y, 7, none⟩ (.bool true) = w10 at *
    (with_reducible refine (textS_calls w0 _ g s6 100 (RW_rs HR11.out) h0 K6.out).mono ?_)
    rintro e w11 ⟨rfl, hR12, hg12⟩
    have HR12 := Aside0.mk (RW_num HR11.out hgW hy hR12 hg12)
    clear hR12 hg12 HR11
    generalize textS 100 s6 = v1 at *
    obtain ⟨u1, s7⟩ := v1
    go_wp2_with fail
    (with_reducible refine (textS_calls w0 _ g s7 200 (RW_rs HR12.out) h0 K7.out).mono ?_)
    rintro e w12 ⟨rfl, hR13, hg13⟩
    have HR13 := Aside0.mk (RW_num HR12.out hgW hy hR13 hg13)
    clear hR13 hg13 HR12
    generalize textS 200 s7 = v2 at *
    obtain ⟨u2, s8⟩ := v2
    obtain ⟨x0, x1, x2, x3, x4, x5, x6, x7⟩ := vr_cells HR13.out.2
    have fz := vr_frozen HR13.out.2
    have HR14 := Aside0.mk (RW_set (p' := ⟨u1, a1, a2, a3, a4, a4 + a5, u2, true⟩) (RW_set (p' := ⟨u1, a1, a2, a3, a4, a4 + a5, { data := #[] }, true⟩) HR13.out h0 hgW hy 0 (.string u1) rfl) h0 hgW hy 6 (.string u2) rfl)
    go_wp2_with fail
    clear x0 x1 x2 x3 x4 x5 x6 x7 fz HR13
    generalize (w12.setCell ⟨y, 0, none⟩ (.string u1)).setCell ⟨y, 6, none⟩ (.string u2) = w13 at *
    (with_reducible refine (errS_calls w0 _ g s8 (RW_rs HR14.out)).mono ?_)
    rintro e w14 ⟨rfl, rfl⟩
    obtain ⟨r0, r1, r2, r3, r4, r5, r6, r7⟩ := vr_cells HR14.out.1.2.1
    have fr := vr_frozen (p := zeroV) HR14.out.1.2.1
    obtain ⟨x0, x1, x2, x3, x4, x5, x6, x7⟩ := vr_cells HR14.out.2
    have fz := vr_frozen HR14.out.2
    have hT := HRV.out
    simp only [decide_true] at hT
    by_cases her : s8.2 = 0
    · have HE := Aside0.mk her
      rw [if_neg (by simpa using her)] at hT
      rw [her]
      go_wp2_with fail
      (with_reducible refine (may_calls u1 a1 a2 a3 a4 (a4 + a5) u2 true _ (by have := Z1.out; omega) (by have := Z2.out; omega)).mono ?_)
      have HR15 := HR14
      cases hm : mayV ⟨u1, a1, a2, a3, a4, a4 + a5, u2, true⟩ with
      | false =>
        rintro e w15 ⟨rfl, hb15⟩
        have HR16 := Aside0.mk (RW_below HR15.out hb15)
        clear x0 x1 x2 x3 x4 x5 x6 x7 fz r0 r1 r2 r3 r4 r5 r6 r7 fr hb15
        obtain ⟨r0, r1, r2, r3, r4, r5, r6, r7⟩ := vr_cells HR16.out.1.2.1
        have fr := vr_frozen (p := zeroV) HR16.out.1.2.1
        go_wp2_with fail
        have hfin := RW_fin HR16.out h0 hgW { data := #[] } 0 0 0 0 0 { data := #[] } false
        obtain ⟨q0, q1, q2, q3, q4, q5, q6, q7⟩ := vr_cells hfin.1
        have HT : Aside0 (T = (⟨{ data := #[] }, 0, 0, 0, 0, 0, { data := #[] }, false⟩, 2, s8)) := ⟨by rw [hT, if_pos (.inr hm)]; rfl⟩
        rw [HT.out]
        exact bodyPost_ret (v := .tuple #[.agg #[.string { data := #[] }, .int .i64 0, .int .i64 0, .int .i64 0, .int .i64 0, .int .i64 0, .string { data := #[] }, .bool false], .int .i64 2]) (by simp [results, Try.results35, go_sem, q0, q1, q2, q3, q4, q5, q6, q7]) rfl ⟨rfl, hfin.2.1, hfin.2.2⟩
      | true =>
        rintro e w15 ⟨rfl, hb15⟩
        have HR16 := Aside0.mk (RW_below HR15.out hb15)
        clear x0 x1 x2 x3 x4 x5 x6 x7 fz r0 r1 r2 r3 r4 r5 r6 r7 fr hb15
        obtain ⟨r0, r1, r2, r3, r4, r5, r6, r7⟩ := vr_cells HR16.out.1.2.1
        have fr := vr_frozen (p := zeroV) HR16.out.1.2.1
        obtain ⟨x0, x1, x2, x3, x4, x5, x6, x7⟩ := vr_cells HR16.out.2
        have fz := vr_frozen HR16.out.2
        go_wp2_with fail
        have hfin := RW_fin HR16.out h0 hgW u1 a1 a2 a3 a4 (a4 + a5) u2 true
        obtain ⟨q0, q1, q2, q3, q4, q5, q6, q7⟩ := vr_cells hfin.1
        have HT : Aside0 (T = (⟨u1, a1, a2, a3, a4, (a4 + a5), u2, true⟩, 0, s8)) := ⟨by rw [hT, if_neg (by rintro (h | h) <;> simp_all)]; try simp_all⟩
        rw [HT.out]
        exact bodyPost_ret (v := .tuple #[.agg #[.string u1, .int .i64 a1, .int .i64 a2, .int .i64 a3, .int .i64 a4, .int .i64 (a4 + a5), .string u2, .bool true], .int .i64 0]) (by simp [results, Try.results35, go_sem, q0, q1, q2, q3, q4, q5, q6, q7]) rfl ⟨rfl, hfin.2.1, hfin.2.2⟩
    · rw [if_pos (by simpa using her)] at hT
      have hne : (s8.2 == 0) = false := beq_eq_false_iff_ne.2 her
      have hne2 : (s8.2 != 0) = true := bne_iff_ne.2 her
      have HT0 := Aside0.mk hT
      clear hT her
      go_wp2_with fail
      (with_reducible refine (errS_calls w0 _ g s8 (RW_rs HR14.out)).mono ?_)
      rintro e w15 ⟨rfl, rfl⟩
      go_wp2_with fail
      have hfin := RW_fin HR14.out h0 hgW { data := #[] } 0 0 0 0 0 { data := #[] } false
      obtain ⟨q0, q1, q2, q3, q4, q5, q6, q7⟩ := vr_cells hfin.1
      have HT : Aside0 (T = (⟨{ data := #[] }, 0, 0, 0, 0, 0, { data := #[] }, false⟩, s8.2, s8)) := ⟨HT0.out⟩
      rw [HT.out]
      exact bodyPost_ret (v := .tuple #[.agg #[.string { data := #[] }, .int .i64 0, .int .i64 0, .int .i64 0, .int .i64 0, .int .i64 0, .string { data := #[] }, .bool false], .int .i64 s8.2]) (by simp [results, Try.results35, go_sem, q0, q1, q2, q3, q4, q5, q6, q7]) rfl ⟨rfl, hfin.2.1, hfin.2.2⟩
  · have hd6 : (a6 == 1) = false := beq_eq_false_iff_ne.2 h6
    have H6 := Aside0.mk h6
    clear h6
    have HR11 := Aside0.mk (RW_set (p' := ⟨{ data := #[] }, a1, a2, a3, a4, a4 + a5, { data := #[] }, false⟩) HR10.out h0 hgW hy 7 (.bool false) rfl)
    go_wp2_with fail
    clear x0 x1 x2 x3 x4 x5 x6 x7 fz HR10
    generalize w9.setCell ⟨y, 7, none⟩ (.bool false) = w10 at *
    (with_reducible refine (textS_calls w0 _ g s6 100 (RW_rs HR11.out) h0 K6.out).mono ?_)
    rintro e w11 ⟨rfl, hR12, hg12⟩
    have HR12 := Aside0.mk (RW_num HR11.out hgW hy hR12 hg12)
    clear hR12 hg12 HR11
    generalize textS 100 s6 = v1 at *
    obtain ⟨u1, s7⟩ := v1
    go_wp2_with fail
    (with_reducible refine (textS_calls w0 _ g s7 200 (RW_rs HR12.out) h0 K7.out).mono ?_)
    rintro e w12 ⟨rfl, hR13, hg13⟩
    have HR13 := Aside0.mk (RW_num HR12.out hgW hy hR13 hg13)
    clear hR13 hg13 HR12
    generalize textS 200 s7 = v2 at *
    obtain ⟨u2, s8⟩ := v2
    obtain ⟨x0, x1, x2, x3, x4, x5, x6, x7⟩ := vr_cells HR13.out.2
    have fz := vr_frozen HR13.out.2
    have HR14 := Aside0.mk (RW_set (p' := ⟨u1, a1, a2, a3, a4, a4 + a5, u2, false⟩) (RW_set (p' := ⟨u1, a1, a2, a3, a4, a4 + a5, { data := #[] }, false⟩) HR13.out h0 hgW hy 0 (.string u1) rfl) h0 hgW hy 6 (.string u2) rfl)
    go_wp2_with fail
    clear x0 x1 x2 x3 x4 x5 x6 x7 fz HR13
    generalize (w12.setCell ⟨y, 0, none⟩ (.string u1)).setCell ⟨y, 6, none⟩ (.string u2) = w13 at *
    (with_reducible refine (errS_calls w0 _ g s8 (RW_rs HR14.out)).mono ?_)
    rintro e w14 ⟨rfl, rfl⟩
    obtain ⟨r0, r1, r2, r3, r4, r5, r6, r7⟩ := vr_cells HR14.out.1.2.1
    have fr := vr_frozen (p := zeroV) HR14.out.1.2.1
    obtain ⟨x0, x1, x2, x3, x4, x5, x6, x7⟩ := vr_cells HR14.out.2
    have fz := vr_frozen HR14.out.2
    have hT := HRV.out
    rw [decide_eq_false H6.out] at hT
    by_cases her : s8.2 = 0
    · have HE := Aside0.mk her
      rw [if_neg (by simpa using her)] at hT
      rw [her]
      by_cases h1 : 1 < a6
      · have H1 := Aside0.mk h1
        go_wp2_with fail
        have hfin := RW_fin HR14.out h0 hgW { data := #[] } 0 0 0 0 0 { data := #[] } false
        obtain ⟨q0, q1, q2, q3, q4, q5, q6, q7⟩ := vr_cells hfin.1
        have HT : Aside0 (T = (⟨{ data := #[] }, 0, 0, 0, 0, 0, { data := #[] }, false⟩, 2, s8)) := ⟨by rw [hT, if_pos (.inl H1.out)]; rfl⟩
        rw [HT.out]
        exact bodyPost_ret (v := .tuple #[.agg #[.string { data := #[] }, .int .i64 0, .int .i64 0, .int .i64 0, .int .i64 0, .int .i64 0, .string { data := #[] }, .bool false], .int .i64 2]) (by simp [results, Try.results35, go_sem, q0, q1, q2, q3, q4, q5, q6, q7]) rfl ⟨rfl, hfin.2.1, hfin.2.2⟩
      · have hd1 : decide (1 < a6) = false := decide_eq_false h1
        have H1 := Aside0.mk h1
        go_wp2_with fail
        (with_reducible refine (may_calls u1 a1 a2 a3 a4 (a4 + a5) u2 false _ (by have := Z1.out; omega) (by have := Z2.out; omega)).mono ?_)
        have HR15 := HR14
        cases hm : mayV ⟨u1, a1, a2, a3, a4, a4 + a5, u2, false⟩ with
        | false =>
          rintro e w15 ⟨rfl, hb15⟩
          have HR16 := Aside0.mk (RW_below HR15.out hb15)
          clear x0 x1 x2 x3 x4 x5 x6 x7 fz r0 r1 r2 r3 r4 r5 r6 r7 fr hb15
          obtain ⟨r0, r1, r2, r3, r4, r5, r6, r7⟩ := vr_cells HR16.out.1.2.1
          have fr := vr_frozen (p := zeroV) HR16.out.1.2.1
          go_wp2_with fail
          have hfin := RW_fin HR16.out h0 hgW { data := #[] } 0 0 0 0 0 { data := #[] } false
          obtain ⟨q0, q1, q2, q3, q4, q5, q6, q7⟩ := vr_cells hfin.1
          have HT : Aside0 (T = (⟨{ data := #[] }, 0, 0, 0, 0, 0, { data := #[] }, false⟩, 2, s8)) := ⟨by rw [hT, if_pos (.inr hm)]; rfl⟩
          rw [HT.out]
          exact bodyPost_ret (v := .tuple #[.agg #[.string { data := #[] }, .int .i64 0, .int .i64 0, .int .i64 0, .int .i64 0, .int .i64 0, .string { data := #[] }, .bool false], .int .i64 2]) (by simp [results, Try.results35, go_sem, q0, q1, q2, q3, q4, q5, q6, q7]) rfl ⟨rfl, hfin.2.1, hfin.2.2⟩
        | true =>
          rintro e w15 ⟨rfl, hb15⟩
          have HR16 := Aside0.mk (RW_below HR15.out hb15)
          clear x0 x1 x2 x3 x4 x5 x6 x7 fz r0 r1 r2 r3 r4 r5 r6 r7 fr hb15
          obtain ⟨r0, r1, r2, r3, r4, r5, r6, r7⟩ := vr_cells HR16.out.1.2.1
          have fr := vr_frozen (p := zeroV) HR16.out.1.2.1
          obtain ⟨x0, x1, x2, x3, x4, x5, x6, x7⟩ := vr_cells HR16.out.2
          have fz := vr_frozen HR16.out.2
          go_wp2_with fail
          have hfin := RW_fin HR16.out h0 hgW u1 a1 a2 a3 a4 (a4 + a5) u2 false
          obtain ⟨q0, q1, q2, q3, q4, q5, q6, q7⟩ := vr_cells hfin.1
          have HT : Aside0 (T = (⟨u1, a1, a2, a3, a4, (a4 + a5), u2, false⟩, 0, s8)) := ⟨by rw [hT, if_neg (by rintro (h | h) <;> simp_all)]; try simp_all⟩
          rw [HT.out]
          exact bodyPost_ret (v := .tuple #[.agg #[.string u1, .int .i64 a1, .int .i64 a2, .int .i64 a3, .int .i64 a4, .int .i64 (a4 + a5), .string u2, .bool false], .int .i64 0]) (by simp [results, Try.results35, go_sem, q0, q1, q2, q3, q4, q5, q6, q7]) rfl ⟨rfl, hfin.2.1, hfin.2.2⟩
    · rw [if_pos (by simpa using her)] at hT
      have hne : (s8.2 == 0) = false := beq_eq_false_iff_ne.2 her
      have hne2 : (s8.2 != 0) = true := bne_iff_ne.2 her
      have HT0 := Aside0.mk hT
      clear hT her
      go_wp2_with fail
      (with_reducible refine (errS_calls w0 _ g s8 (RW_rs HR14.out)).mono ?_)
      rintro e w15 ⟨rfl, rfl⟩
      go_wp2_with fail
      have hfin := RW_fin HR14.out h0 hgW { data := #[] } 0 0 0 0 0 { data := #[] } false
      obtain ⟨q0, q1, q2, q3, q4, q5, q6, q7⟩ := vr_cells hfin.1
      have HT : Aside0 (T = (⟨{ data := #[] }, 0, 0, 0, 0, 0, { data := #[] }, false⟩, s8.2, s8)) := ⟨HT0.out⟩
      rw [HT.out]
      exact bodyPost_ret (v := .tuple #[.agg #[.string { data := #[] }, .int .i64 0, .int .i64 0, .int .i64 0, .int .i64 0, .int .i64 0, .string { data := #[] }, .bool false], .int .i64 s8.2]) (by simp [results, Try.results35, go_sem, q0, q1, q2, q3, q4, q5, q6, q7]) rfl ⟨rfl, hfin.2.1, hfin.2.2⟩
end Go.Proofs.Ytmkabbfglijckaa.A
