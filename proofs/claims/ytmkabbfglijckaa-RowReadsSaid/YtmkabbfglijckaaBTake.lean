/- A version taken by the document's reader: duramenref06.Take. -/
import Derived.Test.YtmkabbfglijckaaBRefText
import Derived.Test.YtmkabbfglijckaaBMayR
import Derived.Deep.RegionHeld
namespace Go.Proofs.Ytmkabbfglijckaa.A
open Go.RowKit Go.Proofs.YtmkabbfglijckaaW.PrintWords Go.Proofs.YtmkabbfglijckaaW.PrintLast Go.Proofs.YtmkabbfglijckaaW.PrintMore
set_option linter.unusedVariables false
set_option linter.unusedSimpArgs false

theorem infoI : (Try.prog.info? 3).map (fun i => (i.zero, i.size, i.bytes)) = some (some (.int .i64 0), 1, 8) := by kernel_rfl
abbrev OI (w : World) (B : Nat) (v : Value) (l : List Int) : Prop := OR (Kd.int .i64) 3 w B v l
section
variable {ops : Array Oper} {rest : List Oper} {o : Oper} {a : Act} {Q : Exit → Act → World → Prop} {W : World} {B : Nat}
theorem app_int {s x : Operand} (hgd : o.guard = none) (ho : o.op = .call { callee := .builtin .append, args := #[s, x], argTypes := #[69, 69] }) {v : Value} {xs : List Int} {p : Int}
    (hs : a.eval s = v) (hx : a.eval x = .slice (some ⟨W.heap.size, 0, none⟩) 1 1) (HO : OI W B v xs) (hB : B ≤ W.heap.size) (hl : xs.length ≤ 1000000)
    (h : ∀ v1 w1, OI w1 B v1 (xs ++ [p]) → Below B W w1 → W.grownBy w1 v.ownBlock → wpList Try.prog ops Q rest (a.put o.dst v1) w1) : wpList Try.prog ops Q (o :: rest) a (W.alloc (.cells #[.int .i64 p] 3)) :=
  app_one (Kd.int .i64) 69 3 (.int .i64 0) 8 Try.underlying69 infoI rfl (by decide) (by decide) hgd ho hs hx (fun okp => rfl) HO hB (by omega) h
end
theorem OI_readn {w : World} {B : Nat} {v : Value} {l : List Int} (h : OI w B v l) (n : Nat) (hn : l.length = n) : ∃ A c, v = .slice A n c ∧ n ≤ c ∧ (Kd.int .i64).C w A n l ∧ (∀ ad, A = some ad → B ≤ ad.block) := by
  subst hn
  obtain ⟨A, c, e, h1, h2⟩ := Kd.R_reads h
  obtain ⟨h0, inner, ho, hr⟩ := h
  exact ⟨A, c, e, h1, h2, fun ad ha => own_base ho ad.block (by rw [e, ha]; rfl)⟩
theorem OI_grown {W w1 : World} {B g : Nat} {u : Value} {xs : List Int} (h : OI W B u xs) (hg : W.grownBy w1 (some g)) (hgB : g < B) : OI w1 B u xs :=
  Kd.R_mono (Kd.R_move (Kd.R_bound h) (fun k hk => hg.block k hk.2.2.1 (fun he => by injection he with he; have := hk.2.1; omega))) (fun _ hk => hk.1)
/-- The state behind k numbers; the number there. -/
def stS (s : St) : Nat → St
  | 0 => s
  | k + 1 => (numS (stS s k)).2
def nthS (s : St) (k : Nat) : Int := (numS (stS s k)).1
def numsS (s : St) (k : Nat) : List Int := (List.range k).map (nthS s)
theorem numsS_next (s : St) (k : Nat) : numsS s (k + 1) = numsS s k ++ [(numS (stS s k)).1] := by
  unfold numsS
  rw [List.range_succ, List.map_append]
  rfl
theorem numsS_len (s : St) (k : Nat) : (numsS s k).length = k := by unfold numsS; simp
section
variable {A : Option Addr} {N c : Nat} {F : List Int}
abbrev RQ (A : Option Addr) (N c : Nat) (F : List Int) (w0 : World) (g : Nat) (W : World) (s : St) : Prop := RR w0 g A N c F s W
theorem RR_set {w0 W : World} {g : Nat} {s : St} (h : RQ A N c F w0 g W s) {y : Nat} (hy : y ≠ g) (h0 : w0.heap.size ≤ y) (j : Nat) (v : Value) : RQ A N c F w0 g (W.setCell ⟨y, j, none⟩ v) s := by
  obtain ⟨⟨I, h1, h2⟩, h3⟩ := h
  exact ⟨⟨I, (Below.heap_setCell _ _ v g (fun e => hy e.symm)).trans h1, h2⟩, h3.setCell (p := ⟨y, j, none⟩) h0 _⟩
/-- The walk's state: the reader, the box of what is told, what else is as it was. -/
def TV (A : Option Addr) (N c : Nat) (F : List Int) (w0 : World) (g : Nat) (W0 W : World) (s : St) : Prop := RQ A N c F w0 g W s ∧ W.heap[W0.heap.size]? = some (vrBox { data := #[] } 0 0 0 0 0 { data := #[] } false) ∧ W0.grownBy W (some g)
theorem TV_rs {w0 W0 W : World} {g : Nat} {s : St} (h : TV A N c F w0 g W0 W s) : RQ A N c F w0 g W s := h.1
theorem TV_num {w0 W0 W W1 : World} {g : Nat} {s s1 : St} (h : TV A N c F w0 g W0 W s) (hg0 : g < W0.heap.size) (hR : RQ A N c F w0 g W1 s1) (hg : W.grownBy W1 (some g)) : TV A N c F w0 g W0 W1 s1 :=
  ⟨hR, blk_grown h.2.1 hg (by intro e; injection e with e; omega), h.2.2.trans hg⟩
theorem TV_below {w0 W0 W W1 : World} {g : Nat} {s : St} (h : TV A N c F w0 g W0 W s) (hb : Below W.heap.size W W1) : TV A N c F w0 g W0 W1 s :=
  ⟨RR_below h.1 hb, box_keep h.2.1 hb, h.2.2.trans (grown_of_below hb _)⟩
/-- .. and the version's own box. -/
def TW (A : Option Addr) (N c : Nat) (F : List Int) (w0 : World) (g : Nat) (W0 : World) (y : Nat) (W : World) (s : St) (p : Vr) : Prop := TV A N c F w0 g W0 W s ∧ W.heap[y]? = some (vrB p)
theorem TW_rs {w0 W0 W : World} {g y : Nat} {s : St} {p : Vr} (h : TW A N c F w0 g W0 y W s p) : RQ A N c F w0 g W s := h.1.1
theorem TW_num {w0 W0 W W1 : World} {g y : Nat} {s s1 : St} {p : Vr} (h : TW A N c F w0 g W0 y W s p) (hg0 : g < W0.heap.size) (hy : W0.heap.size < y) (hR : RQ A N c F w0 g W1 s1) (hg : W.grownBy W1 (some g)) : TW A N c F w0 g W0 y W1 s1 p :=
  ⟨TV_num h.1 hg0 hR hg, blk_grown h.2 hg (by intro e; injection e with e; omega)⟩
theorem TW_set {w0 W0 W : World} {g y : Nat} {s : St} {p p' : Vr} (h : TW A N c F w0 g W0 y W s p) (h0 : w0.heap.size ≤ g) (hg0 : g < W0.heap.size) (hy : W0.heap.size < y) (j : Nat) (u : Value)
    (e : (#[.string p.k, .int .i64 p.br, .int .i64 p.ep, .int .i64 p.sq, .int .i64 p.f, .int .i64 p.t, .string p.v, .bool p.g] : Array Value).setIfInBounds j u = #[.string p'.k, .int .i64 p'.br, .int .i64 p'.ep, .int .i64 p'.sq, .int .i64 p'.f, .int .i64 p'.t, .string p'.v, .bool p'.g]) : TW A N c F w0 g W0 y (W.setCell ⟨y, j, none⟩ u) s p' :=
  ⟨⟨RR_set h.1.1 (by omega) (by omega) j u, (Below.heap_setCell _ _ u _ (fun e => by simp only at e; omega)).trans h.1.2.1, grownBy_set h.1.2.2 (by omega) j u⟩, blk_put h.2 j u e⟩
theorem TW_drew {w0 W0 W : World} {g y : Nat} {s : St} {p : Vr} (h : TW A N c F w0 g W0 y W s p) : TW A N c F w0 g W0 y W.drew s p :=
  ⟨TV_below h.1 (below_drew1 (Below.refl _ _)), h.2⟩
theorem TW_alloc {w0 W0 W : World} {g y : Nat} {s : St} {p : Vr} (h : TW A N c F w0 g W0 y W s p) (o : Obj) : TW A N c F w0 g W0 y (W.alloc o) s p :=
  ⟨TV_below h.1 (below_alloc (Below.refl _ _) o), box_keep h.2 (below_alloc (Below.refl _ _) o)⟩
theorem TW_below {w0 W0 W W1 : World} {g y : Nat} {s : St} {p : Vr} (h : TW A N c F w0 g W0 y W s p) (hb : Below W.heap.size W W1) : TW A N c F w0 g W0 y W1 s p :=
  ⟨TV_below h.1 hb, box_keep h.2 hb⟩
set_option maxHeartbeats 2000000 in
theorem TW_fin {w0 W0 W : World} {g y : Nat} {s : St} {p : Vr} (h : TW A N c F w0 g W0 y W s p) (h0 : w0.heap.size ≤ g) (hg0 : g < W0.heap.size) (k : ByteArray) (br ep sq f t : Int) (v : ByteArray) (b : Bool) :
    ((((((((W.setCell ⟨W0.heap.size, 0, none⟩ (.string k)).setCell ⟨W0.heap.size, 1, none⟩ (.int .i64 br)).setCell ⟨W0.heap.size, 2, none⟩ (.int .i64 ep)).setCell ⟨W0.heap.size, 3, none⟩ (.int .i64 sq)).setCell ⟨W0.heap.size, 4, none⟩ (.int .i64 f)).setCell ⟨W0.heap.size, 5, none⟩ (.int .i64 t)).setCell ⟨W0.heap.size, 6, none⟩ (.string v)).setCell ⟨W0.heap.size, 7, none⟩ (.bool b)).heap[W0.heap.size]? = some (vrBox k br ep sq f t v b) ∧
    RQ A N c F w0 g ((((((((W.setCell ⟨W0.heap.size, 0, none⟩ (.string k)).setCell ⟨W0.heap.size, 1, none⟩ (.int .i64 br)).setCell ⟨W0.heap.size, 2, none⟩ (.int .i64 ep)).setCell ⟨W0.heap.size, 3, none⟩ (.int .i64 sq)).setCell ⟨W0.heap.size, 4, none⟩ (.int .i64 f)).setCell ⟨W0.heap.size, 5, none⟩ (.int .i64 t)).setCell ⟨W0.heap.size, 6, none⟩ (.string v)).setCell ⟨W0.heap.size, 7, none⟩ (.bool b)) s ∧
    W0.grownBy ((((((((W.setCell ⟨W0.heap.size, 0, none⟩ (.string k)).setCell ⟨W0.heap.size, 1, none⟩ (.int .i64 br)).setCell ⟨W0.heap.size, 2, none⟩ (.int .i64 ep)).setCell ⟨W0.heap.size, 3, none⟩ (.int .i64 sq)).setCell ⟨W0.heap.size, 4, none⟩ (.int .i64 f)).setCell ⟨W0.heap.size, 5, none⟩ (.int .i64 t)).setCell ⟨W0.heap.size, 6, none⟩ (.string v)).setCell ⟨W0.heap.size, 7, none⟩ (.bool b)) (some g) := by
  refine ⟨?_, ?_, ?_⟩
  · have h1 : (W.setCell ⟨W0.heap.size, 0, none⟩ (.string k)).heap[W0.heap.size]? = some (vrBox k 0 0 0 0 0 { data := #[] } false) := blk_put h.1.2.1 0 _ rfl
    have h2 := blk_set h1 1 (.int .i64 br)
    have h3 := blk_set h2 2 (.int .i64 ep)
    have h4 := blk_set h3 3 (.int .i64 sq)
    have h5 := blk_set h4 4 (.int .i64 f)
    have h6 := blk_set h5 5 (.int .i64 t)
    have h7 := blk_set h6 6 (.string v)
    exact blk_put h7 7 _ rfl
  · have hx : W0.heap.size ≠ g := by omega
    have hx0 : w0.heap.size ≤ W0.heap.size := by omega
    have h1 := h.1.1
    clear h
    have h1 := RR_set h1 hx hx0 0 (.string k)
    have h1 := RR_set h1 hx hx0 1 (.int .i64 br)
    have h1 := RR_set h1 hx hx0 2 (.int .i64 ep)
    have h1 := RR_set h1 hx hx0 3 (.int .i64 sq)
    have h1 := RR_set h1 hx hx0 4 (.int .i64 f)
    have h1 := RR_set h1 hx hx0 5 (.int .i64 t)
    have h1 := RR_set h1 hx hx0 6 (.string v)
    exact RR_set h1 hx hx0 7 (.bool b)
  · have h1 := h.1.2.2
    clear h
    have h1 := grownBy_set h1 (Nat.le_refl _) 0 (.string k)
    have h1 := grownBy_set h1 (Nat.le_refl _) 1 (.int .i64 br)
    have h1 := grownBy_set h1 (Nat.le_refl _) 2 (.int .i64 ep)
    have h1 := grownBy_set h1 (Nat.le_refl _) 3 (.int .i64 sq)
    have h1 := grownBy_set h1 (Nat.le_refl _) 4 (.int .i64 f)
    have h1 := grownBy_set h1 (Nat.le_refl _) 5 (.int .i64 t)
    have h1 := grownBy_set h1 (Nat.le_refl _) 6 (.string v)
    exact grownBy_set h1 (Nat.le_refl _) 7 (.bool b)
theorem TV_belowN {w0 W0 W W1 : World} {g B : Nat} {s : St} (h : TV A N c F w0 g W0 W s) (hb : Below B W W1) (h0 : w0.heap.size ≤ g) (hg : g < W0.heap.size) (hB : W0.heap.size < B) : TV A N c F w0 g W0 W1 s := by
  obtain ⟨⟨⟨I, h1, h2⟩, h3⟩, h4, h5⟩ := h
  refine ⟨⟨⟨I, (hb.block _ (by omega)).trans h1, h2⟩, h3.trans ⟨hb.os, hb.tape, hb.output, hb.size, fun k hk => hb.block k (by omega)⟩⟩, (hb.block _ hB).trans h4, ?_⟩
  exact ⟨hb.os.trans h5.os, hb.tape.trans h5.tape, hb.output.trans h5.output, Nat.le_trans h5.size hb.size, fun k hk hne => (hb.block k (by omega)).trans (h5.block k hk hne)⟩
end
theorem add0 (ad : Addr) : ad.add 0 = ad := by unfold Addr.add; rw [if_pos rfl]
theorem addS (ad : Addr) (i : Nat) : ad.add (i + 1) = ⟨ad.block, ad.off + (i + 1), none⟩ := by unfold Addr.add; rw [if_neg (by omega)]
theorem SL_of {W W1 : World} {ad : Addr} {a1 a2 a3 a4 a5 a6 : Int} (h : W.cell? ad = some (.int .i64 a1) ∧ W.cell? ⟨ad.block, ad.off + 1, none⟩ = some (.int .i64 a2) ∧ W.cell? ⟨ad.block, ad.off + 2, none⟩ = some (.int .i64 a3) ∧ W.cell? ⟨ad.block, ad.off + 3, none⟩ = some (.int .i64 a4) ∧ W.cell? ⟨ad.block, ad.off + 4, none⟩ = some (.int .i64 a5) ∧ W.cell? ⟨ad.block, ad.off + 5, none⟩ = some (.int .i64 a6)) (hb : Below W.heap.size W W1) : W1.cell? ad = some (.int .i64 a1) ∧ W1.cell? ⟨ad.block, ad.off + 1, none⟩ = some (.int .i64 a2) ∧ W1.cell? ⟨ad.block, ad.off + 2, none⟩ = some (.int .i64 a3) ∧ W1.cell? ⟨ad.block, ad.off + 3, none⟩ = some (.int .i64 a4) ∧ W1.cell? ⟨ad.block, ad.off + 4, none⟩ = some (.int .i64 a5) ∧ W1.cell? ⟨ad.block, ad.off + 5, none⟩ = some (.int .i64 a6) := by
  obtain ⟨x0, x1, x2, x3, x4, x5⟩ := h
  exact ⟨pw_cell_below hb x0, pw_cell_below hb x1, pw_cell_below hb x2, pw_cell_below hb x3, pw_cell_below hb x4, pw_cell_below hb x5⟩
/-- The walk's state behind the numbers: the sixth number's cell besides. -/
def TX (A : Option Addr) (N c : Nat) (F : List Int) (w0 : World) (g : Nat) (W0 : World) (y : Nat) (ad : Addr) (a6 : Int) (W : World) (s : St) (p : Vr) : Prop :=
  TW A N c F w0 g W0 y W s p ∧ W.cell? ⟨ad.block, ad.off + 5, none⟩ = some (.int .i64 a6)
section
variable {A : Option Addr} {N c : Nat} {F : List Int} {w0 W0 W W1 : World} {g y : Nat} {ad : Addr} {a6 : Int} {s s1 : St} {p p' : Vr}
theorem TX_rs (h : TX A N c F w0 g W0 y ad a6 W s p) : RR w0 g A N c F s W := h.1.1.1
theorem TX_w (h : TX A N c F w0 g W0 y ad a6 W s p) : TW A N c F w0 g W0 y W s p := h.1
theorem TX_y (h : TX A N c F w0 g W0 y ad a6 W s p) : W.heap[y]? = some (vrB p) := h.1.2
theorem TX_x (h : TX A N c F w0 g W0 y ad a6 W s p) : W.heap[W0.heap.size]? = some (vrB zeroV) := h.1.1.2.1
theorem TX_5 (h : TX A N c F w0 g W0 y ad a6 W s p) : W.cell? ⟨ad.block, ad.off + 5, none⟩ = some (.int .i64 a6) := h.2
theorem TX_num (h : TX A N c F w0 g W0 y ad a6 W s p) (hg0 : g < W0.heap.size) (hy : W0.heap.size < y) (hne : ad.block ≠ g) (hR : RR w0 g A N c F s1 W1) (hg : W.grownBy W1 (some g)) : TX A N c F w0 g W0 y ad a6 W1 s1 p :=
  ⟨TW_num h.1 hg0 hy hR hg, hg.cell h.2 (by intro e; injection e with e; exact hne e)⟩
theorem TX_set (h : TX A N c F w0 g W0 y ad a6 W s p) (h0 : w0.heap.size ≤ g) (hg0 : g < W0.heap.size) (hy : W0.heap.size < y) (hne : ad.block ≠ y) (j : Nat) (u : Value)
    (e : (#[.string p.k, .int .i64 p.br, .int .i64 p.ep, .int .i64 p.sq, .int .i64 p.f, .int .i64 p.t, .string p.v, .bool p.g] : Array Value).setIfInBounds j u = #[.string p'.k, .int .i64 p'.br, .int .i64 p'.ep, .int .i64 p'.sq, .int .i64 p'.f, .int .i64 p'.t, .string p'.v, .bool p'.g]) : TX A N c F w0 g W0 y ad a6 (W.setCell ⟨y, j, none⟩ u) s p' :=
  ⟨TW_set h.1 h0 hg0 hy j u e, (World.cell?_setCell_other _ _ _ _ (by intro e; injection e with e1 e2 e3; exact hne e1.symm)).trans h.2⟩
theorem TX_below (h : TX A N c F w0 g W0 y ad a6 W s p) (hb : Below W.heap.size W W1) : TX A N c F w0 g W0 y ad a6 W1 s p := ⟨TW_below h.1 hb, pw_cell_below hb h.2⟩
end
theorem cell_drew {W : World} {a : Addr} {v : Value} (h : W.cell? a = some v) : W.drew.cell? a = some v := h
theorem okS_st {s : St} (h : okS s) : ∀ k, okS (stS s k)
  | 0 => h
  | k + 1 => (okS_num (okS_st h k)).1
set_option maxRecDepth 100000 in
set_option maxHeartbeats 8000000 in
theorem take_calls (w0 W : World) (g : Nat) (A : Option Addr) (N c : Nat) (F : List Int) (s : St) (hf : FS w0 g A N c F) (h : RR w0 g A N c F s W) (hok : okS s) :
    Calls Try.prog 19 #[.pointer (some ⟨g, 0, none⟩)] W fun e w' => e = .returned (.tuple #[.agg #[.string (readV s).1.k, .int .i64 (readV s).1.br, .int .i64 (readV s).1.ep, .int .i64 (readV s).1.sq, .int .i64 (readV s).1.f, .int .i64 (readV s).1.t, .string (readV s).1.v, .bool (readV s).1.g], .int .i64 (readV s).2.1]) ∧ RR w0 g A N c F (readV s).2.2 w' ∧ W.grownBy w' (some g) := by
  have hgW : g < W.heap.size := by obtain ⟨⟨I, h1, _⟩, _⟩ := h; exact blk_lt h1
  have h0 : w0.heap.size ≤ g := hf.2.1
  have HF := Aside0.mk hf
  have HR : Aside0 (TV A N c F w0 g W (W.alloc (vrBox { data := #[] } 0 0 0 0 0 { data := #[] } false)) s) := ⟨RR_below h (below_alloc (Below.refl _ _) _), heap_alloc_new W _, World.grownBy_alloc W _ _⟩
  have k1 := okS_num hok
  have k2 := okS_num k1.1
  have k3 := okS_num k2.1
  have k4 := okS_num k3.1
  have k5 := okS_num k4.1
  have k6 := okS_num k5.1
  have k7 := okS_text 100 k6.1
  have k8 := okS_text 200 k7.1
  have z1 := textS_size 100 (by decide) k6.1
  have z2 := textS_size 200 (by decide) k7.1
  have hwr : IntKind.i64.wrap ((numS (numS (numS (numS s).2).2).2).1 + (numS (numS (numS (numS (numS s).2).2).2).2).1) = (numS (numS (numS (numS s).2).2).2).1 + (numS (numS (numS (numS (numS s).2).2).2).2).1 := IntWalk.i64_in _ (by have := k4.2.1; have := k5.2.1; omega)
  have K6 := Aside0.mk k6.1
  have K7 := Aside0.mk k7.1
  have Z1 := Aside0.mk z1
  have Z2 := Aside0.mk z2
  have HWR := Aside0.mk hwr
  clear k1 k2 k3 k4 k5 k6 k7 k8 z1 z2 hwr
  have HRV : Aside0 (readV s = if (t2S s).2.2 ≠ 0 then (zeroV, (t2S s).2.2, (t2S s).2) else if 1 < (n6S s).1 ∨ mayV (verS s) = false then (zeroV, 2, (t2S s).2) else (verS s, 0, (t2S s).2)) := ⟨rfl⟩
  obtain ⟨T, hT⟩ : ∃ T, readV s = T := ⟨_, rfl⟩
  rw [hT] at HRV ⊢
  unfold verS t2S t1S n6S n5S n4S n3S n2S n1S at HRV
  clear h hT hok hf
  go_enter Try.func19, Try.ntmps19
  go_wp2_with fail
  go_loopw [4, 5] (fun v4 v5 w' => ∃ k : Nat, k ≤ 6 ∧ v5 = .int .i64 k ∧ Aside0 (OI w' (W.heap.size + 1) v4 (numsS s k)) ∧ Aside0 (TV A N c F w0 g W w' (stS s k)) ∧ Aside0 (W.heap.size + 1 ≤ w'.heap.size)) (fun _ v5 _ => 6 - (intOf v5).toNat)
  case atStart => exact ⟨0, by omega, rfl, ⟨Kd.R_nil _ _ _ _ _⟩, HR, ⟨by rw [World.size_alloc]; exact Nat.le_refl _⟩⟩
  case round =>
    obtain ⟨k, hk, rfl, HO, HT, HZ⟩ := hrel
    by_cases hlt : k < 6
    · have j1 : (k : Int) < 6 := by omega
      go_wp2_with fail
      (with_reducible refine (rnumS_calls w0 _ g A N c F (stS s k) HF.out (TV_rs HT.out)).mono ?_)
      rintro e w2 ⟨rfl, hR2, hg2⟩
      have HT2 : Aside0 (TV A N c F w0 g W w2 (stS s (k + 1))) := ⟨TV_num HT.out hgW hR2 hg2⟩
      have HO2 := Aside0.mk (OI_grown HO.out hg2 (by omega))
      have HZ2 := Aside0.mk (Nat.le_trans HZ.out hg2.size)
      have HNX := Aside0.mk (numsS_next s k)
      clear hR2 hg2 HO HT HZ
      generalize (numS (stS s k)).1 = x at *
      go_wp2_with ((with_reducible refine gate_dst (N := 16) rfl ?_); refine app_int rfl rfl rfl rfl HO2.out HZ2.out (by rw [numsS_len]; omega) ?_; intro v4 w4 hO4 hb4 _; have HO4 := Aside0.mk hO4; have HB4 := Aside0.mk hb4; clear hO4 hb4)
      go_roundw
      case rel => exact ⟨k + 1, hlt, rfl, ⟨by rw [HNX.out]; exact HO4.out⟩, ⟨TV_belowN HT2.out HB4.out h0 hgW (Nat.lt_succ_self _)⟩, ⟨Nat.le_trans HZ2.out HB4.out.size⟩⟩
      case measure => simp [intOf]; omega
    · obtain rfl : k = 6 := by omega
      have e6 : numsS s 6 = [(numS s).1, (numS (numS s).2).1, (numS (numS (numS s).2).2).1, (numS (numS (numS (numS s).2).2).2).1, (numS (numS (numS (numS (numS s).2).2).2).2).1, (numS (numS (numS (numS (numS (numS s).2).2).2).2).2).1] := rfl
      have e7 : stS s 6 = (numS (numS (numS (numS (numS (numS s).2).2).2).2).2).2 := rfl
      rw [e6] at HO
      rw [e7] at HT
      clear e6 e7
      generalize numS s = a1 at *
      obtain ⟨a1, s1⟩ := a1
      generalize numS s1 = a2 at *
      obtain ⟨a2, s2⟩ := a2
      generalize numS s2 = a3 at *
      obtain ⟨a3, s3⟩ := a3
      generalize numS s3 = a4 at *
      obtain ⟨a4, s4⟩ := a4
      generalize numS s4 = a5 at *
      obtain ⟨a5, s5⟩ := a5
      generalize numS s5 = a6 at *
      obtain ⟨a6, s6⟩ := a6
      simp only at HO HT HWR K6 K7 Z1 Z2 HRV
      obtain ⟨A4, c4, rfl, hc4, hC4, had⟩ := OI_readn HO.out 6 rfl
      obtain ⟨ad, rfl, x0⟩ := V.C_atNN hC4 0 (by omega)
      obtain ⟨_, e', x1⟩ := V.C_atNN hC4 1 (by omega)
      injection e' with e'
      subst e'
      obtain ⟨_, e', x2⟩ := V.C_atNN hC4 2 (by omega)
      injection e' with e'
      subst e'
      obtain ⟨_, e', x3⟩ := V.C_atNN hC4 3 (by omega)
      injection e' with e'
      subst e'
      obtain ⟨_, e', x4⟩ := V.C_atNN hC4 4 (by omega)
      injection e' with e'
      subst e'
      obtain ⟨_, e', x5⟩ := V.C_atNN hC4 5 (by omega)
      injection e' with e'
      subst e'
      have hadB := had ad rfl
      simp only [List.getD_cons_zero, List.getD_cons_succ] at x0 x1 x2 x3 x4 x5
      rw [add0] at x0
      rw [addS ad 0] at x1
      rw [addS ad 1] at x2
      rw [addS ad 2] at x3
      rw [addS ad 3] at x4
      rw [addS ad 4] at x5
      clear hC4 had HO
      have HX : Aside0 (wr.cell? ad = some (.int .i64 a1) ∧ wr.cell? ⟨ad.block, ad.off + 1, none⟩ = some (.int .i64 a2) ∧ wr.cell? ⟨ad.block, ad.off + 2, none⟩ = some (.int .i64 a3) ∧ wr.cell? ⟨ad.block, ad.off + 3, none⟩ = some (.int .i64 a4) ∧ wr.cell? ⟨ad.block, ad.off + 4, none⟩ = some (.int .i64 a5) ∧ wr.cell? ⟨ad.block, ad.off + 5, none⟩ = some (.int .i64 a6)) := ⟨⟨x0, x1, x2, x3, x4, x5⟩⟩
      have HB1 : Aside0 (Below wr.heap.size wr wr.drew) := ⟨below_drew1 (Below.refl _ _)⟩
      have HB2 : Aside0 (Below wr.heap.size wr (wr.alloc (vrBox { data := #[] } 0 0 0 0 0 { data := #[] } false)).drew) := ⟨below_step (below_alloc (Below.refl _ _) _) (below_drew1 (Below.refl _ _))⟩
      have HB3 : Aside0 (Below wr.heap.size wr (wr.alloc (vrBox { data := #[] } a1 a2 a3 a4 (a4 + a5) { data := #[] } (a6 == 1))).drew) := ⟨below_step (below_alloc (Below.refl _ _) _) (below_drew1 (Below.refl _ _))⟩
      have hwr := HWR.out
      go_wp2_with fail
      go_region_held (fun w' => w'.cell? ad = some (.int .i64 a1) ∧ w'.cell? ⟨ad.block, ad.off + 1, none⟩ = some (.int .i64 a2) ∧ w'.cell? ⟨ad.block, ad.off + 2, none⟩ = some (.int .i64 a3) ∧ w'.cell? ⟨ad.block, ad.off + 3, none⟩ = some (.int .i64 a4) ∧ w'.cell? ⟨ad.block, ad.off + 4, none⟩ = some (.int .i64 a5) ∧ w'.cell? ⟨ad.block, ad.off + 5, none⟩ = some (.int .i64 a6))
        (first
          | (with_reducible exact SL_of HX.out HB1.out)
          | (with_reducible exact SL_of HX.out HB2.out)
          | (with_reducible exact SL_of HX.out HB3.out)
          | (trace_state; fail))
        (fail)
      have HB7 : Aside0 (TX A N c F w0 g W wr.heap.size ad a6 (wr.alloc (vrBox { data := #[] } a1 a2 a3 a4 (a4 + a5) { data := #[] } (a6 == 1))).drew s6 ⟨{ data := #[] }, a1, a2, a3, a4, a4 + a5, { data := #[] }, a6 == 1⟩) := ⟨⟨TV_below HT.out HB3.out, heap_alloc_new wr _⟩, (SL_of HX.out HB3.out).2.2.2.2.2⟩
      have hy : W.heap.size < wr.heap.size := HZ.out
      have hneg : ad.block ≠ g := by omega
      have hney : ad.block ≠ wr.heap.size := Nat.ne_of_lt (World.block_lt_of_cell? wr ad x0)
      obtain ⟨w7, hw7⟩ : ∃ w7, (wr.alloc (.cells #[.string { data := #[] }, .int .i64 a1, .int .i64 a2, .int .i64 a3, .int .i64 a4, .int .i64 (a4 + a5), .string { data := #[] }, .bool (a6 == 1)] 27)).drew = w7 := ⟨_, rfl⟩
      have HB8 : Aside0 (TX A N c F w0 g W wr.heap.size ad a6 w7 s6 ⟨{ data := #[] }, a1, a2, a3, a4, a4 + a5, { data := #[] }, a6 == 1⟩) := by rw [← hw7]; exact HB7
      obtain ⟨y, hyy⟩ : ∃ y, wr.heap.size = y := ⟨_, rfl⟩
      obtain ⟨b, hbb⟩ : ∃ b, (a6 == 1) = b := ⟨_, rfl⟩
      have HBD : Aside0 (decide (a6 = 1) = b) := ⟨by rw [← hbb]; rfl⟩
      rw [hyy, hbb] at HB8
      rw [hyy] at hy hney
      rw [hw7, hyy]
      clear hw7 hyy hbb HB7 HB1 HB2 HB3 HX HT HZ hwr HWR x0 x1 x2 x3 x4 x5 hadB
      go_wp2_with fail
      (with_reducible refine (rtextS_calls w0 _ g A N c F s6 100 HF.out (TX_rs HB8.out) K6.out (by decide)).mono ?_)
      rintro e w8 ⟨rfl, hR8, hg8⟩
      have HT8 := Aside0.mk (TX_num HB8.out hgW hy hneg hR8 hg8)
      clear hR8 hg8 HB8
      generalize textS 100 s6 = v1 at *
      obtain ⟨u1, s7⟩ := v1
      obtain ⟨x0, x1, x2, x3, x4, x5, x6, x7⟩ := vr_cells (TX_y HT8.out)
      have fz := vr_frozen (TX_y HT8.out)
      have HT9 := Aside0.mk (TX_set (p' := ⟨u1, a1, a2, a3, a4, a4 + a5, { data := #[] }, b⟩) HT8.out h0 hgW hy hney 0 (.string u1) rfl)
      go_wp2_with fail
      clear x0 x1 x2 x3 x4 x5 x6 x7 fz HT8
      generalize w8.setCell ⟨y, 0, none⟩ (.string u1) = w9 at *
      (with_reducible refine (rtextS_calls w0 _ g A N c F s7 200 HF.out (TX_rs HT9.out) K7.out (by decide)).mono ?_)
      rintro e w10 ⟨rfl, hR10, hg10⟩
      have HT10 := Aside0.mk (TX_num HT9.out hgW hy hneg hR10 hg10)
      clear hR10 hg10 HT9
      generalize textS 200 s7 = v2 at *
      obtain ⟨u2, s8⟩ := v2
      obtain ⟨x0, x1, x2, x3, x4, x5, x6, x7⟩ := vr_cells (TX_y HT10.out)
      have fz := vr_frozen (TX_y HT10.out)
      have HT11 := Aside0.mk (TX_set (p' := ⟨u1, a1, a2, a3, a4, a4 + a5, u2, b⟩) HT10.out h0 hgW hy hney 6 (.string u2) rfl)
      have hT := HRV.out
      simp only [HBD.out] at hT
      clear HRV
      obtain ⟨I, hI1, hI2⟩ := (TX_rs HT11.out).1
      obtain ⟨c0, c1, c2⟩ := V.rfr_cells hI1
      clear hI1 hI2
      have HE8 := Aside0.mk (TX_num HT11.out hgW hy hneg (TX_rs HT11.out) (World.grownBy.refl _ _))
      by_cases her : s8.2 = 0
      · rw [if_neg (by simpa using her)] at hT
        have HT0 := Aside0.mk hT
        simp only [her] at c2
        obtain ⟨y0, y1, y2, y3, y4, y5, y6, y7⟩ := vr_cells (TX_y HT11.out)
        clear hT
        go_wp2_with fail
        clear x0 x1 x2 x3 x4 x5 x6 x7 fz HT10 HE8 c0 c1 c2 y0 y1 y2 y3 y4 y5 y6 y7
        generalize w10.setCell ⟨y, 6, none⟩ (.string u2) = w11 at *
        (with_reducible refine (may6_calls u1 a1 a2 a3 a4 (a4 + a5) u2 b _ (by have := Z1.out; omega) (by have := Z2.out; omega)).mono ?_)
        cases hm : mayV ⟨u1, a1, a2, a3, a4, a4 + a5, u2, b⟩ with
        | false =>
          rintro e w12 ⟨rfl, hb12⟩
          have HT12 := Aside0.mk (TX_below HT11.out hb12)
          have HM := Aside0.mk hm
          clear hb12 HT11 hm
          obtain ⟨r0, r1, r2, r3, r4, r5, r6, r7⟩ := vr_cells (TX_x HT12.out)
          have fr := vr_frozen (p := zeroV) (TX_x HT12.out)
          go_wp2_with fail
          have hfin := TW_fin (TX_w HT12.out) h0 hgW { data := #[] } 0 0 0 0 0 { data := #[] } false
          obtain ⟨q0, q1, q2, q3, q4, q5, q6, q7⟩ := vr_cells hfin.1
          have HT : Aside0 (T = (⟨{ data := #[] }, 0, 0, 0, 0, 0, { data := #[] }, false⟩, 2, s8)) := ⟨by rw [HT0.out, if_pos (.inr HM.out)]; rfl⟩
          rw [HT.out]
          exact bodyPost_ret (v := .tuple #[.agg #[.string { data := #[] }, .int .i64 0, .int .i64 0, .int .i64 0, .int .i64 0, .int .i64 0, .string { data := #[] }, .bool false], .int .i64 2]) (by simp [results, Try.results19, go_sem, q0, q1, q2, q3, q4, q5, q6, q7]) rfl ⟨rfl, hfin.2.1, hfin.2.2⟩
        | true =>
          rintro e w12 ⟨rfl, hb12⟩
          have HT12 := Aside0.mk (TX_below HT11.out hb12)
          have HM := Aside0.mk hm
          clear hb12 HT11 hm
          obtain ⟨r0, r1, r2, r3, r4, r5, r6, r7⟩ := vr_cells (TX_x HT12.out)
          have fr := vr_frozen (p := zeroV) (TX_x HT12.out)
          obtain ⟨x0, x1, x2, x3, x4, x5, x6, x7⟩ := vr_cells (TX_y HT12.out)
          have h5 := TX_5 HT12.out
          by_cases h1 : 1 < a6
          · go_wp2_with fail
            have hfin := TW_fin (TX_w HT12.out) h0 hgW { data := #[] } 0 0 0 0 0 { data := #[] } false
            obtain ⟨q0, q1, q2, q3, q4, q5, q6, q7⟩ := vr_cells hfin.1
            have HT : Aside0 (T = (⟨{ data := #[] }, 0, 0, 0, 0, 0, { data := #[] }, false⟩, 2, s8)) := ⟨by rw [HT0.out, if_pos (.inl h1)]; rfl⟩
            rw [HT.out]
            exact bodyPost_ret (v := .tuple #[.agg #[.string { data := #[] }, .int .i64 0, .int .i64 0, .int .i64 0, .int .i64 0, .int .i64 0, .string { data := #[] }, .bool false], .int .i64 2]) (by simp [results, Try.results19, go_sem, q0, q1, q2, q3, q4, q5, q6, q7]) rfl ⟨rfl, hfin.2.1, hfin.2.2⟩
          · go_wp2_with fail
            have hfin := TW_fin (TX_w HT12.out) h0 hgW u1 a1 a2 a3 a4 (a4 + a5) u2 b
            obtain ⟨q0, q1, q2, q3, q4, q5, q6, q7⟩ := vr_cells hfin.1
            have HT : Aside0 (T = (⟨u1, a1, a2, a3, a4, (a4 + a5), u2, b⟩, 0, s8)) := ⟨by rw [HT0.out, if_neg (fun h => h.elim (fun h => by omega) (fun h => by rw [HM.out] at h; cases h))]⟩
            rw [HT.out]
            exact bodyPost_ret (v := .tuple #[.agg #[.string u1, .int .i64 a1, .int .i64 a2, .int .i64 a3, .int .i64 a4, .int .i64 (a4 + a5), .string u2, .bool b], .int .i64 0]) (by simp [results, Try.results19, go_sem, q0, q1, q2, q3, q4, q5, q6, q7]) rfl ⟨rfl, hfin.2.1, hfin.2.2⟩
      · rw [if_pos (by simpa using her)] at hT
        have hne : (s8.2 == 0) = false := beq_eq_false_iff_ne.2 her
        have hne2 : (s8.2 != 0) = true := bne_iff_ne.2 her
        have HT0 := Aside0.mk hT
        simp only at c2
        clear hT her
        go_wp2_with fail
        clear x0 x1 x2 x3 x4 x5 x6 x7 fz HT10 HE8 c0 c1
        generalize w10.setCell ⟨y, 6, none⟩ (.string u2) = w11 at *
        have HD := Aside0.mk (TX_below HT11.out (below_drew1 (Below.refl _ w11)))
        have hfin := TW_fin (TX_w HT11.out) h0 hgW { data := #[] } 0 0 0 0 0 { data := #[] } false
        obtain ⟨q0, q1, q2, q3, q4, q5, q6, q7⟩ := vr_cells hfin.1
        obtain ⟨⟨I2, hq1, hq2⟩, hq3⟩ := hfin.2.1
        have HC3 := Aside0.mk (V.rfr_cells hq1).2.2
        have HFIN := Aside0.mk hfin
        have HQ := Aside0.mk (vr_cells hfin.1)
        obtain ⟨r0, r1, r2, r3, r4, r5, r6, r7⟩ := vr_cells (TX_x HD.out)
        have fr := vr_frozen (p := zeroV) (TX_x HD.out)
        obtain ⟨t0, t1, t2, t3, t4, t5, t6, t7⟩ := vr_cells (TX_x HT11.out)
        have ft := vr_frozen (p := zeroV) (TX_x HT11.out)
        have HC2 := Aside0.mk c2
        have HC1 : Aside0 (w11.drew.cell? ⟨g, 2, none⟩ = some (.int .i64 s8.2)) := ⟨c2⟩
        clear q0 q1 q2 q3 q4 q5 q6 q7 hq1 hq2 hq3 hfin
        go_region_held (fun w' => w'.cell? ⟨g, 2, none⟩ = some (.int .i64 s8.2))
          (first
            | (with_reducible exact HC1.out)
            | (with_reducible exact HC2.out)
            | ((with_reducible refine cell_drew ?_); with_reducible exact HC3.out)
            | (trace_state; fail))
          (fail)
        all_goals go_wp2
        have hfin := HFIN.out
        obtain ⟨q0, q1, q2, q3, q4, q5, q6, q7⟩ := HQ.out
        have HT : Aside0 (T = (⟨{ data := #[] }, 0, 0, 0, 0, 0, { data := #[] }, false⟩, s8.2, s8)) := ⟨HT0.out⟩
        rw [HT.out]
        have d0 := cell_drew q0
        have d1 := cell_drew q1
        have d2 := cell_drew q2
        have d3 := cell_drew q3
        have d4 := cell_drew q4
        have d5 := cell_drew q5
        have d6 := cell_drew q6
        have d7 := cell_drew q7
        exact bodyPost_ret (v := .tuple #[.agg #[.string { data := #[] }, .int .i64 0, .int .i64 0, .int .i64 0, .int .i64 0, .int .i64 0, .string { data := #[] }, .bool false], .int .i64 s8.2]) (by simp [results, Try.results19, go_sem, q0, q1, q2, q3, q4, q5, q6, q7, d0, d1, d2, d3, d4, d5, d6, d7]) rfl ⟨rfl, RR_below hfin.2.1 (below_drew1 (Below.refl _ _)), hfin.2.2.trans (grown_of_below (below_drew1 (Below.refl _ _)) _)⟩
end Go.Proofs.Ytmkabbfglijckaa.A
