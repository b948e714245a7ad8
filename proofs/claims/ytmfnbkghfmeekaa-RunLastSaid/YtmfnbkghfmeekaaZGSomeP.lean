/- GSomeP -/
import Derived.Test.YtmfnbkghfmeekaaZGFrom
namespace Go.Proofs.Ytmfnbkghfmeekaa.A
open Go Go.RowKit Go.Shelf Go.Proofs.YtmfnbkghfmeekaaW.PrintWords Go.Proofs.YtmfnbkghfmeekaaW.PrintLast Go.Proofs.YtmfnbkghfmeekaaW.PrintMore
open R C
open Go.Op (bytesLess)
attribute [local go_sem] Oper.semAt_some wide_fn wide_depth
set_option linter.unusedVariables false
set_option linter.unusedSimpArgs false
structure Frm (S : List Nat) (A B : World) : Prop where
  os : B.os = A.os
  tape : B.tape = A.tape
  output : B.output = A.output
  size : A.heap.size ≤ B.heap.size
  block : ∀ k, k < A.heap.size → k ∉ S → B.heap[k]? = A.heap[k]?
theorem Frm.refl (S : List Nat) (A : World) : Frm S A A := ⟨rfl, rfl, rfl, Nat.le_refl _, fun _ _ _ => rfl⟩
theorem Frm.mono {S T : List Nat} {A B : World} (h : Frm S A B) (hs : ∀ k ∈ S, k ∈ T) : Frm T A B := ⟨h.os, h.tape, h.output, h.size, fun k hk hn => h.block k hk (fun e => hn (hs k e))⟩
theorem Frm.set {S : List Nat} {A B : World} (h : Frm S A B) {b o : Nat} (hb : b ∈ S) (v : Value) : Frm S A (B.setCell ⟨b, o, none⟩ v) :=
  ⟨h.os, h.tape, h.output, by have : (B.setCell ⟨b, o, none⟩ v).heap.size = B.heap.size := by simp [World.setCell]
                              rw [this]; exact h.size, fun k hk hn => (Below.heap_setCell B _ v k (fun e => hn (by rw [e]; exact hb))).trans (h.block k hk hn)⟩
theorem Frm.below {S : List Nat} {N : Nat} {w A B : World} (hN : Below N w A) (h : Frm S A B) (hs : ∀ k ∈ S, N ≤ k) (hw : N ≤ w.heap.size) : Below N w B :=
  ⟨h.os.trans hN.os, h.tape.trans hN.tape, h.output.trans hN.output, Nat.le_trans hN.size h.size, fun k hk => (h.block k (by have := hN.size; omega) (fun e => by have := hs k e; omega)).trans (hN.block k hk)⟩
theorem Frm.row {S : List Nat} {w6 A B : World} {row : Option Nat} (h : Frm S w6 A) (hg : A.grownBy B row) (hr : ∀ k, row = some k → w6.heap.size ≤ k) : Frm S w6 B := by
  have hs := h.size
  refine ⟨hg.os.trans h.os, hg.tape.trans h.tape, hg.output.trans h.output, Nat.le_trans hs hg.size, fun k hk hn => ?_⟩
  exact (hg.block k (by omega) (fun e => by have := hr _ e.symm; omega)).trans (h.block k hk hn)
theorem Below.grown' {N : Nat} {A B : World} {row : Option Nat} (hg : A.grownBy B row) (hN : N ≤ A.heap.size) (hr : ∀ k, row = some k → N ≤ k) : Below N A B :=
  ⟨hg.os, hg.tape, hg.output, hg.size, fun k hk => hg.block k (by omega) (fun e => by have := hr _ e.symm; omega)⟩
theorem Frm.step {S : List Nat} {w6 A B : World} (h : Frm S w6 A) (hb : Below A.heap.size A B) : Frm S w6 B := h.row (grown_below hb none) (fun k e => by cases e)
theorem Frm.stepN {S : List Nat} {w6 A B : World} {N : Nat} (h : Frm S w6 A) (hb : Below N A B) (hN : w6.heap.size ≤ N) : Frm S w6 B :=
  ⟨hb.os.trans h.os, hb.tape.trans h.tape, hb.output.trans h.output, Nat.le_trans h.size hb.size, fun k hk hn => (hb.block k (by omega)).trans (h.block k hk hn)⟩
theorem KpC_stepN {w0 A B C : World} {g N : Nat} (h : KpC w0 g A B) (hb : Below N B C) (h0 : w0.heap.size ≤ N) (hg : g + 1 < N) : KpC w0 g A C :=
  ⟨h.1.trans (hb.mono h0), Nat.le_trans h.2.1 hb.size, (hb.block _ (by omega)).trans h.2.2.1, (hb.block _ hg).trans h.2.2.2⟩
theorem KpC_set {w0 A B : World} {g b : Nat} (h : KpC w0 g A B) (o : Nat) (v : Value) (h0 : w0.heap.size ≤ b) (hb : b < g) : KpC w0 g A (B.setCell ⟨b, o, none⟩ v) :=
  ⟨h.1.setCell (p := ⟨b, o, none⟩) h0 v, by rw [World.size_setCell]; exact h.2.1, (Below.heap_setCell _ _ _ _ (fun e => by simp only at e; omega)).trans h.2.2.1, (Below.heap_setCell _ _ _ _ (fun e => by simp only at e; omega)).trans h.2.2.2⟩
theorem Apt.nextV {W : World} {B : Nat} {v v1 u : Value} {ys : List Vr} (h : Apt v u) (hu : OVr W B u ys) (h1 : v1.ownBlock = v.ownBlock ∨ ∃ b, v1.ownBlock = some b ∧ W.heap.size ≤ b) : Apt v1 u := by
  intro b hb hb2
  rcases h1 with h1 | ⟨c, h1, h2⟩
  · exact h b (h1.symm.trans hb) hb2
  · obtain ⟨_, inner, ho, _⟩ := hu
    rw [h1] at hb
    injection hb with hb
    subst hb
    have := own_lt ho c hb2
    omega
theorem app_vr4In {l : Nat} {ops : Array Oper} {rest : List Oper} {o : Oper} {a : Act} {Q : Exit → Act → World → Prop} {W : World} {B : Nat} {s x : Operand} (hgd : o.guard = none) (ho : o.op = .call { callee := .builtin .append, args := #[s, x], argTypes := #[22, 22] }) {v : Value} {xs : List Vr} {k : ByteArray} {br ep sq f t : Int} {vv : ByteArray} {g : Bool}
    (hs : a.eval s = v) (hx : a.eval x = .slice (some ⟨W.heap.size, 0, none⟩) 1 1) (HO : OVr W B v xs) (hB : B ≤ W.heap.size) (hl : xs.length ≤ 1000000)
    (h : ∀ v1 w1, OVr w1 B v1 (xs ++ [⟨k, br, ep, sq, f, t, vv, g⟩]) → Below B W w1 → W.grownBy w1 v.ownBlock → (v1.ownBlock = v.ownBlock ∨ ∃ b, v1.ownBlock = some b ∧ W.heap.size ≤ b) → wpListIn (Fence.wide.inRound l) 0 Try.prog ops Q rest (a.put o.dst v1) w1) : wpListIn (Fence.wide.inRound l) 0 Try.prog ops Q (o :: rest) a (W.alloc (.cells #[.string k, .int .i64 br, .int .i64 ep, .int .i64 sq, .int .i64 f, .int .i64 t, .string vv, .bool g] 28)) :=
  listIn_of_step hgd (by rw [ho]; intro c hc; cases hc) (Kd.R_append_step KVr B (by simp [Region.wanted, hgd]) s x 22 28 (.agg #[.string ByteArray.empty, .int .i64 0, .int .i64 0, .int .i64 0, .int .i64 0, .int .i64 0, .string ByteArray.empty, .bool false]) 80 ho Try.underlying22 infoVr rfl (by decide) (by decide) v xs ⟨k, br, ep, sq, f, t, vv, g⟩ _ (fun _ => True) (fun _ => False) hs hx (KVr_M W B _ ⟨k, br, ep, sq, f, t, vv, g⟩) (fun _ h => h.elim) (fun _ _ => trivial) HO (Below.refl B W) hB (by omega) (fun v1 w1 h1 h2 h3 h4 => h v1 w1 h1 h2 h3 h4))
theorem filt_no {α : Type} {f : α → Bool} {l : List α} {p : α} (h : f p = false) : (l ++ [p]).filter f = l.filter f := by rw [List.filter_append, List.filter_cons_of_neg (by rw [h]; simp), List.filter_nil, List.append_nil]
theorem filt_yes {α : Type} {f : α → Bool} {l : List α} {p : α} (h : f p = true) : (l ++ [p]).filter f = l.filter f ++ [p] := by rw [List.filter_append, List.filter_cons_of_pos h, List.filter_nil]
theorem ov_snoc {ov : ByteArray → Bool} {l : List Vr} {p : Vr} (h : ∀ q ∈ l, ov q.k = false) (hp : ov p.k = false) : ∀ q ∈ l ++ [p], ov q.k = false := fun q hq => by
  rcases List.mem_append.1 hq with h1 | h1
  · exact h q h1
  · rw [List.mem_singleton.1 h1]; exact hp
theorem vr_cells8 {w : World} {x : Nat} {k : ByteArray} {br ep sq f t : Int} {v : ByteArray} {g : Bool} (h : w.heap[x]? = some (vrBox k br ep sq f t v g)) :
    w.cell? ⟨x, 0, none⟩ = some (.string k) ∧ w.cell? ⟨x, 1, none⟩ = some (.int .i64 br) ∧ w.cell? ⟨x, 2, none⟩ = some (.int .i64 ep) ∧ w.cell? ⟨x, 3, none⟩ = some (.int .i64 sq) ∧ w.cell? ⟨x, 4, none⟩ = some (.int .i64 f) ∧ w.cell? ⟨x, 5, none⟩ = some (.int .i64 t) ∧ w.cell? ⟨x, 6, none⟩ = some (.string v) ∧ w.cell? ⟨x, 7, none⟩ = some (.bool g) := by
  refine ⟨?_, ?_, ?_, ?_, ?_, ?_, ?_, ?_⟩ <;> (rw [cell_of_row _ _ _ _ _ _ h]; rfl)
abbrev vcB (v : Value) : Obj := .cells #[v] 22
abbrev ovB (v : Value) : Obj := .cells #[v] 77
abbrev isB (v : Value) : Obj := .cells #[v] 58
abbrev vrV (p : Vr) : Value := .agg #[.string p.k, .int .i64 p.br, .int .i64 p.ep, .int .i64 p.sq, .int .i64 p.f, .int .i64 p.t, .string p.v, .bool p.g]
def pickS (ov : ByteArray → Bool) (f : Vr → Bool) (l : List Vr) : List Vr := (l.takeWhile (fun p => !ov p.k)).filter f
def keepS (key : ByteArray) (is : Vr → Bool) (p : Vr) : Bool := !bytesLess p.k.toList key.toList && is p
theorem keep_lt {key : ByteArray} {is : Vr → Bool} {p : Vr} (h : bytesLess p.k.toList key.toList = true) : keepS key is p = false := by unfold keepS; rw [h]; rfl
theorem keep_ge {key : ByteArray} {is : Vr → Bool} {p : Vr} {b : Bool} (h : bytesLess p.k.toList key.toList = false) (hb : is p = b) : keepS key is p = b := by unfold keepS; rw [h, hb]; rfl
theorem pickS_all {ov : ByteArray → Bool} {f : Vr → Bool} {l : List Vr} (h : ∀ p ∈ l, ov p.k = false) : pickS ov f l = l.filter f := by
  unfold pickS
  have h9 : l.takeWhile (fun p => !ov p.k) = l := by
    clear f
    induction l with
    | nil => rfl
    | cons q l ih =>
      rw [List.takeWhile_cons_of_pos (by rw [h q List.mem_cons_self]; rfl), ih (fun p hp => h p (List.mem_cons_of_mem _ hp))]
  rw [h9]
theorem pickS_stop {ov : ByteArray → Bool} {f : Vr → Bool} {a b : List Vr} {z : Vr} (h : ∀ p ∈ a, ov p.k = false) (hz : ov z.k = true) : pickS ov f (a ++ z :: b) = a.filter f := by
  unfold pickS
  rw [List.takeWhile_append_of_pos (fun p hp => by rw [h p hp]; rfl), List.takeWhile_cons_of_neg (by rw [hz]; simp), List.append_nil]
def SmI (ov : ByteArray → Bool) (f : Vr → Bool) (w6 : World) (ga : Nat) (pre : List (Value × List Vr)) (W : World) : Prop :=
  ∃ v, W.heap[ga]? = some (vcB v) ∧ OVr W (w6.heap.size + 2) v ((pre.flatMap Prod.snd).filter f) ∧ Frm [ga] w6 W ∧ ∀ p ∈ pre.flatMap Prod.snd, ov p.k = false
def SmX (ov : ByteArray → Bool) (f : Vr → Bool) (w6 : World) (gr ga : Nat) (c : Code) (xs : List (Value × List Vr)) (W : World) : Prop :=
  ∃ v a z b, c = .ret ∧ xs.flatMap Prod.snd = a ++ z :: b ∧ ov z.k = true ∧ (∀ p ∈ a, ov p.k = false) ∧ W.heap[gr]? = some (vcB v) ∧ OVr W (w6.heap.size + 2) v (a.filter f) ∧ Frm [gr, ga] w6 W
theorem SmI_row {ov : ByteArray → Bool} {f : Vr → Bool} {w6 A B : World} {ga : Nat} {pre : List (Value × List Vr)} {row : Option Nat} (h : SmI ov f w6 ga pre A) (hga : ga < w6.heap.size) (hg : A.grownBy B row) (hr : ∀ k, row = some k → w6.heap.size ≤ k ∧ k < w6.heap.size + 2) : SmI ov f w6 ga pre B := by
  obtain ⟨v, h1, h2, h3, h4⟩ := h
  have hs := h3.size
  exact ⟨v, (hg.block ga (by omega) (fun e => by have := (hr _ e.symm).1; omega)).trans h1, OVr_off h2 hg (fun k e => (hr k e).2), h3.row hg (fun k e => (hr k e).1), h4⟩
theorem SmX_row {ov : ByteArray → Bool} {f : Vr → Bool} {w6 A B : World} {gr ga : Nat} {c : Code} {pre : List (Value × List Vr)} {row : Option Nat} (h : SmX ov f w6 gr ga c pre A) (hgr : gr < w6.heap.size) (hg : A.grownBy B row) (hr : ∀ k, row = some k → w6.heap.size ≤ k ∧ k < w6.heap.size + 2) : SmX ov f w6 gr ga c pre B := by
  obtain ⟨v, a, z, b, e1, e2, e3, e4, h1, h2, h3⟩ := h
  have hs := h3.size
  exact ⟨v, a, z, b, e1, e2, e3, e4, (hg.block gr (by omega) (fun e => by have := (hr _ e.symm).1; omega)).trans h1, OVr_off h2 hg (fun k e => (hr k e).2), h3.row hg (fun k e => (hr k e).1)⟩
theorem results_cellV {fn : Func} {p : Tmp} (h : fn.results = #[.cell p 22]) (tmps : Array Value) (w : World) (g : Nat) (A : Option Addr) (n c : Nat) (hp : tmps.getD p undef = .pointer (some ⟨g, 0, none⟩)) (hg : w.heap[g]? = some (vcB (.slice A n c))) :
    (results fn tmps).run Try.prog w = .ok (.slice A n c) w := by
  have hp' : tmps[p]?.getD undef = .pointer (some ⟨g, 0, none⟩) := by simpa using hp
  have hc := (one_cell hg).1
  have hu := Try.underlying22
  simp [results, h, hp', asAddr, go_sem, hc, hu]
theorem feqR_nil (f : Fn) (m b : Array Value) (w : World) : (binOp .eql 86 (.func f m b) .nilFunc).run Try.prog w = .ok (.bool false) w := by
  have hp := Try.underlying86
  have h : ∀ d : Nat, (Op.equalIn (d + 1) 86 (.func f m b) .nilFunc).run Try.prog w = .ok false w := fun d => by
    simp [Op.equalIn, run_underlying hp]
  simp only [binOp]
  simp [Op.equal, Op.maxDepth, h 9999]
theorem smI_len {pre : List (Value × List Vr)} {x : Value × List Vr} {cs : List (List Vr)} {i N : Nat} (h : (pre ++ [x]).map Prod.snd <+: cs.drop i) (hN : cs.flatten.length ≤ N) : ((pre ++ [x]).flatMap Prod.snd).length ≤ N := by
  obtain ⟨t, ht⟩ := h
  have h1 : cs.flatten = (cs.take i).flatten ++ (((pre ++ [x]).map Prod.snd).flatten ++ t.flatten) := by rw [← List.flatten_append, ht, ← List.flatten_append, List.take_append_drop]
  rw [h1, List.length_append, List.length_append] at hN
  rw [List.flatMap_def]
  omega
theorem OkRn_row {B1 : Nat} {ll : List (List Vr)} {pre : List (Value × List Vr)} {x : Value × List Vr} {V0 A B : World} {row : Option Nat} {d : Nat} (h : OkRn B1 ll pre x V0 A) (hg : A.grownBy B row) (hB : B1 = d) (hr : ∀ k, row = some k → d ≤ k ∧ k < d + 2) : OkRn B1 ll pre x V0 B := by
  obtain ⟨h1, ⟨h4, h5, h2⟩, h3⟩ := h
  exact ⟨OVr_off h1 hg (fun k e => by have := (hr k e).2; omega), ⟨h4, Nat.le_trans h5 hg.size, fun k hk => (hg.block k (by omega) (fun e => by have := (hr _ e.symm).1; omega)).trans (h2 k hk)⟩, h3⟩
theorem all1_calls (k : ByteArray) (W : World) : Calls Try.prog 42 #[.string k] W fun e w' => e = .returned (.bool false) ∧ W = w' := by
  go_enter Try.func42, Try.ntmps42
  go_wp2_with fail
  go_ret
  exact ⟨rfl, rfl⟩
theorem all2_calls (p : Vr) (W : World) : Calls Try.prog 43 #[vrV p] W fun e w' => e = .returned (.bool true) ∧ Below W.heap.size W w' := by
  go_enter Try.func43, Try.ntmps43
  go_wp2_with fail
  go_ret
  exact ⟨rfl, below_alloc (Below.refl _ _) _⟩
theorem of2_calls (p : Vr) (W : World) : Calls Try.prog 53 #[vrV p] W fun e w' => e = .returned (.bool true) ∧ Below W.heap.size W w' := by
  go_enter Try.func53, Try.ntmps53
  go_wp2_with fail
  go_ret
  exact ⟨rfl, below_alloc (Below.refl _ _) _⟩
theorem range2_calls (p : Vr) (W : World) : Calls Try.prog 55 #[vrV p] W fun e w' => e = .returned (.bool true) ∧ Below W.heap.size W w' := by
  go_enter Try.func55, Try.ntmps55
  go_wp2_with fail
  go_ret
  exact ⟨rfl, below_alloc (Below.refl _ _) _⟩
theorem of1_calls (k key : ByteArray) (gt : Nat) (W : World) (h : W.heap[gt]? = some (sB key)) : Calls Try.prog 52 #[.string k, .pointer (some ⟨gt, 0, none⟩)] W fun e w' => e = .returned (.bool (!bytesLess k.toList key.toList && !(k.toList == key.toList))) ∧ W = w' := by
  obtain ⟨c0, f0⟩ := one_cell h
  clear h
  go_enter Try.func52, Try.ntmps52
  go_wp2_with fail
  go_ret
  exact ⟨rfl, rfl⟩
theorem range1_calls (k key : ByteArray) (gt : Nat) (W : World) (h : W.heap[gt]? = some (sB key)) : Calls Try.prog 54 #[.string k, .pointer (some ⟨gt, 0, none⟩)] W fun e w' => e = .returned (.bool (!bytesLess k.toList key.toList)) ∧ W = w' := by
  obtain ⟨c0, f0⟩ := one_cell h
  clear h
  go_enter Try.func54, Try.ntmps54
  go_wp2_with fail
  go_ret
  exact ⟨rfl, rfl⟩
theorem last1_calls (k key : ByteArray) (gt : Nat) (W : World) (h : W.heap[gt]? = some (sB key)) : Calls Try.prog 50 #[.string k, .pointer (some ⟨gt, 0, none⟩)] W fun e w' => e = .returned (.bool (!bytesLess k.toList key.toList && !(k.toList == key.toList))) ∧ W = w' := by
  obtain ⟨c0, f0⟩ := one_cell h
  clear h
  go_enter Try.func50, Try.ntmps50
  go_wp2_with fail
  go_ret
  exact ⟨rfl, rfl⟩
abbrev inB (k : Int) : Obj := .cells #[.int .i64 k] 3
theorem last2_calls (p : Vr) (gb ge : Nat) (br ep : Int) (W : World) (h1 : W.heap[gb]? = some (inB br)) (h2 : W.heap[ge]? = some (inB ep)) : Calls Try.prog 51 #[vrV p, .pointer (some ⟨gb, 0, none⟩), .pointer (some ⟨ge, 0, none⟩)] W fun e w' => e = .returned (.bool (decide (p.br = br) && decide (p.ep ≤ ep))) ∧ Below W.heap.size W w' := by
  have hb1 := box_keep h1 (below_alloc (Below.refl W.heap.size W) (vrB p))
  have hb2 := box_keep h2 (below_alloc (Below.refl W.heap.size W) (vrB p))
  obtain ⟨c0, f0⟩ := one_cell hb1
  obtain ⟨c1, f1⟩ := one_cell hb2
  clear hb1 hb2 h1 h2
  obtain ⟨k, b, e, sq, f, t, v, gg⟩ := p
  simp only at c0 c1 f0 f1 ⊢
  by_cases h : b = br
  · subst h
    go_enter Try.func51, Try.ntmps51
    go_wp2_with fail
    go_ret
    exact ⟨by simp, below_alloc (Below.refl _ _) _⟩
  · go_enter Try.func51, Try.ntmps51
    go_wp2_with fail
    go_ret
    exact ⟨by simp [h], below_alloc (Below.refl _ _) _⟩
end Go.Proofs.Ytmfnbkghfmeekaa.A
