/- ABase -/
import Derived.Test.YtmfnbkghfmeekaaProg
import Derived.Test.YtmfnbkghfmeekaaZW
import Derived.Test.YtmfnbkghfmeekaaZW
import Derived.Test.YtmfnbkghfmeekaaZW
import Derived.Deep.LoopGhost
import Derived.Deep.QuietTactic
import Derived.BigQuiet
import Derived.Laws.BitsLemmas
import Derived.WalkKit
namespace Go.Proofs.Ytmfnbkghfmeekaa.A
open Go.RowKit Go.Proofs.YtmfnbkghfmeekaaW.PrintWords Go.Proofs.YtmfnbkghfmeekaaW.PrintLast Go.Proofs.YtmfnbkghfmeekaaW.PrintMore
set_option linter.unusedVariables false
set_option linter.unusedSimpArgs false
theorem C_at {k : IntKind} {A : Option Addr} {l : List Int} {w : World} (h : Kd.C (Kd.int k) w A l.length l) (i : Nat) (hi : i < l.length) : ∃ ad, A = some ad ∧ w.cell? (ad.add i) = some (.int k (l.getD i 0)) := by
  obtain ⟨ad, e, hc⟩ := h.2.2 (by omega)
  obtain ⟨c, h1, h2, h3⟩ := hc i _ (List.getElem?_eq_getElem hi)
  have h2' : c = [Value.int k l[i]] := h2
  subst h2'
  refine ⟨ad, e, ?_⟩
  have := h3 0 _ rfl
  simpa [Kd.int, Kd.scalar, List.getD_eq_getElem?_getD, hi] using this
theorem lit_CK {k : IntKind} (W : World) (l : List Int) (e : Nat) (hl : l.length ≤ 9223372036854775807) (fr : Nat × Nat) : (Kd.int k).C (W.alloc (.cells (l.map (Value.int k)).toArray e fr)) (some ⟨W.heap.size, 0, none⟩) l.length l := by
  refine ⟨rfl, hl, fun _ => ⟨_, rfl, fun j p hj => ⟨[.int k p], rfl, rfl, fun i u hu => ?_⟩⟩⟩
  have hi : i = 0 := by
    have := (List.getElem?_eq_some_iff.1 hu).1
    simpa using this
  subst hi
  have hu' : u = .int k p := by simpa using hu.symm
  subst hu'
  rw [add_plain, cell_of_row _ _ _ (l.map (Value.int k)).toArray e fr (heap_alloc_new W _)]
  simp [Kd.int, Kd.scalar, hj]
section
variable {k : IntKind} {e : Nat} {W : World} {base g n cap : Nat} {ok : Nat → Prop} {xs : List Int}
theorem R_cellN (h : (Kd.int k).R e W base ok (.slice (some ⟨g, 0, none⟩) n cap) xs) (i : Nat) (hi : i < n) : W.cell? ⟨g, i, none⟩ = some (.int k (xs.getD i 0)) ∧ W.frozen? ⟨g, i, none⟩ = false := by
  have h1 := Kd.R_celln (enc := Value.int k) 0 h (i : Int) (Int.natCast_nonneg i) (by omega)
  simpa [rdOf] using h1
theorem R_putN (h : (Kd.int k).R e W base ok (.slice (some ⟨g, 0, none⟩) n cap) xs) (i : Nat) (x : Int) : (Kd.int k).R e (W.setCell ⟨g, i, none⟩ (.int k x)) base ok (.slice (some ⟨g, 0, none⟩) n cap) (xs.set i x) := by
  exact (Kd.R_putg (enc := Value.int k) h (i : Int) x).1
theorem R_other (h : (Kd.int k).R e W base ok (.slice (some ⟨g, 0, none⟩) n cap) xs) {p : Addr} (hp : g ≠ p.block) (u : Value) : (Kd.int k).R e (W.setCell p u) base ok (.slice (some ⟨g, 0, none⟩) n cap) xs := by
  obtain ⟨h0, inner, ho, hr⟩ := h
  refine ⟨h0, inner, own_move ho (fun k hk => Below.heap_setCell W p u k ?_), hr⟩
  have : g = k := by simpa [Value.ownBlock] using hk
  omega
end
theorem C_take_any {α : Type} {d : Kd α} {w : World} {A : Option Addr} {l : List α} (h : d.C w A l.length l) (n : Nat) : d.C w A (l.take n).length (l.take n) := by
  by_cases hn : n ≤ l.length
  · exact Kd.C_take h hn
  · rw [List.take_of_length_le (by omega)]
    exact h
theorem C_atS {α : Type} {d : Kd α} {e : Nat} {A : Option Addr} {ll : List (List α)} {w : World} (h : Kd.C (Kd.slice e d) w A ll.length ll) (i : Nat) (hi : i < ll.length) :
    ∃ ad A1 c1, A = some ad ∧ w.cell? (ad.add i) = some (.slice A1 (ll.getD i []).length c1) ∧ (ll.getD i []).length ≤ c1 ∧ d.C w A1 (ll.getD i []).length (ll.getD i []) := by
  obtain ⟨ad, e1, hc⟩ := h.2.2 (by omega)
  obtain ⟨c, h1, ⟨A1, c1, h2, h3, h4⟩, h5⟩ := hc i _ (List.getElem?_eq_getElem hi)
  subst h2
  have e2 : ll.getD i [] = ll[i] := by simp [List.getD_eq_getElem?_getD, hi]
  rw [e2]
  refine ⟨ad, A1, c1, e1, ?_, h3, h4⟩
  have := h5 0 _ rfl
  simpa [Kd.slice] using this
theorem flat_take {α β : Type} (f : α → List β) (ll : List α) (d : α) (k : Nat) (hk : k < ll.length) : (ll.take (k + 1)).flatMap f = (ll.take k).flatMap f ++ f (ll.getD k d) := by
  rw [List.take_succ_eq_append_getElem hk, List.flatMap_append]
  simp [List.getD_eq_getElem?_getD, hk]
theorem flat_le {α β : Type} (f : α → List β) (ll : List α) (k : Nat) : ((ll.take k).flatMap f).length ≤ (ll.flatMap f).length := by
  have e : ll.flatMap f = (ll.take k).flatMap f ++ (ll.drop k).flatMap f := by rw [← List.flatMap_append, List.take_append_drop]
  rw [e, List.length_append]
  omega
abbrev OR {α : Type} (d : Kd α) (e : Nat) (w : World) (B : Nat) (v : Value) (l : List α) : Prop := d.R e w B (fun _ => True) v l
section
variable {ops : Array Oper} {rest : List Oper} {o : Oper} {a : Act} {Q : Exit → Act → World → Prop} {W : World} {B : Nat}
theorem app_one {α : Type} (d : Kd α) (t e : TypeId) (z : Value) (bytes : Nat) (ht : Try.prog.underlying t = some (.slice e)) (hinfo : (Try.prog.info? e).map (fun i => (i.zero, i.size, i.bytes)) = some (some z, d.sz, bytes)) (hz : z.cells.size = d.sz) (hs0 : 0 < d.sz) (hb0 : 0 < bytes)
    {s x : Operand} (hgd : o.guard = none) (ho : o.op = .call { callee := .builtin .append, args := #[s, x], argTypes := #[t, t] }) {v : Value} {xs : List α} {p : α} {cs : List Value}
    (hs : a.eval s = v) (hx : a.eval x = .slice (some ⟨W.heap.size, 0, none⟩) 1 1) (hp : ∀ okp, d.M W B okp p cs) (HO : OR d e W B v xs) (hB : B ≤ W.heap.size) (hl : (xs.length + 1) * bytes ≤ 140737488355328)
    (h : ∀ v1 w1, OR d e w1 B v1 (xs ++ [p]) → Below B W w1 → W.grownBy w1 v.ownBlock → wpList Try.prog ops Q rest (a.put o.dst v1) w1) : wpList Try.prog ops Q (o :: rest) a (W.alloc (.cells cs.toArray e)) :=
  Kd.R_append d B hgd s x t e z bytes ho ht hinfo hz hs0 hb0 v xs p cs (fun _ => True) (fun _ => False) hs hx (hp _) (fun _ h => h.elim) (fun _ _ => trivial) HO (Below.refl B W) hB hl (fun v1 w1 h1 h2 h3 _ => h v1 w1 h1 h2 h3)
theorem app_one_step {α : Type} (d : Kd α) (t e : TypeId) (z : Value) (bytes : Nat) (ht : Try.prog.underlying t = some (.slice e)) (hinfo : (Try.prog.info? e).map (fun i => (i.zero, i.size, i.bytes)) = some (some z, d.sz, bytes)) (hz : z.cells.size = d.sz) (hs0 : 0 < d.sz) (hb0 : 0 < bytes)
    {s x : Operand} (hgd : o.guard = none) (ho : o.op = .call { callee := .builtin .append, args := #[s, x], argTypes := #[t, t] }) {v : Value} {xs : List α} {p : α} {cs : List Value} {Kc : Act → World → Prop}
    (hs : a.eval s = v) (hx : a.eval x = .slice (some ⟨W.heap.size, 0, none⟩) 1 1) (hp : ∀ okp, d.M W B okp p cs) (HO : OR d e W B v xs) (hB : B ≤ W.heap.size) (hl : (xs.length + 1) * bytes ≤ 140737488355328)
    (h : ∀ v1 w1, OR d e w1 B v1 (xs ++ [p]) → Below B W w1 → W.grownBy w1 v.ownBlock → Kc (a.put o.dst v1) w1) :
    if Region.wanted o (yielded ops a.tmps) = true then Oper.wp Try.prog o a (W.alloc (.cells cs.toArray e)) Kc Q else Kc (a.put o.dst undef) (W.alloc (.cells cs.toArray e)) :=
  Kd.R_append_step d B (by simp [Region.wanted, hgd]) s x t e z bytes ho ht hinfo hz hs0 hb0 v xs p cs (fun _ => True) (fun _ => False) hs hx (hp _) (fun _ h => h.elim) (fun _ _ => trivial) HO (Below.refl B W) hB hl (fun v1 w1 h1 h2 h3 _ => h v1 w1 h1 h2 h3)
end
end Go.Proofs.Ytmfnbkghfmeekaa.A
