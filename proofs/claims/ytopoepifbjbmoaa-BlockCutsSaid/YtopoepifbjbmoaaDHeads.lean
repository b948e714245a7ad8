/- Rows of slices of versions. -/
import Derived.Test.YtopoepifbjbmoaaDItr
namespace Go.Proofs.Ytopoepifbjbmoaa.A
open Go Go.RowKit Go.Shelf Go.Proofs.YtopoepifbjbmoaaW.PrintWords Go.Proofs.YtopoepifbjbmoaaW.PrintLast Go.Proofs.YtopoepifbjbmoaaW.PrintMore
open R
set_option linter.unusedVariables false
set_option linter.unusedSimpArgs false

section
variable {α β : Type} {d : Kd α} {d' : Kd β} {e e' : Nat} {W W1 : World} {B B' : Nat} {ok ok' : Nat → Prop} {v u : Value} {xs : List α} {ys : List β}
/-- Rows of two types are apart. -/
theorem own_ne_typeV (h : d.R e W B ok v xs) (h' : d'.R e' W B' ok' u ys) (hne : e ≠ e') : u.ownBlock = none ∨ u.ownBlock ≠ v.ownBlock := by
  obtain ⟨_, inner, ho, _⟩ := h
  obtain ⟨_, inner', ho', _⟩ := h'
  cases hu : u.ownBlock with
  | none => exact .inl rfl
  | some k =>
    refine .inr fun e1 => ?_
    obtain ⟨cells, hc⟩ := own_typed ho k e1.symm
    obtain ⟨cells', hc'⟩ := own_typed ho' k hu
    rw [hc] at hc'
    injection hc' with h1
    injection h1 with _ h2
    exact hne h2
end
/-- A flat row, when another one has grown. -/
theorem OR_grownV {α : Type} {enc : α → Value} {h1 : ∀ x, (enc x).oneCell' = true} {e : Nat} {W w1 : World} {B : Nat} {ok : Nat → Prop} {u : Value} {xs : List α} {row : Option Nat} (h : (Kd.scalar enc h1).R e W B ok u xs) (hg : W.grownBy w1 row) (hne : u.ownBlock = none ∨ u.ownBlock ≠ row) : (Kd.scalar enc h1).R e w1 B ok u xs := by
  obtain ⟨h0, inner, ho, hr⟩ := h
  exact ⟨h0, inner, ho.kept hg hne, hr⟩
theorem OVr_grownN {W w1 : World} {B : Nat} {u : Value} {xs : List Vr} {row : Option Nat} (h : OVr W B u xs) (hg : W.grownBy w1 row) (hne : u.ownBlock = none ∨ u.ownBlock ≠ row) : OVr w1 B u xs := by
  obtain ⟨h0, inner, ho, hr⟩ := h
  refine ⟨h0, inner, ho.kept hg hne, hr.imp_ fun p cs hM => ?_⟩
  have e := KVr_of (KVr.K_of_M hM)
  subst e
  exact KVr_M _ _ _ p
theorem OVr_off {W w1 : World} {B : Nat} {u : Value} {xs : List Vr} {row : Option Nat} (h : OVr W B u xs) (hg : W.grownBy w1 row) (hr : ∀ k, row = some k → k < B) : OVr w1 B u xs := by
  refine OVr_grownN h hg ?_
  obtain ⟨h0, inner, ho, _⟩ := h
  cases hu : u.ownBlock with
  | none => exact .inl rfl
  | some k =>
    refine .inr fun e1 => ?_
    have h3 := own_base ho k hu
    have h4 := hr k e1.symm
    omega
theorem SC_offV {α : Type} {enc : α → Value} {h1 : ∀ x, (enc x).oneCell' = true} {e : Nat} {W w1 : World} {B : Nat} {ok : Nat → Prop} {u : Value} {xs : List α} {row : Option Nat} (h : (Kd.scalar enc h1).R e W B ok u xs) (hg : W.grownBy w1 row) (hr : ∀ k, row = some k → k < B) : (Kd.scalar enc h1).R e w1 B ok u xs := by
  refine OR_grownV h hg ?_
  obtain ⟨h0, inner, ho, _⟩ := h
  cases hu : u.ownBlock with
  | none => exact .inl rfl
  | some k =>
    refine .inr fun e1 => ?_
    have h3 := own_base ho k hu
    have h4 := hr k e1.symm
    omega
/-- A slice's head. -/
abbrev HdV : Kd (Option Addr × Nat × Nat) := Kd.scalar (fun h => Value.slice h.1 h.2.1 h.2.2) (fun _ => rfl)
/-- Slices of versions of one's own, by their heads. -/
def HeadsV (w : World) (B : Nat) (hs : List (Option Addr × Nat × Nat)) (ll : List (List Vr)) : Prop :=
  hs.length = ll.length ∧ ∀ (i : Nat) (h : Option Addr × Nat × Nat) (x : List Vr), hs[i]? = some h → ll[i]? = some x → OVr w B (.slice h.1 h.2.1 h.2.2) x
theorem HeadsV_nil (w : World) (B : Nat) : HeadsV w B [] [] := ⟨rfl, fun i h x h1 => by simp at h1⟩
theorem HeadsV_move {w w1 : World} {B B1 : Nat} {hs : List (Option Addr × Nat × Nat)} {ll : List (List Vr)} (h : HeadsV w B hs ll) (hm : ∀ u x, OVr w B u x → OVr w1 B1 u x) : HeadsV w1 B1 hs ll := ⟨h.1, fun i a x h1 h2 => hm _ _ (h.2 i a x h1 h2)⟩
theorem HeadsV_add {w : World} {B : Nat} {hs : List (Option Addr × Nat × Nat)} {ll : List (List Vr)} {A : Option Addr} {c n : Nat} {x : List Vr} (h : HeadsV w B hs ll) (hx : OVr w B (.slice A n c) x) : HeadsV w B (hs ++ [(A, n, c)]) (ll ++ [x]) := by
  refine ⟨by simp [h.1], fun i a y h1 h2 => ?_⟩
  rcases Nat.lt_or_ge i hs.length with hi | hi
  · rw [List.getElem?_append_left hi] at h1
    rw [List.getElem?_append_left (by rw [← h.1]; exact hi)] at h2
    exact h.2 i a y h1 h2
  · rw [List.getElem?_append_right hi] at h1
    rw [List.getElem?_append_right (by rw [← h.1]; exact hi), ← h.1] at h2
    have h0 : i - hs.length = 0 := by
      have := (List.getElem?_eq_some_iff.1 h1).1
      simpa using this
    rw [h0] at h1 h2
    simp only [List.getElem?_cons_zero, Option.some.injEq] at h1 h2
    subst h1 h2
    exact hx
theorem infoHdV : (Try.prog.info? 22).map (fun i => (i.zero, i.size, i.bytes)) = some (some (.slice none 0 0), 1, 24) := by kernel_rfl
theorem app_headV_step {ops : Array Oper} {o : Oper} {a : Act} {Q : Exit → Act → World → Prop} {W : World} {B : Nat} {Kc : Act → World → Prop} {s x : Operand} (hgd : o.guard = none) (ho : o.op = .call { callee := .builtin .append, args := #[s, x], argTypes := #[43, 43] }) {v : Value} {xs : List (Option Addr × Nat × Nat)} {A : Option Addr} {n c : Nat}
    (hs : a.eval s = v) (hx : a.eval x = .slice (some ⟨W.heap.size, 0, none⟩) 1 1) (HO : OR HdV 22 W B v xs) (hB : B ≤ W.heap.size) (hl : xs.length ≤ 1000000000)
    (h : ∀ v1 w1, OR HdV 22 w1 B v1 (xs ++ [(A, n, c)]) → Below B W w1 → W.grownBy w1 v.ownBlock → Kc (a.put o.dst v1) w1) : if Region.wanted o (yielded ops a.tmps) = true then Oper.wp Try.prog o a (W.alloc (.cells #[.slice A n c] 22)) Kc Q else Kc (a.put o.dst undef) (W.alloc (.cells #[.slice A n c] 22)) :=
  app_one_step (p := (A, n, c)) (cs := [.slice A n c]) HdV 43 22 (.slice none 0 0) 24 Try.underlying43 infoHdV rfl (by decide) (by decide) hgd ho hs hx (fun okp => rfl) HO hB (by show (xs.length + 1) * 24 ≤ _; omega) h
theorem OVr_lit0 {W : World} {B : Nat} (hB : B ≤ W.heap.size) : OVr (W.alloc (.cells #[] 39)) B (.slice (some ⟨W.heap.size, 0, none⟩) 0 0) [] := by
  refine ⟨fun _ _ => trivial, [], ?_, ?_⟩
  · exact World.ownsRow_lit (base := B) (e := 39) (size := 8) W #[] 0 hB (by simp [maxLen]) rfl
  · exact ⟨rfl, fun j p hj => by simp at hj⟩
set_option maxHeartbeats 800000 in
theorem cloneVr_calls (A : Option Addr) (n c : Nat) (l : List Vr) (w : World) (hr : KVr.C w A n l) (hc : n ≤ c) (hl : n ≤ 5000) :
    Calls Try.prog 35 #[.slice A n c] w fun e w' => ∃ v, e = .returned v ∧ OVr w' w.heap.size v l ∧ Below w.heap.size w w' := by
  have hn := hr.1
  subst hn
  have HR := Aside0.mk hr
  clear hr
  have hq := fun (w : World) (a : Option Addr) (n c : Nat) => Lib.run_eql_slice_nil (P := Try.prog) w 22 39 a n c 0 0 Try.underlying22
  cases A with
  | none =>
    have h0 : l = [] := by
      rcases l with _ | ⟨x, l⟩
      · rfl
      · obtain ⟨ad, h, _⟩ := HR.out.2.2 (by simp)
        cases h
    subst h0
    go_enter Try.func35, Try.ntmps35
    go_wp2
    go_ret
    exact ⟨_, rfl, OVr_nil _ _, Below.refl _ _⟩
  | some ad =>
    go_enter Try.func35, Try.ntmps35
    go_wp2_with ((with_reducible refine gate_dst (N := 7) rfl ?_); refine app_vrs rfl rfl rfl rfl (OVr_lit0 (Nat.le_refl _)) (Kd.C_alloc HR.out _) (by simp) (by simp; omega) ?_; intro v1 w1 HO1 hb1 _)
    go_ret
    exact ⟨_, rfl, by simpa using HO1, ((Below.refl _ _).alloc (Nat.le_refl _) _).trans hb1⟩
theorem chunk_calls (A : Option Addr) (n c : Nat) (w : World) :
    Calls Try.prog 34 #[.slice A n c, .int .i64 8] w fun e w' => e = .returned (.func (.func 50) #[] #[.pointer (some ⟨w.heap.size, 0, none⟩), .pointer (some ⟨w.heap.size + 1, 0, none⟩)]) ∧ (w.alloc (vsB A n c)).alloc (niB 8) = w' := by
  go_enter Try.func34, Try.ntmps34
  go_wp2
  go_ret
  exact ⟨by simp, by simp⟩
end Go.Proofs.Ytopoepifbjbmoaa.A
