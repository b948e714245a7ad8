/- Rows of slices whose things lie elsewhere: what such a row's heads are; which rows of one's own are apart. -/
import Derived.Test.YtohgmpkehncopaaABytes
namespace Go.Proofs.Ytohgmpkehncopaa.A
open Go.RowKit Go.Proofs.YtohgmpkehncopaaW.PrintWords Go.Proofs.YtohgmpkehncopaaW.PrintLast Go.Proofs.YtohgmpkehncopaaW.PrintMore
set_option linter.unusedVariables false
set_option linter.unusedSimpArgs false

section
variable {α β : Type} {d : Kd α} {d' : Kd β} {e e' : Nat} {W W1 : World} {B B' : Nat} {ok ok' : Nat → Prop} {v u : Value} {xs : List α} {ys : List β}
/-- Rows of two types are apart. -/
theorem own_ne_type (h : d.R e W B ok v xs) (h' : d'.R e' W B' ok' u ys) (hne : e ≠ e') : u.ownBlock = none ∨ u.ownBlock ≠ v.ownBlock := by
  obtain ⟨_, inner, ho, _⟩ := h
  obtain ⟨_, inner', ho', _⟩ := h'
  cases hu : u.ownBlock with
  | none => exact .inl rfl
  | some k =>
    refine .inr fun e1 => ?_
    obtain ⟨cells, hc⟩ := own_typed ho k e1.symm
    obtain ⟨cells', hc'⟩ := own_typed ho' k hu
    rw [hc] at hc'
    injection hc' with h1
    injection h1 with _ h2
    exact hne h2
/-- A row that is newer is apart. -/
theorem own_ne_new (h : d.R e W B ok v xs) (h' : d'.R e' W1 B' ok' u ys) (hB : W.heap.size ≤ B') : u.ownBlock = none ∨ u.ownBlock ≠ v.ownBlock := by
  obtain ⟨_, inner, ho, _⟩ := h
  obtain ⟨_, inner', ho', _⟩ := h'
  cases hu : u.ownBlock with
  | none => exact .inl rfl
  | some k =>
    refine .inr fun e1 => ?_
    have h1 := own_lt ho k e1.symm
    have h2 := own_base ho' k hu
    omega
end
theorem ne_swap {v u : Value} (h : u.ownBlock = none ∨ u.ownBlock ≠ v.ownBlock) : v.ownBlock = none ∨ v.ownBlock ≠ u.ownBlock := by
  cases hv : v.ownBlock with
  | none => exact .inl rfl
  | some k =>
    refine .inr fun e1 => ?_
    rcases h with h | h
    · rw [h] at e1
      cases e1
    · exact h (e1.symm.trans hv.symm)
/-- A flat row, when another one has grown. -/
theorem OR_grown {α : Type} {enc : α → Value} {h1 : ∀ x, (enc x).oneCell' = true} {e : Nat} {W w1 : World} {B : Nat} {ok : Nat → Prop} {u : Value} {xs : List α} {row : Option Nat} (h : (Kd.scalar enc h1).R e W B ok u xs) (hg : W.grownBy w1 row) (hne : u.ownBlock = none ∨ u.ownBlock ≠ row) : (Kd.scalar enc h1).R e w1 B ok u xs := by
  obtain ⟨h0, inner, ho, hr⟩ := h
  exact ⟨h0, inner, ho.kept hg hne, hr⟩

/-- A slice's head: where it lies, how long it is, how long it may be. -/
abbrev Hd : Kd (Option Addr × Nat × Nat) := Kd.scalar (fun h => Value.slice h.1 h.2.1 h.2.2) (fun _ => rfl)
/-- The heads of slices of bytes. -/
def Heads (w : World) (hs : List (Option Addr × Nat × Nat)) (ll : List (List Int)) : Prop :=
  hs.length = ll.length ∧ ∀ (i : Nat) (h : Option Addr × Nat × Nat) (x : List Int), hs[i]? = some h → ll[i]? = some x → h.2.1 = x.length ∧ x.length ≤ h.2.2 ∧ U8.C w h.1 x.length x
theorem Heads_nil (w : World) : Heads w [] [] := ⟨rfl, fun i h x h1 => by simp at h1⟩
theorem Heads_below {w w1 : World} {hs : List (Option Addr × Nat × Nat)} {ll : List (List Int)} (h : Heads w hs ll) (hb : Below w.heap.size w w1) : Heads w1 hs ll :=
  ⟨h.1, fun i a x h1 h2 => ⟨(h.2 i a x h1 h2).1, (h.2 i a x h1 h2).2.1, Kd.C_below (h.2 i a x h1 h2).2.2 hb⟩⟩
theorem Heads_add {w : World} {hs : List (Option Addr × Nat × Nat)} {ll : List (List Int)} {A : Option Addr} {c n : Nat} {x : List Int} (h : Heads w hs ll) (hx : U8.C w A n x) (hc : n ≤ c) : Heads w (hs ++ [(A, n, c)]) (ll ++ [x]) := by
  have hn := hx.1
  subst hn
  refine ⟨by simp [h.1], fun i a y h1 h2 => ?_⟩
  rcases Nat.lt_or_ge i hs.length with hi | hi
  · rw [List.getElem?_append_left hi] at h1
    rw [List.getElem?_append_left (by rw [← h.1]; exact hi)] at h2
    exact h.2 i a y h1 h2
  · rw [List.getElem?_append_right hi] at h1
    rw [List.getElem?_append_right (by rw [← h.1]; exact hi), ← h.1] at h2
    have h0 : i - hs.length = 0 := by
      have := (List.getElem?_eq_some_iff.1 h1).1
      simpa using this
    rw [h0] at h1 h2
    simp only [List.getElem?_cons_zero, Option.some.injEq] at h1 h2
    subst h1 h2
    exact ⟨rfl, hc, hx⟩
/-- A row of heads is a row of slices. -/
theorem Heads_C {w : World} {A : Option Addr} {n e : Nat} {hs : List (Option Addr × Nat × Nat)} {ll : List (List Int)} (hr : Hd.C w A n hs) (h : Heads w hs ll) : (Kd.slice e U8).C w A n ll := by
  refine ⟨h.1.symm.trans hr.1, hr.2.1, fun hn => ?_⟩
  obtain ⟨ad, hA, hc⟩ := hr.2.2 hn
  refine ⟨ad, hA, fun j p hj => ?_⟩
  have hjl : j < hs.length := by
    have := (List.getElem?_eq_some_iff.1 hj).1
    rw [h.1]
    exact this
  obtain ⟨cs, h1, h2, h3⟩ := hc j hs[j] (List.getElem?_eq_getElem hjl)
  obtain ⟨e1, e2, e3⟩ := h.2 j hs[j] p (List.getElem?_eq_getElem hjl) hj
  have h2' : cs = [Value.slice (hs[j]).1 (hs[j]).2.1 (hs[j]).2.2] := h2
  refine ⟨cs, h1, ⟨(hs[j]).1, (hs[j]).2.2, ?_, e2, e3⟩, h3⟩
  rw [h2', e1]
theorem infoHd : (Try.prog.info? 22).map (fun i => (i.zero, i.size, i.bytes)) = some (some (.slice none 0 0), 1, 24) := by kernel_rfl
section
variable {ops : Array Oper} {rest : List Oper} {o : Oper} {a : Act} {Q : Exit → Act → World → Prop} {W : World} {B : Nat}
/-- append(v, x), one slice behind a row of one's own. -/
theorem app_head {s x : Operand} (hgd : o.guard = none) (ho : o.op = .call { callee := .builtin .append, args := #[s, x], argTypes := #[32, 32] }) {v : Value} {xs : List (Option Addr × Nat × Nat)} {A : Option Addr} {n c : Nat}
    (hs : a.eval s = v) (hx : a.eval x = .slice (some ⟨W.heap.size, 0, none⟩) 1 1) (HO : OR Hd 22 W B v xs) (hB : B ≤ W.heap.size) (hl : xs.length ≤ 1000000000)
    (h : ∀ v1 w1, OR Hd 22 w1 B v1 (xs ++ [(A, n, c)]) → Below B W w1 → W.grownBy w1 v.ownBlock → wpList Try.prog ops Q rest (a.put o.dst v1) w1) : wpList Try.prog ops Q (o :: rest) a (W.alloc (.cells #[.slice A n c] 22)) :=
  app_one (p := (A, n, c)) (cs := [.slice A n c]) Hd 32 22 (.slice none 0 0) 24 Try.underlying32 infoHd rfl (by decide) (by decide) hgd ho hs hx (fun okp => rfl) HO hB (by show (xs.length + 1) * 24 ≤ _; omega) h
end

end Go.Proofs.Ytohgmpkehncopaa.A
