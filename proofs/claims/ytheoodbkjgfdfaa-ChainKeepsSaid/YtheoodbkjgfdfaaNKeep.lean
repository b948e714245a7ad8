/- The document's Keep: those up to an epoch, and those above it: two rows that grow by turns. -/
import Derived.Test.YtheoodbkjgfdfaaNDoc
namespace Go.Proofs.Ytheoodbkjgfdfaa.A
open R
open Go.RowKit Go.Proofs.YtheoodbkjgfdfaaW.PrintWords Go.Proofs.YtheoodbkjgfdfaaW.PrintLast Go.Proofs.YtheoodbkjgfdfaaW.PrintMore
set_option linter.unusedVariables false
set_option linter.unusedSimpArgs false

/-- Two rows that lie apart. -/
def Apt (v u : Value) : Prop := ∀ b, v.ownBlock = some b → u.ownBlock ≠ some b
theorem Apt.swap {v u : Value} (h : Apt v u) : Apt u v := fun b h1 h2 => h b h2 h1
theorem Apt.ne {v u : Value} (h : Apt v u) : u.ownBlock = none ∨ u.ownBlock ≠ v.ownBlock := by
  cases hu : u.ownBlock with
  | none => exact .inl rfl
  | some b => exact .inr (fun e => h b e.symm hu)
theorem OVr_grown {W w1 : World} {B : Nat} {u : Value} {xs : List Vr} {row : Option Nat} (h : OVr W B u xs) (hg : W.grownBy w1 row) (hne : u.ownBlock = none ∨ u.ownBlock ≠ row) : OVr w1 B u xs := by
  obtain ⟨h0, inner, ho, hr⟩ := h
  exact ⟨h0, inner, ho.kept hg hne, hr.imp_ fun p c h => flatVr _ _ _ _ _ _ _ _ h⟩
theorem Apt.next {W : World} {B : Nat} {v v1 u : Value} {ys : List Vr} (h : Apt v u) (hu : OVr W B u ys) (h1 : v1.ownBlock = v.ownBlock ∨ ∃ b, v1.ownBlock = some b ∧ W.heap.size ≤ b) : Apt v1 u := by
  intro b hb hb2
  rcases h1 with h1 | ⟨c, h1, h2⟩
  · exact h b (h1.symm.trans hb) hb2
  · obtain ⟨_, inner, ho, _⟩ := hu
    rw [h1] at hb
    injection hb with hb
    subst hb
    have := own_lt ho c hb2
    omega
section
variable {ops : Array Oper} {rest : List Oper} {o : Oper} {a : Act} {Q : Exit → Act → World → Prop} {W : World} {B : Nat}
theorem app_vr4 {s x : Operand} (hgd : o.guard = none) (ho : o.op = .call { callee := .builtin .append, args := #[s, x], argTypes := #[24, 24] }) {v : Value} {xs : List Vr} {k : ByteArray} {br ep sq f t : Int} {vv : ByteArray} {g : Bool}
    (hs : a.eval s = v) (hx : a.eval x = .slice (some ⟨W.heap.size, 0, none⟩) 1 1) (HO : OVr W B v xs) (hB : B ≤ W.heap.size) (hl : xs.length ≤ 1000000)
    (h : ∀ v1 w1, OVr w1 B v1 (xs ++ [⟨k, br, ep, sq, f, t, vv, g⟩]) → Below B W w1 → W.grownBy w1 v.ownBlock → (v1.ownBlock = v.ownBlock ∨ ∃ b, v1.ownBlock = some b ∧ W.heap.size ≤ b) → wpList Try.prog ops Q rest (a.put o.dst v1) w1) : wpList Try.prog ops Q (o :: rest) a (W.alloc (.cells #[.string k, .int .i64 br, .int .i64 ep, .int .i64 sq, .int .i64 f, .int .i64 t, .string vv, .bool g] 35)) :=
  Kd.R_append KVr B hgd s x 24 35 (.agg #[.string ByteArray.empty, .int .i64 0, .int .i64 0, .int .i64 0, .int .i64 0, .int .i64 0, .string ByteArray.empty, .bool false]) 80 ho Try.underlying24 infoVr rfl (by decide) (by decide) v xs ⟨k, br, ep, sq, f, t, vv, g⟩ _ (fun _ => True) (fun _ => False) hs hx (KVr_M W B _ ⟨k, br, ep, sq, f, t, vv, g⟩) (fun _ h => h.elim) (fun _ _ => trivial) HO (Below.refl B W) hB (by omega) (fun v1 w1 h1 h2 h3 h4 => h v1 w1 h1 h2 h3 h4)
end
def stayV (l : List Vr) (e : Int) : List Vr := l.filter (fun p => decide (p.ep ≤ e))
def goneV (l : List Vr) (e : Int) : List Vr := l.filter (fun p => !decide (p.ep ≤ e))
set_option maxRecDepth 100000 in
set_option maxHeartbeats 4000000 in
theorem keep13_calls (A : Option Addr) (n c : Nat) (l : List Vr) (e0 : Int) (w : World) (hr : KVr.C w A n l) (hc : n ≤ c) (hn : n ≤ 100000) :
    Calls Try.prog 22 #[.slice A n c, .int .i64 e0] w fun e w' => ∃ v u, e = .returned (.tuple #[v, u]) ∧ OVr w' w.heap.size v (stayV l e0) ∧ OVr w' w.heap.size u (goneV l e0) ∧ Apt v u ∧ Below w.heap.size w w' := by
  have HR := Aside0.mk hr
  have HN := Aside0.mk hr.1
  have HL1 := Aside0.mk (fun k => List.length_filter_le (fun p : Vr => decide (p.ep ≤ e0)) (l.take k))
  have HL2 := Aside0.mk (fun k => List.length_filter_le (fun p : Vr => !decide (p.ep ≤ e0)) (l.take k))
  clear hr
  go_enter Try.func22, Try.ntmps22
  go_wp2_with fail
  go_loopw [6, 7, 8] (fun v6 v7 v8 w' => ∃ k : Nat, k ≤ n ∧ v8 = .int .i64 k ∧ Aside0 (OVr w' w.heap.size v6 (stayV (l.take k) e0)) ∧ Aside0 (OVr w' w.heap.size v7 (goneV (l.take k) e0)) ∧ Aside0 (Apt v6 v7) ∧ Aside0 (Below w.heap.size w w')) (fun _ _ v8 _ => n - (intOf v8).toNat)
  case atStart => exact ⟨0, Nat.zero_le _, rfl, ⟨OVr_nil _ _⟩, ⟨OVr_nil _ _⟩, ⟨fun b h => by cases h⟩, ⟨Below.refl _ _⟩⟩
  case round =>
    obtain ⟨k, hk, rfl, HO, HP, HA, HB⟩ := hrel
    by_cases hlt : k < n
    · have hln : k < l.length := by rw [HN.out]; exact hlt
      obtain ⟨ad, hA, -⟩ := C_atVr HR.out k hlt
      subst hA
      have h1 := filt_take (fun p : Vr => decide (p.ep ≤ e0)) l k hln
      have h2 := filt_take (fun p : Vr => !decide (p.ep ≤ e0)) l k hln
      obtain ⟨p, hp⟩ : ∃ p, l.getD k default = p := ⟨_, rfl⟩
      rw [hp] at h1 h2
      obtain ⟨q0, q1, q2, q3, q4, q5, q6, q7⟩ := vr8 rfl (Kd.C_below HR.out HB.out) k hlt p hp
      have hl1 : (stayV (l.take k) e0).length ≤ 100000 := by
        have := HL1.out k
        rw [List.length_take] at this
        unfold stayV
        omega
      have hl2 : (goneV (l.take k) e0).length ≤ 100000 := by
        have := HL2.out k
        rw [List.length_take] at this
        unfold goneV
        omega
      have HLL := Aside0.mk (show _ ∧ _ from ⟨hl1, hl2⟩)
      have j1 : (k : Int) < (n : Int) := by omega
      have j2 : (0 : Int) ≤ (k : Int) := by omega
      clear hp hln hl1 hl2
      by_cases hb : p.ep ≤ e0
      · have H1 : Aside0 (stayV (l.take (k + 1)) e0 = stayV (l.take k) e0 ++ [p]) := ⟨by unfold stayV; rw [h1, decide_eq_true hb]; rfl⟩
        have H2 : Aside0 (goneV (l.take (k + 1)) e0 = goneV (l.take k) e0) := ⟨by unfold goneV; rw [h2, decide_eq_true hb]; simp⟩
        clear h1 h2
        go_wp2_with ((with_reducible refine gate_dst (N := 29) rfl ?_); refine app_vr4 rfl rfl rfl rfl HO.out HB.out.size (by have := HLL.out.1; omega) ?_; intro v7' w7 hO7 hb7 hg7 ha7; have HO7 := Aside0.mk hO7; have HB7 := Aside0.mk (HB.out.trans hb7); have HP7 := Aside0.mk (OVr_grown HP.out hg7 HA.out.ne); have HA7 := Aside0.mk (HA.out.next HP.out ha7); clear hO7 hb7 hg7 ha7)
        go_roundw
        case rel => exact ⟨k + 1, hlt, by push_cast; rfl, ⟨by rw [H1.out]; exact HO7.out⟩, ⟨by rw [H2.out]; exact HP7.out⟩, HA7, HB7⟩
        case measure => simp [intOf]; omega
      · have H1 : Aside0 (stayV (l.take (k + 1)) e0 = stayV (l.take k) e0) := ⟨by unfold stayV; rw [h1, decide_eq_false hb]; simp⟩
        have H2 : Aside0 (goneV (l.take (k + 1)) e0 = goneV (l.take k) e0 ++ [p]) := ⟨by unfold goneV; rw [h2, decide_eq_false hb]; rfl⟩
        clear h1 h2
        go_wp2_with ((with_reducible refine gate_dst (N := 36) rfl ?_); refine app_vr4 rfl rfl rfl rfl HP.out HB.out.size (by have := HLL.out.2; omega) ?_; intro v7' w7 hO7 hb7 hg7 ha7; have HP7 := Aside0.mk hO7; have HB7 := Aside0.mk (HB.out.trans hb7); have HO7 := Aside0.mk (OVr_grown HO.out hg7 HA.out.swap.ne); have HA7 := Aside0.mk (HA.out.swap.next HO.out ha7).swap; clear hO7 hb7 hg7 ha7)
        go_roundw
        case rel => exact ⟨k + 1, hlt, by push_cast; rfl, ⟨by rw [H1.out]; exact HO7.out⟩, ⟨by rw [H2.out]; exact HP7.out⟩, HA7, HB7⟩
        case measure => simp [intOf]; omega
    · have j1 : ¬ (k : Int) < (n : Int) := by omega
      have HF1 : Aside0 (stayV (l.take k) e0 = stayV l e0) := ⟨by rw [List.take_of_length_le (by have := HN.out; omega)]⟩
      have HF2 : Aside0 (goneV (l.take k) e0 = goneV l e0) := ⟨by rw [List.take_of_length_le (by have := HN.out; omega)]⟩
      go_wp2_with fail
      go_ret2
      exact ⟨_, _, rfl, by rw [← HF1.out]; exact HO.out, by rw [← HF2.out]; exact HP.out, HA.out, HB.out⟩
end Go.Proofs.Ytheoodbkjgfdfaa.A
