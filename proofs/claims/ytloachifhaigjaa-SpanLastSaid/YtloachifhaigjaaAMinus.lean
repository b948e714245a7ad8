/- What of a span is left without another one. -/
import Derived.Test.YtloachifhaigjaaASpan
namespace Go.Proofs.Ytloachifhaigjaa.A
open Go.RowKit Go.Proofs.YtloachifhaigjaaW.PrintWords Go.Proofs.YtloachifhaigjaaW.PrintLast Go.Proofs.YtloachifhaigjaaW.PrintMore
attribute [local go_sem] max2_int min2_int
set_option linter.unusedVariables false
set_option linter.unusedSimpArgs false

/-- A span as two cells. -/
def KSp : Kd Sp := Kd.iso (Kd.pair (Kd.int .i64) (Kd.int .i64)) (fun s => (s.f, s.t))
theorem KSp_M (w : World) (B : Nat) (ok : Nat → Prop) (a b : Int) : KSp.M w B ok ⟨a, b⟩ [.int .i64 a, .int .i64 b] := ⟨[.int .i64 a], [.int .i64 b], rfl, rfl, rfl⟩
theorem KSp_K (w : World) (a b : Int) : KSp.K w ⟨a, b⟩ [.int .i64 a, .int .i64 b] := ⟨[.int .i64 a], [.int .i64 b], rfl, rfl, rfl⟩
theorem infoSp : (Try.prog.info? 23).map (fun i => (i.zero, i.size, i.bytes)) = some (some (.agg #[.int .i64 0, .int .i64 0]), 2, 16) := by kernel_rfl
abbrev OSp (w : World) (B : Nat) (v : Value) (l : List Sp) : Prop := OR KSp 23 w B v l
section
variable {ops : Array Oper} {rest : List Oper} {o : Oper} {a : Act} {Q : Exit → Act → World → Prop} {W : World} {B : Nat}
theorem app_sp {s x : Operand} (hgd : o.guard = none) (ho : o.op = .call { callee := .builtin .append, args := #[s, x], argTypes := #[26, 26] }) {v : Value} {xs : List Sp} {f t : Int}
    (hs : a.eval s = v) (hx : a.eval x = .slice (some ⟨W.heap.size, 0, none⟩) 1 1) (HO : OSp W B v xs) (hB : B ≤ W.heap.size) (hl : xs.length ≤ 1000000)
    (h : ∀ v1 w1, OSp w1 B v1 (xs ++ [⟨f, t⟩]) → Below B W w1 → W.grownBy w1 v.ownBlock → wpList Try.prog ops Q rest (a.put o.dst v1) w1) : wpList Try.prog ops Q (o :: rest) a (W.alloc (.cells #[.int .i64 f, .int .i64 t] 23)) :=
  app_one KSp 26 23 (.agg #[.int .i64 0, .int .i64 0]) 16 Try.underlying26 infoSp rfl (by decide) (by decide) hgd ho hs hx (fun okp => KSp_M W B okp f t) HO hB (by omega) h
theorem app_sp_step {s x : Operand} (hgd : o.guard = none) (ho : o.op = .call { callee := .builtin .append, args := #[s, x], argTypes := #[26, 26] }) {v : Value} {xs : List Sp} {f t : Int} {Kc : Act → World → Prop}
    (hs : a.eval s = v) (hx : a.eval x = .slice (some ⟨W.heap.size, 0, none⟩) 1 1) (HO : OSp W B v xs) (hB : B ≤ W.heap.size) (hl : xs.length ≤ 1000000)
    (h : ∀ v1 w1, OSp w1 B v1 (xs ++ [⟨f, t⟩]) → Below B W w1 → W.grownBy w1 v.ownBlock → Kc (a.put o.dst v1) w1) :
    if Region.wanted o (yielded ops a.tmps) = true then Oper.wp Try.prog o a (W.alloc (.cells #[.int .i64 f, .int .i64 t] 23)) Kc Q else Kc (a.put o.dst undef) (W.alloc (.cells #[.int .i64 f, .int .i64 t] 23)) :=
  app_one_step KSp 26 23 (.agg #[.int .i64 0, .int .i64 0]) 16 Try.underlying26 infoSp rfl (by decide) (by decide) hgd ho hs hx (fun okp => KSp_M W B okp f t) HO hB (by omega) h
end
theorem reps_one {α : Type} {R : α → List Value → Prop} {size : Nat} {p : α} {cs : List Value} (h : R p cs) (hl : cs.length = size := by rfl) : Reps R size [p] cs := by
  subst hl
  refine ⟨by simp, fun j q hj => ?_⟩
  have hj0 : j = 0 := by
    have := (List.getElem?_eq_some_iff.1 hj).1
    simpa using this
  subst hj0
  have hq : p = q := by simpa using hj
  subst hq
  simpa using h
theorem OSp_lit1 {W : World} {B g : Nat} (f t : Int) (hg : g = W.heap.size) (hB : B ≤ W.heap.size) : OSp (W.alloc (.cells #[.int .i64 f, .int .i64 t] 23)) B (.slice (some ⟨g, 0, none⟩) 1 1) [⟨f, t⟩] := by
  subst hg
  refine ⟨fun _ _ => trivial, [.int .i64 f, .int .i64 t], ?_, ?_⟩
  · exact World.ownsRow_lit (base := B) (e := 23) (size := 2) W #[.int .i64 f, .int .i64 t] 1 hB (by simp [maxLen]) rfl
  · exact reps_one (KSp_M _ _ _ f t)

def twoOf (a m : Sp) : List Sp := [⟨a.f, m.f⟩, ⟨m.t, a.t⟩]
def minusL (a b : Sp) : List Sp := if a.may then (if meetB a b then (twoOf a (meetV a b)).filter Sp.may else [a]) else []

set_option maxHeartbeats 1000000 in
theorem minus_calls (a b c d : Int) (w : World) : Calls Try.prog 12 #[.agg #[.int .i64 a, .int .i64 b], .agg #[.int .i64 c, .int .i64 d]] w fun e w' => ∃ v, e = .returned v ∧ OSp w' w.heap.size v (minusL ⟨a, b⟩ ⟨c, d⟩) ∧ Below w.heap.size w w' := by
  rcases hm1 : Sp.may ⟨a, b⟩ with _ | _
  · have hL : minusL ⟨a, b⟩ ⟨c, d⟩ = [] := by simp [minusL, hm1]
    rw [hL]
    have HM := Aside0.mk hm1
    clear hm1 hL
    go_enter Try.func12, Try.ntmps12
    go_wp2_with ((go_at_call 14); (with_reducible refine (may_calls _ _ _).mono ?_); rw [HM.out]; rintro e w1 ⟨rfl, rfl⟩)
    go_ret
    exact ⟨_, rfl, Kd.R_nil _ _ _ _ _, by repeat (with_reducible first | exact Below.refl _ _ | apply below_alloc)⟩
  · rcases hm2 : meetB ⟨a, b⟩ ⟨c, d⟩ with _ | _
    · have hL : minusL ⟨a, b⟩ ⟨c, d⟩ = [⟨a, b⟩] := by simp [minusL, hm1, hm2]
      rw [hL]
      have HM := Aside0.mk hm1
      have HM2 := Aside0.mk hm2
      clear hm1 hm2 hL
      go_enter Try.func12, Try.ntmps12
      go_wp2_with fail
      (with_reducible refine (may_calls _ _ _).mono ?_)
      rw [HM.out]
      rintro e w1 ⟨rfl, rfl⟩
      go_wp2_with fail
      (with_reducible refine (meet_calls _ _ _ _ _).mono ?_)
      rw [HM2.out]
      rintro e w1 ⟨rfl, hb⟩
      obtain ⟨hc, hf⟩ := bcell hb
      have HB := Aside0.mk (below_step (w := w) (by repeat (with_reducible first | exact Below.refl _ _ | apply below_alloc)) hb)
      have hz1 : w.heap.size + 1 < w1.heap.size := by have := hb.size; simp at this; omega
      have hz0 : w.heap.size < w1.heap.size := by omega
      clear hb
      go_wp2
      go_ret
      exact ⟨_, rfl, OSp_lit1 _ _ (by simp) (Nat.le_trans HB.out.size (by simp)), below_alloc (below_alloc HB.out _) _⟩
    · have hL : minusL ⟨a, b⟩ ⟨c, d⟩ = (twoOf ⟨a, b⟩ (meetV ⟨a, b⟩ ⟨c, d⟩)).filter Sp.may := by simp [minusL, hm1, hm2]
      have hR : meetR ⟨a, b⟩ ⟨c, d⟩ = meetV ⟨a, b⟩ ⟨c, d⟩ := by simp [meetR, hm2]
      rw [hL]
      have HM := Aside0.mk hm1
      have HM2 := Aside0.mk hm2
      have HMR := Aside0.mk hR
      clear hm1 hm2 hL hR
      go_enter Try.func12, Try.ntmps12
      go_wp2_with fail
      (with_reducible refine (may_calls _ _ _).mono ?_)
      rw [HM.out]
      rintro e w1 ⟨rfl, rfl⟩
      go_wp2_with fail
      (with_reducible refine (meet_calls _ _ _ _ _).mono ?_)
      rw [HM2.out, HMR.out]
      obtain ⟨⟨p, q⟩, hmv⟩ : ∃ m, meetV ⟨a, b⟩ ⟨c, d⟩ = m := ⟨_, rfl⟩
      have HMV := Aside0.mk hmv
      rw [hmv]
      clear hmv HMR
      rintro e w1 ⟨rfl, hb⟩
      obtain ⟨hc, hf⟩ := bcell hb
      have HB := Aside0.mk (below_step (w := w) (by repeat (with_reducible first | exact Below.refl _ _ | apply below_alloc)) hb)
      have hz1 : w.heap.size + 1 < w1.heap.size := by have := hb.size; simp at this; omega
      have hz0 : w.heap.size < w1.heap.size := by omega
      clear hb
      have i0 : ∀ w, (Instr.index 47 (.agg #[.int .i64 a, .int .i64 p, .int .i64 q, .int .i64 b]) (.int .i64 0)).run Try.prog w = .ok (.agg #[.int .i64 a, .int .i64 p]) w := fun _ => by kernel_rfl
      have i1 : ∀ w, (Instr.index 47 (.agg #[.int .i64 a, .int .i64 p, .int .i64 q, .int .i64 b]) (.int .i64 1)).run Try.prog w = .ok (.agg #[.int .i64 q, .int .i64 b]) w := fun _ => by kernel_rfl
      go_wp2
      clear hc hf
      go_loopw [7, 34] (fun v7 v34 w' => ∃ k : Nat, k ≤ 2 ∧ v34 = .int .i64 k ∧ Aside0 (OSp w' w.heap.size v7 (((twoOf ⟨a, b⟩ ⟨p, q⟩).take k).filter Sp.may)) ∧ Aside0 (Below w.heap.size w w')) (fun _ v34 _ => 2 - (intOf v34).toNat)
      case atStart => exact ⟨0, Nat.zero_le _, rfl, ⟨Kd.R_nil _ _ _ _ _⟩, ⟨below_alloc HB.out _⟩⟩
      case round =>
        clear HB
        obtain ⟨k, hk, rfl, HO, HB⟩ := hrel
        rcases (show k = 0 ∨ k = 1 ∨ k = 2 by omega) with rfl | rfl | rfl
        · rcases hq : Sp.may ⟨a, p⟩ with _ | _
          · have HQ := Aside0.mk hq
            clear hq
            go_wp2_with ((go_at_call 14); (with_reducible refine (may_calls _ _ _).mono ?_); rw [HQ.out]; rintro e w1 ⟨rfl, rfl⟩)
            go_roundw
            case rel =>
              refine ⟨1, by omega, rfl, ⟨?_⟩, ⟨by repeat (with_reducible first | exact HB.out | apply below_alloc)⟩⟩
              refine Kd.R_alloc (Kd.R_alloc ?_ _) _
              have := HO.out
              simpa [twoOf, HQ.out, List.filter_cons] using this
            case measure => simp [intOf]
          · have HQ := Aside0.mk hq
            clear hq
            go_wp2_with (first
              | ((go_at_call 14); (with_reducible refine (may_calls _ _ _).mono ?_); rw [HQ.out]; rintro e w1 ⟨rfl, rfl⟩)
              | ((with_reducible refine gate_dst (N := 42) rfl ?_); refine app_sp rfl rfl rfl ?_ (Kd.R_alloc (Kd.R_alloc HO.out _) _) ?_ ?_ ?_; go_simp; (have hsz := HB.out.size; simp; omega); (refine Nat.le_trans (List.length_filter_le _ _) ?_; simp [twoOf]); intro v1 w2 HO1 hb1 hg1))
            go_roundw
            case rel =>
              refine ⟨1, by omega, rfl, ⟨?_⟩, ⟨(below_alloc (below_alloc HB.out _) _).trans hb1⟩⟩
              have := HO1
              rcases hx : Sp.may ⟨a, p⟩ <;> simpa [twoOf, HQ.out, hx, List.filter_cons, List.filter_append] using this
            case measure => simp [intOf]
        · rcases hq : Sp.may ⟨q, b⟩ with _ | _
          · have HQ := Aside0.mk hq
            clear hq
            go_wp2_with ((go_at_call 14); (with_reducible refine (may_calls _ _ _).mono ?_); rw [HQ.out]; rintro e w1 ⟨rfl, rfl⟩)
            go_roundw
            case rel =>
              refine ⟨2, by omega, rfl, ⟨?_⟩, ⟨by repeat (with_reducible first | exact HB.out | apply below_alloc)⟩⟩
              refine Kd.R_alloc (Kd.R_alloc ?_ _) _
              have := HO.out
              simpa [twoOf, HQ.out, List.filter_cons] using this
            case measure => simp [intOf]
          · have HQ := Aside0.mk hq
            clear hq
            go_wp2_with (first
              | ((go_at_call 14); (with_reducible refine (may_calls _ _ _).mono ?_); rw [HQ.out]; rintro e w1 ⟨rfl, rfl⟩)
              | ((with_reducible refine gate_dst (N := 42) rfl ?_); refine app_sp rfl rfl rfl ?_ (Kd.R_alloc (Kd.R_alloc HO.out _) _) ?_ ?_ ?_; go_simp; (have hsz := HB.out.size; simp; omega); (refine Nat.le_trans (List.length_filter_le _ _) ?_; simp [twoOf]); intro v1 w2 HO1 hb1 hg1))
            go_roundw
            case rel =>
              refine ⟨2, by omega, rfl, ⟨?_⟩, ⟨(below_alloc (below_alloc HB.out _) _).trans hb1⟩⟩
              have := HO1
              rcases hx : Sp.may ⟨a, p⟩ <;> simpa [twoOf, HQ.out, hx, List.filter_cons, List.filter_append] using this
            case measure => simp [intOf]
        · go_wp2
          go_ret
          refine ⟨_, rfl, ?_, HB.out⟩
          have := HO.out
          rw [HMV.out]
          simpa [twoOf] using this

end Go.Proofs.Ytloachifhaigjaa.A
