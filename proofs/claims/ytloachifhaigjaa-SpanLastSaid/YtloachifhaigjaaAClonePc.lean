/- Pieces cloned; pieces without a span, whatever the span. -/
import Derived.Test.YtloachifhaigjaaAWithout
import Derived.Lib.SliceRun
namespace Go.Proofs.Ytloachifhaigjaa.A
open Go.RowKit Go.Proofs.YtloachifhaigjaaW.PrintWords Go.Proofs.YtloachifhaigjaaW.PrintLast Go.Proofs.YtloachifhaigjaaW.PrintMore
set_option linter.unusedVariables false
set_option linter.unusedSimpArgs false

section
variable {ops : Array Oper} {rest : List Oper} {o : Oper} {a : Act} {Q : Exit → Act → World → Prop} {W : World} {B : Nat}
/-- append(v, ys...), pieces behind a row of one's own. -/
theorem app_pcs {s x : Operand} (hgd : o.guard = none) (ho : o.op = .call { callee := .builtin .append, args := #[s, x], argTypes := #[33, 33] }) {v : Value} {xs ys : List Pc} {A : Option Addr} {m c : Nat}
    (hs : a.eval s = v) (hx : a.eval x = .slice A m c) (HO : OPc W B v xs) (HR : KPc.C W A m ys) (hB : B ≤ W.heap.size) (hl : xs.length + m ≤ 1000000)
    (h : ∀ v1 w1, OPc w1 B v1 (xs ++ ys) → Below B W w1 → W.grownBy w1 v.ownBlock → wpList Try.prog ops Q rest (a.put o.dst v1) w1) : wpList Try.prog ops Q (o :: rest) a W := by
  refine Kd.R_append_rows KPc (Rr := KPc.K W) (w0 := W) B hgd s x 33 42 (.agg #[.int .i64 0, .int .i64 0, .string ByteArray.empty]) 32 ho Try.underlying33 infoPc rfl (by decide) (by decide) v xs ys A m c (fun _ => True) (fun _ => False) hs hx HO HR ?_ (fun _ h => h.elim) (fun _ _ => trivial) (Below.refl B W) hB (by omega) (fun v1 w1 h1 h2 h3 _ => h v1 w1 h1 h2 h3)
  rintro p cs ⟨c1, c2, rfl, h1, ⟨c3, c4, rfl, h3, h4⟩⟩
  exact ⟨c1, _, rfl, h1, ⟨c3, c4, rfl, h3, h4⟩⟩
end
theorem OPc_lit0 {W : World} {B : Nat} (hB : B ≤ W.heap.size) : OPc (W.alloc (.cells #[] 42)) B (.slice (some ⟨W.heap.size, 0, none⟩) 0 0) [] := by
  refine ⟨fun _ _ => trivial, [], ?_, ?_⟩
  · exact World.ownsRow_lit (base := B) (e := 42) (size := 3) W #[] 0 hB (by simp [maxLen]) rfl
  · exact ⟨rfl, fun j p hj => by simp at hj⟩
set_option maxHeartbeats 800000 in
theorem clonePc_calls (A : Option Addr) (n c : Nat) (l : List Pc) (w : World) (hr : KPc.C w A n l) (hc : n ≤ c) (hl : n ≤ 5000) :
    Calls Try.prog 32 #[.slice A n c] w fun e w' => ∃ v, e = .returned v ∧ OPc w' w.heap.size v l ∧ Below w.heap.size w w' := by
  have hn := hr.1
  subst hn
  have HR := Aside0.mk hr
  clear hr
  have hq := fun (w : World) (a : Option Addr) (n c : Nat) => Lib.run_eql_slice_nil (P := Try.prog) w 33 42 a n c 0 0 Try.underlying33
  cases A with
  | none =>
    have h0 : l = [] := by
      rcases l with _ | ⟨x, l⟩
      · rfl
      · obtain ⟨ad, h, _⟩ := HR.out.2.2 (by simp)
        cases h
    subst h0
    go_enter Try.func32, Try.ntmps32
    go_wp2
    go_ret
    exact ⟨_, rfl, OPc_nil _ _, Below.refl _ _⟩
  | some ad =>
    go_enter Try.func32, Try.ntmps32
    go_wp2_with ((with_reducible refine gate_dst (N := 7) rfl ?_); refine app_pcs rfl rfl rfl rfl (OPc_lit0 (Nat.le_refl _)) (Kd.C_alloc HR.out _) (by simp) (by simp; omega) ?_; intro v1 w1 HO1 hb1 _)
    go_ret
    exact ⟨_, rfl, by simpa using HO1, ((Below.refl _ _).alloc (Nat.le_refl _) _).trans hb1⟩
set_option maxRecDepth 100000 in
theorem without0_calls (A : Option Addr) (n c : Nat) (l : List Pc) (a b : Int) (w : World) (hr : KPc.C w A n l) (hc : n ≤ c) (hn : n ≤ 5000) (hm : Sp.may ⟨a, b⟩ = false) :
    Calls Try.prog 25 #[.slice A n c, .agg #[.int .i64 a, .int .i64 b]] w fun e w' => ∃ v, e = .returned v ∧ OPc w' w.heap.size v l ∧ Below w.heap.size w w' := by
  have HR := Aside0.mk hr
  have HM := Aside0.mk hm
  clear hr hm
  go_enter Try.func25, Try.ntmps25
  go_wp2_with fail
  (with_reducible refine (may_calls _ _ _).mono ?_)
  rw [HM.out]
  rintro e w1 ⟨rfl, rfl⟩
  go_wp2_with fail
  have HB := Aside0.mk (below_alloc (below_alloc (Below.refl _ w) (spBox a b)) (spBox a b))
  (with_reducible refine (clonePc_calls _ _ _ l _ (Kd.C_below HR.out HB.out) hc hn).mono ?_)
  rintro e w2 ⟨v2, rfl, HO2, hb2⟩
  have HO := Aside0.mk (Kd.R_lower HO2 HB.out.size)
  have HB2 := Aside0.mk (below_step HB.out hb2)
  clear HO2 hb2
  go_wp2_with fail
  go_ret
  exact ⟨_, rfl, HO.out, HB2.out⟩
theorem withoutL_calls (A : Option Addr) (n c : Nat) (l : List Pc) (a b : Int) (w : World) (hr : KPc.C w A n l) (hc : n ≤ c) (hn : n ≤ 5000) :
    Calls Try.prog 25 #[.slice A n c, .agg #[.int .i64 a, .int .i64 b]] w fun e w' => ∃ v, e = .returned v ∧ OPc w' w.heap.size v (withoutL l ⟨a, b⟩) ∧ Below w.heap.size w w' := by
  cases hm : Sp.may ⟨a, b⟩ with
  | true => rw [without_may hm]; exact without_calls A n c l a b w hr hc hn hm
  | false =>
    have e : withoutL l ⟨a, b⟩ = l := if_neg (by simp [hm])
    rw [e]
    exact without0_calls A n c l a b w hr hc hn hm
end Go.Proofs.Ytloachifhaigjaa.A
