/- Versions cloned. -/
import Derived.Test.YtheoodbkjgfdfaaRTwo
import Derived.Lib.SliceRun
namespace Go.Proofs.Ytheoodbkjgfdfaa.A
open R
open Go.RowKit Go.Proofs.YtheoodbkjgfdfaaW.PrintWords Go.Proofs.YtheoodbkjgfdfaaW.PrintLast Go.Proofs.YtheoodbkjgfdfaaW.PrintMore
set_option linter.unusedVariables false
set_option linter.unusedSimpArgs false

section
variable {ops : Array Oper} {rest : List Oper} {o : Oper} {a : Act} {Q : Exit → Act → World → Prop} {W : World} {B : Nat}
/-- append(v, ys...), pieces behind a row of one's own. -/
theorem app_vrs {s x : Operand} (hgd : o.guard = none) (ho : o.op = .call { callee := .builtin .append, args := #[s, x], argTypes := #[24, 24] }) {v : Value} {xs ys : List Vr} {A : Option Addr} {m c : Nat}
    (hs : a.eval s = v) (hx : a.eval x = .slice A m c) (HO : OVr W B v xs) (HR : KVr.C W A m ys) (hB : B ≤ W.heap.size) (hl : xs.length + m ≤ 1000000)
    (h : ∀ v1 w1, OVr w1 B v1 (xs ++ ys) → Below B W w1 → W.grownBy w1 v.ownBlock → wpList Try.prog ops Q rest (a.put o.dst v1) w1) : wpList Try.prog ops Q (o :: rest) a W := by
  refine Kd.R_append_rows KVr (Rr := KVr.K W) (w0 := W) B hgd s x 24 35 (.agg #[.string ByteArray.empty, .int .i64 0, .int .i64 0, .int .i64 0, .int .i64 0, .int .i64 0, .string ByteArray.empty, .bool false]) 80 ho Try.underlying24 infoVr rfl (by decide) (by decide) v xs ys A m c (fun _ => True) (fun _ => False) hs hx HO HR ?_ (fun _ h => h.elim) (fun _ _ => trivial) (Below.refl B W) hB (by omega) (fun v1 w1 h1 h2 h3 _ => h v1 w1 h1 h2 h3)
  intro p cs hK
  rw [KVr_of hK]
  exact KVr_M _ _ _ p
end
theorem OVr_lit0 {W : World} {B : Nat} (hB : B ≤ W.heap.size) : OVr (W.alloc (.cells #[] 35)) B (.slice (some ⟨W.heap.size, 0, none⟩) 0 0) [] := by
  refine ⟨fun _ _ => trivial, [], ?_, ?_⟩
  · exact World.ownsRow_lit (base := B) (e := 35) (size := 8) W #[] 0 hB (by simp [maxLen]) rfl
  · exact ⟨rfl, fun j p hj => by simp at hj⟩
set_option maxHeartbeats 800000 in
theorem cloneVr_calls (A : Option Addr) (n c : Nat) (l : List Vr) (w : World) (hr : KVr.C w A n l) (hc : n ≤ c) (hl : n ≤ 5000) :
    Calls Try.prog 32 #[.slice A n c] w fun e w' => ∃ v, e = .returned v ∧ OVr w' w.heap.size v l ∧ Below w.heap.size w w' := by
  have hn := hr.1
  subst hn
  have HR := Aside0.mk hr
  clear hr
  have hq := fun (w : World) (a : Option Addr) (n c : Nat) => Lib.run_eql_slice_nil (P := Try.prog) w 24 35 a n c 0 0 Try.underlying24
  cases A with
  | none =>
    have h0 : l = [] := by
      rcases l with _ | ⟨x, l⟩
      · rfl
      · obtain ⟨ad, h, _⟩ := HR.out.2.2 (by simp)
        cases h
    subst h0
    go_enter Try.func32, Try.ntmps32
    go_wp2
    go_ret
    exact ⟨_, rfl, OVr_nil _ _, Below.refl _ _⟩
  | some ad =>
    go_enter Try.func32, Try.ntmps32
    go_wp2_with ((with_reducible refine gate_dst (N := 7) rfl ?_); refine app_vrs rfl rfl rfl rfl (OVr_lit0 (Nat.le_refl _)) (Kd.C_alloc HR.out _) (by simp) (by simp; omega) ?_; intro v1 w1 HO1 hb1 _)
    go_ret
    exact ⟨_, rfl, by simpa using HO1, ((Below.refl _ _).alloc (Nat.le_refl _) _).trans hb1⟩
end Go.Proofs.Ytheoodbkjgfdfaa.A
