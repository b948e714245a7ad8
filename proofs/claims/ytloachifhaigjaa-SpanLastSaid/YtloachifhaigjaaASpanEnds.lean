/- The document's ends of spans. -/
import Derived.Test.YtloachifhaigjaaASpanRef
namespace Go.Proofs.Ytloachifhaigjaa.A
open Go.RowKit Go.Proofs.YtloachifhaigjaaW.PrintWords Go.Proofs.YtloachifhaigjaaW.PrintLast Go.Proofs.YtloachifhaigjaaW.PrintMore
set_option linter.unusedVariables false
set_option linter.unusedSimpArgs false

abbrev OI (w : World) (B : Nat) (v : Value) (l : List Int) : Prop := OR (Kd.int .i64) 3 w B v l
theorem infoI : (Try.prog.info? 3).map (fun i => (i.zero, i.size, i.bytes)) = some (some (.int .i64 0), 1, 8) := by kernel_rfl
section
variable {ops : Array Oper} {rest : List Oper} {o : Oper} {a : Act} {Q : Exit → Act → World → Prop} {W : World} {B : Nat}
theorem app_i {s x : Operand} (hgd : o.guard = none) (ho : o.op = .call { callee := .builtin .append, args := #[s, x], argTypes := #[48, 48] }) {v : Value} {xs : List Int} {p : Int}
    (hs : a.eval s = v) (hx : a.eval x = .slice (some ⟨W.heap.size, 0, none⟩) 1 1) (HO : OI W B v xs) (hB : B ≤ W.heap.size) (hl : xs.length ≤ 1000000)
    (h : ∀ v1 w1, OI w1 B v1 (xs ++ [p]) → Below B W w1 → W.grownBy w1 v.ownBlock → wpList Try.prog ops Q rest (a.put o.dst v1) w1) : wpList Try.prog ops Q (o :: rest) a (W.alloc (.cells #[.int .i64 p] 3)) :=
  app_one (Kd.int .i64) 48 3 (.int .i64 0) 8 Try.underlying48 infoI rfl (by decide) (by decide) hgd ho hs hx (fun okp => rfl) HO hB (by omega) h
end
theorem C_atSp {A : Option Addr} {l : List Sp} {w : World} (h : KSp.C w A l.length l) (i : Nat) (hi : i < l.length) :
    ∃ ad, A = some ad ∧ w.cell? (ad.add (i * 2)) = some (.int .i64 (l.getD i ⟨0, 0⟩).f) ∧ w.cell? (ad.add (i * 2 + 1)) = some (.int .i64 (l.getD i ⟨0, 0⟩).t) := by
  obtain ⟨ad, e, hc⟩ := h.2.2 (by omega)
  obtain ⟨c, h1, ⟨c1, c2, h2, h3, h4⟩, h5⟩ := hc i _ (List.getElem?_eq_getElem hi)
  have h3' : c1 = [.int .i64 l[i].f] := h3
  have h4' : c2 = [.int .i64 l[i].t] := h4
  subst h2 h3' h4'
  have e2 : l.getD i ⟨0, 0⟩ = l[i] := by simp [List.getD_eq_getElem?_getD, hi]
  rw [e2]
  exact ⟨ad, e, h5 0 _ rfl, h5 1 _ rfl⟩

/-- A number where it belongs, if it is not there. -/
def putL : List Int → Int → List Int
  | [], n => [n]
  | x :: l, n => if n ≤ x then (if n < x then n :: x :: l else x :: l) else x :: putL l n
theorem putL_len (l : List Int) (n : Int) : (putL l n).length ≤ l.length + 1 := by
  induction l with
  | nil => simp [putL]
  | cons x l ih =>
    rw [putL]
    split
    · split <;> simp
    · simpa using ih
theorem drop_at {α : Type} (l : List α) (k : Nat) (d : α) (h : k < l.length) : l.drop k = l.getD k d :: l.drop (k + 1) := by
  rw [List.drop_eq_getElem_cons h]
  simp [List.getD_eq_getElem?_getD, h]

set_option maxRecDepth 100000 in
set_option maxHeartbeats 1000000 in
theorem rput_calls (A : Option Addr) (n c : Nat) (l : List Int) (x : Int) (w : World) (hr : (Kd.int .i64).C w A n l) (hc : n ≤ c) (hl : n ≤ 100000) :
    Calls Try.prog 36 #[.slice A n c, .int .i64 x] w fun e w' => ∃ v, e = .returned v ∧ OI w' w.heap.size v (putL l x) ∧ Below w.heap.size w w' := by
  have hn := hr.1
  subst hn
  have HR := Aside0.mk hr
  clear hr
  go_enter Try.func36, Try.ntmps36
  go_wp2
  go_loopw [5, 6, 7] (fun v5 v6 v7 w' => ∃ (k : Nat) (done : Bool) (out : List Int), k ≤ l.length ∧ out.length ≤ k + done.toNat ∧ v7 = .int .i64 k ∧ v6 = .bool done ∧ Aside0 (out ++ (if done then l.drop k else putL (l.drop k) x) = putL l x) ∧ Aside0 (OI w' w.heap.size v5 out) ∧ Aside0 (Below w.heap.size w w')) (fun _ _ v7 _ => l.length - (intOf v7).toNat)
  case atStart => exact ⟨0, false, [], Nat.zero_le _, by simp, rfl, rfl, ⟨by simp⟩, ⟨Kd.R_nil _ _ _ _ _⟩, ⟨Below.refl _ _⟩⟩
  case round =>
    obtain ⟨k, done, out, hk, hout, rfl, rfl, HE, HO, HB⟩ := hrel
    by_cases hlt : k < l.length
    · obtain ⟨ad, rfl, hcell0⟩ := C_at HR.out k hlt
      have hcell := pw_cell_below HB.out hcell0
      have hd := drop_at l k 0 hlt
      generalize hy : l.getD k 0 = y at *
      have HD := Aside0.mk hd
      have HC0 := Aside0.mk hcell0
      clear hd hy hcell0
      have hdn : done.toNat ≤ 1 := by cases done <;> simp
      cases done with
      | true =>
        go_wp2_with ((with_reducible refine gate_dst (N := 40) rfl ?_); refine app_i rfl rfl rfl ?_ HO.out HB.out.size ?_ ?_; go_simp; (simp at hout; omega); intro v2 w2 HO2 hb2 _)
        go_roundw
        case rel =>
          refine ⟨k + 1, true, _, hlt, by simp at hout ⊢; omega, rfl, rfl, ⟨?_⟩, ⟨HO2⟩, ⟨HB.out.trans hb2⟩⟩
          have := HE.out
          rw [HD.out] at this
          simpa using this
        case measure => simp [intOf]; omega
      | false =>
        by_cases h1 : x ≤ y
        · by_cases h2 : x < y
          · have hsz := HB.out.size
            go_wp2_with (first
              | ((with_reducible refine gate_dst (N := 33) rfl ?_); refine app_i rfl rfl rfl ?_ HO.out HB.out.size ?_ ?_; go_simp; (simp at hout; omega); intro v2 w2 HO2 hb2 _; have HO3 := Aside0.mk HO2; have HB3 := Aside0.mk (HB.out.trans hb2); have hcell2 := pw_cell_below HB3.out HC0.out; clear hcell HO HB HO2 hb2)
              | ((with_reducible refine gate_dst (N := 40) rfl ?_); refine app_i rfl rfl rfl ?_ HO3.out HB3.out.size ?_ ?_; go_simp; (simp at hout ⊢; omega); intro v4 w4 HO4 hb4 _))
            go_roundw
            case rel =>
              refine ⟨k + 1, true, _, hlt, by simp at hout ⊢; omega, rfl, rfl, ⟨?_⟩, ⟨HO4⟩, ⟨HB3.out.trans hb4⟩⟩
              have := HE.out
              rw [HD.out] at this
              simpa [putL, h1, h2] using this
            case measure => simp [intOf]; omega
          · have hsz := HB.out.size
            have hd2 : decide (x < y) = false := decide_eq_false h2
            go_wp2_with ((with_reducible refine gate_dst (N := 40) rfl ?_); refine app_i rfl rfl rfl ?_ HO.out HB.out.size ?_ ?_; go_simp; (simp at hout; omega); intro v2 w2 HO2 hb2 _)
            go_roundw
            case rel =>
              refine ⟨k + 1, true, _, hlt, by simp at hout ⊢; omega, rfl, rfl, ⟨?_⟩, ⟨HO2⟩, ⟨HB.out.trans hb2⟩⟩
              have := HE.out
              rw [HD.out] at this
              simpa [putL, h1, h2] using this
            case measure => simp [intOf]; omega
        · have hd1 : decide (x ≤ y) = false := decide_eq_false h1
          go_wp2_with ((with_reducible refine gate_dst (N := 40) rfl ?_); refine app_i rfl rfl rfl ?_ HO.out HB.out.size ?_ ?_; go_simp; (simp at hout; omega); intro v2 w2 HO2 hb2 _)
          go_roundw
          case rel =>
            refine ⟨k + 1, false, _, hlt, by simp at hout ⊢; omega, rfl, rfl, ⟨?_⟩, ⟨HO2⟩, ⟨HB.out.trans hb2⟩⟩
            have := HE.out
            rw [HD.out] at this
            simpa [putL, h1] using this
          case measure => simp [intOf]; omega
    · obtain rfl : k = l.length := by omega
      cases done with
      | true =>
        go_wp2
        go_ret
        refine ⟨_, rfl, ?_, HB.out⟩
        have h1 := HE.out
        have h2 := HO.out
        simp at h1
        rwa [h1] at h2
      | false =>
        go_wp2_with ((with_reducible refine gate_dst (N := 46) rfl ?_); refine app_i rfl rfl rfl ?_ HO.out HB.out.size ?_ ?_; go_simp; (simp at hout; omega); intro v2 w2 HO2 hb2 _)
        go_ret
        refine ⟨_, rfl, ?_, HB.out.trans hb2⟩
        have h1 := HE.out
        simp [putL] at h1
        rwa [h1] at HO2

end Go.Proofs.Ytloachifhaigjaa.A
