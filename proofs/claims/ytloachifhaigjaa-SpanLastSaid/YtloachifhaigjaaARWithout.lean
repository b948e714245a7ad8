/- Pieces without a span: the document's. -/
import Derived.Test.YtloachifhaigjaaAClonePc
import Derived.StillTailTactics
import Derived.BigQuiet
import Derived.Deep.RegionLaw
namespace Go.Proofs.Ytloachifhaigjaa.A
open Go.RowKit Go.Proofs.YtloachifhaigjaaW.PrintWords Go.Proofs.YtloachifhaigjaaW.PrintLast Go.Proofs.YtloachifhaigjaaW.PrintMore
set_option linter.unusedVariables false
set_option linter.unusedSimpArgs false

section
variable {ops : Array Oper} {rest : List Oper} {o : Oper} {a : Act} {Q : Exit → Act → World → Prop} {W : World} {B : Nat}
/-- The same as app_pc_step, where the draw stands behind the literal. -/
theorem app_pc_stepd {s x : Operand} (hgd : o.guard = none) (ho : o.op = .call { callee := .builtin .append, args := #[s, x], argTypes := #[33, 33] }) {v : Value} {xs : List Pc} {f t : Int} {ps : ByteArray} {Kc : Act → World → Prop}
    (hs : a.eval s = v) (hx : a.eval x = .slice (some ⟨W.heap.size, 0, none⟩) 1 1) (HO : OPc W.drew B v xs) (hB : B ≤ W.heap.size) (hl : xs.length ≤ 1000000)
    (h : ∀ v1 w1, OPc w1 B v1 (xs ++ [⟨f, t, ps⟩]) → Below B W.drew w1 → W.drew.grownBy w1 v.ownBlock → Kc (a.put o.dst v1) w1) :
    if Region.wanted o (yielded ops a.tmps) = true then Oper.wp Try.prog o a (W.alloc (.cells #[.int .i64 f, .int .i64 t, .string ps] 42)).drew Kc Q else Kc (a.put o.dst undef) (W.alloc (.cells #[.int .i64 f, .int .i64 t, .string ps] 42)).drew :=
  app_pc_step (W := W.drew) hgd ho hs hx HO hB hl h
end
/-- The state in a piece's round. -/
def WR (w : World) (a b : Int) (v : Value) (acc : List Pc) (Am : Option Addr) (m cm : Nat) (M : List Sp) (W : World) : Prop :=
  WI w a b v acc W ∧ OSp W w.heap.size (.slice Am m cm) M
theorem WR_below {w W W1 : World} {a b : Int} {v : Value} {acc : List Pc} {Am : Option Addr} {m cm : Nat} {M : List Sp} (h : WR w a b v acc Am m cm M W) (hb : Below W.heap.size W W1) : WR w a b v acc Am m cm M W1 :=
  ⟨WI_below h.1 hb, Kd.R_below h.2 hb⟩
theorem WR_app {w W W1 : World} {a b : Int} {v v1 : Value} {acc acc1 : List Pc} {Am : Option Addr} {m cm : Nat} {M : List Sp} (h : WR w a b v acc Am m cm M W)
    (h1 : OPc W1 w.heap.size v1 acc1) (hb : Below w.heap.size W W1) (hg : W.grownBy W1 v.ownBlock) : WR w a b v1 acc1 Am m cm M W1 := by
  obtain ⟨⟨i1, i2, i3⟩, i6⟩ := h
  exact ⟨⟨h1, blk_grown i2 hg (Kd.R_ne i1 i2 (by decide)), i3.trans hb⟩, Kd.R_over i6 i1 (by intro q hq; simp [KSp, Kd.iso, Kd.pair, Kd.int, Kd.scalar] at hq; subst hq; decide) hg⟩
set_option maxRecDepth 100000 in
set_option maxHeartbeats 2000000 in
theorem rwithout_calls (A : Option Addr) (n c : Nat) (l : List Pc) (a b : Int) (w : World) (hr : KPc.C w A n l) (hc : n ≤ c) (hn : n ≤ 1000) (hm : Sp.may ⟨a, b⟩ = true) :
    Calls Try.prog 29 #[.slice A n c, .agg #[.int .i64 a, .int .i64 b]] w fun e w' => ∃ v, e = .returned v ∧ OPc w' w.heap.size v (l.flatMap (wo ⟨a, b⟩)) ∧ Below w.heap.size w w' := by
  have HR := Aside0.mk hr
  have HN := Aside0.mk hr.1
  have HM := Aside0.mk hm
  clear hr hm
  go_enter Try.func29, Try.ntmps29
  go_wp2_with fail
  (with_reducible refine (rmay_calls _ _ _).mono ?_)
  rw [HM.out]
  rintro e w1 ⟨rfl, rfl⟩
  have HI0 : Aside0 (WI w a b (.slice none 0 0) [] ((w.alloc (spBox a b)).alloc (spBox a b))) := ⟨OPc_nil _ _, box_keep (heap_alloc_new w _) (below_alloc (Below.refl _ _) _), below_alloc (below_alloc (Below.refl _ _) _) _⟩
  go_wp2_with fail
  go_loopw [5, 7] (fun v5 v7 w' => ∃ k : Nat, k ≤ n ∧ v7 = .int .i64 k ∧ Aside0 (WI w a b v5 ((l.take k).flatMap (wo ⟨a, b⟩)) w')) (fun _ v7 _ => n - (intOf v7).toNat)
  case atStart => exact ⟨0, Nat.zero_le _, rfl, HI0⟩
  case round =>
    clear HI0
    obtain ⟨k, hk, rfl, HI⟩ := hrel
    by_cases hlt : k < n
    · obtain ⟨ad, rfl, q0, q1, q2⟩ := C_atPc HR.out k hlt
      have p0 := pw_cell_below HI.out.2.2 q0
      have p1 := pw_cell_below HI.out.2.2 q1
      obtain ⟨s0, s1⟩ := sp_cells HI.out.2.1
      have hws : w.heap.size < wr.heap.size := (Array.getElem?_eq_some_iff.1 HI.out.2.1).1
      have hfl := flat_take (wo ⟨a, b⟩) l default k (by rw [HN.out]; exact hlt)
      have hlen := wo_len ⟨a, b⟩ (l.take k)
      rw [List.length_take] at hlen
      have Q2 := Aside0.mk q2
      clear q0 q1 q2
      generalize l.getD k default = p at *
      generalize (l.take k).flatMap (wo ⟨a, b⟩) = acc at *
      obtain ⟨f, t, v⟩ := p
      have HFL := Aside0.mk hfl
      simp only at p0 p1
      have i1 : (k : Int) < (n : Int) := by omega
      have i2 : (0 : Int) ≤ (k : Int) := by omega
      have hlen2 : acc.length ≤ 2000 := by omega
      clear hfl hlen
      go_wp2_with fail
      go_still_tail 6, (by kernel_rfl)
      go_wp2_with fail
      (with_reducible refine (rminus_calls f t a b _).mono ?_)
      rintro e w1 ⟨v1, rfl, HO1, hb1⟩
      rw [rminus_eq] at HO1
      have hbr := below_step (w := wr) (by repeat (with_reducible first | exact Below.refl _ _ | apply pw_below_drewN | apply below_drew1)) hb1
      have hsz0 := Below.size (show Below wr.heap.size wr _ by repeat (with_reducible first | exact Below.refl _ _ | apply pw_below_drewN | apply below_drew1))
      obtain ⟨m, hm⟩ : ∃ m, (minusL ⟨f, t⟩ ⟨a, b⟩).length = m := ⟨_, rfl⟩
      have hm2 : m ≤ 2 := by rw [← hm]; exact minus_len _ _
      have HWO : Aside0 (wo ⟨a, b⟩ ⟨f, t, v⟩ = (minusL ⟨f, t⟩ ⟨a, b⟩).map fun r => ⟨r.f, r.t, v⟩) := ⟨rfl⟩
      generalize minusL ⟨f, t⟩ ⟨a, b⟩ = M at *
      obtain ⟨Am, cm, rfl, hcm⟩ : ∃ Am cm, v1 = .slice Am m cm ∧ m ≤ cm := by
        obtain ⟨Am, cm, e, hcm, _⟩ := Kd.R_reads HO1
        rw [hm] at e hcm
        exact ⟨Am, cm, e, hcm⟩
      have HJ0 : Aside0 (WR w a b u5 acc Am m cm M w1) := ⟨WI_below HI.out hbr, Kd.R_lower HO1 (Nat.le_trans HI.out.2.2.size hsz0)⟩
      have HMM := Aside0.mk hm
      clear HO1 hb1 hbr HI p0 p1 s0 s1 hm hws hsz0
      go_wp2_with fail
      go_loopw [5, 9] (fun v5 v9 w' => ∃ j : Nat, j ≤ m ∧ v9 = .int .i64 j ∧ Aside0 (WR w a b v5 (acc ++ (M.take j).map fun r => ⟨r.f, r.t, v⟩) Am m cm M w')) (fun _ v9 _ => m - (intOf v9).toNat)
      case atStart => exact ⟨0, Nat.zero_le _, rfl, ⟨by simpa using HJ0.out⟩⟩
      case round =>
        clear HJ0
        obtain ⟨j, hj, rfl, HJ⟩ := hrel
        by_cases hjl : j < m
        · have hcm1 := (Kd.R_reads' HJ.out.2).2.2
          rw [HMM.out] at hcm1
          obtain ⟨am, rfl, m0, m1⟩ := C_atSpn hcm1 j hjl
          have p2 := pw_cell_below HJ.out.1.2.2 Q2.out
          have htm := take_map (fun r : Sp => (⟨r.f, r.t, v⟩ : Pc)) M ⟨0, 0⟩ j (by rw [HMM.out]; exact hjl)
          have htl : (acc ++ (M.take j).map fun r : Sp => (⟨r.f, r.t, v⟩ : Pc)).length ≤ 10000 := by rw [List.length_append, List.length_map, List.length_take]; omega
          generalize M.getD j ⟨0, 0⟩ = r at *
          obtain ⟨rf, rt⟩ := r
          have HTM := Aside0.mk htm
          have HTL := Aside0.mk htl
          simp only at m0 m1 p2
          have i3 : (j : Int) < (m : Int) := by omega
          have i4 : (0 : Int) ≤ (j : Int) := by omega
          have HJ2 := Aside0.mk (WR_below HJ.out (below_drew1 (Below.refl _ _)))
          clear htm htl hcm1 HJ
          go_wp2_with fail
          go_region_law (refine app_pc_stepd rfl rfl rfl rfl HJ2.out.1.1 ?_ ?_ ?_; (exact HJ2.out.1.2.2.size); (exact Nat.le_trans HTL.out (by decide)); intro v2 w2 HO2 hb2 hg2)
          all_goals
            go_wp2
            go_roundw
            case rel => exact ⟨j + 1, hjl, rfl, ⟨by rw [HTM.out, ← List.append_assoc]; exact WR_app HJ2.out HO2 hb2 hg2⟩⟩
            case measure => simp [intOf]; omega
        · obtain rfl : j = m := by omega
          have hJ := HJ.out
          rw [List.take_of_length_le (by rw [HMM.out]; omega), ← HWO.out, ← HFL.out] at hJ
          have HI := Aside0.mk hJ.1
          clear hJ HJ
          go_wp2_with fail
          go_roundw
          case rel => exact ⟨k + 1, hlt, rfl, HI⟩
          case measure => simp [intOf]; omega
    · obtain rfl : k = n := by omega
      have hI := HI.out
      rw [List.take_of_length_le (by rw [HN.out]; omega)] at hI
      have HI2 := Aside0.mk hI
      clear hI HI
      go_wp2_with fail
      go_ret
      exact ⟨_, rfl, HI2.out.1, HI2.out.2.2⟩
end Go.Proofs.Ytloachifhaigjaa.A
