/- The least pieces: the document's. Lists compared. -/
import Derived.Test.YtloachifhaigjaaALeast
namespace Go.Proofs.Ytloachifhaigjaa.A
open Go.RowKit Go.Proofs.YtloachifhaigjaaW.PrintWords Go.Proofs.YtloachifhaigjaaW.PrintLast Go.Proofs.YtloachifhaigjaaW.PrintMore
set_option linter.unusedVariables false
set_option linter.unusedSimpArgs false

set_option maxRecDepth 100000 in
set_option maxHeartbeats 4000000 in
theorem rleast_calls (A : Option Addr) (n c : Nat) (l : List Pc) (w : World) (hr : KPc.C w A n l) (hc : n ≤ c) (hn : n ≤ 1000) :
    Calls Try.prog 22 #[.slice A n c] w fun e w' => ∃ v, e = .returned v ∧ OPc w' w.heap.size v (leastL l) ∧ Below w.heap.size w w' := by
  have HR := Aside0.mk hr
  have HN := Aside0.mk hr.1
  clear hr
  go_enter Try.func22, Try.ntmps22
  go_wp2_with fail
  go_loopw [3, 4] (fun v3 v4 w' => ∃ k : Nat, k ≤ n ∧ v4 = .int .i64 k ∧ Aside0 (OPc w' w.heap.size v3 (leastK l k)) ∧ Aside0 (Below w.heap.size w w')) (fun _ v4 _ => n - (intOf v4).toNat)
  case atStart => exact ⟨0, Nat.zero_le _, rfl, ⟨OPc_nil _ _⟩, ⟨Below.refl _ _⟩⟩
  case round =>
    obtain ⟨k, hk, rfl, HO, HB⟩ := hrel
    by_cases hlt : k < n
    · obtain ⟨ad, rfl, q0, q1, q2⟩ := C_atPc HR.out k hlt
      have p0 := pw_cell_below HB.out q0
      have p1 := pw_cell_below HB.out q1
      have p2 := pw_cell_below HB.out q2
      have hms := leastK_succ l k (by rw [HN.out]; exact hlt)
      have hlen := leastK_len l k
      have Q0 := Aside0.mk q0
      have Q1 := Aside0.mk q1
      have Q2 := Aside0.mk q2
      clear q0 q1 q2
      generalize l.getD k default = q at *
      generalize leastK l k = out at *
      obtain ⟨qf, qt, qv⟩ := q
      have HMS := Aside0.mk hms
      simp only at p0 p1 p2
      have i1 : (k : Int) < (n : Int) := by omega
      have i2 : (0 : Int) ≤ (k : Int) := by omega
      clear hms
      by_cases hm : out.length = 0
      · obtain rfl : out = [] := List.eq_nil_of_length_eq_zero hm
        obtain ⟨A5, c5, rfl⟩ := Kd.R_slice HO.out
        have hl1 : ([] : List Pc).length ≤ 1000000 := Nat.zero_le _
        go_wp2_with fail
        go_quiet (fail)
        have hbr : Below wr.heap.size wr (wr.drewN nq) := by repeat (with_reducible first | exact Below.refl _ _ | apply pw_below_drewN)
        have HOn := Aside0.mk (Kd.R_below HO.out hbr)
        have HBn := Aside0.mk (below_step HB.out hbr)
        clear hbr HO HB p0 p1 p2
        generalize wr.drewN nq = w7 at *
        have p0 := pw_cell_below HBn.out Q0.out
        have p1 := pw_cell_below HBn.out Q1.out
        have p2 := pw_cell_below HBn.out Q2.out
        go_wp2_with ((with_reducible refine gate_dst (N := 64) rfl ?_); refine app_pc rfl rfl rfl rfl HOn.out HBn.out.size hl1 ?_; intro v4 w4 HO4 hb4 _)
        go_roundw
        case rel => exact ⟨k + 1, hlt, rfl, ⟨by rw [HMS.out]; unfold lstep; rw [if_neg ?_]; exact HO4; exact fun h => absurd h.1 (Nat.lt_irrefl 0)⟩, ⟨HBn.out.trans hb4⟩⟩
        case measure => simp [intOf]; omega
      · obtain ⟨m, hm'⟩ : ∃ m, out.length = m + 1 := ⟨out.length - 1, by omega⟩
        obtain ⟨g, cap, rfl, hg, hgl, _⟩ := Kd.R_form HO.out (by omega)
        obtain ⟨k0, k1, k2⟩ := OPc_cell HO.out m (by omega)
        have HM' := Aside0.mk hm'
        rw [hm'] at HO ⊢
        obtain ⟨⟨sf, st, sv⟩, hst⟩ : ∃ s, out.getD m default = s := ⟨_, rfl⟩
        rw [hst] at k0 k1 k2
        simp only at k0 k1 k2
        have HST := Aside0.mk hst
        have hm4 : m ≤ 1000 := by omega
        have hl1 : out.length ≤ 1000000 := by omega
        have HL1 := Aside0.mk hl1
        clear hst hm' hm hl1
        have j1 : (m : Int) < (m : Int) + 1 := by omega
        have j2 : (0 : Int) ≤ (m : Int) := by omega
        have j3 : (m : Int) + 1 - 1 = (m : Int) := by omega
        have j4 : m < m + 1 := by omega
        have j5 : (m : Int) ≤ 1000 := by omega
        by_cases hx : st = qf
        · by_cases hy : sv = qv
          · subst hx hy
            go_wp2_with fail
            go_quiet (fail)
            have hbr : Below wr.heap.size wr (wr.drewN nq) := by repeat (with_reducible first | exact Below.refl _ _ | apply pw_below_drewN)
            have HOn := Aside0.mk (Kd.R_below HO.out hbr)
            have HBn := Aside0.mk (below_step HB.out hbr)
            have k0n := pw_cell_below hbr k0
            have k1n := pw_cell_below hbr k1
            have k2n := pw_cell_below hbr k2
            clear hbr HO HB p0 p1 p2 k0 k1 k2
            generalize wr.drewN nq = w7 at *
            have p0 := pw_cell_below HBn.out Q0.out
            have p1 := pw_cell_below HBn.out Q1.out
            have p2 := pw_cell_below HBn.out Q2.out
            have hcc : ∀ (j : Nat) (u : Value), [Value.int .i64 sf, .int .i64 st, .string sv][j]? = some u → w7.cell? ⟨g, (m : Int).toNat * 3 + j, none⟩ = some u := by
              intro j u hu
              rcases j with _ | _ | _ | j
              · simp at hu
                subst hu
                simpa using k0n
              · simp at hu
                subst hu
                simpa using k1n
              · simp at hu
                subst hu
                simpa using k2n
              · simp at hu
            have HCC := Aside0.mk hcc
            clear hcc
            go_wp2_with ((with_reducible refine gate_ (.store 3 (.tmp 57) (.tmp 54)) rfl ?_); (refine Kd.R_store KPc w.heap.size rfl rfl _ _ _ rfl 42 (m : Int) 1 out ⟨sf, qt, sv⟩ (.int .i64 qt) [.int .i64 qt] [.int .i64 sf, .int .i64 st, .string sv] (fun _ => True) (fun _ => False) rfl rfl rfl rfl rfl (by simp [Value.oneCell']) HOn.out (by omega) (by omega) rfl HCC.out (Nat.le_succ 2) (KPc_M _ _ _ sf qt sv) (fun _ h => h.elim) HBn.out ?_); (intro w9 HO1 hb1 hg1))
            go_roundw
            case rel => exact ⟨k + 1, hlt, rfl, ⟨by rw [HMS.out]; unfold lstep; rw [HM'.out, Nat.add_sub_cancel, HST.out, if_pos ⟨Nat.succ_pos m, rfl, rfl⟩]; exact HO1⟩, ⟨hb1⟩⟩
            case measure => simp [intOf]; omega
          · subst hx
            have HY := Aside0.mk hy
            have hd : (sv.toList == qv.toList) = false := beq_eq_false_iff_ne.2 fun e => hy (toList_ne e)
            clear hy
            go_wp2_with fail
            go_quiet (fail)
            have hbr : Below wr.heap.size wr (wr.drewN nq) := by repeat (with_reducible first | exact Below.refl _ _ | apply pw_below_drewN)
            have HOn := Aside0.mk (Kd.R_below HO.out hbr)
            have HBn := Aside0.mk (below_step HB.out hbr)
            clear hbr HO HB p0 p1 p2 k0 k1 k2
            generalize wr.drewN nq = w7 at *
            have p0 := pw_cell_below HBn.out Q0.out
            have p1 := pw_cell_below HBn.out Q1.out
            have p2 := pw_cell_below HBn.out Q2.out
            go_wp2_with ((with_reducible refine gate_dst (N := 64) rfl ?_); refine app_pc rfl rfl rfl rfl HOn.out HBn.out.size HL1.out ?_; intro v4 w4 HO4 hb4 _)
            go_roundw
            case rel => exact ⟨k + 1, hlt, rfl, ⟨by rw [HMS.out]; unfold lstep; rw [if_neg ?_]; exact HO4; intro h; rw [HM'.out, Nat.add_sub_cancel, HST.out] at h; exact HY.out h.2.2⟩, ⟨HBn.out.trans hb4⟩⟩
            case measure => simp [intOf]; omega
        · have HX := Aside0.mk hx
          clear j1 j2 j3 j4 j5
          go_wp2_with fail
          have hd : (st == qf) = false := beq_eq_false_iff_ne.2 hx
          have j1 : (m : Int) < (m : Int) + 1 := by omega
          have j2 : (0 : Int) ≤ (m : Int) := by omega
          have j3 : (m : Int) + 1 - 1 = (m : Int) := by omega
          have j4 : m < m + 1 := by omega
          have j5 : (m : Int) ≤ 1000 := by omega
          go_quiet (fail)
          clear j3 hd
          have hbr : Below wr.heap.size wr (wr.drewN nq) := by repeat (with_reducible first | exact Below.refl _ _ | apply pw_below_drewN)
          have HOn := Aside0.mk (Kd.R_below HO.out hbr)
          have HBn := Aside0.mk (below_step HB.out hbr)
          clear hbr HO HB p0 p1 p2 k0 k1 k2
          generalize wr.drewN nq = w7 at *
          have p0 := pw_cell_below HBn.out Q0.out
          have p1 := pw_cell_below HBn.out Q1.out
          have p2 := pw_cell_below HBn.out Q2.out
          go_wp2_with ((with_reducible refine gate_dst (N := 64) rfl ?_); refine app_pc rfl rfl rfl rfl HOn.out HBn.out.size HL1.out ?_; intro v4 w4 HO4 hb4 _)
          go_roundw
          case rel => exact ⟨k + 1, hlt, rfl, ⟨by rw [HMS.out]; unfold lstep; rw [if_neg ?_]; exact HO4; intro h; rw [HM'.out, Nat.add_sub_cancel, HST.out] at h; exact HX.out h.2.1⟩, ⟨HBn.out.trans hb4⟩⟩
          case measure => simp [intOf]; omega
    · obtain rfl : k = n := by omega
      have hE := leastK_all l k (by rw [HN.out]; omega)
      have HD := Aside0.mk hE
      clear hE
      go_wp2_with fail
      go_ret
      exact ⟨_, rfl, by rw [← HD.out]; exact HO.out, HB.out⟩

set_option maxRecDepth 100000 in
set_option maxHeartbeats 4000000 in
/-- Lists compared that are the same. -/
theorem same_calls (A B : Option Addr) (n c d : Nat) (l : List Pc) (w : World) (hr : KPc.C w A n l) (hs : KPc.C w B n l) (hc : n ≤ c) (hd : n ≤ d) :
    Calls Try.prog 21 #[.slice A n c, .slice B n d] w fun e w' => e = .returned (.bool true) ∧ Below w.heap.size w w' := by
  have hq := eqA42
  have HR := Aside0.mk hr
  have HS := Aside0.mk hs
  have hm : n ≤ 9223372036854775807 := hr.2.1
  clear hr hs
  go_enter Try.func21, Try.ntmps21
  go_wp2_with fail
  go_loopw [5] (fun v5 w' => ∃ k : Nat, k ≤ n ∧ v5 = .int .i64 k ∧ Aside0 (Below w.heap.size w w')) (fun v5 _ => n - (intOf v5).toNat)
  case atStart => exact ⟨0, Nat.zero_le _, rfl, ⟨Below.refl _ _⟩⟩
  case round =>
    obtain ⟨k, hk, rfl, HB⟩ := hrel
    by_cases hlt : k < n
    · obtain ⟨ad, rfl, q0, q1, q2⟩ := C_atPc HR.out k hlt
      obtain ⟨bd, rfl, r0, r1, r2⟩ := C_atPc HS.out k hlt
      have p0 := pw_cell_below HB.out q0
      have p1 := pw_cell_below HB.out q1
      have p2 := pw_cell_below HB.out q2
      have s0 := pw_cell_below HB.out r0
      have s1 := pw_cell_below HB.out r1
      have s2 := pw_cell_below HB.out r2
      clear q0 q1 q2 r0 r1 r2
      generalize l.getD k default = q at *
      obtain ⟨qf, qt, qv⟩ := q
      simp only at p0 p1 p2 s0 s1 s2
      have i1 : (k : Int) < (n : Int) := by omega
      have i2 : (0 : Int) ≤ (k : Int) := by omega
      go_wp2_with fail
      go_quiet (fail)
      have hbr : Below wr.heap.size wr (wr.drewN nq) := by repeat (with_reducible first | exact Below.refl _ _ | apply pw_below_drewN)
      have HBn := Aside0.mk (below_step HB.out hbr)
      clear hbr HB p0 p1 p2 s0 s1 s2 hq
      go_wp2_with fail
      go_roundw
      case rel => exact ⟨k + 1, hlt, rfl, HBn⟩
      case measure => simp [intOf]; omega
    · obtain rfl : k = n := by omega
      go_wp2_with fail
      go_ret
      exact ⟨rfl, HB.out⟩
end Go.Proofs.Ytloachifhaigjaa.A
