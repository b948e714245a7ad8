/- Pieces with one over them: the document's. -/
import Derived.Test.YtloachifhaigjaaARWithout
namespace Go.Proofs.Ytloachifhaigjaa.A
open Go.RowKit Go.Proofs.YtloachifhaigjaaW.PrintWords Go.Proofs.YtloachifhaigjaaW.PrintLast Go.Proofs.YtloachifhaigjaaW.PrintMore
set_option linter.unusedVariables false
set_option linter.unusedSimpArgs false

theorem over_true (p : Pc) (L : List Pc) : overGo p L true = L := by
  induction L with
  | nil => rfl
  | cons q L ih => simp [overGo, ih]
set_option maxRecDepth 100000 in
set_option maxHeartbeats 4000000 in
theorem rover_calls (A : Option Addr) (n c : Nat) (l : List Pc) (f t : Int) (v : ByteArray) (w : World) (hr : KPc.C w A n l) (hc : n ≤ c) (hn : n ≤ 1000) (hm : Sp.may ⟨f, t⟩ = true) :
    Calls Try.prog 28 #[.slice A n c, .agg #[.int .i64 f, .int .i64 t, .string v]] w fun e w' => ∃ v', e = .returned v' ∧ OPc w' w.heap.size v' (overGo ⟨f, t, v⟩ (l.flatMap (wo ⟨f, t⟩)) false) ∧ Below w.heap.size w w' := by
  have HR := Aside0.mk hr
  have HM := Aside0.mk hm
  have hlen := wo_len ⟨f, t⟩ l
  rw [hr.1] at hlen
  clear hr
  go_enter Try.func28, Try.ntmps28
  go_wp2_with fail
  (with_reducible refine (rmay_calls _ _ _).mono ?_)
  rw [HM.out]
  rintro e w1 ⟨rfl, rfl⟩
  have HB1 := Aside0.mk (below_alloc (below_alloc (Below.refl _ w) (pcBox f t v)) (spBox f t))
  have HX1 : Aside0 (((w.alloc (pcBox f t v)).alloc (spBox f t)).heap[w.heap.size]? = some (pcBox f t v)) := ⟨box_keep (heap_alloc_new w _) (below_alloc (Below.refl _ _) _)⟩
  go_wp2_with fail
  (with_reducible refine (rwithout_calls _ _ _ l f t _ (Kd.C_below HR.out HB1.out) hc hn hm).mono ?_)
  rintro e w2 ⟨v2, rfl, HO2, hb2⟩
  obtain ⟨m, hm2⟩ : ∃ m, (l.flatMap (wo ⟨f, t⟩)).length = m := ⟨_, rfl⟩
  rw [hm2] at hlen
  obtain ⟨A2, c2, rfl, hc2, HC20⟩ := OPc_readn HO2 m hm2
  have HC2 := Aside0.mk HC20
  have HX2 := Aside0.mk (box_keep HX1.out hb2)
  have HB2 := Aside0.mk (below_step HB1.out hb2)
  generalize hL : l.flatMap (wo ⟨f, t⟩) = L at *
  have HLE := Aside0.mk hL
  have HN := Aside0.mk hm2
  clear HO2 hb2 HC20 HX1 HB1 hm hm2 hL
  go_wp2_with fail
  go_loopw [7, 8, 9] (fun v7 v8 v9 w' => ∃ (k : Nat) (d : Bool) (acc : List Pc), k ≤ m ∧ acc.length ≤ 2 * k ∧ v9 = .int .i64 k ∧ v8 = .bool d ∧ Aside0 (acc ++ overGo ⟨f, t, v⟩ (L.drop k) d = overGo ⟨f, t, v⟩ L false) ∧ Aside0 (OPc w' w2.heap.size v7 acc) ∧ Aside0 (Below w2.heap.size w2 w')) (fun _ _ v9 _ => m - (intOf v9).toNat)
  case atStart => exact ⟨0, false, [], Nat.zero_le _, Nat.le_refl _, rfl, rfl, ⟨rfl⟩, ⟨OPc_nil _ _⟩, ⟨Below.refl _ _⟩⟩
  case round =>
    obtain ⟨k, d, acc, hk, hacc, rfl, rfl, HE, HO, HB⟩ := hrel
    have hX3 := box_keep HX2.out HB.out
    obtain ⟨x0, x1, x2⟩ := pc_cells hX3
    clear hX3
    by_cases hlt : k < m
    · obtain ⟨ad, rfl, q0, q1, q2⟩ := C_atPc HC2.out k hlt
      have p0 := pw_cell_below HB.out q0
      have p1 := pw_cell_below HB.out q1
      have p2 := pw_cell_below HB.out q2
      have hE := HE.out
      rw [drop_pc L k (by rw [HN.out]; exact hlt)] at hE
      have Q0 := Aside0.mk q0
      have Q1 := Aside0.mk q1
      have Q2 := Aside0.mk q2
      clear q0 q1 q2 HE
      generalize L.getD k default = q at *
      obtain ⟨qf, qt, qv⟩ := q
      simp only at p0 p1 p2
      have i1 : (k : Int) < (m : Int) := by omega
      have i2 : (0 : Int) ≤ (k : Int) := by omega
      have hl1 : acc.length ≤ 1000000 := by omega
      cases d with
      | true =>
        rw [over_true] at hE
        have HE := Aside0.mk hE
        clear hE
        go_wp2_with fail
        go_quiet (fail)
        have hbr : Below wr.heap.size wr (wr.drewN nq) := by repeat (with_reducible first | exact Below.refl _ _ | apply pw_below_drewN)
        have HOn := Aside0.mk (Kd.R_below HO.out hbr)
        have HBn := Aside0.mk (below_step HB.out hbr)
        clear hbr HO HB p0 p1 p2 x0 x1 x2
        generalize wr.drewN nq = w7 at *
        have p0 := pw_cell_below HBn.out Q0.out
        have p1 := pw_cell_below HBn.out Q1.out
        have p2 := pw_cell_below HBn.out Q2.out
        obtain ⟨x0, x1, x2⟩ := pc_cells (box_keep HX2.out HBn.out)
        go_wp2_with ((with_reducible refine gate_dst (N := 50) rfl ?_); refine app_pc rfl rfl rfl rfl HOn.out HBn.out.size hl1 ?_; intro v4 w4 HO4 hb4 _)
        go_roundw
        case rel => exact ⟨k + 1, true, acc ++ [⟨qf, qt, qv⟩], hlt, by rw [List.length_append, List.length_singleton]; omega, rfl, rfl, ⟨by rw [over_true, List.append_assoc]; exact HE.out⟩, ⟨HO4⟩, ⟨HBn.out.trans hb4⟩⟩
        case measure => simp [intOf]; omega
      | false =>
        by_cases hge : t ≤ qf
        · have e2 : overGo ⟨f, t, v⟩ (⟨qf, qt, qv⟩ :: L.drop (k + 1)) false = ⟨f, t, v⟩ :: ⟨qf, qt, qv⟩ :: overGo ⟨f, t, v⟩ (L.drop (k + 1)) true := by simp [overGo, hge]
          rw [e2] at hE
          have HE := Aside0.mk hE
          clear hE e2
          go_wp2_with fail
          go_quiet (fail)
          have hbr : Below wr.heap.size wr (wr.drewN nq) := by repeat (with_reducible first | exact Below.refl _ _ | apply pw_below_drewN)
          have HOn := Aside0.mk (Kd.R_below HO.out hbr)
          have HBn := Aside0.mk (below_step HB.out hbr)
          clear hbr HO HB p0 p1 p2 x0 x1 x2
          generalize wr.drewN nq = w7 at *
          have p0 := pw_cell_below HBn.out Q0.out
          have p1 := pw_cell_below HBn.out Q1.out
          have p2 := pw_cell_below HBn.out Q2.out
          obtain ⟨x0, x1, x2⟩ := pc_cells (box_keep HX2.out HBn.out)
          have hl2 : (acc ++ [(⟨f, t, v⟩ : Pc)]).length ≤ 1000000 := by rw [List.length_append, List.length_singleton]; omega
          have HL2 := Aside0.mk hl2
          have HA := Aside0.mk hacc
          clear hl2
          go_wp2_with (first
            | ((with_reducible refine gate_dst (N := 43) rfl ?_); refine app_pc rfl rfl rfl rfl HOn.out HBn.out.size hl1 ?_; intro v3 w3 HO3 hb3 _; have HO3 := Aside0.mk HO3; have HB3 := Aside0.mk (HBn.out.trans hb3); clear p0 p1 p2 x0 x1 x2 hb3; have p0 := pw_cell_below HB3.out Q0.out; have p1 := pw_cell_below HB3.out Q1.out; have p2 := pw_cell_below HB3.out Q2.out)
            | ((with_reducible refine gate_dst (N := 50) rfl ?_); refine app_pc rfl rfl rfl rfl HO3.out HB3.out.size HL2.out ?_; intro v4 w4 HO4 hb4 _))
          go_roundw
          case rel => exact ⟨k + 1, true, acc ++ [⟨f, t, v⟩] ++ [⟨qf, qt, qv⟩], hlt, by rw [List.length_append, List.length_append, List.length_singleton, List.length_singleton]; have := HA.out; omega, rfl, rfl, ⟨by rw [← HE.out]; simp⟩, ⟨HO4⟩, ⟨HB3.out.trans hb4⟩⟩
          case measure => simp [intOf]; omega
        · have e2 : overGo ⟨f, t, v⟩ (⟨qf, qt, qv⟩ :: L.drop (k + 1)) false = ⟨qf, qt, qv⟩ :: overGo ⟨f, t, v⟩ (L.drop (k + 1)) false := by simp [overGo, hge]
          rw [e2] at hE
          have HE := Aside0.mk hE
          clear hE e2
          have hge2 : decide (t ≤ qf) = false := decide_eq_false hge
          have hge3 : qf < t := by omega
          go_wp2_with fail
          go_quiet (fail)
          have hbr : Below wr.heap.size wr (wr.drewN nq) := by repeat (with_reducible first | exact Below.refl _ _ | apply pw_below_drewN)
          have HOn := Aside0.mk (Kd.R_below HO.out hbr)
          have HBn := Aside0.mk (below_step HB.out hbr)
          clear hbr HO HB p0 p1 p2 x0 x1 x2
          generalize wr.drewN nq = w7 at *
          have p0 := pw_cell_below HBn.out Q0.out
          have p1 := pw_cell_below HBn.out Q1.out
          have p2 := pw_cell_below HBn.out Q2.out
          obtain ⟨x0, x1, x2⟩ := pc_cells (box_keep HX2.out HBn.out)
          go_wp2_with ((with_reducible refine gate_dst (N := 50) rfl ?_); refine app_pc rfl rfl rfl rfl HOn.out HBn.out.size hl1 ?_; intro v4 w4 HO4 hb4 _)
          go_roundw
          case rel => exact ⟨k + 1, false, acc ++ [⟨qf, qt, qv⟩], hlt, by rw [List.length_append, List.length_singleton]; omega, rfl, rfl, ⟨by rw [← HE.out]; simp⟩, ⟨HO4⟩, ⟨HBn.out.trans hb4⟩⟩
          case measure => simp [intOf]; omega
    · obtain rfl : k = m := by omega
      have hE := HE.out
      rw [List.drop_of_length_le (by rw [HN.out]; omega)] at hE
      have hl1 : acc.length ≤ 1000000 := by omega
      have hsz := HB2.out.size
      have HSZ := Aside0.mk hsz
      cases d with
      | true =>
        simp only [overGo, if_true, List.append_nil] at hE
        have HD := Aside0.mk hE
        clear hE HE hsz
        go_wp2_with fail
        go_ret
        exact ⟨_, rfl, by have h := Kd.R_lower HO.out HSZ.out; rw [HD.out, ← HLE.out] at h; exact h, below_step HB2.out HB.out⟩
      | false =>
        simp only [overGo] at hE
        have HD := Aside0.mk hE
        clear hE HE hsz
        go_wp2_with ((with_reducible refine gate_dst (N := 56) rfl ?_); refine app_pc rfl rfl rfl rfl HO.out HB.out.size hl1 ?_; intro v4 w4 HO4 hb4 _)
        go_ret
        exact ⟨_, rfl, by have h := Kd.R_lower HO4 HSZ.out; have h2 := HD.out; simp at h2; rw [h2, ← HLE.out] at h; exact h, below_step HB2.out (HB.out.trans hb4)⟩
end Go.Proofs.Ytloachifhaigjaa.A
