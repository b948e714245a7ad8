/- What the document leaves of a span. -/
import Derived.Test.YtloachifhaigjaaASpanLeft
import Derived.Test.YtloachifhaigjaaALaw4
import Derived.StillTailTactics
import Derived.BigQuiet
import Derived.Deep.RegionLaw
namespace Go.Proofs.Ytloachifhaigjaa.A
open Go.RowKit Go.Proofs.YtloachifhaigjaaW.PrintWords Go.Proofs.YtloachifhaigjaaW.PrintLast Go.Proofs.YtloachifhaigjaaW.PrintMore
set_option linter.unusedVariables false
set_option linter.unusedSimpArgs false

theorem rhas_below (a b x : Int) (w : World) : Calls Try.prog 17 #[.agg #[.int .i64 a, .int .i64 b], .int .i64 x] w fun e w' => e = .returned (.bool (Sp.has ⟨a, b⟩ x)) ∧ Below w.heap.size w w' := by
  refine (rhas_calls a b x w).mono ?_
  rintro e w' ⟨rfl, rfl⟩
  exact ⟨rfl, below_alloc (below_alloc (Below.refl _ _) _) _⟩

/-- One step: behind the last one, or a new one. -/
def rstep (a b : Sp) (out : List Sp) (x y : Int) : List Sp :=
  if a.has x = true ∧ b.has x = false then
    (if 0 < out.length ∧ (out.getD (out.length - 1) ⟨0, 0⟩).t = x then out.set (out.length - 1) ⟨(out.getD (out.length - 1) ⟨0, 0⟩).f, y⟩ else out ++ [⟨x, y⟩])
  else out
def rleft (a b : Sp) (E : List Int) : Nat → List Sp
  | 0 => []
  | k + 1 => rstep a b (rleft a b E k) (E.getD k 0) (E.getD (k + 1) 0)
theorem rstep_len (a b : Sp) (out : List Sp) (x y : Int) : (rstep a b out x y).length ≤ out.length + 1 := by
  unfold rstep
  split
  · split <;> simp
  · omega
theorem rleft_len (a b : Sp) (E : List Int) (k : Nat) : (rleft a b E k).length ≤ k := by
  induction k with
  | zero => simp [rleft]
  | succ k ih =>
    rw [rleft]
    have := rstep_len a b (rleft a b E k) (E.getD k 0) (E.getD (k + 1) 0)
    omega
theorem ends_len (a b c d : Int) : (ends2 a b c d).length ≤ 4 := by
  have hl1 := putL_len [] a
  have hl2 := putL_len (putL [] a) b
  have hl3 := putL_len (putL (putL [] a) b) c
  have hl4 := putL_len (putL (putL (putL [] a) b) c) d
  simp only [List.length_nil] at hl1
  unfold ends2
  omega
theorem putL_pos (l : List Int) (x : Int) : 1 ≤ (putL l x).length := by
  cases l with
  | nil => simp [putL]
  | cons y l =>
    rw [putL]
    split
    · split <;> simp
    · simp

def rminusL (a b : Sp) : List Sp := if a.may then rleft a b (ends2 a.f a.t b.f b.t) ((ends2 a.f a.t b.f b.t).length - 1) else []

set_option maxRecDepth 100000 in
set_option maxHeartbeats 3200000 in
theorem rminus_calls (a b c d : Int) (w : World) : Calls Try.prog 13 #[.agg #[.int .i64 a, .int .i64 b], .agg #[.int .i64 c, .int .i64 d]] w fun e w' => ∃ v, e = .returned v ∧ OSp w' w.heap.size v (rminusL ⟨a, b⟩ ⟨c, d⟩) ∧ Below w.heap.size w w' := by
  rcases hm1 : Sp.may ⟨a, b⟩ with _ | _
  · have hL : rminusL ⟨a, b⟩ ⟨c, d⟩ = [] := by simp [rminusL, hm1]
    rw [hL]
    have HM := Aside0.mk hm1
    clear hm1 hL
    go_enter Try.func13, Try.ntmps13
    go_wp2_with fail
    (with_reducible refine (rmay_calls _ _ _).mono ?_)
    rw [HM.out]
    rintro e w1 ⟨rfl, rfl⟩
    go_wp2
    go_ret
    exact ⟨_, rfl, Kd.R_nil _ _ _ _ _, by repeat (with_reducible first | exact Below.refl _ _ | apply below_alloc)⟩
  · have hL : rminusL ⟨a, b⟩ ⟨c, d⟩ = rleft ⟨a, b⟩ ⟨c, d⟩ (ends2 a b c d) ((ends2 a b c d).length - 1) := by simp [rminusL, hm1]
    rw [hL]
    have HM := Aside0.mk hm1
    have hn4 := ends_len a b c d
    have hn1 : 1 ≤ (ends2 a b c d).length := putL_pos _ _
    obtain ⟨E, hE⟩ : ∃ E, ends2 a b c d = E := ⟨_, rfl⟩
    rw [hE] at hn1 hn4 ⊢
    obtain ⟨n, hn⟩ : ∃ n, E.length = n + 1 := ⟨E.length - 1, by omega⟩
    rw [hn] at hn4 ⊢
    rw [Nat.add_sub_cancel]
    have HE := Aside0.mk hE
    have HN := Aside0.mk hn
    clear hm1 hL hE hn hn1
    go_enter Try.func13, Try.ntmps13
    go_wp2_with fail
    (with_reducible refine (rmay_calls _ _ _).mono ?_)
    rw [HM.out]
    rintro e w1 ⟨rfl, rfl⟩
    go_wp2_with fail
    (with_reducible refine (ends_calls _ a b c d _ ?_ ?_ ?_ ?_ ?_).mono ?_)
    · simp
    · go_simp
    · go_simp
    · go_simp
    · go_simp
    rintro e w2 ⟨v2, rfl, HO2, hb2⟩
    obtain ⟨hc2, hf2⟩ := bcell hb2
    have p0 : w2.cell? ⟨w.heap.size, 0, none⟩ = some (.int .i64 a) := by rw [hc2 _ _ (by simp <;> omega)]; go_simp
    have p1 : w2.cell? ⟨w.heap.size, 1, none⟩ = some (.int .i64 b) := by rw [hc2 _ _ (by simp <;> omega)]; go_simp
    have p2 : w2.cell? ⟨w.heap.size + 1, 0, none⟩ = some (.int .i64 c) := by rw [hc2 _ _ (by simp <;> omega)]; go_simp
    have p3 : w2.cell? ⟨w.heap.size + 1, 1, none⟩ = some (.int .i64 d) := by rw [hc2 _ _ (by simp <;> omega)]; go_simp
    have P0 := Aside0.mk p0
    have P1 := Aside0.mk p1
    have P2 := Aside0.mk p2
    have P3 := Aside0.mk p3
    have hz : w.heap.size + 1 < w2.heap.size := by have := hb2.size; simp at this; omega
    have HB2 := Aside0.mk (below_step (w := w) (by repeat (with_reducible first | exact Below.refl _ _ | apply below_alloc)) hb2)
    rw [HE.out] at HO2
    obtain ⟨g2, cp2, e2, hg2, hgl2, _⟩ := Kd.R_form HO2 (by rw [HN.out]; omega)
    rw [HN.out] at e2
    subst e2
    have HC := Aside0.mk HO2
    clear hc2 hf2 hb2 HO2 p0 p1 p2 p3 hg2
    go_wp2
    go_loopw [5, 8] (fun v5 v8 w' => ∃ k : Nat, k ≤ n ∧ v8 = .int .i64 k ∧ Aside0 (OSp w' w2.heap.size v5 (rleft ⟨a, b⟩ ⟨c, d⟩ E k)) ∧ Aside0 (Below w2.heap.size w2 w')) (fun _ v8 _ => n - (intOf v8).toNat)
    case atStart => exact ⟨0, by omega, rfl, ⟨Kd.R_nil _ _ _ _ _⟩, ⟨Below.refl _ _⟩⟩
    case round =>
      obtain ⟨k, hk, rfl, HO, HB⟩ := hrel
      by_cases hlt : k < n
      · have hlen := rleft_len ⟨a, b⟩ ⟨c, d⟩ E k
        have hstep : rleft ⟨a, b⟩ ⟨c, d⟩ E (k + 1) = rstep ⟨a, b⟩ ⟨c, d⟩ (rleft ⟨a, b⟩ ⟨c, d⟩ E k) (E.getD k 0) (E.getD (k + 1) 0) := rfl
        have hx0 := (R_cellN HC.out k (by omega)).1
        have hy0 := (R_cellN HC.out (k + 1) (by omega)).1
        generalize rleft ⟨a, b⟩ ⟨c, d⟩ E k = out at *
        generalize E.getD k 0 = x at *
        generalize E.getD (k + 1) 0 = y at *
        have HX := Aside0.mk hx0
        have HY := Aside0.mk hy0
        have HS := Aside0.mk hstep
        clear hx0 hy0 hstep
        have c0 := pw_cell_below HB.out P0.out
        have c1 := pw_cell_below HB.out P1.out
        have c2 := pw_cell_below HB.out P2.out
        have c3 := pw_cell_below HB.out P3.out
        have cx := pw_cell_below HB.out HX.out
        have i1 : (k : Int) < (n : Int) + 1 := by omega
        have i2 : k < n + 1 := by omega
        have i3 : (0 : Int) ≤ (k : Int) := by omega
        rcases hh1 : Sp.has ⟨a, b⟩ x with _ | _ <;> rcases hh2 : Sp.has ⟨c, d⟩ x with _ | _
        all_goals
          have HH1 := Aside0.mk hh1
          have HH2 := Aside0.mk hh2
          clear hh1 hh2
          go_wp2_with fail
          go_still_tail 5, (by kernel_rfl)
          go_wp2_with fail
          (with_reducible refine (rhas_below a b x _).mono ?_)
          rw [HH1.out]
          rintro e w5 ⟨rfl, hb5⟩
          have hbr := below_step (w := wr) (by repeat (with_reducible first | exact Below.refl _ _ | apply pw_below_drewN | apply below_drew1)) hb5
          have HOn := Aside0.mk (Kd.R_below HO.out hbr)
          have HBn := Aside0.mk (below_step HB.out hbr)
          clear hb5 hbr HO HB c0 c1 c2 c3 cx
          have HO := HOn
          have HB := HBn
          clear HOn HBn
          have c0 := pw_cell_below HB.out P0.out
          have c1 := pw_cell_below HB.out P1.out
          have c2 := pw_cell_below HB.out P2.out
          have c3 := pw_cell_below HB.out P3.out
          have cx := pw_cell_below HB.out HX.out
          go_wp2_with fail
          go_still_tail 5, (by kernel_rfl)
          go_wp2_with fail
          (with_reducible refine (rhas_below c d x _).mono ?_)
          rw [HH2.out]
          rintro e w6 ⟨rfl, hb5⟩
          have hbr := below_step (w := w5) (by repeat (with_reducible first | exact Below.refl _ _ | apply pw_below_drewN | apply below_drew1)) hb5
          have HOn := Aside0.mk (Kd.R_below HO.out hbr)
          have HBn := Aside0.mk (below_step HB.out hbr)
          clear hb5 hbr HO HB c0 c1 c2 c3 cx
          have HO := HOn
          have HB := HBn
          clear HOn HBn
          have c0 := pw_cell_below HB.out P0.out
          have c1 := pw_cell_below HB.out P1.out
          have c2 := pw_cell_below HB.out P2.out
          have c3 := pw_cell_below HB.out P3.out
          have cx := pw_cell_below HB.out HX.out
          try
            (go_wp2
             go_roundw
             case rel =>
               refine ⟨k + 1, hlt, rfl, ⟨?_⟩, HB⟩
               rw [HS.out]
               unfold rstep
               rw [HH1.out, HH2.out]
               exact HO.out
             case measure => simp [intOf]; omega
             done)
        have cy := pw_cell_below HB.out HY.out
        go_wp2_with fail
        by_cases hm : out.length = 0
        · obtain rfl : out = [] := List.eq_nil_of_length_eq_zero hm
          have HO2 := HO
          obtain ⟨A5, c5, rfl⟩ := Kd.R_slice HO2.out
          go_quiet (fail)
          have hbr : Below w6.heap.size w6 (w6.drewN nq) := by repeat (with_reducible first | exact Below.refl _ _ | apply pw_below_drewN)
          have HOn := Aside0.mk (Kd.R_below HO.out hbr)
          have HBn := Aside0.mk (below_step HB.out hbr)
          clear hbr HO HB c0 c1 c2 c3 cx cy
          generalize w6.drewN nq = w7 at *
          have cx := pw_cell_below HBn.out HX.out
          have cy := pw_cell_below HBn.out HY.out
          go_wp2_with fail
          have i4 : (k : Int) + 1 < (n : Int) + 1 := by omega
          have i5 : (0 : Int) ≤ (k : Int) + 1 := by omega
          have i6 : ((k : Int) + 1).toNat = k + 1 := by omega
          have i8 : k + 1 < n + 1 := by omega
          have i7 : IntKind.i64.wrap ((k : Int) + 1) = (k : Int) + 1 := IntWalk.i64_in _ (by omega)
          go_region_law (refine app_sp_step rfl rfl rfl rfl (Kd.R_drew HOn.out) ?_ ?_ ?_; (have hsz := HBn.out.size; simpa using hsz); simp; intro v1 w9 HO1 hb1 hg1)
          all_goals clear i4 i5 i6 i7 i8
          all_goals
            go_wp2
            go_roundw
            case rel =>
              refine ⟨k + 1, hlt, rfl, ⟨?_⟩, ⟨(below_drew1 HBn.out).trans hb1⟩⟩
              rw [HS.out]
              unfold rstep
              rw [if_pos ⟨HH1.out, HH2.out⟩, if_neg ?_]
              · exact HO1
              · simp
            case measure => simp [intOf]; omega
        · obtain ⟨m, hm'⟩ : ∃ m, out.length = m + 1 := ⟨out.length - 1, by omega⟩
          obtain ⟨g, cap, rfl, hg, hgl, _⟩ := Kd.R_form HO.out (by omega)
          obtain ⟨k0, k1⟩ := OSp_cell HO.out m (by omega)
          have hm4 : m ≤ 4 := by omega
          have HM' := Aside0.mk hm'
          rw [hm'] at HO ⊢
          clear hlen
          obtain ⟨⟨sf, st⟩, hst⟩ : ∃ s, out.getD m ⟨0, 0⟩ = s := ⟨_, rfl⟩
          rw [hst] at k0 k1
          simp only at k0 k1
          have HST := Aside0.mk hst
          clear hst hm' hm
          have j1 : (m : Int) < (m : Int) + 1 := by omega
          have j2 : (0 : Int) ≤ (m : Int) := by omega
          have j3 : (m : Int) + 1 - 1 = (m : Int) := by omega
          have j4 : m < m + 1 := by omega
          have j5 : (m : Int) ≤ 4 := by omega
          by_cases hx : st = x
          · go_quiet (fail)
            have hbr : Below w6.heap.size w6 (w6.drewN nq) := by repeat (with_reducible first | exact Below.refl _ _ | apply pw_below_drewN)
            have k0n := pw_cell_below hbr k0
            have k1n := pw_cell_below hbr k1
            clear k0 k1
            have HOn := Aside0.mk (Kd.R_below HO.out hbr)
            have HBn := Aside0.mk (below_step HB.out hbr)
            clear hbr HO HB c0 c1 c2 c3 cx cy
            generalize w6.drewN nq = w7 at *
            have cx := pw_cell_below HBn.out HX.out
            have cy := pw_cell_below HBn.out HY.out
            have hcc : ∀ (j : Nat) (u : Value), [Value.int .i64 sf, .int .i64 st][j]? = some u → w7.cell? ⟨g, (m : Int).toNat * 2 + j, none⟩ = some u := by
              intro j u hu
              rcases j with _ | _ | j
              · simp at hu
                subst hu
                simpa using k0n
              · simp at hu
                subst hu
                simpa using k1n
              · simp at hu
            have HCC := Aside0.mk hcc
            clear hcc
            go_wp2_with ((with_reducible refine gate_ (.store 3 (.tmp 70) (.tmp 68)) rfl ?_); (refine Kd.R_store KSp w2.heap.size rfl rfl _ _ _ rfl 23 (m : Int) 1 out ⟨sf, y⟩ (.int .i64 y) [.int .i64 y] [.int .i64 sf, .int .i64 st] (fun _ => True) (fun _ => False) rfl rfl rfl rfl rfl (by simp [Value.oneCell']) HOn.out (by omega) (by omega) rfl HCC.out (Nat.le_refl 2) (KSp_M _ _ _ sf y) (fun _ h => h.elim) HBn.out ?_); (intro w9 HO1 hb1 hg1))
            go_roundw
            case rel =>
              refine ⟨k + 1, hlt, rfl, ⟨?_⟩, ⟨hb1⟩⟩
              rw [HS.out]
              unfold rstep
              rw [if_pos ⟨HH1.out, HH2.out⟩, HM'.out, Nat.add_sub_cancel, HST.out, if_pos ⟨by omega, hx⟩]
              exact HO1
            case measure => simp [intOf]; omega
          · have hdx : decide (st = x) = false := decide_eq_false hx
            go_quiet (fail)
            clear k0 k1 j3 hdx
            have hbr : Below w6.heap.size w6 (w6.drewN nq) := by repeat (with_reducible first | exact Below.refl _ _ | apply pw_below_drewN)
            have HOn := Aside0.mk (Kd.R_below HO.out hbr)
            have HBn := Aside0.mk (below_step HB.out hbr)
            clear hbr HO HB c0 c1 c2 c3 cx cy
            generalize w6.drewN nq = w7 at *
            have cx := pw_cell_below HBn.out HX.out
            have cy := pw_cell_below HBn.out HY.out
            go_wp2_with fail
            have i4 : (k : Int) + 1 < (n : Int) + 1 := by omega
            have i5 : (0 : Int) ≤ (k : Int) + 1 := by omega
            have i6 : ((k : Int) + 1).toNat = k + 1 := by omega
            have i8 : k + 1 < n + 1 := by omega
            have i7 : IntKind.i64.wrap ((k : Int) + 1) = (k : Int) + 1 := IntWalk.i64_in _ (by omega)
            go_region_law (refine app_sp_step rfl rfl rfl rfl (Kd.R_drew HOn.out) ?_ ?_ ?_; (have hsz := HBn.out.size; simpa using hsz); (rw [HM'.out]; omega); intro v1 w9 HO1 hb1 hg1)
            all_goals clear i4 i5 i6 i7 i8
            all_goals
              go_wp2
              go_roundw
              case rel =>
                refine ⟨k + 1, hlt, rfl, ⟨?_⟩, ⟨(below_drew1 HBn.out).trans hb1⟩⟩
                rw [HS.out]
                unfold rstep
                rw [if_pos ⟨HH1.out, HH2.out⟩, if_neg ?_]
                · exact HO1
                · intro h
                  have h2 := h.2
                  rw [HM'.out, Nat.add_sub_cancel, HST.out] at h2
                  exact hx h2
              case measure => simp [intOf]; omega
      · obtain rfl : n = k := by omega
        go_wp2
        go_ret
        refine ⟨_, rfl, ?_, below_step HB2.out HB.out⟩
        exact Kd.R_lower HO.out HB2.out.size

end Go.Proofs.Ytloachifhaigjaa.A
