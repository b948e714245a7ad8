/- Pieces without a span: the program's and the document's; a piece cut. -/
import Derived.Test.YtloachifhaigjaaAAt
namespace Go.Proofs.Ytloachifhaigjaa.A
open Go.RowKit Go.Proofs.YtloachifhaigjaaW.PrintWords Go.Proofs.YtloachifhaigjaaW.PrintLast Go.Proofs.YtloachifhaigjaaW.PrintMore
set_option linter.unusedVariables false
set_option linter.unusedSimpArgs false

set_option maxRecDepth 100000 in
theorem cut_calls (f t : Int) (v : ByteArray) (w : World) (hv : v.size ≤ 9223372036854775807) :
    Calls Try.prog 26 #[.agg #[.int .i64 f, .int .i64 t, .string v]] w fun e w' => e = .returned (.agg #[.int .i64 (cutP ⟨f, t, v⟩).f, .int .i64 (cutP ⟨f, t, v⟩).t, .string (cutP ⟨f, t, v⟩).v]) ∧ Below w.heap.size w w' := by
  by_cases h : 10 < v.size
  · have e1 : cutP ⟨f, t, v⟩ = ⟨f, t, v.extract 0 10⟩ := if_pos h
    rw [e1]
    have h1 : (10 : Int) < (v.size : Int) := by omega
    clear e1
    go_enter Try.func26, Try.ntmps26
    go_wp2
    exact bodyPost_ret (v := .agg #[.int .i64 f, .int .i64 t, .string (v.extract 0 10)]) (by simp [results, Try.results26, go_sem]) rfl ⟨rfl, by repeat (with_reducible first | exact Below.refl _ _ | apply below_alloc)⟩
  · have e1 : cutP ⟨f, t, v⟩ = ⟨f, t, v⟩ := if_neg h
    rw [e1]
    have h1 : ¬ (10 : Int) < (v.size : Int) := by omega
    clear e1
    go_enter Try.func26, Try.ntmps26
    go_wp2
    exact bodyPost_ret (v := .agg #[.int .i64 f, .int .i64 t, .string v]) (by simp [results, Try.results26, go_sem]) rfl ⟨rfl, by repeat (with_reducible first | exact Below.refl _ _ | apply below_alloc)⟩
/-- What is left of one piece. -/
def wo (s : Sp) (p : Pc) : List Pc := (minusL p.sp s).map fun r => ⟨r.f, r.t, p.v⟩
theorem without_may {l : List Pc} {s : Sp} (h : s.may = true) : withoutL l s = l.flatMap (wo s) := by unfold withoutL wo; rw [if_pos h]
theorem minus_len (a b : Sp) : (minusL a b).length ≤ 2 := by
  unfold minusL
  split
  · split
    · exact Nat.le_trans (List.length_filter_le _ _) (by simp [twoOf])
    · simp
  · simp
theorem wo_len (s : Sp) (l : List Pc) : (l.flatMap (wo s)).length ≤ 2 * l.length := by
  induction l with
  | nil => simp
  | cons p l ih =>
    have := minus_len p.sp s
    simp only [List.flatMap_cons, List.length_append, List.length_cons, wo, List.length_map]
    omega
abbrev pcBox (f t : Int) (v : ByteArray) : Obj := .cells #[.int .i64 f, .int .i64 t, .string v] 42
theorem box_keep {W w1 : World} {g : Nat} {o : Obj} (h : W.heap[g]? = some o) (hb : Below W.heap.size W w1) : w1.heap[g]? = some o :=
  (hb.block g (Array.getElem?_eq_some_iff.1 h).1).trans h
theorem sp_cells {w : World} {g : Nat} {a b : Int} (h : w.heap[g]? = some (spBox a b)) : w.cell? ⟨g, 0, none⟩ = some (.int .i64 a) ∧ w.cell? ⟨g, 1, none⟩ = some (.int .i64 b) := by
  refine ⟨?_, ?_⟩
  · rw [cell_of_row _ _ _ _ _ _ h]; rfl
  · rw [cell_of_row _ _ _ _ _ _ h]; rfl
theorem pc_cells {w : World} {g : Nat} {f t : Int} {v : ByteArray} (h : w.heap[g]? = some (pcBox f t v)) : w.cell? ⟨g, 0, none⟩ = some (.int .i64 f) ∧ w.cell? ⟨g, 1, none⟩ = some (.int .i64 t) ∧ w.cell? ⟨g, 2, none⟩ = some (.string v) := by
  refine ⟨?_, ?_, ?_⟩
  · rw [cell_of_row _ _ _ _ _ _ h]; rfl
  · rw [cell_of_row _ _ _ _ _ _ h]; rfl
  · rw [cell_of_row _ _ _ _ _ _ h]; rfl
/-- The walk's state: what is out, the span's box. -/
def WI (w : World) (a b : Int) (v : Value) (acc : List Pc) (W : World) : Prop := OPc W w.heap.size v acc ∧ W.heap[w.heap.size]? = some (spBox a b) ∧ Below w.heap.size w W
theorem WI_below {w W W1 : World} {a b : Int} {v : Value} {acc : List Pc} (h : WI w a b v acc W) (hb : Below W.heap.size W W1) : WI w a b v acc W1 :=
  ⟨Kd.R_below h.1 hb, box_keep h.2.1 hb, below_step h.2.2 hb⟩
/-- The same in a piece's round. -/
def WJ (w : World) (a b : Int) (v : Value) (acc : List Pc) (g : Nat) (f t : Int) (s : ByteArray) (Am : Option Addr) (m cm : Nat) (M : List Sp) (W : World) : Prop :=
  WI w a b v acc W ∧ W.heap[g]? = some (pcBox f t s) ∧ some g ≠ v.ownBlock ∧ OSp W w.heap.size (.slice Am m cm) M
theorem WJ_below {w W W1 : World} {a b : Int} {v : Value} {acc : List Pc} {g : Nat} {f t : Int} {s : ByteArray} {Am : Option Addr} {m cm : Nat} {M : List Sp} (h : WJ w a b v acc g f t s Am m cm M W) (hb : Below W.heap.size W W1) : WJ w a b v acc g f t s Am m cm M W1 :=
  ⟨WI_below h.1 hb, box_keep h.2.1 hb, h.2.2.1, Kd.R_below h.2.2.2 hb⟩
theorem WJ_app {w W W1 : World} {a b : Int} {v v1 : Value} {acc acc1 : List Pc} {g : Nat} {f t : Int} {s : ByteArray} {Am : Option Addr} {m cm : Nat} {M : List Sp} (h : WJ w a b v acc g f t s Am m cm M W)
    (h1 : OPc W1 w.heap.size v1 acc1) (hb : Below w.heap.size W W1) (hg : W.grownBy W1 v.ownBlock) (hat : v1.ownBlock = v.ownBlock ∨ ∃ b, v1.ownBlock = some b ∧ W.heap.size ≤ b) : WJ w a b v1 acc1 g f t s Am m cm M W1 := by
  obtain ⟨⟨i1, i2, i3⟩, i4, i5, i6⟩ := h
  refine ⟨⟨h1, blk_grown i2 hg (Kd.R_ne i1 i2 (by decide)), i3.trans hb⟩, blk_grown i4 hg i5, ?_, Kd.R_over i6 i1 (by intro q hq; simp [KSp, Kd.iso, Kd.pair, Kd.int, Kd.scalar] at hq; subst hq; decide) hg⟩
  rcases hat with h | ⟨k, h, hk⟩
  · rw [h]; exact i5
  · rw [h]
    have := (Array.getElem?_eq_some_iff.1 i4).1
    intro e
    injection e with e
    omega
section
variable {ops : Array Oper} {rest : List Oper} {o : Oper} {a : Act} {Q : Exit → Act → World → Prop} {W : World} {B : Nat}
theorem app_pc4 {s x : Operand} (hgd : o.guard = none) (ho : o.op = .call { callee := .builtin .append, args := #[s, x], argTypes := #[33, 33] }) {v : Value} {xs : List Pc} {f t : Int} {ps : ByteArray}
    (hs : a.eval s = v) (hx : a.eval x = .slice (some ⟨W.heap.size, 0, none⟩) 1 1) (HO : OPc W B v xs) (hB : B ≤ W.heap.size) (hl : xs.length ≤ 1000000)
    (h : ∀ v1 w1, OPc w1 B v1 (xs ++ [⟨f, t, ps⟩]) → Below B W w1 → W.grownBy w1 v.ownBlock → (v1.ownBlock = v.ownBlock ∨ ∃ b, v1.ownBlock = some b ∧ W.heap.size ≤ b) → wpList Try.prog ops Q rest (a.put o.dst v1) w1) : wpList Try.prog ops Q (o :: rest) a (W.alloc (.cells #[.int .i64 f, .int .i64 t, .string ps] 42)) :=
  Kd.R_append KPc B hgd s x 33 42 (.agg #[.int .i64 0, .int .i64 0, .string ByteArray.empty]) 32 ho Try.underlying33 infoPc rfl (by decide) (by decide) v xs ⟨f, t, ps⟩ [.int .i64 f, .int .i64 t, .string ps] (fun _ => True) (fun _ => False) hs hx (KPc_M W B _ f t ps) (fun _ h => h.elim) (fun _ _ => trivial) HO (Below.refl B W) hB (by omega) h
end
theorem C_atSpn {A : Option Addr} {n : Nat} {l : List Sp} {w : World} (h : KSp.C w A n l) (i : Nat) (hi : i < n) :
    ∃ ad, A = some ad ∧ w.cell? (ad.add (i * 2)) = some (.int .i64 (l.getD i ⟨0, 0⟩).f) ∧ w.cell? ⟨(ad.add (i * 2)).block, (ad.add (i * 2)).off + 1, none⟩ = some (.int .i64 (l.getD i ⟨0, 0⟩).t) := by
  have hn := h.1
  subst hn
  obtain ⟨ad, e, hc⟩ := h.2.2 (by omega)
  obtain ⟨c, h1, ⟨_, _, rfl, rfl, rfl⟩, h3⟩ := hc i _ (List.getElem?_eq_getElem hi)
  have e2 : l.getD i ⟨0, 0⟩ = l[i] := by simp [List.getD_eq_getElem?_getD, hi]
  rw [e2]
  have a1 := h3 1 _ rfl
  rw [show KSp.sz = 2 from rfl, add_field] at a1
  exact ⟨ad, e, h3 0 _ rfl, a1⟩
theorem take_map {α β : Type} (g : α → β) (M : List α) (d : α) (j : Nat) (h : j < M.length) : (M.take (j + 1)).map g = (M.take j).map g ++ [g (M.getD j d)] := by
  rw [List.take_add_one, List.map_append]
  simp [List.getD_eq_getElem?_getD, h]
theorem OPc_nil (w : World) (B : Nat) : OPc w B (.slice none 0 0) [] := Kd.R_nil _ _ _ _ _
set_option maxRecDepth 100000 in
set_option maxHeartbeats 2000000 in
theorem without_calls (A : Option Addr) (n c : Nat) (l : List Pc) (a b : Int) (w : World) (hr : KPc.C w A n l) (hc : n ≤ c) (hn : n ≤ 5000) (hm : Sp.may ⟨a, b⟩ = true) :
    Calls Try.prog 25 #[.slice A n c, .agg #[.int .i64 a, .int .i64 b]] w fun e w' => ∃ v, e = .returned v ∧ OPc w' w.heap.size v (l.flatMap (wo ⟨a, b⟩)) ∧ Below w.heap.size w w' := by
  have HR := Aside0.mk hr
  have HN := Aside0.mk hr.1
  have HM := Aside0.mk hm
  clear hr hm
  go_enter Try.func25, Try.ntmps25
  go_wp2_with fail
  (with_reducible refine (may_calls _ _ _).mono ?_)
  rw [HM.out]
  rintro e w1 ⟨rfl, rfl⟩
  have HI0 : Aside0 (WI w a b (.slice none 0 0) [] ((w.alloc (spBox a b)).alloc (spBox a b))) := ⟨OPc_nil _ _, box_keep (heap_alloc_new w _) (below_alloc (Below.refl _ _) _), below_alloc (below_alloc (Below.refl _ _) _) _⟩
  go_wp2_with fail
  go_loopw [5, 17] (fun v5 v17 w' => ∃ k : Nat, k ≤ n ∧ v17 = .int .i64 k ∧ Aside0 (WI w a b v5 ((l.take k).flatMap (wo ⟨a, b⟩)) w')) (fun _ v17 _ => n - (intOf v17).toNat)
  case atStart => exact ⟨0, Nat.zero_le _, rfl, HI0⟩
  case round =>
    clear HI0
    obtain ⟨k, hk, rfl, HI⟩ := hrel
    by_cases hlt : k < n
    · obtain ⟨ad, rfl, q0, q1, q2⟩ := C_atPc HR.out k hlt
      have p0 := pw_cell_below HI.out.2.2 q0
      have p1 := pw_cell_below HI.out.2.2 q1
      have p2 := pw_cell_below HI.out.2.2 q2
      obtain ⟨s0, s1⟩ := sp_cells HI.out.2.1
      have hws : w.heap.size < wr.heap.size := (Array.getElem?_eq_some_iff.1 HI.out.2.1).1
      have hfl := flat_take (wo ⟨a, b⟩) l default k (by rw [HN.out]; exact hlt)
      have hlen := wo_len ⟨a, b⟩ (l.take k)
      rw [List.length_take] at hlen
      clear q0 q1 q2
      generalize l.getD k default = p at *
      generalize (l.take k).flatMap (wo ⟨a, b⟩) = acc at *
      obtain ⟨f, t, v⟩ := p
      have HFL := Aside0.mk hfl
      simp only at p0 p1 p2
      have i1 : (k : Int) < (n : Int) := by omega
      have i2 : (0 : Int) ≤ (k : Int) := by omega
      have hlen2 : acc.length ≤ 10000 := by omega
      clear hfl hlen
      have hne : some wr.heap.size ≠ u5.ownBlock := fun e => Nat.lt_irrefl _ (Kd.R_lt HI.out.1 _ e.symm)
      have HNE := Aside0.mk hne
      have hbox : (wr.alloc (pcBox f t v)).heap[wr.heap.size]? = some (pcBox f t v) := heap_alloc_new wr _
      have HBOX := Aside0.mk hbox
      clear hne hbox
      go_wp2_with fail
      (with_reducible refine (minus_calls f t a b _).mono ?_)
      rintro e w1 ⟨v1, rfl, HO1, hb1⟩
      obtain ⟨m, hm⟩ : ∃ m, (minusL ⟨f, t⟩ ⟨a, b⟩).length = m := ⟨_, rfl⟩
      have hm2 : m ≤ 2 := by rw [← hm]; exact minus_len _ _
      have HWO : Aside0 (wo ⟨a, b⟩ ⟨f, t, v⟩ = (minusL ⟨f, t⟩ ⟨a, b⟩).map fun r => ⟨r.f, r.t, v⟩) := ⟨rfl⟩
      generalize minusL ⟨f, t⟩ ⟨a, b⟩ = M at *
      obtain ⟨Am, cm, rfl, hcm⟩ : ∃ Am cm, v1 = .slice Am m cm ∧ m ≤ cm := by
        obtain ⟨Am, cm, e, hcm, _⟩ := Kd.R_reads HO1
        rw [hm] at e hcm
        exact ⟨Am, cm, e, hcm⟩
      have hal := below_alloc (Below.refl wr.heap.size wr) (pcBox f t v)
      have HJ0 : Aside0 (WJ w a b u5 acc wr.heap.size f t v Am m cm M w1) := ⟨WI_below (WI_below HI.out hal) hb1, box_keep HBOX.out hb1, HNE.out, Kd.R_lower HO1 (Nat.le_trans HI.out.2.2.size hal.size)⟩
      have HMM := Aside0.mk hm
      clear HO1 hb1 hal HNE HBOX HI p0 p1 p2 s0 s1 hm hws
      go_wp2_with fail
      go_loopw [5, 26] (fun v5 v26 w' => ∃ j : Nat, j ≤ m ∧ v26 = .int .i64 j ∧ Aside0 (WJ w a b v5 (acc ++ (M.take j).map fun r => ⟨r.f, r.t, v⟩) wr.heap.size f t v Am m cm M w')) (fun _ v26 _ => m - (intOf v26).toNat)
      case atStart => exact ⟨0, Nat.zero_le _, rfl, ⟨by simpa using HJ0.out⟩⟩
      case round =>
        clear HJ0
        obtain ⟨j, hj, rfl, HJ⟩ := hrel
        by_cases hjl : j < m
        · have hcm1 := (Kd.R_reads' HJ.out.2.2.2).2.2
          rw [HMM.out] at hcm1
          obtain ⟨am, rfl, m0, m1⟩ := C_atSpn hcm1 j hjl
          obtain ⟨g0, g1, g2⟩ := pc_cells HJ.out.2.1
          have hg := (Array.getElem?_eq_some_iff.1 HJ.out.2.1).1
          have htm := take_map (fun r : Sp => (⟨r.f, r.t, v⟩ : Pc)) M ⟨0, 0⟩ j (by rw [HMM.out]; exact hjl)
          have htl : (acc ++ (M.take j).map fun r : Sp => (⟨r.f, r.t, v⟩ : Pc)).length ≤ 20000 := by rw [List.length_append, List.length_map, List.length_take]; omega
          generalize M.getD j ⟨0, 0⟩ = r at *
          obtain ⟨rf, rt⟩ := r
          have HTM := Aside0.mk htm
          have HTL := Aside0.mk htl
          simp only at m0 m1
          have i3 : (j : Int) < (m : Int) := by omega
          have i4 : (0 : Int) ≤ (j : Int) := by omega
          have HJ2 := Aside0.mk (WJ_below HJ.out (below_alloc (Below.refl _ _) (spBox rf rt)))
          have hsz : (wr.alloc (spBox rf rt)).heap.size = wr.heap.size + 1 := Array.size_push _
          have HSZ := Aside0.mk hsz
          clear htm htl hcm1 g0 g1 HJ hsz
          go_wp2_with ((with_reducible refine gate_dst (N := 36) rfl ?_); refine app_pc4 rfl rfl rfl ?_ HJ2.out.1.1 HJ2.out.1.2.2.size ?_ ?_; (rw [HSZ.out]; rfl); (exact Nat.le_trans HTL.out (by decide)); intro v2 w2 HO2 hb2 hg2 hat2; have HJ3 := Aside0.mk (WJ_app HJ2.out HO2 hb2 hg2 hat2); clear HO2 hb2 hg2 hat2 HJ2)
          go_roundw
          case rel => exact ⟨j + 1, hjl, rfl, ⟨by rw [HTM.out, ← List.append_assoc]; exact HJ3.out⟩⟩
          case measure => simp [intOf]; omega
        · obtain rfl : j = m := by omega
          have hJ := HJ.out
          rw [List.take_of_length_le (by rw [HMM.out]; omega), ← HWO.out, ← HFL.out] at hJ
          have HI := Aside0.mk hJ.1
          clear hJ HJ
          go_wp2_with fail
          go_roundw
          case rel => exact ⟨k + 1, hlt, rfl, HI⟩
          case measure => simp [intOf]; omega
    · obtain rfl : k = n := by omega
      have hI := HI.out
      rw [List.take_of_length_le (by rw [HN.out]; omega)] at hI
      have HI2 := Aside0.mk hI
      clear hI HI
      go_wp2_with fail
      go_ret
      exact ⟨_, rfl, HI2.out.1, HI2.out.2.2⟩
end Go.Proofs.Ytloachifhaigjaa.A
