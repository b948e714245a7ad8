/- The least pieces: the program's. -/
import Derived.Test.YtloachifhaigjaaAEqPc
import Derived.StillTailTactics
import Derived.BigQuiet
import Derived.Deep.RegionLaw
namespace Go.Proofs.Ytloachifhaigjaa.A
open Go.RowKit Go.Proofs.YtloachifhaigjaaW.PrintWords Go.Proofs.YtloachifhaigjaaW.PrintLast Go.Proofs.YtloachifhaigjaaW.PrintMore
set_option linter.unusedVariables false
set_option linter.unusedSimpArgs false

/-- One step: behind the last one, or a new one. -/
def lstep (out : List Pc) (p : Pc) : List Pc :=
  if 0 < out.length ∧ (out.getD (out.length - 1) default).t = p.f ∧ (out.getD (out.length - 1) default).v = p.v then out.set (out.length - 1) ⟨(out.getD (out.length - 1) default).f, p.t, p.v⟩ else out ++ [p]
theorem lstep_last (acc : List Pc) (cur p : Pc) : lstep (acc ++ [cur]) p = if cur.t = p.f ∧ cur.v = p.v then acc ++ [⟨cur.f, p.t, p.v⟩] else acc ++ [cur] ++ [p] := by
  unfold lstep
  have e1 : (acc ++ [cur]).length - 1 = acc.length := by simp
  have e2 : (acc ++ [cur]).getD acc.length default = cur := by simp [List.getD_eq_getElem?_getD]
  rw [e1, e2]
  have e3 : 0 < (acc ++ [cur]).length := by simp
  by_cases h : cur.t = p.f ∧ cur.v = p.v
  · rw [if_pos ⟨e3, h⟩, if_pos h]
    simp
  · rw [if_neg (fun hh => h hh.2), if_neg h]
theorem lfold (l : List Pc) : ∀ (acc : List Pc) (cur : Pc), l.foldl lstep (acc ++ [cur]) = acc ++ leastGo cur l := by
  induction l with
  | nil => intro acc cur; rfl
  | cons p l ih =>
    intro acc cur
    rw [List.foldl_cons, lstep_last, leastGo]
    split
    · rw [ih]
    · rw [ih, List.append_assoc]; rfl
theorem toList_ne {s t : ByteArray} (e : s.toList = t.toList) : s = t := by
  rw [ByteArray.toList_eq, ByteArray.toList_eq] at e
  cases s; cases t
  congr 1
  exact Array.toList_inj.1 e
def leastK (l : List Pc) (k : Nat) : List Pc := (l.take k).foldl lstep []
theorem leastK_all (l : List Pc) (k : Nat) (h : l.length ≤ k) : leastK l k = leastL l := by
  unfold leastK
  rw [List.take_of_length_le h]
  cases l with
  | nil => rfl
  | cons p l => exact lfold l [] p
theorem leastK_succ (l : List Pc) (k : Nat) (h : k < l.length) : leastK l (k + 1) = lstep (leastK l k) (l.getD k default) := by
  unfold leastK
  rw [List.take_add_one, List.foldl_append]
  simp [List.getD_eq_getElem?_getD, h]
theorem lstep_len (out : List Pc) (p : Pc) : (lstep out p).length ≤ out.length + 1 := by
  unfold lstep
  split <;> simp
theorem leastK_len (l : List Pc) (k : Nat) : (leastK l k).length ≤ k := by
  induction k with
  | zero => simp [leastK]
  | succ k ih =>
    by_cases h : k < l.length
    · rw [leastK_succ l k h]
      have := lstep_len (leastK l k) (l.getD k default)
      omega
    · have e : leastK l (k + 1) = leastK l k := by unfold leastK; rw [List.take_of_length_le (by omega), List.take_of_length_le (by omega)]
      rw [e]
      omega
/-- The cells of a row of pieces of one's own. -/
theorem OPc_cell {W : World} {B g n cap : Nat} {l : List Pc} (h : OPc W B (.slice (some ⟨g, 0, none⟩) n cap) l) (i : Nat) (hi : i < l.length) : W.cell? ⟨g, i * 3, none⟩ = some (.int .i64 (l.getD i default).f) ∧ W.cell? ⟨g, i * 3 + 1, none⟩ = some (.int .i64 (l.getD i default).t) ∧ W.cell? ⟨g, i * 3 + 2, none⟩ = some (.string (l.getD i default).v) := by
  have hr := (Kd.R_reads' h).2.2
  have hn := (Kd.R_reads' h).1
  obtain ⟨ad, e, hc⟩ := hr.2.2 (by omega)
  injection e with e
  subst e
  obtain ⟨c, h1, ⟨_, _, rfl, rfl, ⟨_, _, rfl, rfl, rfl⟩⟩, h3⟩ := hc i _ (List.getElem?_eq_getElem hi)
  have e2 : l.getD i default = l[i] := by simp [List.getD_eq_getElem?_getD, hi]
  rw [e2]
  have a0 := h3 0 _ rfl
  have a1 := h3 1 _ rfl
  have a2 := h3 2 _ rfl
  rw [add_plain] at a0 a1 a2
  exact ⟨a0, a1, a2⟩
set_option maxRecDepth 100000 in
set_option maxHeartbeats 4000000 in
theorem least_calls (A : Option Addr) (n c : Nat) (l : List Pc) (w : World) (hr : KPc.C w A n l) (hc : n ≤ c) (hn : n ≤ 1000) :
    Calls Try.prog 20 #[.slice A n c] w fun e w' => ∃ v, e = .returned v ∧ OPc w' w.heap.size v (leastL l) ∧ Below w.heap.size w w' := by
  have hq := eqA42
  have HR := Aside0.mk hr
  have HN := Aside0.mk hr.1
  clear hr
  go_enter Try.func20, Try.ntmps20
  go_wp2_with fail
  go_loopw [3, 9] (fun v3 v9 w' => ∃ k : Nat, k ≤ n ∧ v9 = .int .i64 k ∧ Aside0 (OPc w' w.heap.size v3 (leastK l k)) ∧ Aside0 (Below w.heap.size w w')) (fun _ v9 _ => n - (intOf v9).toNat)
  case atStart => exact ⟨0, Nat.zero_le _, rfl, ⟨OPc_nil _ _⟩, ⟨Below.refl _ _⟩⟩
  case round =>
    obtain ⟨k, hk, rfl, HO, HB⟩ := hrel
    by_cases hlt : k < n
    · obtain ⟨ad, rfl, q0, q1, q2⟩ := C_atPc HR.out k hlt
      have p0 := pw_cell_below HB.out q0
      have p1 := pw_cell_below HB.out q1
      have p2 := pw_cell_below HB.out q2
      have hms := leastK_succ l k (by rw [HN.out]; exact hlt)
      have hlen := leastK_len l k
      clear q0 q1 q2
      generalize l.getD k default = q at *
      generalize leastK l k = out at *
      obtain ⟨qf, qt, qv⟩ := q
      have HMS := Aside0.mk hms
      simp only at p0 p1 p2
      have i1 : (k : Int) < (n : Int) := by omega
      have i2 : (0 : Int) ≤ (k : Int) := by omega
      clear hms
      have hal := below_alloc (Below.refl wr.heap.size wr) (pcBox qf qt qv)
      have HOa := Aside0.mk (Kd.R_below HO.out hal)
      have HBa := Aside0.mk (below_step HB.out hal)
      have HXa : Aside0 ((wr.alloc (pcBox qf qt qv)).heap[wr.heap.size]? = some (pcBox qf qt qv)) := ⟨heap_alloc_new wr _⟩
      by_cases hm : out.length = 0
      · obtain rfl : out = [] := List.eq_nil_of_length_eq_zero hm
        obtain ⟨A5, c5, rfl⟩ := Kd.R_slice HO.out
        clear HO HB hal hq
        have hl1 : ([] : List Pc).length ≤ 1000000 := Nat.zero_le _
        go_wp2_with fail
        go_quiet (fail)
        have hbr : Below (wr.alloc (pcBox qf qt qv)).heap.size (wr.alloc (pcBox qf qt qv)) ((wr.alloc (pcBox qf qt qv)).drewN nq) := by repeat (with_reducible first | exact Below.refl _ _ | apply pw_below_drewN)
        have HOn := Aside0.mk (Kd.R_below HOa.out hbr)
        have HBn := Aside0.mk (below_step HBa.out hbr)
        have hX3 := box_keep HXa.out hbr
        clear hbr HOa HBa HXa p0 p1 p2
        generalize (wr.alloc (pcBox qf qt qv)).drewN nq = w7 at *
        obtain ⟨x0, x1, x2⟩ := pc_cells hX3
        clear hX3
        go_wp2_with ((with_reducible refine gate_dst (N := 49) rfl ?_); refine app_pc rfl rfl rfl rfl HOn.out HBn.out.size hl1 ?_; intro v4 w4 HO4 hb4 _)
        go_roundw
        case rel => exact ⟨k + 1, hlt, rfl, ⟨by rw [HMS.out]; unfold lstep; rw [if_neg ?_]; exact HO4; exact fun h => absurd h.1 (Nat.lt_irrefl 0)⟩, ⟨HBn.out.trans hb4⟩⟩
        case measure => simp [intOf]; omega
      · obtain ⟨m, hm'⟩ : ∃ m, out.length = m + 1 := ⟨out.length - 1, by omega⟩
        obtain ⟨g, cap, rfl, hg, hgl, _⟩ := Kd.R_form HO.out (by omega)
        obtain ⟨k0, k1, k2⟩ := OPc_cell HOa.out m (by omega)
        have HM' := Aside0.mk hm'
        rw [hm'] at HO HOa ⊢
        obtain ⟨⟨sf, st, sv⟩, hst⟩ : ∃ s, out.getD m default = s := ⟨_, rfl⟩
        rw [hst] at k0 k1 k2
        simp only at k0 k1 k2
        have HST := Aside0.mk hst
        have hm4 : m ≤ 1000 := by omega
        clear hst hm' hm HO HB hal
        have j1 : (m : Int) < (m : Int) + 1 := by omega
        have j2 : (0 : Int) ≤ (m : Int) := by omega
        have j3 : (m : Int) + 1 - 1 = (m : Int) := by omega
        have j4 : m < m + 1 := by omega
        have j5 : (m : Int) ≤ 1000 := by omega
        by_cases hx : st = qf ∧ sv = qv
        · obtain ⟨rfl, rfl⟩ := hx
          go_wp2_with fail
          go_quiet (fail)
          have hbr : Below (wr.alloc (pcBox st qt sv)).heap.size (wr.alloc (pcBox st qt sv)) ((wr.alloc (pcBox st qt sv)).drewN nq) := by repeat (with_reducible first | exact Below.refl _ _ | apply pw_below_drewN)
          have HOn := Aside0.mk (Kd.R_below HOa.out hbr)
          have HBn := Aside0.mk (below_step HBa.out hbr)
          have hX3 := box_keep HXa.out hbr
          have k0n := pw_cell_below hbr k0
          have k1n := pw_cell_below hbr k1
          have k2n := pw_cell_below hbr k2
          clear hbr HOa HBa HXa p0 p1 p2 k0 k1 k2 hq
          generalize (wr.alloc (pcBox st qt sv)).drewN nq = w7 at *
          obtain ⟨x0, x1, x2⟩ := pc_cells hX3
          clear hX3
          have hcc : ∀ (j : Nat) (u : Value), [Value.int .i64 sf, .int .i64 st, .string sv][j]? = some u → w7.cell? ⟨g, (m : Int).toNat * 3 + j, none⟩ = some u := by
            intro j u hu
            rcases j with _ | _ | _ | j
            · simp at hu
              subst hu
              simpa using k0n
            · simp at hu
              subst hu
              simpa using k1n
            · simp at hu
              subst hu
              simpa using k2n
            · simp at hu
          have HCC := Aside0.mk hcc
          clear hcc
          go_wp2_with ((with_reducible refine gate_ (.store 3 (.tmp 45) (.tmp 42)) rfl ?_); (refine Kd.R_store KPc w.heap.size rfl rfl _ _ _ rfl 42 (m : Int) 1 out ⟨sf, qt, sv⟩ (.int .i64 qt) [.int .i64 qt] [.int .i64 sf, .int .i64 st, .string sv] (fun _ => True) (fun _ => False) rfl rfl rfl rfl rfl (by simp [Value.oneCell']) HOn.out (by omega) (by omega) rfl HCC.out (Nat.le_succ 2) (KPc_M _ _ _ sf qt sv) (fun _ h => h.elim) HBn.out ?_); (intro w9 HO1 hb1 hg1))
          go_roundw
          case rel => exact ⟨k + 1, hlt, rfl, ⟨by rw [HMS.out]; unfold lstep; rw [HM'.out, Nat.add_sub_cancel, HST.out, if_pos ⟨Nat.succ_pos m, rfl, rfl⟩]; exact HO1⟩, ⟨hb1⟩⟩
          case measure => simp [intOf]; omega
        · have hl1 : out.length ≤ 1000000 := by rw [HM'.out]; omega
          have HX := Aside0.mk hx
          by_cases h : st = qf
          · subst h
            have hd : (sv.toList == qv.toList) = false := beq_eq_false_iff_ne.2 fun e => hx ⟨rfl, toList_ne e⟩
            clear hx
            go_wp2_with fail
            go_quiet (fail)
            have hbr : Below (wr.alloc (pcBox st qt qv)).heap.size (wr.alloc (pcBox st qt qv)) ((wr.alloc (pcBox st qt qv)).drewN nq) := by repeat (with_reducible first | exact Below.refl _ _ | apply pw_below_drewN)
            have HOn := Aside0.mk (Kd.R_below HOa.out hbr)
            have HBn := Aside0.mk (below_step HBa.out hbr)
            have hX3 := box_keep HXa.out hbr
            clear hbr HOa HBa HXa p0 p1 p2 k0 k1 k2 hq
            generalize (wr.alloc (pcBox st qt qv)).drewN nq = w7 at *
            obtain ⟨x0, x1, x2⟩ := pc_cells hX3
            clear hX3
            go_wp2_with ((with_reducible refine gate_dst (N := 49) rfl ?_); refine app_pc rfl rfl rfl rfl HOn.out HBn.out.size hl1 ?_; intro v4 w4 HO4 hb4 _)
            go_roundw
            case rel => exact ⟨k + 1, hlt, rfl, ⟨by rw [HMS.out]; unfold lstep; rw [if_neg ?_]; exact HO4; intro h; rw [HM'.out, Nat.add_sub_cancel, HST.out] at h; first | exact HX.out h.2 | exact HX.out ⟨trivial, h.2.2⟩⟩, ⟨HBn.out.trans hb4⟩⟩
            case measure => simp [intOf]; omega
          · have hd : (st == qf) = false := beq_eq_false_iff_ne.2 h
            clear hx h
            go_wp2_with fail
            go_quiet (fail)
            have hbr : Below (wr.alloc (pcBox qf qt qv)).heap.size (wr.alloc (pcBox qf qt qv)) ((wr.alloc (pcBox qf qt qv)).drewN nq) := by repeat (with_reducible first | exact Below.refl _ _ | apply pw_below_drewN)
            have HOn := Aside0.mk (Kd.R_below HOa.out hbr)
            have HBn := Aside0.mk (below_step HBa.out hbr)
            have hX3 := box_keep HXa.out hbr
            clear hbr HOa HBa HXa p0 p1 p2 k0 k1 k2 hq
            generalize (wr.alloc (pcBox qf qt qv)).drewN nq = w7 at *
            obtain ⟨x0, x1, x2⟩ := pc_cells hX3
            clear hX3
            go_wp2_with ((with_reducible refine gate_dst (N := 49) rfl ?_); refine app_pc rfl rfl rfl rfl HOn.out HBn.out.size hl1 ?_; intro v4 w4 HO4 hb4 _)
            go_roundw
            case rel => exact ⟨k + 1, hlt, rfl, ⟨by rw [HMS.out]; unfold lstep; rw [if_neg ?_]; exact HO4; intro h; rw [HM'.out, Nat.add_sub_cancel, HST.out] at h; first | exact HX.out h.2 | exact HX.out ⟨trivial, h.2.2⟩⟩, ⟨HBn.out.trans hb4⟩⟩
            case measure => simp [intOf]; omega
    · obtain rfl : k = n := by omega
      have hE := leastK_all l k (by rw [HN.out]; omega)
      have HD := Aside0.mk hE
      clear hE
      go_wp2_with fail
      go_ret
      exact ⟨_, rfl, by rw [← HD.out]; exact HO.out, HB.out⟩
end Go.Proofs.Ytloachifhaigjaa.A
