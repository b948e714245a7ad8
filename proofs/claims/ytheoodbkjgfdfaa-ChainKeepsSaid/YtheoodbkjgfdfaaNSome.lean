/- The versions of keys from one on, as long as it is not over. -/
import Derived.Test.YtheoodbkjgfdfaaNUse
import Derived.Test.YtheoodbkjgfdfaaMTwo
namespace Go.Proofs.Ytheoodbkjgfdfaa.A
open R
open Go Go.RowKit Go.Shelf Go.Proofs.YtheoodbkjgfdfaaW.PrintWords Go.Proofs.YtheoodbkjgfdfaaW.PrintLast Go.Proofs.YtheoodbkjgfdfaaW.PrintMore
open Go.Op (bytesLess)
attribute [local go_sem] Oper.semAt_some wide_fn wide_depth
set_option linter.unusedVariables false
set_option linter.unusedSimpArgs false

theorem app_vrsIn {l : Nat} {ops : Array Oper} {rest : List Oper} {o : Oper} {a : Act} {Q : Exit → Act → World → Prop} {W : World} {B : Nat} {s x : Operand} (hgd : o.guard = none) (ho : o.op = .call { callee := .builtin .append, args := #[s, x], argTypes := #[24, 24] }) {v : Value} {xs ys : List Vr} {A : Option Addr} {m c : Nat}
    (hs : a.eval s = v) (hx : a.eval x = .slice A m c) (HO : OVr W B v xs) (HR : KVr.C W A m ys) (hB : B ≤ W.heap.size) (hl : xs.length + m ≤ 1000000)
    (h : ∀ v1 w1, OVr w1 B v1 (xs ++ ys) → Below B W w1 → W.grownBy w1 v.ownBlock → wpListIn (Fence.wide.inRound l) 0 Try.prog ops Q rest (a.put o.dst v1) w1) : wpListIn (Fence.wide.inRound l) 0 Try.prog ops Q (o :: rest) a W := by
  refine listIn_of_step hgd (by rw [ho]; intro c hc; cases hc) (Kd.R_append_rows_step KVr (Rr := KVr.K W) (w0 := W) B (by simp [Region.wanted, hgd]) s x 24 35 (.agg #[.string ByteArray.empty, .int .i64 0, .int .i64 0, .int .i64 0, .int .i64 0, .int .i64 0, .string ByteArray.empty, .bool false]) 80 ho Try.underlying24 infoVr rfl (by decide) (by decide) v xs ys A m c (fun _ => True) (fun _ => False) hs hx HO HR ?_ (fun _ h => h.elim) (fun _ _ => trivial) (Below.refl B W) hB (by omega) (fun v1 w1 h1 h2 h3 _ => h v1 w1 h1 h2 h3))
  intro p cs hK
  rw [KVr_of hK]
  exact KVr_M _ _ _ p
theorem OVr_off {W w1 : World} {B : Nat} {u : Value} {xs : List Vr} {row : Option Nat} (h : OVr W B u xs) (hg : W.grownBy w1 row) (hr : ∀ k, row = some k → k < B) : OVr w1 B u xs := by
  refine OVr_grown h hg ?_
  obtain ⟨h0, inner, ho, _⟩ := h
  cases hu : u.ownBlock with
  | none => exact .inl rfl
  | some k =>
    refine .inr fun e1 => ?_
    have h3 := own_base ho k hu
    have h4 := hr k e1.symm
    omega
abbrev vcB (v : Value) : Obj := .cells #[v] 24
abbrev ovB (v : Value) : Obj := .cells #[v] 73
/-- What some has between two rounds: its row in a cell. -/
def SmI (ov : ByteArray → Bool) (w6 : World) (ga : Nat) (f : M.It → List Vr) (pre : List M.It) (W : World) : Prop :=
  ∃ v, W.heap[ga]? = some (vcB v) ∧ OVr W (w6.heap.size + 2) v (pre.flatMap f) ∧ M.Frm [ga] w6 W ∧ ∀ p ∈ pre, ov p.k = false
/-- .. and where it was over. -/
def SmX (ov : ByteArray → Bool) (w6 : World) (ga : Nat) (f : M.It → List Vr) (c : Code) (xs : List M.It) (W : World) : Prop :=
  ∃ pre x, c = .exit 0 ∧ xs = pre ++ [x] ∧ ov x.k = true ∧ SmI ov w6 ga f pre W
theorem SmI_row {ov : ByteArray → Bool} {w6 A B : World} {ga : Nat} {f : M.It → List Vr} {pre : List M.It} {row : Option Nat} (h : SmI ov w6 ga f pre A) (hga : ga < w6.heap.size) (hg : A.grownBy B row) (hr : ∀ k, row = some k → w6.heap.size ≤ k ∧ k < w6.heap.size + 2) : SmI ov w6 ga f pre B := by
  obtain ⟨v, h1, h2, h3, h4⟩ := h
  have hs := h3.size
  refine ⟨v, (hg.block ga (by omega) (fun e => by have := (hr _ e.symm).1; omega)).trans h1, OVr_off h2 hg (fun k e => (hr k e).2), ⟨hg.os.trans h3.os, hg.tape.trans h3.tape, hg.output.trans h3.output, Nat.le_trans hs hg.size, fun k hk hn => ?_⟩, h4⟩
  exact (hg.block k (by omega) (fun e => by have := (hr _ e.symm).1; omega)).trans (h3.block k hk hn)
theorem feqV_nil (f : Fn) (m b : Array Value) (w : World) : (binOp .eql 99 (.func f m b) .nilFunc).run Try.prog w = .ok (.bool false) w := by
  have hp := Try.underlying99
  have h : ∀ d : Nat, (Op.equalIn (d + 1) 99 (.func f m b) .nilFunc).run Try.prog w = .ok false w := fun d => by
    simp [Op.equalIn, run_underlying hp]
  simp only [binOp]
  simp [Op.equal, Op.maxDepth, h 9999]
/-- The rows told. -/
def smV (ov : ByteArray → Bool) (l : List Vr) (its : List M.It) (fr : ByteArray) : List Vr := ((M.fromS its fr).takeWhile (fun p => !ov p.k)).flatMap (fun p => ofV l p.k)
theorem pre_len {w : World} {B X : Nat} {m : Int} {its : List M.It} {l : List Vr} {pre : List M.It} {x : M.It} {fr : ByteArray} (hk : SrtV l ∧ SrtK (its.map M.It.k) ∧ (∀ p ∈ l, p.k ∈ its.map M.It.k) ∧ (∀ k ∈ its.map M.It.k, ofV l k ≠ [])) (h : IXi w B X m its l) (hOk : (pre ++ [x]) <+: M.fromS its fr) : ((pre ++ [x]).flatMap (fun p => ofV l p.k)).length ≤ l.length := by
  have h1 := flatV _ l hk.1 hk.2.1 hk.2.2.1
  rw [List.flatMap_map] at h1
  obtain ⟨t, ht⟩ := hOk
  have h2 : its = its.take (M.atS its fr) ++ ((pre ++ [x]) ++ t) := by rw [ht]; exact (List.take_append_drop _ _).symm
  have h3 := congrArg List.length h1
  rw [h2, List.flatMap_append, List.flatMap_append, List.length_append, List.length_append] at h3
  omega
theorem fall_calls (key : ByteArray) (W : World) : Calls Try.prog 34 #[.string key] W fun e w' => e = .returned (.bool false) ∧ W = w' := by
  go_enter Try.func34, Try.ntmps34
  go_wp2_with fail
  go_ret
  exact ⟨rfl, rfl⟩
theorem frng_calls (key til : ByteArray) (gt : Nat) (W : World) (h : W.heap[gt]? = some (M.stB til)) : Calls Try.prog 41 #[.string key, .pointer (some ⟨gt, 0, none⟩)] W fun e w' => e = .returned (.bool (!bytesLess key.toList til.toList)) ∧ W = w' := by
  obtain ⟨c0, f0⟩ := one_cell h
  clear h
  go_enter Try.func41, Try.ntmps41
  go_wp2_with fail
  go_ret
  exact ⟨rfl, rfl⟩
set_option maxRecDepth 100000 in
set_option maxHeartbeats 4000000 in
theorem someAll_calls (w : World) (B X : Nat) (m : Int) (its : List M.It) (l : List Vr) (h : IXi w B X m its l) (hl : l.length ≤ 4000) (fr : ByteArray) :
    Calls Try.prog 33 #[.pointer (some ⟨X, 0, none⟩), .string fr, .func (.func 34) #[] #[]] w fun e w' => ∃ v, e = .returned v ∧ OVr w' w.heap.size v (smV (fun _ => false) l its fr) ∧ Below w.heap.size w w' := by
  obtain ⟨ov, hov⟩ : ∃ ov : ByteArray → Bool, (fun _ => false) = ov := ⟨_, rfl⟩
  rw [hov]
  have HOVE := Aside0.mk hov
  clear hov
  have HIX := Aside0.mk h
  have hkl := its_keys h
  obtain ⟨L, xs, hX, hBX, hS, hits, hbl, hrs⟩ := h
  obtain ⟨g, hg⟩ : ∃ g, w.heap.size = g := ⟨_, rfl⟩
  have hXl := box_lt hX
  have cA : ∀ o1 o2, ((w.alloc o1).alloc o2).cell? ⟨X, 0, none⟩ = some (.pointer (some ⟨L, 0, none⟩)) := fun o1 o2 => (ix_cells (box_keep hX (below_alloc (below_alloc (Below.refl w.heap.size w) o1) o2))).1
  have HL := Aside0.mk hl
  have HX := Aside0.mk hX
  have HS := Aside0.mk hS
  have HITS := Aside0.mk hits
  have HRS := Aside0.mk hrs
  have HKL := Aside0.mk hkl
  clear hX hBX hS hits hbl hrs hl hXl hkl
  refine (callsIn_wide (n := 0)).1 ?_
  refine callsIn_of_wp_marks Try.func33 rfl trivial ?_ rfl
  simp only [Try.ntmps33, List.size_toArray, List.length_cons, List.length_nil, Nat.reduceAdd, Nat.reduceSub, Array.replicate_succ, Array.replicate_zero, List.push_toArray, List.append_toArray, List.nil_append, List.cons_append]
  refine wpIn_wide.2 ?_
  go_wp2_with fail
  (with_reducible refine (M.from_calls _ L fr).mono ?_)
  rintro e w6 ⟨rfl, hw6⟩
  simp only [World.size_alloc, hg]
  have hz6 : w6.heap.size = g + 4 := by rw [← hw6]; simp only [World.size_alloc, hg]
  have hbb : Below w.heap.size w w6 := by rw [← hw6]; exact below_alloc (below_alloc (below_alloc (below_alloc (Below.refl _ _) _) _) _) _
  have ha : ∀ (V : World) (o : Obj) (k : Nat), V.heap.size = k → (V.alloc o).heap[k]? = some o := fun V o k e => by rw [← e]; exact heap_alloc_new V o
  have hk : ∀ {V V1 : World} {k : Nat} {o o1 : Obj}, V.heap[k]? = some o → (V.alloc o1).heap[k]? = some o := fun hv => blk_keep hv (below_alloc (Below.refl _ _) _)
  have x0 : w6.heap[g]? = some (ovB (.func (.func 34) #[] #[])) := by rw [← hw6]; exact hk (V1 := w6) (hk (V1 := w6) (hk (V1 := w6) (ha _ _ _ hg)))
  have x1 : w6.heap[g + 1]? = some (vcB (.slice none 0 0)) := by rw [← hw6]; exact hk (V1 := w6) (hk (V1 := w6) (ha _ _ _ (by rw [World.size_alloc, hg])))
  have x2 : w6.heap[g + 1 + 1]? = some (M.lpB L) := by rw [← hw6]; exact hk (V1 := w6) (ha _ _ _ (by rw [World.size_alloc, World.size_alloc, hg]))
  have x3 : w6.heap[g + 1 + 1 + 1]? = some (M.stB fr) := by rw [← hw6]; exact ha _ _ _ (by rw [World.size_alloc, World.size_alloc, World.size_alloc, hg])
  have HB6 := Aside0.mk hbb
  have HX6 := Aside0.mk (show w6.heap[g]? = _ ∧ w6.heap[g + 1]? = _ ∧ w6.heap[g + 1 + 1]? = _ ∧ w6.heap[g + 1 + 1 + 1]? = _ from ⟨x0, x1, x2, x3⟩)
  have HZ6 := Aside0.mk hz6
  have HG := Aside0.mk hg
  have hfe := feqV_nil (.func 67) #[] #[.pointer (some ⟨g + 1 + 1, 0, none⟩), .pointer (some ⟨g + 1 + 1 + 1, 0, none⟩)]
  clear hbb ha hk x0 x1 x2 x3 hw6 hz6 cA
  go_wp2_with fail
  have hS6 : M.SK w6 L xs := ⟨M.SL_below HS.out.1 HB6.out, HS.out.2⟩
  have hlt6 : ∀ k ∈ L :: M.blks xs, k < g := fun k hk => by have := M.SL_lt HS.out.1 k hk; have := HG.out; omega
  have hitr := M.from_itr w6 (g + 1 + 1) L xs fr hS6 HX6.out.2.2.1 HX6.out.2.2.2
  rw [HITS.out] at hitr
  have hga : g + 1 < w6.heap.size := by have := HZ6.out; omega
  have hmem : ∀ k ∈ (g + 1 + 1) :: (g + 1 + 1 + 1) :: L :: M.blks xs, k ≠ g + 1 ∧ k < w6.heap.size := fun k hk => by
    simp only [List.mem_cons] at hk
    have := HZ6.out
    rcases hk with rfl | rfl | hk
    · omega
    · omega
    · have hk' : k ∈ L :: M.blks xs := List.mem_cons.2 hk
      have := hlt6 k hk'
      omega
  have HMEM := Aside0.mk hmem
  have HGA := Aside0.mk hga
  refine (wpIn_wide (n := 0)).1 ?_
  refine range_itr (α := M.It) rfl (enters_of Try.func67 (by kernel_rfl) rfl) hitr
    (fun X Y h k h1 h2 => h.block k h2) (fun h k => h.trans k)
    (fun X Y row hs hg hr => ⟨hg.size, fun k hk => hg.block k (by have := (hmem k hk).2; omega) (fun e => by have := (hr k e.symm).1; have := (hmem k hk).2; omega)⟩) (fun x => rfl)
    (SmI ov w6 (g + 1) (fun p => ofV l p.k)) (SmX ov w6 (g + 1) (fun p => ofV l p.k)) (fun s X Y row hI hg hr => SmI_row hI hga hg (fun k e => hr k e)) (fun c s X Y row hI hg hr => by obtain ⟨pre, x, e1, e2, e3, e4⟩ := hI; exact ⟨pre, x, e1, e2, e3, SmI_row e4 hga hg (fun k e => hr k e)⟩) (fun s X Y hI hb => SmI_row hI hga (grown_below hb none) (fun k e => by cases e)) (fun c s X Y hI hb => by obtain ⟨pre, x, e1, e2, e3, e4⟩ := hI; exact ⟨pre, x, e1, e2, e3, SmI_row e4 hga (grown_below hb none) (fun k e => by cases e)⟩)
    (fun pre x s X Y row hI hg hr => hI) ⟨_, HX6.out.2.1, OVr_nil _ _, M.Frm.refl _ _, fun p hp => nomatch hp⟩
    (a₁ := ?_) ?assign ?body ?done ?stop
  case assign =>
    intro lp x W' K hK
    gi_wp2
    exact hK
  case body =>
    rintro lp pre x W' hsW ⟨v, hv1, hv2, hv3, hv4⟩ hOk
    have hx9 : x ∈ its := by
      obtain ⟨t, ht⟩ := hOk
      have h9 : x ∈ M.fromS its fr := by rw [← ht]; simp
      exact List.mem_of_mem_drop h9
    have hbW : Below w.heap.size w W' := M.Frm.below HB6.out hv3 (fun k hk => by rw [List.mem_singleton] at hk; rw [hk, HG.out]; omega) (Nat.le_refl _)
    obtain ⟨c1, c2, c3⟩ := Kd.R_reads' (HRS.out.2.1 x hx9).1
    rw [← c1] at c3
    have HC := Aside0.mk (Kd.C_below c3 hbW)
    have hlen := pre_len HKL.out HIX.out hOk
    rw [List.flatMap_append, List.length_append, List.flatMap_cons, List.flatMap_nil, List.append_nil, ← c1] at hlen
    have hlen2 : (List.flatMap (fun p => ofV l p.k) pre).length + x.v.n ≤ 1000000 := by have := HL.out; omega
    have hp0 := (hv3.block g (by omega) (by simp)).trans HX6.out.1
    obtain ⟨p0, f0⟩ := one_cell hp0
    obtain ⟨p1, f1⟩ := one_cell hv1
    have HV1 := Aside0.mk hv1
    have HV2 := Aside0.mk hv2
    have HV3 := Aside0.mk hv3
    have HV4 := Aside0.mk hv4
    obtain ⟨b, hbe⟩ : ∃ b, ov x.k = b := ⟨_, rfl⟩
    have HOV : Aside0 (∀ V, Below w.heap.size w V → CallsIn (Fence.wide.inRound lp) 0 Try.prog 34 #[.string x.k] V fun e w' => e = .returned (.bool b) ∧ V = w') := ⟨fun V _ => by rw [← hbe, ← HOVE.out]; exact CallsIn.inRound lp ((callsIn_wide (n := 0)).2 (fall_calls x.k V))⟩
    have HBE := Aside0.mk hbe
    clear hv1 hv2 hv3 hv4 hp0 hlen c1 c2 c3 hx9 hOk hitr hmem hS6 hlt6 hfe hbe
    gi_wp2_with fail
    (with_reducible refine (HOV.out W' hbW).mono ?_)
    rintro e W3 ⟨rfl, rfl⟩
    cases b with
    | true =>
      gi_wp2
      exact ⟨Keep2.refl _ _, pre, x, rfl, rfl, HBE.out, v, HV1.out, HV2.out, HV3.out, HV4.out⟩
    | false =>
      gi_wp2_with ((with_reducible refine gateIn_dst (N := 23) rfl ?_); refine app_vrsIn (B := w6.heap.size + 2) (v := v) (s := .tmp 21) (x := .tmp 22) rfl rfl rfl rfl HV2.out HC.out (by omega) hlen2 ?_; intro v1 w1 hO1 hb1 hg1; obtain ⟨k1, hk1⟩ : ∃ k1, (List.flatMap (fun p => ofV l p.k) pre ++ ofV l x.k).length = k1 := ⟨_, rfl⟩; obtain ⟨Av, cv, rfl, hcv, _⟩ := OVr_readn hO1 k1 hk1; clear hk1; have hp1 := (hb1.block (g + 1) (by omega)).trans HV1.out; obtain ⟨p3, f3⟩ := one_cell hp1; have HP1 := Aside0.mk hp1; have HO1 := Aside0.mk hO1; have HB1 := Aside0.mk hb1; clear hO1 hb1 hg1 hp1)
      have hg4 := grownBy_setCell' w1 (g + 1) (.slice Av k1 cv)
      refine ⟨(Keep2.of_below HB1.out (Nat.le_refl _)).trans (Keep2.set _ _ (.inl (by omega))), ⟨by rw [World.size_setCell]; exact HB1.out.size, fun k hk => ?_⟩, .slice Av k1 cv, one_set HP1.out, ?_, ?_, ?_⟩
      · obtain ⟨a1, a2⟩ := HMEM.out k hk
        exact (Below.heap_setCell _ _ _ k a1).trans (HB1.out.block k (by omega))
      · rw [List.flatMap_append, List.flatMap_cons, List.flatMap_nil, List.append_nil]
        exact OVr_off HO1.out hg4 (fun k e => by cases e; omega)
      · have hfx : M.Frm [g + 1] w6 w1 := ⟨HB1.out.os.trans HV3.out.os, HB1.out.tape.trans HV3.out.tape, HB1.out.output.trans HV3.out.output, Nat.le_trans HV3.out.size HB1.out.size, fun k hk hn => (HB1.out.block k (by omega)).trans (HV3.out.block k hk hn)⟩
        exact M.Frm.set hfx (by simp) _
      · intro p hp
        rcases List.mem_append.1 hp with hp | hp
        · exact HV4.out p hp
        · rw [List.mem_singleton.1 hp]; exact HBE.out
  case done =>
    rintro ys W' hS ⟨v, hv1, hv2, hv3, hv4⟩ hK
    have hR : smV ov l its fr = ys.flatMap (fun p => ofV l p.k) := by
      unfold smV
      rw [← hS]
      have h9 := (tw_app (p := fun p : M.It => !ov p.k) ys [] (fun p hp => by show (!_) = _; rw [hv4 p hp]; rfl) (fun p hp => nomatch hp)).1
      rw [List.append_nil] at h9
      rw [h9]
    obtain ⟨p1, f1⟩ := one_cell hv1
    have HV1 := Aside0.mk hv1
    have HV2 := Aside0.mk hv2
    have hbW : Below w.heap.size w W' := M.Frm.below HB6.out hv3 (fun k hk => by rw [List.mem_singleton] at hk; rw [hk, HG.out]; omega) (Nat.le_refl _)
    have HBW := Aside0.mk hbW
    have HK := Aside0.mk hK
    have HR := Aside0.mk hR
    clear hv1 hv2 hv3 hv4 hK hR hbW hitr hmem hS6 hlt6 hfe
    go_wp2_with fail
    refine ⟨by simp, .inl ⟨_, _, rfl, run_takeDeferred HK.out, ?_⟩⟩
    have hgp := grownBy_putObj' W' w6.heap.size (.deferred none)
    refine ⟨_, results_tmp rfl _ _ _, v, rfl, ?_, HBW.out.grown hgp HBW.out.size (fun k e => by cases e; omega)⟩
    rw [HR.out]
    exact Kd.R_lower (OVr_off HV2.out hgp (fun k e => by cases e; omega)) (by omega)
  case stop =>
    rintro c pre W' hSp ⟨pre', x, rfl, rfl, e3, v, hv1, hv2, hv3, hv4⟩ hK
    have hR : smV ov l its fr = pre'.flatMap (fun p => ofV l p.k) := by
      unfold smV
      obtain ⟨t, ht⟩ := hSp
      rw [← ht, List.append_assoc, List.takeWhile_append_of_pos (fun p hp => by rw [hv4 p hp]; rfl), List.singleton_append, List.takeWhile_cons_of_neg (by rw [e3]; simp), List.append_nil]
    refine wpIn_exit ?_
    obtain ⟨p1, f1⟩ := one_cell hv1
    have HV1 := Aside0.mk hv1
    have HV2 := Aside0.mk hv2
    have hbW : Below w.heap.size w W' := M.Frm.below HB6.out hv3 (fun k hk => by rw [List.mem_singleton] at hk; rw [hk, HG.out]; omega) (Nat.le_refl _)
    have HBW := Aside0.mk hbW
    have HK := Aside0.mk hK
    have HR := Aside0.mk hR
    clear hv1 hv2 hv3 hv4 hK hR hbW hitr hmem hS6 hlt6 hfe
    go_wp2_with fail
    refine ⟨by simp, .inl ⟨_, _, rfl, run_takeDeferred HK.out, ?_⟩⟩
    have hgp := grownBy_putObj' W' w6.heap.size (.deferred none)
    refine ⟨_, results_tmp rfl _ _ _, v, rfl, ?_, HBW.out.grown hgp HBW.out.size (fun k e => by cases e; omega)⟩
    rw [HR.out]
    exact Kd.R_lower (OVr_off HV2.out hgp (fun k e => by cases e; omega)) (by omega)
set_option maxRecDepth 100000 in
set_option maxHeartbeats 4000000 in
theorem someRng_calls (w : World) (B X : Nat) (m : Int) (its : List M.It) (l : List Vr) (h : IXi w B X m its l) (hl : l.length ≤ 4000) (fr : ByteArray) (gt : Nat) (til : ByteArray) (hgt : w.heap[gt]? = some (M.stB til)) :
    Calls Try.prog 33 #[.pointer (some ⟨X, 0, none⟩), .string fr, .func (.func 41) #[] #[.pointer (some ⟨gt, 0, none⟩)]] w fun e w' => ∃ v, e = .returned v ∧ OVr w' w.heap.size v (smV (fun k => !bytesLess k.toList til.toList) l its fr) ∧ Below w.heap.size w w' := by
  obtain ⟨ov, hov⟩ : ∃ ov : ByteArray → Bool, (fun k => !bytesLess k.toList til.toList) = ov := ⟨_, rfl⟩
  rw [hov]
  have HOVE := Aside0.mk hov
  clear hov
  have HIX := Aside0.mk h
  have hkl := its_keys h
  obtain ⟨L, xs, hX, hBX, hS, hits, hbl, hrs⟩ := h
  obtain ⟨g, hg⟩ : ∃ g, w.heap.size = g := ⟨_, rfl⟩
  have hXl := box_lt hX
  have cA : ∀ o1 o2, ((w.alloc o1).alloc o2).cell? ⟨X, 0, none⟩ = some (.pointer (some ⟨L, 0, none⟩)) := fun o1 o2 => (ix_cells (box_keep hX (below_alloc (below_alloc (Below.refl w.heap.size w) o1) o2))).1
  have HGT := Aside0.mk hgt
  have HGL := Aside0.mk (box_lt hgt)
  clear hgt
  have HL := Aside0.mk hl
  have HX := Aside0.mk hX
  have HS := Aside0.mk hS
  have HITS := Aside0.mk hits
  have HRS := Aside0.mk hrs
  have HKL := Aside0.mk hkl
  clear hX hBX hS hits hbl hrs hl hXl hkl
  refine (callsIn_wide (n := 0)).1 ?_
  refine callsIn_of_wp_marks Try.func33 rfl trivial ?_ rfl
  simp only [Try.ntmps33, List.size_toArray, List.length_cons, List.length_nil, Nat.reduceAdd, Nat.reduceSub, Array.replicate_succ, Array.replicate_zero, List.push_toArray, List.append_toArray, List.nil_append, List.cons_append]
  refine wpIn_wide.2 ?_
  go_wp2_with fail
  (with_reducible refine (M.from_calls _ L fr).mono ?_)
  rintro e w6 ⟨rfl, hw6⟩
  simp only [World.size_alloc, hg]
  have hz6 : w6.heap.size = g + 4 := by rw [← hw6]; simp only [World.size_alloc, hg]
  have hbb : Below w.heap.size w w6 := by rw [← hw6]; exact below_alloc (below_alloc (below_alloc (below_alloc (Below.refl _ _) _) _) _) _
  have ha : ∀ (V : World) (o : Obj) (k : Nat), V.heap.size = k → (V.alloc o).heap[k]? = some o := fun V o k e => by rw [← e]; exact heap_alloc_new V o
  have hk : ∀ {V V1 : World} {k : Nat} {o o1 : Obj}, V.heap[k]? = some o → (V.alloc o1).heap[k]? = some o := fun hv => blk_keep hv (below_alloc (Below.refl _ _) _)
  have x0 : w6.heap[g]? = some (ovB (.func (.func 41) #[] #[.pointer (some ⟨gt, 0, none⟩)])) := by rw [← hw6]; exact hk (V1 := w6) (hk (V1 := w6) (hk (V1 := w6) (ha _ _ _ hg)))
  have x1 : w6.heap[g + 1]? = some (vcB (.slice none 0 0)) := by rw [← hw6]; exact hk (V1 := w6) (hk (V1 := w6) (ha _ _ _ (by rw [World.size_alloc, hg])))
  have x2 : w6.heap[g + 1 + 1]? = some (M.lpB L) := by rw [← hw6]; exact hk (V1 := w6) (ha _ _ _ (by rw [World.size_alloc, World.size_alloc, hg]))
  have x3 : w6.heap[g + 1 + 1 + 1]? = some (M.stB fr) := by rw [← hw6]; exact ha _ _ _ (by rw [World.size_alloc, World.size_alloc, World.size_alloc, hg])
  have HB6 := Aside0.mk hbb
  have HX6 := Aside0.mk (show w6.heap[g]? = _ ∧ w6.heap[g + 1]? = _ ∧ w6.heap[g + 1 + 1]? = _ ∧ w6.heap[g + 1 + 1 + 1]? = _ from ⟨x0, x1, x2, x3⟩)
  have HZ6 := Aside0.mk hz6
  have HG := Aside0.mk hg
  have hfe := feqV_nil (.func 67) #[] #[.pointer (some ⟨g + 1 + 1, 0, none⟩), .pointer (some ⟨g + 1 + 1 + 1, 0, none⟩)]
  clear hbb ha hk x0 x1 x2 x3 hw6 hz6 cA
  go_wp2_with fail
  have hS6 : M.SK w6 L xs := ⟨M.SL_below HS.out.1 HB6.out, HS.out.2⟩
  have hlt6 : ∀ k ∈ L :: M.blks xs, k < g := fun k hk => by have := M.SL_lt HS.out.1 k hk; have := HG.out; omega
  have hitr := M.from_itr w6 (g + 1 + 1) L xs fr hS6 HX6.out.2.2.1 HX6.out.2.2.2
  rw [HITS.out] at hitr
  have hga : g + 1 < w6.heap.size := by have := HZ6.out; omega
  have hmem : ∀ k ∈ (g + 1 + 1) :: (g + 1 + 1 + 1) :: L :: M.blks xs, k ≠ g + 1 ∧ k < w6.heap.size := fun k hk => by
    simp only [List.mem_cons] at hk
    have := HZ6.out
    rcases hk with rfl | rfl | hk
    · omega
    · omega
    · have hk' : k ∈ L :: M.blks xs := List.mem_cons.2 hk
      have := hlt6 k hk'
      omega
  have HMEM := Aside0.mk hmem
  have HGA := Aside0.mk hga
  refine (wpIn_wide (n := 0)).1 ?_
  refine range_itr (α := M.It) rfl (enters_of Try.func67 (by kernel_rfl) rfl) hitr
    (fun X Y h k h1 h2 => h.block k h2) (fun h k => h.trans k)
    (fun X Y row hs hg hr => ⟨hg.size, fun k hk => hg.block k (by have := (hmem k hk).2; omega) (fun e => by have := (hr k e.symm).1; have := (hmem k hk).2; omega)⟩) (fun x => rfl)
    (SmI ov w6 (g + 1) (fun p => ofV l p.k)) (SmX ov w6 (g + 1) (fun p => ofV l p.k)) (fun s X Y row hI hg hr => SmI_row hI hga hg (fun k e => hr k e)) (fun c s X Y row hI hg hr => by obtain ⟨pre, x, e1, e2, e3, e4⟩ := hI; exact ⟨pre, x, e1, e2, e3, SmI_row e4 hga hg (fun k e => hr k e)⟩) (fun s X Y hI hb => SmI_row hI hga (grown_below hb none) (fun k e => by cases e)) (fun c s X Y hI hb => by obtain ⟨pre, x, e1, e2, e3, e4⟩ := hI; exact ⟨pre, x, e1, e2, e3, SmI_row e4 hga (grown_below hb none) (fun k e => by cases e)⟩)
    (fun pre x s X Y row hI hg hr => hI) ⟨_, HX6.out.2.1, OVr_nil _ _, M.Frm.refl _ _, fun p hp => nomatch hp⟩
    (a₁ := ?_) ?assign ?body ?done ?stop
  case assign =>
    intro lp x W' K hK
    gi_wp2
    exact hK
  case body =>
    rintro lp pre x W' hsW ⟨v, hv1, hv2, hv3, hv4⟩ hOk
    have hx9 : x ∈ its := by
      obtain ⟨t, ht⟩ := hOk
      have h9 : x ∈ M.fromS its fr := by rw [← ht]; simp
      exact List.mem_of_mem_drop h9
    have hbW : Below w.heap.size w W' := M.Frm.below HB6.out hv3 (fun k hk => by rw [List.mem_singleton] at hk; rw [hk, HG.out]; omega) (Nat.le_refl _)
    obtain ⟨c1, c2, c3⟩ := Kd.R_reads' (HRS.out.2.1 x hx9).1
    rw [← c1] at c3
    have HC := Aside0.mk (Kd.C_below c3 hbW)
    have hlen := pre_len HKL.out HIX.out hOk
    rw [List.flatMap_append, List.length_append, List.flatMap_cons, List.flatMap_nil, List.append_nil, ← c1] at hlen
    have hlen2 : (List.flatMap (fun p => ofV l p.k) pre).length + x.v.n ≤ 1000000 := by have := HL.out; omega
    have hp0 := (hv3.block g (by omega) (by simp)).trans HX6.out.1
    obtain ⟨p0, f0⟩ := one_cell hp0
    obtain ⟨p1, f1⟩ := one_cell hv1
    have HV1 := Aside0.mk hv1
    have HV2 := Aside0.mk hv2
    have HV3 := Aside0.mk hv3
    have HV4 := Aside0.mk hv4
    obtain ⟨b, hbe⟩ : ∃ b, ov x.k = b := ⟨_, rfl⟩
    have HOV : Aside0 (∀ V, Below w.heap.size w V → CallsIn (Fence.wide.inRound lp) 0 Try.prog 41 #[.string x.k, .pointer (some ⟨gt, 0, none⟩)] V fun e w' => e = .returned (.bool b) ∧ V = w') := ⟨fun V hV => by rw [← hbe, ← HOVE.out]; exact CallsIn.inRound lp ((callsIn_wide (n := 0)).2 (frng_calls x.k til gt V ((hV.block gt HGL.out).trans HGT.out)))⟩
    have HBE := Aside0.mk hbe
    clear hv1 hv2 hv3 hv4 hp0 hlen c1 c2 c3 hx9 hOk hitr hmem hS6 hlt6 hfe hbe
    gi_wp2_with fail
    (with_reducible refine (HOV.out W' hbW).mono ?_)
    rintro e W3 ⟨rfl, rfl⟩
    cases b with
    | true =>
      gi_wp2
      exact ⟨Keep2.refl _ _, pre, x, rfl, rfl, HBE.out, v, HV1.out, HV2.out, HV3.out, HV4.out⟩
    | false =>
      gi_wp2_with ((with_reducible refine gateIn_dst (N := 23) rfl ?_); refine app_vrsIn (B := w6.heap.size + 2) (v := v) (s := .tmp 21) (x := .tmp 22) rfl rfl rfl rfl HV2.out HC.out (by omega) hlen2 ?_; intro v1 w1 hO1 hb1 hg1; obtain ⟨k1, hk1⟩ : ∃ k1, (List.flatMap (fun p => ofV l p.k) pre ++ ofV l x.k).length = k1 := ⟨_, rfl⟩; obtain ⟨Av, cv, rfl, hcv, _⟩ := OVr_readn hO1 k1 hk1; clear hk1; have hp1 := (hb1.block (g + 1) (by omega)).trans HV1.out; obtain ⟨p3, f3⟩ := one_cell hp1; have HP1 := Aside0.mk hp1; have HO1 := Aside0.mk hO1; have HB1 := Aside0.mk hb1; clear hO1 hb1 hg1 hp1)
      have hg4 := grownBy_setCell' w1 (g + 1) (.slice Av k1 cv)
      refine ⟨(Keep2.of_below HB1.out (Nat.le_refl _)).trans (Keep2.set _ _ (.inl (by omega))), ⟨by rw [World.size_setCell]; exact HB1.out.size, fun k hk => ?_⟩, .slice Av k1 cv, one_set HP1.out, ?_, ?_, ?_⟩
      · obtain ⟨a1, a2⟩ := HMEM.out k hk
        exact (Below.heap_setCell _ _ _ k a1).trans (HB1.out.block k (by omega))
      · rw [List.flatMap_append, List.flatMap_cons, List.flatMap_nil, List.append_nil]
        exact OVr_off HO1.out hg4 (fun k e => by cases e; omega)
      · have hfx : M.Frm [g + 1] w6 w1 := ⟨HB1.out.os.trans HV3.out.os, HB1.out.tape.trans HV3.out.tape, HB1.out.output.trans HV3.out.output, Nat.le_trans HV3.out.size HB1.out.size, fun k hk hn => (HB1.out.block k (by omega)).trans (HV3.out.block k hk hn)⟩
        exact M.Frm.set hfx (by simp) _
      · intro p hp
        rcases List.mem_append.1 hp with hp | hp
        · exact HV4.out p hp
        · rw [List.mem_singleton.1 hp]; exact HBE.out
  case done =>
    rintro ys W' hS ⟨v, hv1, hv2, hv3, hv4⟩ hK
    have hR : smV ov l its fr = ys.flatMap (fun p => ofV l p.k) := by
      unfold smV
      rw [← hS]
      have h9 := (tw_app (p := fun p : M.It => !ov p.k) ys [] (fun p hp => by show (!_) = _; rw [hv4 p hp]; rfl) (fun p hp => nomatch hp)).1
      rw [List.append_nil] at h9
      rw [h9]
    obtain ⟨p1, f1⟩ := one_cell hv1
    have HV1 := Aside0.mk hv1
    have HV2 := Aside0.mk hv2
    have hbW : Below w.heap.size w W' := M.Frm.below HB6.out hv3 (fun k hk => by rw [List.mem_singleton] at hk; rw [hk, HG.out]; omega) (Nat.le_refl _)
    have HBW := Aside0.mk hbW
    have HK := Aside0.mk hK
    have HR := Aside0.mk hR
    clear hv1 hv2 hv3 hv4 hK hR hbW hitr hmem hS6 hlt6 hfe
    go_wp2_with fail
    refine ⟨by simp, .inl ⟨_, _, rfl, run_takeDeferred HK.out, ?_⟩⟩
    have hgp := grownBy_putObj' W' w6.heap.size (.deferred none)
    refine ⟨_, results_tmp rfl _ _ _, v, rfl, ?_, HBW.out.grown hgp HBW.out.size (fun k e => by cases e; omega)⟩
    rw [HR.out]
    exact Kd.R_lower (OVr_off HV2.out hgp (fun k e => by cases e; omega)) (by omega)
  case stop =>
    rintro c pre W' hSp ⟨pre', x, rfl, rfl, e3, v, hv1, hv2, hv3, hv4⟩ hK
    have hR : smV ov l its fr = pre'.flatMap (fun p => ofV l p.k) := by
      unfold smV
      obtain ⟨t, ht⟩ := hSp
      rw [← ht, List.append_assoc, List.takeWhile_append_of_pos (fun p hp => by rw [hv4 p hp]; rfl), List.singleton_append, List.takeWhile_cons_of_neg (by rw [e3]; simp), List.append_nil]
    refine wpIn_exit ?_
    obtain ⟨p1, f1⟩ := one_cell hv1
    have HV1 := Aside0.mk hv1
    have HV2 := Aside0.mk hv2
    have hbW : Below w.heap.size w W' := M.Frm.below HB6.out hv3 (fun k hk => by rw [List.mem_singleton] at hk; rw [hk, HG.out]; omega) (Nat.le_refl _)
    have HBW := Aside0.mk hbW
    have HK := Aside0.mk hK
    have HR := Aside0.mk hR
    clear hv1 hv2 hv3 hv4 hK hR hbW hitr hmem hS6 hlt6 hfe
    go_wp2_with fail
    refine ⟨by simp, .inl ⟨_, _, rfl, run_takeDeferred HK.out, ?_⟩⟩
    have hgp := grownBy_putObj' W' w6.heap.size (.deferred none)
    refine ⟨_, results_tmp rfl _ _ _, v, rfl, ?_, HBW.out.grown hgp HBW.out.size (fun k e => by cases e; omega)⟩
    rw [HR.out]
    exact Kd.R_lower (OVr_off HV2.out hgp (fun k e => by cases e; omega)) (by omega)
/-- All rows. -/
theorem xall_calls (w : World) (B X : Nat) (m : Int) (its : List M.It) (l : List Vr) (h : IXi w B X m its l) (hl : l.length ≤ 4000) :
    Calls Try.prog 12 #[.pointer (some ⟨X, 0, none⟩)] w fun e w' => ∃ v, e = .returned v ∧ OVr w' w.heap.size v l ∧ Below w.heap.size w w' := by
  have hc := someAll_calls w B X m its l h hl ⟨#[]⟩
  have e : smV (fun _ => false) l its ⟨#[]⟩ = l := by
    obtain ⟨h1, h2, h3, h4⟩ := its_keys h
    have h5 := flatV _ l h1 h2 h3
    rw [List.flatMap_map] at h5
    have ha : M.atS its ⟨#[]⟩ = 0 := by
      cases its with
      | nil => rfl
      | cons p t =>
        unfold M.atS
        rw [if_neg]
        have e0 : (⟨#[]⟩ : ByteArray).toList = [] := by
          unfold ByteArray.toList
          unfold ByteArray.toList.loop
          rfl
        show ¬ bytesLess p.k.toList (⟨#[]⟩ : ByteArray).toList = true
        rw [e0]
        cases p.k.toList <;> simp [bytesLess]
    have h6 : M.fromS its ⟨#[]⟩ = its := by
      unfold M.fromS
      rw [ha]
      rfl
    unfold smV
    rw [h6]
    have h9 := (tw_app (p := fun p : M.It => !((fun _ => false : ByteArray → Bool) p.k)) its [] (fun p hp => rfl) (fun p hp => nomatch hp)).1
    rw [List.append_nil] at h9
    rw [h9]
    exact h5
  rw [e] at hc
  have HC := Aside0.mk hc
  clear hc h e
  go_enter Try.func12, Try.ntmps12
  go_wp2_with fail
  (with_reducible refine HC.out.mono ?_)
  rintro e w1 ⟨v, rfl, hO, hb⟩
  have HO := Aside0.mk (show _ ∧ _ from ⟨hO, hb⟩)
  clear hO hb
  go_wp2_with fail
  go_ret
  exact ⟨_, rfl, HO.out.1, HO.out.2⟩
theorem tw_filter (til : ByteArray) : ∀ l : List M.It, l.Pairwise (fun a b => M.ltS a.k b.k = true) → l.takeWhile (fun p => bytesLess p.k.toList til.toList) = l.filter (fun p => bytesLess p.k.toList til.toList)
  | [], _ => rfl
  | p :: l, h => by
    obtain ⟨h1, h2⟩ := List.pairwise_cons.1 h
    rw [List.takeWhile_cons, List.filter_cons]
    by_cases hb : bytesLess p.k.toList til.toList = true
    · rw [if_pos hb, if_pos hb, tw_filter til l h2]
    · rw [if_neg hb, if_neg hb, List.filter_eq_nil_iff.2]
      intro q hq hc
      exact hb (M.ltS_trans (h1 q hq) hc)
theorem smV_range {w : World} {B X : Nat} {m : Int} {its : List M.It} {l : List Vr} (h : IXi w B X m its l) (fr til : ByteArray) : smV (fun k => !bytesLess k.toList til.toList) l its fr = rangeV l fr til := by
  obtain ⟨h1, h2, h3, h4⟩ := its_keys h
  have hs : M.Srt its := by
    obtain ⟨L, xs, _, _, a3, a4, _⟩ := h
    have := sk_srt a3
    rwa [a4] at this
  rw [range_flat h1 h2 h3 fr til, List.filter_map, List.flatMap_map]
  unfold smV M.fromS
  have e1 : (its.drop (M.atS its fr)).takeWhile (fun p => !!bytesLess p.k.toList til.toList) = (its.drop (M.atS its fr)).filter (fun p => bytesLess p.k.toList til.toList) := by
    have h9 := tw_filter til (its.drop (M.atS its fr)) (List.Pairwise.sublist (List.drop_sublist _ _) hs.1)
    rw [← h9]
    congr 1
    funext p
    rw [Bool.not_not]
  rw [e1]
  have e2 : its.filter ((fun k : ByteArray => !bytesLess k.toList fr.toList && bytesLess k.toList til.toList) ∘ M.It.k) = (its.drop (M.atS its fr)).filter (fun p => bytesLess p.k.toList til.toList) := by
    conv => lhs; rw [← List.take_append_drop (M.atS its fr) its]
    rw [List.filter_append, List.filter_eq_nil_iff.2, List.nil_append]
    · refine List.filter_congr fun p hp => ?_
      obtain ⟨i, hi, rfl⟩ := List.mem_iff_getElem.1 hp
      rw [List.length_drop] at hi
      have h9 := M.srt_ge hs fr (M.atS its fr + i) (by omega) (by omega)
      rw [List.getD_eq_getElem?_getD, List.getElem?_eq_getElem (by omega)] at h9
      rw [List.getElem_drop]
      have h8 : bytesLess (its[M.atS its fr + i]'(by omega)).k.toList fr.toList = false := h9
      show (!bytesLess _ _ && _) = _
      rw [h8]
      rfl
    · intro p hp hc
      have h9 : bytesLess p.k.toList fr.toList = true := M.take_lt p hp
      simp only [Function.comp, h9] at hc
      simp at hc
  rw [e2]
/-- The rows of the keys from one on and ahead of another. -/
theorem xrange_calls (w : World) (B X : Nat) (m : Int) (its : List M.It) (l : List Vr) (h : IXi w B X m its l) (hl : l.length ≤ 4000) (fr til : ByteArray) :
    Calls Try.prog 17 #[.pointer (some ⟨X, 0, none⟩), .string fr, .string til] w fun e w' => ∃ v, e = .returned v ∧ OVr w' w.heap.size v (rangeV l fr til) ∧ Below w.heap.size w w' := by
  obtain ⟨W, hW⟩ : ∃ W, w.alloc (M.stB til) = W := ⟨_, rfl⟩
  obtain ⟨g, hg⟩ : ∃ g, w.heap.size = g := ⟨_, rfl⟩
  have hb : Below w.heap.size w W := by rw [← hW]; exact below_alloc (Below.refl _ _) _
  have hz : W.heap[g]? = some (M.stB til) := by rw [← hW, ← hg]; exact blk_new w _
  have hc := someRng_calls W B X m its l (IXi_below h hb) hl fr g til hz
  rw [smV_range h] at hc
  have HC := Aside0.mk hc
  have HB := Aside0.mk hb
  have HG := Aside0.mk hg
  clear hc h hz hb
  go_enter Try.func17, Try.ntmps17
  go_wp2_with fail
  (with_reducible refine HC.out.mono ?_)
  rintro e w1 ⟨v, rfl, hO, hb⟩
  have HO := Aside0.mk (show _ ∧ _ from ⟨Kd.R_lower hO HB.out.size, below_step HB.out hb⟩)
  clear hO hb
  go_wp2_with fail
  subst hg
  go_ret
  exact ⟨_, rfl, HO.out.1, HO.out.2⟩
end Go.Proofs.Ytheoodbkjgfdfaa.A
