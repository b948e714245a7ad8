/- The frames of bytes: check.Frames. -/
import Derived.Test.YtohgmpkehncopaaJItr
namespace Go.Proofs.Ytohgmpkehncopaa.A
open Go Go.RowKit Go.Shelf Go.Proofs.YtohgmpkehncopaaW.PrintWords Go.Proofs.YtohgmpkehncopaaW.PrintLast Go.Proofs.YtohgmpkehncopaaW.PrintMore
attribute [local go_sem] Oper.semAt_some wide_fn wide_depth
set_option linter.unusedVariables false
set_option linter.unusedSimpArgs false

theorem all_calls (A : Option Addr) (n c : Nat) (w : World) :
    Calls Try.prog 26 #[.slice A n c] w fun e w' => e = .returned (.func (.func 30) #[] #[.pointer (some ⟨w.heap.size, 0, none⟩)]) ∧ w.alloc (slB A n c) = w' := by
  go_enter Try.func26, Try.ntmps26
  go_wp2
  go_ret
  exact ⟨rfl, rfl⟩
/-- Slices of bytes of one's own, by their heads. -/
def HeadsO (w : World) (B : Nat) (hs : List (Option Addr × Nat × Nat)) (ll : List (List Int)) : Prop :=
  hs.length = ll.length ∧ ∀ (i : Nat) (h : Option Addr × Nat × Nat) (x : List Int), hs[i]? = some h → ll[i]? = some x → OB w B (.slice h.1 h.2.1 h.2.2) x
theorem HeadsO_nil (w : World) (B : Nat) : HeadsO w B [] [] := ⟨rfl, fun i h x h1 => by simp at h1⟩
theorem HeadsO_move {w w1 : World} {B B1 : Nat} {hs : List (Option Addr × Nat × Nat)} {ll : List (List Int)} (h : HeadsO w B hs ll) (hm : ∀ u x, OB w B u x → OB w1 B1 u x) : HeadsO w1 B1 hs ll := ⟨h.1, fun i a x h1 h2 => hm _ _ (h.2 i a x h1 h2)⟩
theorem HeadsO_add {w : World} {B : Nat} {hs : List (Option Addr × Nat × Nat)} {ll : List (List Int)} {A : Option Addr} {c n : Nat} {x : List Int} (h : HeadsO w B hs ll) (hx : OB w B (.slice A n c) x) : HeadsO w B (hs ++ [(A, n, c)]) (ll ++ [x]) := by
  refine ⟨by simp [h.1], fun i a y h1 h2 => ?_⟩
  rcases Nat.lt_or_ge i hs.length with hi | hi
  · rw [List.getElem?_append_left hi] at h1
    rw [List.getElem?_append_left (by rw [← h.1]; exact hi)] at h2
    exact h.2 i a y h1 h2
  · rw [List.getElem?_append_right hi] at h1
    rw [List.getElem?_append_right (by rw [← h.1]; exact hi), ← h.1] at h2
    have h0 : i - hs.length = 0 := by
      have := (List.getElem?_eq_some_iff.1 h1).1
      simpa using this
    rw [h0] at h1 h2
    simp only [List.getElem?_cons_zero, Option.some.injEq] at h1 h2
    subst h1 h2
    exact hx
theorem HeadsO_heads {w : World} {B : Nat} {hs : List (Option Addr × Nat × Nat)} {ll : List (List Int)} (h : HeadsO w B hs ll) : Heads w hs ll := by
  refine ⟨h.1, fun i a x h1 h2 => ?_⟩
  obtain ⟨A, c, e, hc, hC⟩ := OB_read (h.2 i a x h1 h2)
  injection e with e1 e2 e3
  rw [e1, e2, e3]
  exact ⟨rfl, hc, hC⟩
/-- A row of one's own lies at or beyond its base: what turns below it is nothing to it. -/
theorem SC_off {α : Type} {enc : α → Value} {h1 : ∀ x, (enc x).oneCell' = true} {e : Nat} {W w1 : World} {B : Nat} {ok : Nat → Prop} {u : Value} {xs : List α} {row : Option Nat} (h : (Kd.scalar enc h1).R e W B ok u xs) (hg : W.grownBy w1 row) (hr : ∀ k, row = some k → k < B) : (Kd.scalar enc h1).R e w1 B ok u xs := by
  refine OR_grown h hg ?_
  obtain ⟨h0, inner, ho, _⟩ := h
  cases hu : u.ownBlock with
  | none => exact .inl rfl
  | some k =>
    refine .inr fun e1 => ?_
    have h3 := own_base ho k hu
    have h4 := hr k e1.symm
    omega
/-- What check.Frames has between two rounds. -/
def FrI (w : World) (pre : List (Value × List Int)) (W : World) : Prop :=
  ∃ v hs, W.heap[w.heap.size]? = some (.cells #[v] 32) ∧ W.heap[w.heap.size + 1]? = some (.cells #[.int .i64 (frn (pre.map Prod.snd))] 3) ∧ OR Hd 22 W (w.heap.size + 5) v hs ∧ HeadsO W (w.heap.size + 5) hs (pre.map Prod.snd) ∧ Below w.heap.size w W
theorem FrI_row {w A B : World} {pre : List (Value × List Int)} {row : Option Nat} (h : FrI w pre A) (hg : A.grownBy B row) (hr : ∀ k, row = some k → w.heap.size + 2 ≤ k ∧ k < w.heap.size + 5) : FrI w pre B := by
  obtain ⟨v, hs, h1, h2, h3, h4, h5⟩ := h
  have far : ∀ k, k < w.heap.size + 2 → k < A.heap.size → B.heap[k]? = A.heap[k]? := fun k hk hl => hg.block k hl (fun e => by have := (hr k e.symm).1; omega)
  have hb : ∀ k, row = some k → k < w.heap.size + 5 := fun k e => (hr k e).2
  exact ⟨v, hs, (far _ (by omega) (Array.getElem?_eq_some_iff.1 h1).1).trans h1, (far _ (by omega) (Array.getElem?_eq_some_iff.1 h2).1).trans h2, SC_off h3 hg hb, HeadsO_move h4 (fun u x hu => SC_off hu hg hb), h5.grown hg h5.size (fun k e => by have := (hr k e).1; omega)⟩
theorem app_headIn {l : Nat} {ops : Array Oper} {rest : List Oper} {o : Oper} {a : Act} {Q : Exit → Act → World → Prop} {W : World} {B : Nat} {s x : Operand} (hgd : o.guard = none) (ho : o.op = .call { callee := .builtin .append, args := #[s, x], argTypes := #[32, 32] }) {v : Value} {xs : List (Option Addr × Nat × Nat)} {A : Option Addr} {n c : Nat}
    (hs : a.eval s = v) (hx : a.eval x = .slice (some ⟨W.heap.size, 0, none⟩) 1 1) (HO : OR Hd 22 W B v xs) (hB : B ≤ W.heap.size) (hl : xs.length ≤ 1000000000)
    (h : ∀ v1 w1, OR Hd 22 w1 B v1 (xs ++ [(A, n, c)]) → Below B W w1 → W.grownBy w1 v.ownBlock → wpListIn (Fence.wide.inRound l) 0 Try.prog ops Q rest (a.put o.dst v1) w1) : wpListIn (Fence.wide.inRound l) 0 Try.prog ops Q (o :: rest) a (W.alloc (.cells #[.slice A n c] 22)) :=
  listIn_of_step hgd (by rw [ho]; intro c hc; cases hc) (app_one_step (p := (A, n, c)) (cs := [.slice A n c]) Hd 32 22 (.slice none 0 0) 24 Try.underlying32 infoHd rfl (by decide) (by decide) hgd ho hs hx (fun okp => rfl) HO hB (by show (xs.length + 1) * 24 ≤ _; omega) h)
set_option maxRecDepth 100000 in
set_option maxHeartbeats 4000000 in
theorem frames_calls (A : Option Addr) (n c : Nat) (l : List Int) (w : World) (hr : U8.C w A n l) (hc : n ≤ c) (hby : ∀ x ∈ l, 0 ≤ x ∧ x ≤ 255) (hl : n ≤ 100000) :
    Calls Try.prog 18 #[.slice A n c] w fun e w' => ∃ v hs, e = .returned (.tuple #[v, .int .i64 (frn (frs (n + 1) l))]) ∧ OR Hd 22 w' w.heap.size v hs ∧ HeadsO w' w.heap.size hs (frs (n + 1) l) ∧ Below w.heap.size w w' := by
  have HR := Aside0.mk hr
  have HBY := Aside0.mk hby
  have HN := Aside0.mk hr.1
  clear hr hby
  refine (callsIn_wide (n := 0)).1 ?_
  refine callsIn_of_wp_marks Try.func18 rfl trivial ?_ rfl
  simp only [Try.ntmps18, List.size_toArray, List.length_cons, List.length_nil, Nat.reduceAdd, Nat.reduceSub, Array.replicate_succ, Array.replicate_zero, List.push_toArray, List.append_toArray, List.nil_append, List.cons_append]
  refine wpIn_wide.2 ?_
  go_wp2_with fail
  (with_reducible refine (all_calls A n c _).mono ?_)
  rintro e w3 ⟨rfl, hw3⟩
  go_wp2_with fail
  have hz3 : w3.heap.size = w.heap.size + 3 := by rw [← hw3]; simp only [World.size_alloc]
  have hb3 : Below w.heap.size w w3 := by rw [← hw3]; exact below_alloc (below_alloc (below_alloc (Below.refl _ _) _) _) _
  have hX0 : w3.heap[w.heap.size]? = some (.cells #[.slice none 0 0] 32) := by
    rw [← hw3]
    exact blk_keep (blk_keep (heap_alloc_new w _) (below_alloc (Below.refl _ _) _)) (below_alloc (Below.refl _ _) _)
  have hX1 : w3.heap[w.heap.size + 1]? = some (.cells #[.int .i64 0] 3) := by
    have h := blk_keep (heap_alloc_new (w.alloc (.cells #[.slice none 0 0] 32)) (.cells #[.int .i64 0] 3)) (below_alloc (Below.refl _ _) (slB A n c))
    rw [hw3, World.size_alloc] at h
    exact h
  have hX2 : w3.heap[w.heap.size + 1 + 1]? = some (slB A n c) := by
    have h := heap_alloc_new ((w.alloc (.cells #[.slice none 0 0] 32)).alloc (.cells #[.int .i64 0] 3)) (slB A n c)
    rw [hw3] at h
    simp only [World.size_alloc] at h
    exact h
  have HI0 : Aside0 (FrI w [] w3) := ⟨_, _, hX0, hX1, Kd.R_nil _ _ _ _ _, HeadsO_nil _ _, hb3⟩
  clear hX0 hX1
  refine (wpIn_wide (n := 0)).1 ?_
  refine range_itr (α := Value × List Int) rfl (enters_of Try.func30 (by kernel_rfl) rfl) (all_itr w w3 (w.heap.size + 1 + 1) (w.heap.size + 5) A n c l HR.out hc HBY.out (by omega) hb3 hX2 (by omega))
    (fun X Y h k h1 h2 => h.block k h2 (fun e => by cases e; omega)) (fun h k => ⟨h.1.trans k.1, Nat.le_trans h.2.1 k.2.1, k.2.2.trans h.2.2⟩)
    (fun X Y row hs hg hr => ⟨(Below.refl _ X).grown hg (by omega) (fun k e => by have := (hr k e).1; omega), hg.size, hg.block _ (by omega) (fun e => by have := (hr _ e.symm).1; omega)⟩) (fun x => rfl)
    (FrI w) (fun _ _ _ => False) (fun s X Y row hI hg hr => FrI_row hI hg (fun k e => by have := hr k e; omega)) (fun c s X Y row hI hg hr => hI) (fun s X Y hI hg => FrI_row hI hg (fun k e => by cases e; omega)) (fun c s X Y hI hg => hI)
    (fun pre x s X Y row hI hg hr => ⟨SC_off hI.1 hg (fun k e => by have := hr k e; omega), hI.2⟩) HI0.out
    (fun x => { tmps := #[.slice A n c, undef, .slice none 0 0, .int .i64 0, .pointer (some ⟨w.heap.size, 0, none⟩), .pointer (some ⟨w.heap.size + 1, 0, none⟩), x.1, .slice A n c, .func (.func 30) #[] #[.pointer (some ⟨w.heap.size + 1 + 1, 0, none⟩)], x.1, undef, undef, undef, undef, undef, undef, undef, undef, undef, undef, undef], defers := [] }) ?assign ?body ?done ?stop
  case assign =>
    intro lp x W K hK
    gi_wp2
    exact hK
  case body =>
    rintro lp pre ⟨xv, xb⟩ W hsW hI ⟨hO, hpre⟩
    obtain ⟨v, hs, h1, h2, h3, h4, h5⟩ := hI
    simp only at hO
    have hln : frn ((pre ++ [(xv, xb)]).map Prod.snd) ≤ n := by
      obtain ⟨t, ht⟩ := hpre
      have h6 := frn_frs (n + 1) l HBY.out
      rw [← ht, frn_append] at h6
      have := HN.out
      omega
    have hll := frs_len ((pre ++ [(xv, xb)]).map Prod.snd)
    rw [List.length_map, List.length_append] at hll
    have hfe : frn ((pre ++ [(xv, xb)]).map Prod.snd) = frn (pre.map Prod.snd) + (8 + xb.length) := by rw [List.map_append, frn_append]; show _ + (xb.length + 8 + 0) = _; omega
    have hhl : hs.length = pre.length := by rw [h4.1, List.length_map]
    obtain ⟨m, hm⟩ : ∃ m, xb.length = m := ⟨_, rfl⟩
    rw [hm] at hfe
    obtain ⟨A1, c1, rfl, hc1, _⟩ := OB_readn hO m hm
    have HFE := Aside0.mk hfe
    have H1 := Aside0.mk h1
    have H2 := Aside0.mk h2
    have H3 := Aside0.mk h3
    have H4 := Aside0.mk h4
    have H5 := Aside0.mk h5
    have HO := Aside0.mk hO
    obtain ⟨p1, f1⟩ := one_cell h1
    obtain ⟨p2, f2⟩ := one_cell h2
    rw [hfe] at hln
    simp only [List.length_cons, List.length_nil] at hll
    rw [hfe] at hll
    obtain ⟨q, hq⟩ : ∃ q, frn (pre.map Prod.snd) = q := ⟨_, rfl⟩
    rw [hq] at hln hll p2
    have HQ := Aside0.mk hq
    have hlq : hs.length ≤ 1000000000 := by omega
    clear h1 h2 h3 h4 h5 hO hpre hfe hm hq
    dsimp only
    gi_wp2_with ((with_reducible refine gateIn_dst (N := 13) rfl ?_); refine app_headIn (B := w.heap.size + 5) (v := v) (s := .tmp 10) (x := .tmp 12) (A := A1) (n := m) (c := c1) rfl rfl rfl rfl H3.out (by omega) hlq ?_; intro v1 w1 hO1 hb1 hg1; obtain ⟨k1, hk1⟩ : ∃ k1, (hs ++ [(A1, m, c1)]).length = k1 := ⟨_, rfl⟩; obtain ⟨Av, cv, rfl, hcv, _⟩ := OR_readn hO1 k1 hk1; clear hk1; have hp1 := (hb1.block w.heap.size (by omega)).trans H1.out; have hp2 := (hb1.block (w.heap.size + 1) (by omega)).trans H2.out; obtain ⟨p3, f3⟩ := one_cell hp1; obtain ⟨p4, f4⟩ := one_cell hp2; rw [HQ.out] at p4; have HP1 := Aside0.mk hp1; have HP2 := Aside0.mk hp2; have HO1 := Aside0.mk hO1; have HB1 := Aside0.mk hb1; have HG1 := Aside0.mk hg1; clear hO1 hb1 hg1 hp1 hp2)
    have hw1 : IntKind.i64.wrap ((8 : Int) + m) = 8 + m := IntWalk.i64_in _ (by omega)
    have e8 : ((q : Int) + (8 + (m : Int))) = ((q + (8 + m) : Nat) : Int) := by omega
    have hg4 := grownBy_setCell' w1 w.heap.size (.slice Av k1 cv)
    have hg5 := grownBy_setCell' (w1.setCell ⟨w.heap.size, 0, none⟩ (.slice Av k1 cv)) (w.heap.size + 1) (.int .i64 ((q : Int) + (8 + (m : Int))))
    have hb1' : Below w.heap.size W w1 := HB1.out.mono (by omega)
    have hbW : Below w.heap.size W ((w1.setCell ⟨w.heap.size, 0, none⟩ (.slice Av k1 cv)).setCell ⟨w.heap.size + 1, 0, none⟩ (.int .i64 ((q : Int) + (8 + (m : Int))))) :=
      (hb1'.setCell (p := ⟨w.heap.size, 0, none⟩) (Nat.le_refl _) _).setCell (p := ⟨w.heap.size + 1, 0, none⟩) (Nat.le_succ _) _
    have o4 : ∀ k, some w.heap.size = some k → k < w.heap.size + 5 := fun k e => by cases e; omega
    have o5 : ∀ k, some (w.heap.size + 1) = some k → k < w.heap.size + 5 := fun k e => by cases e; omega
    refine ⟨((Keep2.of_below HB1.out (by omega)).trans (Keep2.set _ _ (.inl (by omega)))).trans (Keep2.set _ _ (.inl (by omega))), ⟨hbW, ?_, ?_⟩, .slice Av k1 cv, hs ++ [(A1, m, c1)], ?_, ?_, ?_, ?_, ?_⟩
    · rw [World.size_setCell, World.size_setCell]
      exact HB1.out.size
    · exact ((Below.heap_setCell _ _ _ _ (fun e => by simp only at e; omega)).trans (Below.heap_setCell _ _ _ _ (fun e => by simp only at e; omega))).trans (HB1.out.block _ (by omega))
    · exact (Below.heap_setCell _ _ _ _ (fun e => by simp only at e; omega)).trans (one_set HP1.out)
    · rw [HFE.out, HQ.out, ← e8]
      exact one_set ((Below.heap_setCell _ _ _ _ (fun e => by simp only at e; omega)).trans HP2.out)
    · exact SC_off (SC_off HO1.out hg4 o4) hg5 o5
    · rw [List.map_append]
      have hne : (5 : Nat) ≠ 22 := by decide
      have hmv : ∀ u x, OB W (w.heap.size + 5) u x → OB w1 (w.heap.size + 5) u x := fun u x hu => OB_grown (v := v) hu HG1.out (own_ne_type H3.out hu (by decide))
      exact HeadsO_add (HeadsO_move H4.out fun u x hu => SC_off (SC_off (hmv u x hu) hg4 o4) hg5 o5) (SC_off (SC_off (hmv _ _ HO.out) hg4 o4) hg5 o5)
    · exact H5.out.trans hbW
  case done =>
    rintro xs W hS ⟨v, hs, h1, h2, h3, h4, h5⟩ hK
    obtain ⟨p1, f1⟩ := one_cell h1
    obtain ⟨p2, f2⟩ := one_cell h2
    rw [hS] at h2 h4 p2
    obtain ⟨k1, hk1⟩ : ∃ k1, hs.length = k1 := ⟨_, rfl⟩
    obtain ⟨Av, cv, rfl, hcv, _⟩ := OR_readn h3 k1 hk1
    obtain ⟨q, hq⟩ : ∃ q, frn (frs (n + 1) l) = q := ⟨_, rfl⟩
    rw [hq] at p2
    have HQ := Aside0.mk hq
    have H3 := Aside0.mk h3
    have H4 := Aside0.mk h4
    have H5 := Aside0.mk h5
    have HK := Aside0.mk hK
    clear h1 h2 h3 h4 h5 hS hK hq hk1
    dsimp only
    go_wp2
    go_quiet (fail)
    go_wp2
    refine ⟨by simp, .inl ⟨_, _, rfl, run_takeDeferred (HK.out : (W.drewN _).heap[w3.heap.size]? = _), ?_⟩⟩
    have hgp := grownBy_putObj' (W.drewN nq) w3.heap.size (.deferred none)
    have hop : ∀ k, some w3.heap.size = some k → k < w.heap.size + 5 := fun k e => by cases e; omega
    have h5 : Below w.heap.size w (W.drewN nq) := pw_below_drewN H5.out _
    refine ⟨_, results_tmp2 rfl _ _ _, _, hs, by rw [HQ.out]; rfl, Kd.R_lower (SC_off (W := W.drewN nq) H3.out hgp hop) (by omega), HeadsO_move (w := W.drewN nq) H4.out (fun u x hu => Kd.R_lower (SC_off hu hgp hop) (by omega)), h5.grown hgp h5.size (fun k e => by cases e; omega)⟩
  case stop =>
    intro c pre W _ h _
    exact h.elim
end Go.Proofs.Ytohgmpkehncopaa.A
