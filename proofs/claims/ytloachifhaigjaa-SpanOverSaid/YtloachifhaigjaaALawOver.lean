/- SpanOver: pieces with one over them, and without a span, are the document's. -/
import Derived.Test.YtloachifhaigjaaAOver
import Derived.Test.YtloachifhaigjaaARLeast
import Derived.Test.YtloachifhaigjaaALawTaken
import Derived.Deep.RegionHeld
namespace Go.Proofs.Ytloachifhaigjaa.A
open Go.RowKit Go.Proofs.YtloachifhaigjaaW.PrintWords Go.Proofs.YtloachifhaigjaaW.PrintLast Go.Proofs.YtloachifhaigjaaW.PrintMore
set_option linter.unusedVariables false
set_option linter.unusedSimpArgs false

theorem same2_calls (u v : Value) (l : List Pc) (w : World) (HO : Aside0 (OPc w 0 u l)) (HO' : Aside0 (OPc w 0 v l)) : Calls Try.prog 21 #[u, v] w fun e w' => e = .returned (.bool true) ∧ Below w.heap.size w w' := by
  obtain ⟨A, c, rfl, hc, hr⟩ := OPc_readn HO.out _ rfl
  obtain ⟨A', c', rfl, hc', hr'⟩ := OPc_readn HO'.out _ rfl
  exact same_calls A A' l.length c c' l w hr hr' hc hc'
theorem overA_calls (A : Option Addr) (n c : Nat) (l : List Pc) (p : Pc) (w : World) (HC : Aside0 (KPc.C w A n l)) (hc : n ≤ c) (hn : n ≤ 1000) :
    Calls Try.prog 27 #[.slice A n c, .agg #[.int .i64 p.f, .int .i64 p.t, .string p.v]] w fun e w' => ∃ v', e = .returned v' ∧ Aside0 (OPc w' 0 v' (overL l p)) ∧ Below w.heap.size w w' := by
  refine (overP_calls A n c l p w HC.out hc hn).mono ?_
  rintro e w' ⟨v', rfl, h1, h2⟩
  exact ⟨v', rfl, ⟨Kd.R_lower h1 (Nat.zero_le _)⟩, h2⟩
theorem roverA_calls (A : Option Addr) (n c : Nat) (l : List Pc) (p : Pc) (w : World) (HC : Aside0 (OPc w 0 (.slice A n c) l)) (hn : l.length ≤ 1000) :
    Calls Try.prog 28 #[.slice A n c, .agg #[.int .i64 p.f, .int .i64 p.t, .string p.v]] w fun e w' => ∃ v', e = .returned v' ∧ Aside0 (OPc w' 0 v' (overL l p)) ∧ Below w.heap.size w w' := by
  refine (overL_calls _ l p w 0 HC.out (Nat.zero_le _) hn).mono ?_
  rintro e w' ⟨v', rfl, h1, h2⟩
  exact ⟨v', rfl, ⟨h1⟩, h2⟩
theorem withoutA_calls (A : Option Addr) (n c : Nat) (l : List Pc) (a b : Int) (w : World) (HC : Aside0 (KPc.C w A n l)) (hc : n ≤ c) (hn : n ≤ 1000) :
    Calls Try.prog 25 #[.slice A n c, .agg #[.int .i64 a, .int .i64 b]] w fun e w' => ∃ v', e = .returned v' ∧ Aside0 (OPc w' 0 v' (withoutL l ⟨a, b⟩)) ∧ Below w.heap.size w w' := by
  refine (withoutL_calls A n c l a b w HC.out hc hn).mono ?_
  rintro e w' ⟨v', rfl, h1, h2⟩
  exact ⟨v', rfl, ⟨Kd.R_lower h1 (Nat.zero_le _)⟩, h2⟩
set_option maxRecDepth 100000 in
theorem rwithout0_calls (u : Value) (a b : Int) (w : World) (hm : Sp.may ⟨a, b⟩ = false) :
    Calls Try.prog 29 #[u, .agg #[.int .i64 a, .int .i64 b]] w fun e w' => e = .returned u ∧ Below w.heap.size w w' := by
  have HM := Aside0.mk hm
  clear hm
  go_enter Try.func29, Try.ntmps29
  go_wp2_with fail
  (with_reducible refine (rmay_calls _ _ _).mono ?_)
  rw [HM.out]
  rintro e w1 ⟨rfl, rfl⟩
  have HB1 := Aside0.mk (below_alloc (below_alloc (Below.refl _ w) (spBox a b)) (spBox a b))
  go_wp2_with fail
  go_ret
  exact ⟨rfl, HB1.out⟩
theorem rwithoutA_calls (A : Option Addr) (n c : Nat) (l : List Pc) (a b : Int) (w : World) (HC : Aside0 (OPc w 0 (.slice A n c) l)) (hn : l.length ≤ 1000) :
    Calls Try.prog 29 #[.slice A n c, .agg #[.int .i64 a, .int .i64 b]] w fun e w' => ∃ v', e = .returned v' ∧ Aside0 (OPc w' 0 v' (withoutL l ⟨a, b⟩)) ∧ Below w.heap.size w w' := by
  cases hm : Sp.may ⟨a, b⟩ with
  | true =>
    rw [without_may hm]
    obtain ⟨A', c', e, hc, hr⟩ := OPc_readn HC.out _ rfl
    injection e with e1 e2 e3
    subst e1 e2 e3
    refine (rwithout_calls A l.length c l a b w hr hc hn hm).mono ?_
    rintro e w' ⟨v', rfl, h1, h2⟩
    exact ⟨v', rfl, ⟨Kd.R_lower h1 (Nat.zero_le _)⟩, h2⟩
  | false =>
    have e : withoutL l ⟨a, b⟩ = l := if_neg (by simp [hm])
    rw [e]
    refine (rwithout0_calls _ a b w hm).mono ?_
    rintro e w' ⟨rfl, h2⟩
    exact ⟨_, rfl, ⟨Kd.R_below HC.out h2⟩, h2⟩
theorem OPc_C {w : World} {A : Option Addr} {n c : Nat} {l : List Pc} (h : OPc w 0 (.slice A n c) l) : KPc.C w A n l := by
  have h1 := (Kd.R_reads' h).2.2
  rw [← (Kd.R_reads' h).1] at h1
  exact h1
theorem OR_set {α : Type} {d : Kd α} (hM : FlatK d) {e : Nat} {w : World} {B : Nat} {v : Value} {xs : List α} (h : OR d e w B v xs) {p : Addr} (hp : p.block < B) (u : Value) : OR d e (w.setCell p u) B v xs := by
  obtain ⟨h0, inner, ho, hr⟩ := h
  refine ⟨h0, inner, own_setCell ho (fun e => ?_) u, hr.imp_ fun p c h => hM _ _ _ _ _ _ _ _ h⟩
  have := own_base ho _ e.symm
  omega
theorem pc_set {w : World} {g : Nat} {f t : Int} {v : ByteArray} (h : w.heap[g]? = some (pcBox f t v)) (f' t' : Int) (v' : ByteArray) : (((w.setCell ⟨g, 0, none⟩ (.int .i64 f')).setCell ⟨g, 1, none⟩ (.int .i64 t')).setCell ⟨g, 2, none⟩ (.string v')).heap[g]? = some (pcBox f' t' v') :=
  blk_put (blk_put (blk_put h 0 _ rfl) 1 _ rfl) 2 _ rfl
set_option maxRecDepth 100000 in
set_option maxHeartbeats 4000000 in
theorem lawover_calls (w : World) (A : Option Addr) (c : Nat) (l : List Pc) (hr : KPc.C w A l.length l) (hc : l.length ≤ c) (hok : ∀ p ∈ l, p.fits) (c1 : Array Value) (y1 : Pc) (h1 : KPc.K w y1 (Value.agg c1).cells.toList) (g1 : y1.fits) :
    Calls Try.prog 8 #[.slice A l.length c, .agg c1] w fun e w' => e = .returned (.bool true) ∧ Below w.heap.size w w' := by
  obtain ⟨f, t, v⟩ := y1
  have e1 : c1 = #[.int .i64 f, .int .i64 t, .string v] := by
    obtain ⟨_, _, h1, rfl, ⟨_, _, rfl, rfl, rfl⟩⟩ := h1
    have : c1.toList = [.int .i64 f, .int .i64 t, .string v] := by simpa [Value.cells] using h1
    exact Array.ext' this
  subst e1
  have hv : v.size ≤ 9223372036854775807 := g1
  clear h1 g1
  have HR := Aside0.mk hr
  have HOK : Aside0 (∀ p ∈ l, p.v.size ≤ 9223372036854775807) := ⟨fun p hp => hok p hp⟩
  obtain ⟨n, hn⟩ : ∃ n, l.length = n := ⟨_, rfl⟩
  rw [hn] at hc HR ⊢
  clear hr hok hn
  go_enter Try.func8, Try.ntmps8
  go_wp2_with fail
  have HB0 := Aside0.mk (below_alloc (Below.refl _ w) (pcBox f t v))
  have HX0 : Aside0 ((w.alloc (pcBox f t v)).heap[w.heap.size]? = some (pcBox f t v)) := ⟨heap_alloc_new w _⟩
  (with_reducible refine (made_calls A n c l _ (Kd.C_below HR.out HB0.out) hc HOK.out).mono ?_)
  rintro e w1 ⟨v1, rfl, HO1, hl1, hb1⟩
  generalize madeL l = own at *
  obtain ⟨m, hm⟩ : ∃ m, own.length = m := ⟨_, rfl⟩
  rw [hm] at hl1
  obtain ⟨A1, c1, rfl, hc1, _⟩ := OPc_readn HO1 m hm
  have HO := Aside0.mk HO1
  have HX1 := Aside0.mk (box_keep HX0.out hb1)
  have HB1 := Aside0.mk (below_step HB0.out hb1)
  have HM := Aside0.mk hm
  obtain ⟨x0, x1, x2⟩ := pc_cells HX1.out
  clear HO1 hb1 hm HX0 HB0
  go_wp2_with fail
  (with_reducible refine (cut_calls f t v _ hv).mono ?_)
  rintro e w2 ⟨rfl, hb2⟩
  have HX2 := Aside0.mk (box_keep HX1.out hb2)
  have HB2 := Aside0.mk (below_step HB1.out hb2)
  have HO2 := Aside0.mk (Kd.R_below HO.out hb2)
  obtain ⟨x0, x1, x2⟩ := pc_cells HX2.out
  have hf2 : ∀ i, w2.frozen? ⟨w.heap.size, i, none⟩ = false := fun i => blk_frozen HX2.out i
  have hg2 := blk_lt HX2.out
  clear hb2 HX1 HB1 HO
  generalize cutP ⟨f, t, v⟩ = q at *
  obtain ⟨qf, qt, qv⟩ := q
  go_wp2_with fail
  have HX3 := Aside0.mk (pc_set HX2.out qf qt qv)
  have HO3 : Aside0 (OPc (((w2.setCell ⟨w.heap.size, 0, none⟩ (.int .i64 qf)).setCell ⟨w.heap.size, 1, none⟩ (.int .i64 qt)).setCell ⟨w.heap.size, 2, none⟩ (.string qv)) 0 (.slice A1 m c1) own) :=
    ⟨Kd.R_lower (OR_set flatPc (OR_set flatPc (OR_set flatPc HO2.out (by rw [World.size_alloc]; exact Nat.lt_succ_self _) _) (by rw [World.size_alloc]; exact Nat.lt_succ_self _) _) (by rw [World.size_alloc]; exact Nat.lt_succ_self _) _) (Nat.zero_le _)⟩
  have HB3 := Aside0.mk (below_set (below_set (below_set HB2.out (Nat.le_refl _) (j := 0) (v := .int .i64 qf)) (Nat.le_refl _) (j := 1) (v := .int .i64 qt)) (Nat.le_refl _) (j := 2) (v := .string qv))
  clear x0 x1 x2 hf2 hg2 HX2 HO2 HB2
  generalize (((w2.setCell ⟨w.heap.size, 0, none⟩ (.int .i64 qf)).setCell ⟨w.heap.size, 1, none⟩ (.int .i64 qt)).setCell ⟨w.heap.size, 2, none⟩ (.string qv)) = w3 at *
  obtain ⟨x0, x1, x2⟩ := pc_cells HX3.out
  have HB4 := below_drew1 HB3.out
  have HX4 : Aside0 (w3.drew.heap[w.heap.size]? = some (pcBox qf qt qv)) := HX3
  have HO4 : Aside0 (OPc w3.drew 0 (.slice A1 m c1) own) := ⟨Kd.R_drew HO3.out⟩
  clear HB3 HX3 HO3
  go_region_held (fun w' => w'.cell? ⟨w.heap.size, 0, none⟩ = some (.int .i64 qf) ∧ w'.cell? ⟨w.heap.size, 1, none⟩ = some (.int .i64 qt) ∧ w'.cell? ⟨w.heap.size, 2, none⟩ = some (.string qv) ∧ Aside0 (w'.heap[w.heap.size]? = some (pcBox qf qt qv)) ∧ Aside0 (OPc w' 0 (.slice A1 m c1) own) ∧ Below w.heap.size w w')
    (first
      | (go_split_ands; exact ⟨by assumption, by assumption, by assumption, by assumption, by assumption, by assumption⟩)
      | (go_split_ands; have hx : Aside0 (_ = some (pcBox qf qt qv)) := ⟨box_keep (Aside0.out (by assumption)) hb⟩; have hy := pc_cells hx.out; exact ⟨hy.1, hy.2.1, hy.2.2, hx, ⟨Kd.R_below (Aside0.out (by assumption)) hb⟩, below_step (by assumption) hb⟩))
    (first
      | ((go_at_call 27); (with_reducible refine (overA_calls A1 m c1 own ⟨qf, qt, qv⟩ _ ⟨OPc_C (Aside0.out (by go_split_ands; assumption))⟩ hc1 (by omega)).mono ?_); rintro e w9 ⟨v9, rfl, HO9, hb⟩)
      | ((go_at_call 28); (with_reducible refine (roverA_calls A1 m c1 own ⟨qf, qt, qv⟩ _ (by go_split_ands; assumption) (by rw [HM.out]; omega)).mono ?_); rintro e w10 ⟨v10, rfl, HO10, hb⟩; have HO9 := Aside0.mk (Kd.R_below HO9.out hb))
      | ((go_at_call 21); (with_reducible refine (same2_calls _ _ (overL own ⟨qf, qt, qv⟩) _ HO9 HO10).mono ?_); rintro e w11 ⟨rfl, hb⟩))
  rename_i hS
  obtain ⟨_, _, _, HX5, HO5, hb5⟩ := hS
  have HB5 := Aside0.mk hb5
  clear HB4 HX4 HO4 HO9 HO10 hb hb5 x0 x1 x2
  go_wp2_with fail
  obtain ⟨x0, x1, x2⟩ := pc_cells HX5.out
  have HB6 := below_drew1 HB5.out
  have HX6 : Aside0 (w11.drew.heap[w.heap.size]? = some (pcBox qf qt qv)) := HX5
  have HO6 : Aside0 (OPc w11.drew 0 (.slice A1 m c1) own) := ⟨Kd.R_drew HO5.out⟩
  clear HB5 HX5 HO5
  go_region_held (fun w' => w'.cell? ⟨w.heap.size, 0, none⟩ = some (.int .i64 qf) ∧ w'.cell? ⟨w.heap.size, 1, none⟩ = some (.int .i64 qt) ∧ w'.cell? ⟨w.heap.size, 2, none⟩ = some (.string qv) ∧ Aside0 (w'.heap[w.heap.size]? = some (pcBox qf qt qv)) ∧ Aside0 (OPc w' 0 (.slice A1 m c1) own) ∧ Below w.heap.size w w')
    (first
      | (go_split_ands; exact ⟨by assumption, by assumption, by assumption, by assumption, by assumption, by assumption⟩)
      | (go_split_ands; have hx : Aside0 (_ = some (pcBox qf qt qv)) := ⟨box_keep (Aside0.out (by assumption)) hb⟩; have hy := pc_cells hx.out; exact ⟨hy.1, hy.2.1, hy.2.2, hx, ⟨Kd.R_below (Aside0.out (by assumption)) hb⟩, below_step (by assumption) hb⟩))
    (first
      | ((go_at_call 25); (with_reducible refine (withoutA_calls A1 m c1 own qf qt _ ⟨OPc_C (Aside0.out (by go_split_ands; assumption))⟩ hc1 (by omega)).mono ?_); rintro e w9 ⟨v9, rfl, HO9, hb⟩)
      | ((go_at_call 29); (with_reducible refine (rwithoutA_calls A1 m c1 own qf qt _ (by go_split_ands; assumption) (by rw [HM.out]; omega)).mono ?_); rintro e w10 ⟨v10, rfl, HO10, hb⟩; have HO9 := Aside0.mk (Kd.R_below HO9.out hb))
      | ((go_at_call 21); (with_reducible refine (same2_calls _ _ (withoutL own ⟨qf, qt⟩) _ HO9 HO10).mono ?_); rintro e w12 ⟨rfl, hb⟩))
  rename_i hS
  obtain ⟨_, _, _, _, _, hb7⟩ := hS
  have HB7 := Aside0.mk hb7
  clear HB6 HX6 HO6 HO9 HO10 hb hb7 x0 x1 x2
  go_wp2_with fail
  (with_reducible refine (lives_calls _).mono ?_)
  rintro e w13 ⟨rfl, hb8⟩
  have HB8 := Aside0.mk (below_step HB7.out hb8)
  clear hb8
  go_wp2_with fail
  go_ret
  exact ⟨rfl, HB8.out⟩
end Go.Proofs.Ytloachifhaigjaa.A
