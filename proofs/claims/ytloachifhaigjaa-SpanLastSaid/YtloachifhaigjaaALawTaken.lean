/- SpanTaken: without a span nothing stands at its times, and elsewhere what stood. -/
import Derived.Test.YtloachifhaigjaaATaken
namespace Go.Proofs.Ytloachifhaigjaa.A
open Go.RowKit Go.Proofs.YtloachifhaigjaaW.PrintWords Go.Proofs.YtloachifhaigjaaW.PrintLast Go.Proofs.YtloachifhaigjaaW.PrintMore
set_option linter.unusedVariables false
set_option linter.unusedSimpArgs false

def Pc.fits (p : Pc) : Prop := p.v.size ≤ maxLen
theorem opens_piece : Opens 42 KPc Pc.fits := by
  intro H enc w base spare held fuel cs x h
  obtain ⟨xs, n, rfl, rfl, hl, hx, hf⟩ := DataW.trod_struct Try.underlying42 h
  have hl2 : cs.length = 3 := hl.trans (by kernel_rfl)
  match cs, hl2 with
  | [c0, c1, c2], _ =>
    have f0 := hf 0 _ rfl
    have f1 := hf 1 _ rfl
    have hx2 : xs.length = 2 := hx
    match xs, hx2 with
    | [x0, x1], _ =>
      obtain ⟨⟨a, b⟩, hk, _⟩ := opens_span _ _ _ _ _ _ _ _ _ f0
      obtain ⟨s, hs, _, hsw⟩ := DataW.trod_string (x := x1) Try.underlying9 f1
      have hc0 : Try.prog.cellsOf 23 = 2 := by kernel_rfl
      have hcs : Try.prog.cellsOf 9 = 1 := by kernel_rfl
      have hs' : c2 = .string s := by simpa [hc0, hcs] using hs
      obtain ⟨_, _, h1, rfl, rfl⟩ := hk
      have h1' : c0 = .int .i64 a ∧ c1 = .int .i64 b := by simpa [hc0, hcs] using h1
      obtain ⟨rfl, rfl⟩ := h1'
      subst hs'
      exact ⟨⟨a, b, s⟩, KPc_K _ a b s, hsw⟩

set_option maxRecDepth 100000 in
set_option maxHeartbeats 4000000 in
theorem taken_calls (w : World) (A : Option Addr) (c : Nat) (l : List Pc) (hr : KPc.C w A l.length l) (hc : l.length ≤ c) (hok : ∀ p ∈ l, p.fits) (c1 : Array Value) (y1 : Sp) (h1 : KSp.K w y1 (Value.agg c1).cells.toList) (_g1 : True) (x : Int) (_gx : IntKind.i64.min ≤ x ∧ x ≤ IntKind.i64.max) :
    Calls Try.prog 7 #[.slice A l.length c, .agg c1, .int .i64 x] w fun e w' => e = .returned (.bool true) ∧ Below w.heap.size w w' := by
  have e1 := span_agg h1
  subst e1
  obtain ⟨a, b⟩ := y1
  clear h1 _g1 _gx
  have HR := Aside0.mk hr
  have HOK : Aside0 (∀ p ∈ l, p.v.size ≤ 9223372036854775807) := ⟨fun p hp => hok p hp⟩
  obtain ⟨n, hn⟩ : ∃ n, l.length = n := ⟨_, rfl⟩
  rw [hn] at hc HR ⊢
  clear hr hok hn
  go_enter Try.func7, Try.ntmps7
  go_wp2_with fail
  have HB0 := Aside0.mk (below_alloc (Below.refl _ w) (spBox a b))
  have HX0 : Aside0 ((w.alloc (spBox a b)).heap[w.heap.size]? = some (spBox a b)) := ⟨heap_alloc_new w _⟩
  (with_reducible refine (made_calls A n c l _ (Kd.C_below HR.out HB0.out) hc HOK.out).mono ?_)
  rintro e w1 ⟨v1, rfl, HO1, hl1, hb1⟩
  generalize madeL l = own at *
  obtain ⟨m, hm⟩ : ∃ m, own.length = m := ⟨_, rfl⟩
  rw [hm] at hl1
  obtain ⟨A1, c1, rfl, hc1, HC10⟩ := OPc_readn HO1 m hm
  have HC1 := Aside0.mk HC10
  have HX1 := Aside0.mk (box_keep HX0.out hb1)
  have HB1 := Aside0.mk (below_step HB0.out hb1)
  clear HO1 HC10 hb1 hm HX0 HB0
  go_wp2_with fail
  (with_reducible refine (at_calls A1 m c1 own x _ HC1.out hc1).mono ?_)
  rintro e w2 ⟨rfl, hb2⟩
  have HC2 := Aside0.mk (Kd.C_below HC1.out hb2)
  have HX2 := Aside0.mk (box_keep HX1.out hb2)
  have HB2 := Aside0.mk (below_step HB1.out hb2)
  obtain ⟨s0, s1⟩ := sp_cells HX2.out
  clear hb2 HC1 HX1 HB1
  go_wp2_with fail
  (with_reducible refine (withoutL_calls A1 m c1 own a b _ HC2.out hc1 (by omega)).mono ?_)
  rintro e w3 ⟨v3, rfl, HO3, hb3⟩
  obtain ⟨m3, hm3⟩ : ∃ m, (withoutL own ⟨a, b⟩).length = m := ⟨_, rfl⟩
  obtain ⟨A3, c3, rfl, hc3, HC30⟩ := OPc_readn HO3 m3 hm3
  have HC3 := Aside0.mk HC30
  have HX3 := Aside0.mk (box_keep HX2.out hb3)
  have HB3 := Aside0.mk (below_step HB2.out hb3)
  clear HO3 HC30 hb3 hm3 HX2 HB2 s0 s1
  go_wp2_with fail
  (with_reducible refine (at_calls A3 m3 c3 (withoutL own ⟨a, b⟩) x _ HC3.out hc3).mono ?_)
  rintro e w4 ⟨rfl, hb4⟩
  have HX4 := Aside0.mk (box_keep HX3.out hb4)
  have HB4 := Aside0.mk (below_step HB3.out hb4)
  obtain ⟨s0, s1⟩ := sp_cells HX4.out
  clear hb4 HX3 HB3 HC3
  cases hh : Sp.has ⟨a, b⟩ x with
  | true =>
    rw [at_taken own ⟨a, b⟩ x hh]
    have HH := Aside0.mk hh
    clear hh
    generalize atL own x = r at *
    obtain ⟨r1, r2⟩ := r
    go_wp2_with fail
    (with_reducible refine (has_calls _ _ _ _).mono ?_)
    rw [HH.out]
    rintro e w5 ⟨rfl, rfl⟩
    have HB5 := Aside0.mk (below_alloc (below_alloc HB4.out (spBox a b)) (spBox a b))
    go_wp2_with fail
    (with_reducible refine (lives_calls _).mono ?_)
    rintro e w6 ⟨rfl, hb6⟩
    have HB6 := Aside0.mk (below_step HB5.out hb6)
    clear hb6
    go_wp2_with fail
    go_ret
    exact ⟨rfl, HB6.out⟩
  | false =>
    rw [at_left own ⟨a, b⟩ x hh]
    have HH := Aside0.mk hh
    clear hh
    generalize atL own x = r at *
    obtain ⟨r1, r2⟩ := r
    go_wp2_with fail
    (with_reducible refine (has_calls _ _ _ _).mono ?_)
    rw [HH.out]
    rintro e w5 ⟨rfl, rfl⟩
    have HB5 := Aside0.mk (below_alloc (below_alloc HB4.out (spBox a b)) (spBox a b))
    go_wp2_with fail
    (with_reducible refine (lives_calls _).mono ?_)
    rintro e w6 ⟨rfl, hb6⟩
    have HB6 := Aside0.mk (below_step HB5.out hb6)
    clear hb6
    go_wp2_with fail
    go_ret
    exact ⟨rfl, HB6.out⟩
end Go.Proofs.Ytloachifhaigjaa.A
