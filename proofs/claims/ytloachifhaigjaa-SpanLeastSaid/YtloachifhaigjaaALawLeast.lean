/- SpanLeast: the least pieces are the document's, tell the same of each time, and are least. -/
import Derived.Test.YtloachifhaigjaaARLeast
import Derived.Test.YtloachifhaigjaaALawTaken
namespace Go.Proofs.Ytloachifhaigjaa.A
open Go.RowKit Go.Proofs.YtloachifhaigjaaW.PrintWords Go.Proofs.YtloachifhaigjaaW.PrintLast Go.Proofs.YtloachifhaigjaaW.PrintMore
set_option linter.unusedVariables false
set_option linter.unusedSimpArgs false

theorem leastL_len (l : List Pc) : (leastL l).length ≤ l.length := by
  rw [← leastK_all l l.length (Nat.le_refl _)]
  exact leastK_len l _
theorem made_may (l : List Pc) : ∀ q ∈ madeL l, q.sp.may = true := madeK_may l 8
set_option maxRecDepth 100000 in
set_option maxHeartbeats 4000000 in
theorem lawleast_calls (w : World) (A : Option Addr) (c : Nat) (l : List Pc) (hr : KPc.C w A l.length l) (hc : l.length ≤ c) (hok : ∀ p ∈ l, p.fits) (x : Int) (_gx : IntKind.i64.min ≤ x ∧ x ≤ IntKind.i64.max) :
    Calls Try.prog 6 #[.slice A l.length c, .int .i64 x] w fun e w' => e = .returned (.bool true) ∧ Below w.heap.size w w' := by
  clear _gx
  have HR := Aside0.mk hr
  have HOK : Aside0 (∀ p ∈ l, p.v.size ≤ 9223372036854775807) := ⟨fun p hp => hok p hp⟩
  have hat0 := least_at (madeL l) x (made_may l)
  have hag0 := least_again (madeL l)
  have hle0 := leastL_len (madeL l)
  obtain ⟨n, hn⟩ : ∃ n, l.length = n := ⟨_, rfl⟩
  rw [hn] at hc HR ⊢
  clear hr hok hn
  go_enter Try.func6, Try.ntmps6
  go_wp2_with fail
  (with_reducible refine (made_calls A n c l _ HR.out hc HOK.out).mono ?_)
  rintro e w1 ⟨v1, rfl, HO1, hl1, hb1⟩
  generalize madeL l = own at *
  have HAT := Aside0.mk hat0
  have HAG := Aside0.mk hag0
  clear hat0 hag0
  obtain ⟨m, hm⟩ : ∃ m, own.length = m := ⟨_, rfl⟩
  rw [hm] at hl1 hle0
  obtain ⟨A1, c1, rfl, hc1, HC10⟩ := OPc_readn HO1 m hm
  have HC1 := Aside0.mk HC10
  have HB1 := Aside0.mk hb1
  clear HO1 HC10 hb1 hm
  go_wp2_with fail
  (with_reducible refine (least_calls A1 m c1 own _ HC1.out hc1 (by omega)).mono ?_)
  rintro e w2 ⟨v2, rfl, HO2, hb2⟩
  obtain ⟨m2, hm2⟩ : ∃ m, (leastL own).length = m := ⟨_, rfl⟩
  rw [hm2] at hle0
  obtain ⟨A2, c2, rfl, hc2, HC20⟩ := OPc_readn HO2 m2 hm2
  have HM2 := Aside0.mk hm2
  have HC2 := Aside0.mk HC20
  have HC1b := Aside0.mk (Kd.C_below HC1.out hb2)
  have HB2 := Aside0.mk (below_step HB1.out hb2)
  clear HO2 HC20 hb2 hm2 HC1 HB1
  go_wp2_with fail
  (with_reducible refine (rleast_calls A1 m c1 own _ HC1b.out hc1 (by omega)).mono ?_)
  rintro e w3 ⟨v3, rfl, HO3, hb3⟩
  obtain ⟨A3, c3, rfl, hc3, HC30⟩ := OPc_readn HO3 m2 HM2.out
  have HC3 := Aside0.mk HC30
  have HC1c := Aside0.mk (Kd.C_below HC1b.out hb3)
  have HC2b := Aside0.mk (Kd.C_below HC2.out hb3)
  have HB3 := Aside0.mk (below_step HB2.out hb3)
  clear HO3 HC30 hb3 HC1b HC2 HB2
  go_wp2_with fail
  (with_reducible refine (same_calls A2 A3 m2 c2 c3 (leastL own) _ HC2b.out HC3.out hc2 hc3).mono ?_)
  rintro e w4 ⟨rfl, hb4⟩
  have HC1d := Aside0.mk (Kd.C_below HC1c.out hb4)
  have HC2c := Aside0.mk (Kd.C_below HC2b.out hb4)
  have HB4 := Aside0.mk (below_step HB3.out hb4)
  clear hb4 HC1c HC2b HB3 HC3
  go_wp2_with fail
  (with_reducible refine (least_calls A2 m2 c2 (leastL own) _ HC2c.out hc2 (by omega)).mono ?_)
  rintro e w5 ⟨v5, rfl, HO5, hb5⟩
  rw [HAG.out] at HO5
  obtain ⟨A5, c5, rfl, hc5, HC50⟩ := OPc_readn HO5 m2 HM2.out
  have HC5 := Aside0.mk HC50
  have HC1e := Aside0.mk (Kd.C_below HC1d.out hb5)
  have HC2d := Aside0.mk (Kd.C_below HC2c.out hb5)
  have HB5 := Aside0.mk (below_step HB4.out hb5)
  clear HO5 HC50 hb5 HC1d HC2c HB4
  go_wp2_with fail
  (with_reducible refine (same_calls A5 A2 m2 c5 c2 (leastL own) _ HC5.out HC2d.out hc5 hc2).mono ?_)
  rintro e w6 ⟨rfl, hb6⟩
  have HC1f := Aside0.mk (Kd.C_below HC1e.out hb6)
  have HC2e := Aside0.mk (Kd.C_below HC2d.out hb6)
  have HB6 := Aside0.mk (below_step HB5.out hb6)
  clear hb6 HC1e HC2d HB5 HC5
  go_wp2_with fail
  (with_reducible refine (at_calls A1 m c1 own x _ HC1f.out hc1).mono ?_)
  rintro e w7 ⟨rfl, hb7⟩
  have HC1g := Aside0.mk (Kd.C_below HC1f.out hb7)
  have HC2f := Aside0.mk (Kd.C_below HC2e.out hb7)
  have HB7 := Aside0.mk (below_step HB6.out hb7)
  clear hb7 HC1f HC2e HB6
  go_wp2_with fail
  (with_reducible refine (at_calls A2 m2 c2 (leastL own) x _ HC2f.out hc2).mono ?_)
  rw [HAT.out]
  rintro e w8 ⟨rfl, hb8⟩
  have HC1h := Aside0.mk (Kd.C_below HC1g.out hb8)
  have HB8 := Aside0.mk (below_step HB7.out hb8)
  clear hb8 HC1g HC2f HB7
  go_wp2_with fail
  (with_reducible refine (rat_calls A1 m c1 own x _ HC1h.out hc1).mono ?_)
  rintro e w9 ⟨rfl, hb9⟩
  have HB9 := Aside0.mk (below_step HB8.out hb9)
  clear hb9 HC1h HB8
  generalize atL own x = r at *
  obtain ⟨r1, r2⟩ := r
  go_wp2_with fail
  (with_reducible refine (lives_calls _).mono ?_)
  rintro e w10 ⟨rfl, hb10⟩
  have HB10 := Aside0.mk (below_step HB9.out hb10)
  clear hb10 HB9
  go_wp2_with fail
  go_ret
  exact ⟨rfl, HB10.out⟩
end Go.Proofs.Ytloachifhaigjaa.A
