/- SpanLast: what is told of a time is what was put over it last. -/
import Derived.Test.YtloachifhaigjaaALastL
import Derived.Test.YtloachifhaigjaaALawTaken
namespace Go.Proofs.Ytloachifhaigjaa.A
open Go.RowKit Go.Proofs.YtloachifhaigjaaW.PrintWords Go.Proofs.YtloachifhaigjaaW.PrintLast Go.Proofs.YtloachifhaigjaaW.PrintMore
set_option linter.unusedVariables false
set_option linter.unusedSimpArgs false

set_option maxRecDepth 100000 in
set_option maxHeartbeats 4000000 in
theorem lawlast_calls (w : World) (A : Option Addr) (c : Nat) (l : List Pc) (hr : KPc.C w A l.length l) (hc : l.length ≤ c) (hok : ∀ p ∈ l, p.fits) (x : Int) (_gx : IntKind.i64.min ≤ x ∧ x ≤ IntKind.i64.max) :
    Calls Try.prog 9 #[.slice A l.length c, .int .i64 x] w fun e w' => e = .returned (.bool true) ∧ Below w.heap.size w w' := by
  clear _gx
  have HR := Aside0.mk hr
  have HOK : Aside0 (∀ p ∈ l, p.v.size ≤ 9223372036854775807) := ⟨fun p hp => hok p hp⟩
  have hm : l.length ≤ 9223372036854775807 := hr.2.1
  obtain ⟨n, hn⟩ : ∃ n, l.length = n := ⟨_, rfl⟩
  rw [hn] at hc HR hm ⊢
  have HN := Aside0.mk hn
  clear hr hok hn
  go_enter Try.func9, Try.ntmps9
  go_wp2_with fail
  go_loopw [5, 6, 7, 8] (fun v5 v6 v7 v8 w' => ∃ (k : Nat) (r : ByteArray × Bool), k ≤ n ∧ k ≤ 12 ∧ v8 = .int .i64 k ∧ v6 = .string r.1 ∧ v7 = .bool r.2 ∧ Aside0 (atL (madeK l k) x = r) ∧ Aside0 (OPc w' w.heap.size v5 (madeK l k)) ∧ Aside0 (Below w.heap.size w w')) (fun _ _ _ v8 _ => 12 - (intOf v8).toNat)
  case atStart => exact ⟨0, (ByteArray.empty, false), Nat.zero_le _, by omega, rfl, rfl, rfl, ⟨rfl⟩, ⟨OPc_nil _ _⟩, ⟨Below.refl _ _⟩⟩
  case round =>
    obtain ⟨k, ⟨r1, r2⟩, hk, hk12, rfl, rfl, rfl, HW, HO, HB⟩ := hrel
    simp only at HW ⊢
    by_cases hlt : k < n ∧ k < 12
    · obtain ⟨hlt, h12⟩ := hlt
      obtain ⟨ad, rfl, q0, q1, q2⟩ := C_atPc HR.out k hlt
      have p0 := pw_cell_below HB.out q0
      have p1 := pw_cell_below HB.out q1
      have p2 := pw_cell_below HB.out q2
      have hv : (l.getD k default).v.size ≤ 9223372036854775807 := by
        have hkl : k < l.length := by rw [HN.out]; exact hlt
        have e : l.getD k default = l[k] := by simp [List.getD_eq_getElem?_getD, hkl]
        rw [e]
        exact HOK.out _ (List.getElem_mem _)
      have hms := madeK_succ l k (by rw [HN.out]; exact hlt)
      have hord := madeK_ordd l (k + 1)
      have hao := at_over (madeK l k) (cutP (l.getD k default)) x
      rw [← hms, HW.out] at hao
      have hl1 : (madeK l k).length ≤ 4095 := by
        have h1 := madeK_len l k
        have h2 : 2 ^ k ≤ 2 ^ 12 := Nat.pow_le_pow_right (by decide) hk12
        omega
      clear q0 q1 q2
      generalize l.getD k default = q at *
      obtain ⟨qf, qt, qv⟩ := q
      simp only at p0 p1 p2 hv
      have HMS := Aside0.mk hms
      have HAO := Aside0.mk hao
      have HOR := Aside0.mk hord
      obtain ⟨m, hmm⟩ : ∃ m, (madeK l k).length = m := ⟨_, rfl⟩
      rw [hmm] at hl1
      obtain ⟨A1, c1, rfl, hc1, HC10⟩ := OPc_readn HO.out m hmm
      have HC1 := Aside0.mk HC10
      have i1 : (k : Int) < (n : Int) := by omega
      have i2 : (0 : Int) ≤ (k : Int) := by omega
      have i3 : (k : Int) < 12 := by omega
      clear hms hao hord hmm HC10 HO HW
      go_wp2_with fail
      (with_reducible refine (cut_calls qf qt qv _ hv).mono ?_)
      rintro e w1 ⟨rfl, hb1⟩
      generalize cutP ⟨qf, qt, qv⟩ = q at *
      obtain ⟨f, t, v⟩ := q
      have HB1 := Aside0.mk (below_step HB.out (below_step hb1 (below_alloc (Below.refl w1.heap.size w1) (pcBox f t v))))
      have HC2 := Aside0.mk (Kd.C_below HC1.out (below_step hb1 (below_alloc (Below.refl w1.heap.size w1) (pcBox f t v))))
      have HX1 : Aside0 ((w1.alloc (pcBox f t v)).heap[w1.heap.size]? = some (pcBox f t v)) := ⟨heap_alloc_new w1 _⟩
      clear hb1 HB HC1 p0 p1 p2
      go_wp2_with fail
      (with_reducible refine (overP_calls A1 m c1 (madeK l k) ⟨f, t, v⟩ _ HC2.out hc1 (by omega)).mono ?_)
      rintro e w2 ⟨v2, rfl, HO2, hb2⟩
      rw [← HMS.out] at HO2
      obtain ⟨m2, hmm2⟩ : ∃ m, (madeK l (k + 1)).length = m := ⟨_, rfl⟩
      have HO3 := Aside0.mk (Kd.R_lower HO2 HB1.out.size)
      obtain ⟨A2, c2, rfl, hc2, HC20⟩ := OPc_readn HO2 m2 hmm2
      have HB2 := Aside0.mk (below_step HB1.out hb2)
      have HX2 := Aside0.mk (box_keep HX1.out hb2)
      obtain ⟨x0, x1, x2⟩ := pc_cells HX2.out
      clear HO2 hb2 HB1 HX1 HC2 HC20 hmm2
      generalize w1.heap.size = g at *
      cases hh : Sp.has ⟨f, t⟩ x with
      | true =>
        have HH := Aside0.mk hh
        have hao := HAO.out
        rw [if_pos (show (Pc.sp ⟨f, t, v⟩).has x = true from hh)] at hao
        have HA2 := Aside0.mk hao
        clear hh hao HAO
        go_wp2_with fail
        (with_reducible refine (has_calls _ _ _ _).mono ?_)
        rw [HH.out]
        rintro e w3 ⟨rfl, rfl⟩
        have hbr := below_alloc (below_alloc (Below.refl w2.heap.size w2) (spBox f t)) (spBox f t)
        have HB3 := Aside0.mk (below_step HB2.out hbr)
        have HO4 := Aside0.mk (Kd.R_below HO3.out hbr)
        obtain ⟨x0, x1, x2⟩ := pc_cells (box_keep HX2.out hbr)
        clear hbr HB2 HO3
        generalize (w2.alloc (spBox f t)).alloc (spBox f t) = w3 at *
        have HC3 := Aside0.mk (Kd.R_reads' HO4.out).2.2
        have hmm2 := (Kd.R_reads' HO4.out).1
        rw [← hmm2] at HC3
        clear hmm2
        go_wp2_with fail
        (with_reducible refine (at_calls A2 m2 c2 (madeK l (k + 1)) x _ HC3.out hc2).mono ?_)
        rw [HA2.out]
        rintro e w4 ⟨rfl, hb4⟩
        have HB4 := Aside0.mk (below_step HB3.out hb4)
        have HO5 := Aside0.mk (Kd.R_below HO4.out hb4)
        have HC4 := Aside0.mk (Kd.C_below HC3.out hb4)
        clear hb4 HB3 HO4 HC3 x0 x1 x2
        go_wp2_with fail
        (with_reducible refine (ordered_calls A2 m2 c2 (madeK l (k + 1)) _ HC4.out hc2 HOR.out).mono ?_)
        rintro e w5 ⟨rfl, hb5⟩
        have HB5 := Aside0.mk (below_step HB4.out hb5)
        have HO6 := Aside0.mk (Kd.R_below HO5.out hb5)
        clear hb5 HB4 HO5 HC4
        go_wp2_with fail
        go_roundw
        case rel => exact ⟨k + 1, (v, true), hlt, h12, rfl, rfl, rfl, HA2, HO6, HB5⟩
        case measure => simp [intOf]; omega
      | false =>
        have HH := Aside0.mk hh
        have hao := HAO.out
        rw [if_neg (show ¬ (Pc.sp ⟨f, t, v⟩).has x = true by rw [show (Pc.sp ⟨f, t, v⟩).has x = false from hh]; decide)] at hao
        have HA2 := Aside0.mk hao
        clear hh hao HAO
        go_wp2_with fail
        (with_reducible refine (has_calls _ _ _ _).mono ?_)
        rw [HH.out]
        rintro e w3 ⟨rfl, rfl⟩
        have hbr := below_alloc (below_alloc (Below.refl w2.heap.size w2) (spBox f t)) (spBox f t)
        have HB3 := Aside0.mk (below_step HB2.out hbr)
        have HO4 := Aside0.mk (Kd.R_below HO3.out hbr)
        clear hbr HB2 HO3 x0 x1 x2
        generalize (w2.alloc (spBox f t)).alloc (spBox f t) = w3 at *
        have HC3 := Aside0.mk (Kd.R_reads' HO4.out).2.2
        have hmm2 := (Kd.R_reads' HO4.out).1
        rw [← hmm2] at HC3
        clear hmm2
        go_wp2_with fail
        (with_reducible refine (at_calls A2 m2 c2 (madeK l (k + 1)) x _ HC3.out hc2).mono ?_)
        rw [HA2.out]
        rintro e w4 ⟨rfl, hb4⟩
        have HB4 := Aside0.mk (below_step HB3.out hb4)
        have HO5 := Aside0.mk (Kd.R_below HO4.out hb4)
        have HC4 := Aside0.mk (Kd.C_below HC3.out hb4)
        clear hb4 HB3 HO4 HC3
        go_wp2_with fail
        (with_reducible refine (ordered_calls A2 m2 c2 (madeK l (k + 1)) _ HC4.out hc2 HOR.out).mono ?_)
        rintro e w5 ⟨rfl, hb5⟩
        have HB5 := Aside0.mk (below_step HB4.out hb5)
        have HO6 := Aside0.mk (Kd.R_below HO5.out hb5)
        clear hb5 HB4 HO5 HC4
        go_wp2_with fail
        go_roundw
        case rel => exact ⟨k + 1, (r1, r2), hlt, h12, rfl, rfl, rfl, HA2, HO6, HB5⟩
        case measure => simp [intOf]; omega
    · clear HO HW
      by_cases hkn : k < n
      · have i1 : (k : Int) < (n : Int) := by omega
        obtain rfl : k = 12 := by omega
        go_wp2_with fail
        (with_reducible refine (lives_calls _).mono ?_)
        rintro e w10 ⟨rfl, hb10⟩
        have HB10 := Aside0.mk (below_step HB.out hb10)
        clear hb10 HB
        go_wp2_with fail
        go_ret
        exact ⟨rfl, HB10.out⟩
      · obtain rfl : k = n := by omega
        go_wp2_with fail
        (with_reducible refine (lives_calls _).mono ?_)
        rintro e w10 ⟨rfl, hb10⟩
        have HB10 := Aside0.mk (below_step HB.out hb10)
        clear hb10 HB
        go_wp2_with fail
        go_ret
        exact ⟨rfl, HB10.out⟩
end Go.Proofs.Ytloachifhaigjaa.A
