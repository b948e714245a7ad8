/- The first so many of versions that may be. -/
import Derived.Test.YtopoepifbjbmoaaCOwn
namespace Go.Proofs.Ytopoepifbjbmoaa.A
open Go.RowKit Go.Proofs.YtopoepifbjbmoaaW.PrintWords Go.Proofs.YtopoepifbjbmoaaW.PrintLast Go.Proofs.YtopoepifbjbmoaaW.PrintMore
open R
set_option linter.unusedVariables false
set_option linter.unusedSimpArgs false

theorem mayV_small {q : Vr} (h : mayV q = true) : q.k.size ≤ 100 ∧ q.v.size ≤ 200 := by
  obtain ⟨h0, ⟨⟨⟨h1, h2⟩, h3, h4⟩, h5, h6⟩, ⟨h7, h8, h9⟩, hv, hg⟩ := (mayV_iff q).1 h
  have h99 := key_size h0
  exact ⟨by omega, by omega⟩
theorem allMay_small {l : List Vr} (h : ∀ p ∈ l, mayV p = true) : smallB l := fun p hp => by
  obtain ⟨h1, h2⟩ := mayV_small (h p hp)
  exact ⟨by omega, by omega⟩
set_option maxRecDepth 100000 in
set_option maxHeartbeats 8000000 in
theorem good_calls (A : Option Addr) (n c m : Nat) (l : List Vr) (w : World) (hr : KVr.C w A n l) (hc : n ≤ c) (hf : ∀ p ∈ l, p.fits) (hm : m ≤ 1000) :
    Calls Try.prog 20 #[.slice A n c, .int .i64 m] w fun e w' => ∃ u X, e = .returned u ∧ OVr w' w.heap.size u X ∧ X.length ≤ m ∧ (∀ p ∈ X, mayV p = true) ∧ Below w.heap.size w w' := by
  have HR := Aside0.mk hr
  have HF := Aside0.mk hf
  have HN := Aside0.mk hr.1
  have hmx : n ≤ 9223372036854775807 := hr.2.1
  clear hr hf
  go_enter Try.func20, Try.ntmps20
  go_wp2_with fail
  go_loopw [5, 6] (fun v5 v6 w' => ∃ (k z : Nat) (A5 : Option Addr) (c5 : Nat) (X : List Vr), k ≤ n ∧ z ≤ m ∧ v6 = .int .i64 k ∧ v5 = .slice A5 z c5 ∧ Aside0 (X.length = z) ∧ Aside0 (∀ p ∈ X, mayV p = true) ∧ Aside0 (OVr w' w.heap.size (.slice A5 z c5) X) ∧ Aside0 (Below w.heap.size w w')) (fun _ v6 _ => n - (intOf v6).toNat)
  case atStart => exact ⟨0, 0, none, 0, [], Nat.zero_le _, Nat.zero_le _, rfl, rfl, ⟨rfl⟩, ⟨fun _ h => by cases h⟩, ⟨OVr_nil _ _⟩, ⟨Below.refl _ _⟩⟩
  case round =>
    obtain ⟨k, z, A5, c5, X, hk, hz, rfl, rfl, HZ, HM, HO, HB⟩ := hrel
    by_cases hlt : k < n
    · by_cases hzm : z < m
      · have HX := Aside0.mk (C_atVr (Kd.C_below HR.out HB.out) k hlt)
        have hfq := HF.out _ (getD_mem l k (by rw [HN.out]; exact hlt))
        generalize l.getD k default = q at *
        obtain ⟨qk, qbr, qep, qsq, qf, qt, qv, qg⟩ := q
        have i1 : qk.size ≤ 9223372036854775807 := hfq.1
        have i2 : qv.size ≤ 9223372036854775807 := hfq.2
        have hs1 := cutS_size qk 110
        have hs2 := cutS_size qv 210
        obtain ⟨ad, rfl, p0, p1, p2, p3, p4, p5, p6, p7⟩ := HX.out
        clear HX hfq
        have j1 : (k : Int) < (n : Int) := by omega
        have j2 : (0 : Int) ≤ (k : Int) := by omega
        have j3 : (z : Int) < (m : Int) := by omega
        go_wp2_with fail
        (with_reducible refine (cut_calls qk qbr qep qsq qf qt qv qg _ i1 i2).mono ?_)
        rintro e w1 ⟨rfl, hb1⟩
        generalize cutS qk 110 = k1 at *
        generalize cutS qv 210 = v1 at *
        have hal := below_alloc (Below.refl w1.heap.size w1) (vrBox k1 qbr qep qsq qf qt v1 qg)
        have HO1 := Aside0.mk (Kd.R_below (Kd.R_below HO.out hb1) hal)
        have HB1 := Aside0.mk (below_step (below_step HB.out hb1) hal)
        have HX1 : Aside0 ((w1.alloc (vrBox k1 qbr qep qsq qf qt v1 qg)).heap[w1.heap.size]? = some (vrBox k1 qbr qep qsq qf qt v1 qg)) := ⟨heap_alloc_new w1 _⟩
        clear hb1 hal HO HB p0 p1 p2 p3 p4 p5 p6 p7
        obtain ⟨mb, hmb⟩ : ∃ mb, mayV ⟨k1, qbr, qep, qsq, qf, qt, v1, qg⟩ = mb := ⟨_, rfl⟩
        have hmc := fun W => may6_calls k1 qbr qep qsq qf qt v1 qg W (by omega) (by omega)
        rw [hmb] at hmc
        have HMC := Aside0.mk hmc
        have HMB := Aside0.mk hmb
        clear hmb hmc
        go_wp2_with fail
        (with_reducible refine (HMC.out _).mono ?_)
        rintro e w2 ⟨rfl, hb2⟩
        have HO2 := Aside0.mk (Kd.R_below HO1.out hb2)
        have HB2 := Aside0.mk (below_step HB1.out hb2)
        obtain ⟨x0, x1, x2, x3, x4, x5, x6, x7⟩ := vr_cells (box_keep HX1.out hb2)
        clear hb2 HO1 HB1 HX1
        cases mb with
        | false =>
          go_wp2_with fail
          go_roundw
          case rel => exact ⟨k + 1, z, A5, c5, X, hlt, hz, rfl, rfl, HZ, HM, HO2, HB2⟩
          case measure => simp [intOf]; omega
        | true =>
          go_wp2_with ((with_reducible refine gate_dst (N := 32) rfl ?_); refine app_vr rfl rfl rfl rfl HO2.out HB2.out.size (by rw [HZ.out]; omega) ?_; intro v4 w4 hO4 hb4 _; obtain ⟨A6, c6, rfl, -, -⟩ := OVr_readn hO4 (z + 1) (by rw [List.length_append, HZ.out]; rfl); have HO5 := Aside0.mk hO4; have HB5 := Aside0.mk (HB2.out.trans hb4); clear hO4 hb4)
          go_roundw
          case rel =>
            refine ⟨k + 1, z + 1, A6, c6, X ++ [⟨k1, qbr, qep, qsq, qf, qt, v1, qg⟩], hlt, hzm, rfl, rfl, ⟨by rw [List.length_append, HZ.out]; rfl⟩, ⟨?_⟩, HO5, HB5⟩
            intro p hp
            rcases List.mem_append.1 hp with h | h
            · exact HM.out p h
            · rw [List.mem_singleton.1 h]; exact HMB.out
          case measure => simp [intOf]; omega
      · have j1 : (k : Int) < (n : Int) := by omega
        have j3 : ¬ (z : Int) < (m : Int) := by omega
        go_wp2_with fail
        go_ret
        exact ⟨_, rfl, X, HO.out, by rw [HZ.out]; exact hz, HM.out, HB.out⟩
    · have j1 : ¬ (k : Int) < (n : Int) := by omega
      go_wp2_with fail
      go_ret
      exact ⟨_, rfl, X, HO.out, by rw [HZ.out]; exact hz, HM.out, HB.out⟩
end Go.Proofs.Ytopoepifbjbmoaa.A
