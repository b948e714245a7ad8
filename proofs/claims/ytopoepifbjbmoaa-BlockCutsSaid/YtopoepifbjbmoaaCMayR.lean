/- Which versions are a block: the document's. -/
import Derived.Test.YtopoepifbjbmoaaCMay
namespace Go.Proofs.Ytopoepifbjbmoaa.A
open Go.RowKit Go.Proofs.YtopoepifbjbmoaaW.PrintWords Go.Proofs.YtopoepifbjbmoaaW.PrintLast Go.Proofs.YtopoepifbjbmoaaW.PrintMore
open R
set_option linter.unusedVariables false
set_option linter.unusedSimpArgs false

/-- A row of versions, and what was there as it was. -/
def LB (w : World) (A : Option Addr) (n : Nat) (l : List Vr) (W : World) : Prop := KVr.C W A n l ∧ Below w.heap.size w W
theorem LB_step {w : World} {A : Option Addr} {n : Nat} {l : List Vr} {W W1 : World} (h : LB w A n l W) (hb : Below W.heap.size W W1) : LB w A n l W1 := ⟨Kd.C_below h.1 hb, below_step h.2 hb⟩
theorem LB_b {w : World} {A : Option Addr} {n : Nat} {l : List Vr} {W : World} (h : LB w A n l W) : Below w.heap.size w W := h.2
theorem LB_S2 {w : World} {ad : Addr} {n : Nat} {l : List Vr} {W : World} (h : LB w (some ad) n l W) (i j : Nat) (hi : i < n) (hj : j < n) (p q : Vr) (hp : l.getD i default = p) (hq : l.getD j default = q) :
    W.cell? (ad.add (i * 8)) = some (.string p.k) ∧ W.cell? ⟨(ad.add (i * 8)).block, (ad.add (i * 8)).off + 1, none⟩ = some (.int .i64 p.br) ∧ W.cell? ⟨(ad.add (i * 8)).block, (ad.add (i * 8)).off + 2, none⟩ = some (.int .i64 p.ep) ∧ W.cell? ⟨(ad.add (i * 8)).block, (ad.add (i * 8)).off + 3, none⟩ = some (.int .i64 p.sq) ∧ W.cell? ⟨(ad.add (i * 8)).block, (ad.add (i * 8)).off + 4, none⟩ = some (.int .i64 p.f) ∧ W.cell? ⟨(ad.add (i * 8)).block, (ad.add (i * 8)).off + 5, none⟩ = some (.int .i64 p.t) ∧ W.cell? ⟨(ad.add (i * 8)).block, (ad.add (i * 8)).off + 6, none⟩ = some (.string p.v) ∧ W.cell? ⟨(ad.add (i * 8)).block, (ad.add (i * 8)).off + 7, none⟩ = some (.bool p.g) ∧ W.cell? (ad.add (j * 8)) = some (.string q.k) ∧ W.cell? ⟨(ad.add (j * 8)).block, (ad.add (j * 8)).off + 1, none⟩ = some (.int .i64 q.br) ∧ W.cell? ⟨(ad.add (j * 8)).block, (ad.add (j * 8)).off + 2, none⟩ = some (.int .i64 q.ep) ∧ W.cell? ⟨(ad.add (j * 8)).block, (ad.add (j * 8)).off + 3, none⟩ = some (.int .i64 q.sq) ∧ W.cell? ⟨(ad.add (j * 8)).block, (ad.add (j * 8)).off + 4, none⟩ = some (.int .i64 q.f) ∧ W.cell? ⟨(ad.add (j * 8)).block, (ad.add (j * 8)).off + 5, none⟩ = some (.int .i64 q.t) ∧ W.cell? ⟨(ad.add (j * 8)).block, (ad.add (j * 8)).off + 6, none⟩ = some (.string q.v) ∧ W.cell? ⟨(ad.add (j * 8)).block, (ad.add (j * 8)).off + 7, none⟩ = some (.bool q.g) ∧ Aside0 (LB w (some ad) n l W) := by
  obtain ⟨a0, a1, a2, a3, a4, a5, a6, a7⟩ := C_atVr' h.1 i hi p hp
  obtain ⟨b0, b1, b2, b3, b4, b5, b6, b7⟩ := C_atVr' h.1 j hj q hq
  exact ⟨a0, a1, a2, a3, a4, a5, a6, a7, b0, b1, b2, b3, b4, b5, b6, b7, ⟨h⟩⟩
set_option maxRecDepth 100000 in
set_option maxHeartbeats 8000000 in
theorem mayBR_calls (A : Option Addr) (n c : Nat) (l : List Vr) (w : World) (hr : KVr.C w A n l) (hc : n ≤ c) (hs : smallB l) :
    Calls Try.prog 15 #[.slice A n c] w fun e w' => e = .returned (.bool (mayBl l)) ∧ Below w.heap.size w w' := by
  have HR := Aside0.mk hr
  have HS := Aside0.mk hs
  have HN := Aside0.mk hr.1
  have hm : n ≤ 9223372036854775807 := hr.2.1
  clear hr hs
  go_enter Try.func15, Try.ntmps15
  go_wp2_with fail
  go_loopw [3] (fun v3 w' => ∃ k : Nat, k ≤ n ∧ v3 = .int .i64 k ∧ Aside0 (okN l k = true) ∧ Aside0 (Below w.heap.size w w')) (fun v3 _ => n - (intOf v3).toNat)
  case atStart => exact ⟨0, Nat.zero_le _, rfl, ⟨rfl⟩, ⟨Below.refl _ _⟩⟩
  case round =>
    obtain ⟨k, hk, rfl, HK, HB⟩ := hrel
    by_cases hlt : k < n
    · have HL0 : Aside0 (LB w A n l wr) := ⟨Kd.C_below HR.out HB.out, HB.out⟩
      obtain ⟨ad, rfl, -⟩ := C_atVr HL0.out.1 k hlt
      obtain ⟨hq1, hq2⟩ := HS.out _ (getD_mem l k (by rw [HN.out]; exact hlt))
      obtain ⟨q, hq⟩ : ∃ q, l.getD k default = q := ⟨_, rfl⟩
      rw [hq] at hq1 hq2
      have HQ := Aside0.mk hq
      have HX := Aside0.mk (C_atVr' HL0.out.1 k hlt q hq)
      obtain ⟨qk, qbr, qep, qsq, qf, qt, qv, qg⟩ := q
      obtain ⟨p0, p1, p2, p3, p4, p5, p6, p7⟩ := HX.out
      simp only at hq1 hq2 p0 p1 p2 p3 p4 p5 p6 p7
      clear HX hq
      have i1 : (k : Int) < (n : Int) := by omega
      have i2 : (0 : Int) ≤ (k : Int) := by omega
      obtain ⟨mb, hmb⟩ : ∃ mb, mayV ⟨qk, qbr, qep, qsq, qf, qt, qv, qg⟩ = mb := ⟨_, rfl⟩
      have HMB := Aside0.mk hmb
      have hmc := fun W => may6_calls qk qbr qep qsq qf qt qv qg W hq1 (by omega)
      rw [hmb] at hmc
      have HMC := Aside0.mk hmc
      clear hmb hmc HB
      go_wp2_with fail
      (with_reducible refine (HMC.out _).mono ?_)
      rintro e w2 ⟨rfl, hb2⟩
      have HL2 := Aside0.mk (LB_step HL0.out hb2)
      clear hb2 HL0 p0 p1 p2 p3 p4 p5 p6 p7
      cases mb with
      | false =>
        go_wp2_with fail
        go_ret
        exact ⟨by unfold mayBl; rw [okN_false (k := k) (by rw [HN.out]; exact hlt) (by unfold stepOk; rw [HQ.out, HMB.out]; rfl)]; rfl, LB_b HL2.out⟩
      | true =>
        have HLd := Aside0.mk (LB_step HL2.out (below_drew1 (Below.refl _ _)))
        cases k with
        | zero =>
          go_wp2_with fail
          refine wp_region_held_drew (S := fun w' => Aside0 (LB w (some ad) n l w')) (by kernel_rfl) HLd (fun hHeld => ?_)
          (refine hd_take 0 (v := ?_) rfl (by kernel_rfl) (by kernel_rfl) (fun _ _ _ h => h) (by assumption) ?_ ?_; rotate_left; (intro w hSw; (try dsimp only at hSw); go_simp; first | done | with_reducible rfl); simp only [Act.put, List.setIfInBounds_toArray, List.set_cons_zero, List.set_cons_succ])
          (refine hd_take 1 (v := ?_) rfl (by kernel_rfl) (by kernel_rfl) (fun _ _ _ h => h) (by assumption) ?_ ?_; rotate_left; (intro w hSw; (try dsimp only at hSw); go_simp; first | done | with_reducible rfl); simp only [Act.put, List.setIfInBounds_toArray, List.set_cons_zero, List.set_cons_succ])
          (refine hd_take 2 (v := ?_) rfl (by kernel_rfl) (by kernel_rfl) (fun _ _ _ h => h) (by assumption) ?_ ?_; rotate_left; (intro w hSw; (try dsimp only at hSw); go_simp; first | done | with_reducible rfl); simp only [Act.put, List.setIfInBounds_toArray, List.set_cons_zero, List.set_cons_succ])
          (refine hd_skip 3 rfl (by kernel_rfl) (by kernel_rfl) (fun _ _ _ h => h) (by assumption) ?_; simp only [Act.put, List.setIfInBounds_toArray, List.set_cons_zero, List.set_cons_succ])
          (refine hd_skip 4 rfl (by kernel_rfl) (by kernel_rfl) (fun _ _ _ h => h) (by assumption) ?_; simp only [Act.put, List.setIfInBounds_toArray, List.set_cons_zero, List.set_cons_succ])
          (refine hd_skip 5 rfl (by kernel_rfl) (by kernel_rfl) (fun _ _ _ h => h) (by assumption) ?_; simp only [Act.put, List.setIfInBounds_toArray, List.set_cons_zero, List.set_cons_succ])
          (refine hd_skip 6 rfl (by kernel_rfl) (by kernel_rfl) (fun _ _ _ h => h) (by assumption) ?_; simp only [Act.put, List.setIfInBounds_toArray, List.set_cons_zero, List.set_cons_succ])
          (refine hd_skip 7 rfl (by kernel_rfl) (by kernel_rfl) (fun _ _ _ h => h) (by assumption) ?_; simp only [Act.put, List.setIfInBounds_toArray, List.set_cons_zero, List.set_cons_succ])
          (refine hd_skip 8 rfl (by kernel_rfl) (by kernel_rfl) (fun _ _ _ h => h) (by assumption) ?_; simp only [Act.put, List.setIfInBounds_toArray, List.set_cons_zero, List.set_cons_succ])
          (refine hd_skip 9 rfl (by kernel_rfl) (by kernel_rfl) (fun _ _ _ h => h) (by assumption) ?_; simp only [Act.put, List.setIfInBounds_toArray, List.set_cons_zero, List.set_cons_succ])
          (refine hd_skip 10 rfl (by kernel_rfl) (by kernel_rfl) (fun _ _ _ h => h) (by assumption) ?_; simp only [Act.put, List.setIfInBounds_toArray, List.set_cons_zero, List.set_cons_succ])
          (refine hd_skip 11 rfl (by kernel_rfl) (by kernel_rfl) (fun _ _ _ h => h) (by assumption) ?_; simp only [Act.put, List.setIfInBounds_toArray, List.set_cons_zero, List.set_cons_succ])
          (refine hd_skip 12 rfl (by kernel_rfl) (by kernel_rfl) (fun _ _ _ h => h) (by assumption) ?_; simp only [Act.put, List.setIfInBounds_toArray, List.set_cons_zero, List.set_cons_succ])
          (refine hd_skip 13 rfl (by kernel_rfl) (by kernel_rfl) (fun _ _ _ h => h) (by assumption) ?_; simp only [Act.put, List.setIfInBounds_toArray, List.set_cons_zero, List.set_cons_succ])
          (refine hd_take 14 (v := ?_) rfl (by kernel_rfl) (by kernel_rfl) (fun _ _ _ h => h) (by assumption) ?_ ?_; rotate_left; (intro w hSw; (try dsimp only at hSw); go_simp; first | done | with_reducible rfl); simp only [Act.put, List.setIfInBounds_toArray, List.set_cons_zero, List.set_cons_succ])
          refine wpAnyH_done (by kernel_rfl) ?_ _
          go_wp2
          go_roundw
          case rel => exact ⟨1, hlt, rfl, ⟨by rw [okN_succ, HK.out]; unfold stepOk; rw [HQ.out, HMB.out]; rfl⟩, ⟨LB_b HLd.out⟩⟩
          case measure => simp [intOf]; omega
        | succ j =>
          have hjn : j < n := by omega
          obtain ⟨p, hp⟩ : ∃ p, l.getD j default = p := ⟨_, rfl⟩
          obtain ⟨pk, pbr, pep, psq, pf, pt, pv, pg⟩ := p
          have HPJ := Aside0.mk hp
          obtain ⟨lv, hlv⟩ : ∃ lv, lessV ⟨pk, pbr, pep, psq, pf, pt, pv, pg⟩ ⟨qk, qbr, qep, qsq, qf, qt, qv, qg⟩ = lv := ⟨_, rfl⟩
          have hcc := fun W => less_calls pk pbr pep psq pf pt pv pg qk qbr qep qsq qf qt qv qg W
          rw [hlv] at hcc
          have HCC := Aside0.mk hcc
          have HSO : Aside0 (stepOk l (j + 1) = lv) := ⟨by
            unfold stepOk
            rw [HQ.out, show j + 1 - 1 = j by omega, HPJ.out, HMB.out, hlv]
            simp⟩
          have i3 : (0 : Int) ≤ (j : Int) := by omega
          have i4 : (j : Int) < (n : Int) := by omega
          have i5 : (0 : Int) < ((j : Int) + 1) := by omega
          have i6 : (0 : Int) ≤ (j : Int) + 1 := by omega
          have i7 : (j : Int) + 1 < (n : Int) := by omega
          have hjw : IntKind.i64.wrap (j : Int) = (j : Int) := IntWalk.i64_in _ (by omega)
          clear hp hlv hcc
          go_wp2_with fail
          refine wp_region_held_drew (S := (fun w' => w'.cell? (ad.add (j * 8)) = some (.string pk) ∧ w'.cell? ⟨(ad.add (j * 8)).block, (ad.add (j * 8)).off + 1, none⟩ = some (.int .i64 pbr) ∧ w'.cell? ⟨(ad.add (j * 8)).block, (ad.add (j * 8)).off + 2, none⟩ = some (.int .i64 pep) ∧ w'.cell? ⟨(ad.add (j * 8)).block, (ad.add (j * 8)).off + 3, none⟩ = some (.int .i64 psq) ∧ w'.cell? ⟨(ad.add (j * 8)).block, (ad.add (j * 8)).off + 4, none⟩ = some (.int .i64 pf) ∧ w'.cell? ⟨(ad.add (j * 8)).block, (ad.add (j * 8)).off + 5, none⟩ = some (.int .i64 pt) ∧ w'.cell? ⟨(ad.add (j * 8)).block, (ad.add (j * 8)).off + 6, none⟩ = some (.string pv) ∧ w'.cell? ⟨(ad.add (j * 8)).block, (ad.add (j * 8)).off + 7, none⟩ = some (.bool pg) ∧ w'.cell? (ad.add ((j + 1) * 8)) = some (.string qk) ∧ w'.cell? ⟨(ad.add ((j + 1) * 8)).block, (ad.add ((j + 1) * 8)).off + 1, none⟩ = some (.int .i64 qbr) ∧ w'.cell? ⟨(ad.add ((j + 1) * 8)).block, (ad.add ((j + 1) * 8)).off + 2, none⟩ = some (.int .i64 qep) ∧ w'.cell? ⟨(ad.add ((j + 1) * 8)).block, (ad.add ((j + 1) * 8)).off + 3, none⟩ = some (.int .i64 qsq) ∧ w'.cell? ⟨(ad.add ((j + 1) * 8)).block, (ad.add ((j + 1) * 8)).off + 4, none⟩ = some (.int .i64 qf) ∧ w'.cell? ⟨(ad.add ((j + 1) * 8)).block, (ad.add ((j + 1) * 8)).off + 5, none⟩ = some (.int .i64 qt) ∧ w'.cell? ⟨(ad.add ((j + 1) * 8)).block, (ad.add ((j + 1) * 8)).off + 6, none⟩ = some (.string qv) ∧ w'.cell? ⟨(ad.add ((j + 1) * 8)).block, (ad.add ((j + 1) * 8)).off + 7, none⟩ = some (.bool qg) ∧ Aside0 (LB w (some ad) n l w'))) (by kernel_rfl) (LB_S2 HLd.out j (j + 1) hjn hlt _ _ HPJ.out HQ.out) (fun hHeld => ?_)
          (refine hd_take 0 (v := ?_) rfl (by kernel_rfl) (by kernel_rfl) (fun _ _ _ h => h) (by assumption) ?_ ?_; rotate_left; (intro w hSw; (try dsimp only at hSw); go_simp; first | done | with_reducible rfl); simp only [Act.put, List.setIfInBounds_toArray, List.set_cons_zero, List.set_cons_succ])
          (refine hd_take 1 (v := ?_) rfl (by kernel_rfl) (by kernel_rfl) (fun _ _ _ h => h) (by assumption) ?_ ?_; rotate_left; (intro w hSw; (try dsimp only at hSw); go_simp; first | done | with_reducible rfl); simp only [Act.put, List.setIfInBounds_toArray, List.set_cons_zero, List.set_cons_succ])
          (refine hd_take 2 (v := ?_) rfl (by kernel_rfl) (by kernel_rfl) (fun _ _ _ h => h) (by assumption) ?_ ?_; rotate_left; (intro w hSw; (try dsimp only at hSw); go_simp; first | done | with_reducible rfl); simp only [Act.put, List.setIfInBounds_toArray, List.set_cons_zero, List.set_cons_succ])
          (refine hd_take 3 (v := ?_) rfl (by kernel_rfl) (by kernel_rfl) (fun _ _ _ h => h) (by assumption) ?_ ?_; rotate_left; (intro w hSw; (try dsimp only at hSw); go_simp; first | done | with_reducible rfl); simp only [Act.put, List.setIfInBounds_toArray, List.set_cons_zero, List.set_cons_succ])
          (refine hd_take 4 (v := ?_) rfl (by kernel_rfl) (by kernel_rfl) (fun _ _ _ h => h) (by assumption) ?_ ?_; rotate_left; (intro w hSw; (try dsimp only at hSw); go_simp; first | done | with_reducible rfl); simp only [Act.put, List.setIfInBounds_toArray, List.set_cons_zero, List.set_cons_succ])
          (refine hd_take 5 (v := ?_) rfl (by kernel_rfl) (by kernel_rfl) (fun _ _ _ h => h) (by assumption) ?_ ?_; rotate_left; (intro w hSw; (try dsimp only at hSw); go_simp; first | done | with_reducible rfl); simp only [Act.put, List.setIfInBounds_toArray, List.set_cons_zero, List.set_cons_succ])
          (refine hd_take 6 (v := ?_) rfl (by kernel_rfl) (by kernel_rfl) (fun _ _ _ h => h) (by assumption) ?_ ?_; rotate_left; (intro w hSw; (try dsimp only at hSw); go_simp; first | done | with_reducible rfl); simp only [Act.put, List.setIfInBounds_toArray, List.set_cons_zero, List.set_cons_succ])
          (refine hd_take 7 (v := ?_) rfl (by kernel_rfl) (by kernel_rfl) (fun _ _ _ h => h) (by assumption) ?_ ?_; rotate_left; (intro w hSw; (try dsimp only at hSw); go_simp; first | done | with_reducible rfl); simp only [Act.put, List.setIfInBounds_toArray, List.set_cons_zero, List.set_cons_succ])
          (refine hd_take 8 (v := ?_) rfl (by kernel_rfl) (by kernel_rfl) (fun _ _ _ h => h) (by assumption) ?_ ?_; rotate_left; (intro w hSw; (try dsimp only at hSw); go_simp; first | done | with_reducible rfl); simp only [Act.put, List.setIfInBounds_toArray, List.set_cons_zero, List.set_cons_succ])
          (refine hd_take 9 (v := ?_) rfl (by kernel_rfl) (by kernel_rfl) (fun _ _ _ h => h) (by assumption) ?_ ?_; rotate_left; (intro w hSw; (try dsimp only at hSw); go_simp; first | done | with_reducible rfl); simp only [Act.put, List.setIfInBounds_toArray, List.set_cons_zero, List.set_cons_succ])
          (refine hd_take 10 (v := ?_) rfl (by kernel_rfl) (by kernel_rfl) (fun _ _ _ h => h) (by assumption) ?_ ?_; rotate_left; (intro w hSw; (try dsimp only at hSw); go_simp; first | done | with_reducible rfl); simp only [Act.put, List.setIfInBounds_toArray, List.set_cons_zero, List.set_cons_succ])
          (refine hd_take 11 (v := ?_) rfl (by kernel_rfl) (by kernel_rfl) (fun _ _ _ h => h) (by assumption) ?_ ?_; rotate_left; (intro w hSw; (try dsimp only at hSw); go_simp; first | done | with_reducible rfl); simp only [Act.put, List.setIfInBounds_toArray, List.set_cons_zero, List.set_cons_succ])
          refine hd_one 12 rfl (by kernel_rfl) (fun K hK => ?_)
          go_simp
          go_wp2_with ((go_at_call 21); (with_reducible refine (HCC.out _).mono ?_); rintro e w3 ⟨rfl, hb3⟩; have HL3 := Aside0.mk (LB_step HLd.out hb3); clear hb3)
          refine hK.out _ _ (LB_S2 HL3.out j (j + 1) hjn hlt _ _ HPJ.out HQ.out) (fun hHeld => ?_)
          clear hK K
          (refine hd_take 13 (v := ?_) rfl (by kernel_rfl) (by kernel_rfl) (fun _ _ _ h => h) (by assumption) ?_ ?_; rotate_left; (intro w hSw; (try dsimp only at hSw); go_simp; first | done | with_reducible rfl); simp only [Act.put, List.setIfInBounds_toArray, List.set_cons_zero, List.set_cons_succ])
          (refine hd_take 14 (v := ?_) rfl (by kernel_rfl) (by kernel_rfl) (fun _ _ _ h => h) (by assumption) ?_ ?_; rotate_left; (intro w hSw; (try dsimp only at hSw); go_simp; first | done | with_reducible rfl); simp only [Act.put, List.setIfInBounds_toArray, List.set_cons_zero, List.set_cons_succ])
          refine wpAnyH_done (by kernel_rfl) ?_ _
          cases lv with
          | false =>
            go_wp2
            go_ret
            exact ⟨by unfold mayBl; rw [okN_false (k := j + 1) (by rw [HN.out]; exact hlt) HSO.out]; rfl, LB_b HL3.out⟩
          | true =>
            go_wp2
            go_roundw
            case rel => exact ⟨j + 1 + 1, hlt, by push_cast; rfl, ⟨by rw [okN_succ, HK.out, HSO.out]; rfl⟩, ⟨LB_b HL3.out⟩⟩
            case measure => simp [intOf]; omega
    · obtain rfl : k = n := by omega
      have HL : Aside0 (mayBl l = decide (1 ≤ k ∧ k ≤ 8)) := ⟨by unfold mayBl; rw [HN.out, HK.out]; rfl⟩
      by_cases h1 : 1 ≤ k
      · by_cases h8 : k ≤ 8
        · have e1 : (1 : Int) ≤ (k : Int) := by omega
          have e2 : (k : Int) ≤ 8 := by omega
          go_wp2_with fail
          go_ret
          exact ⟨by rw [HL.out, decide_eq_true ⟨h1, h8⟩]; rfl, HB.out⟩
        · have e1 : (1 : Int) ≤ (k : Int) := by omega
          have e2 : decide ((k : Int) ≤ 8) = false := decide_eq_false (by omega)
          go_wp2_with fail
          go_ret
          exact ⟨by rw [HL.out, decide_eq_false (fun h => h8 h.2)]; rfl, HB.out⟩
      · obtain rfl : k = 0 := by omega
        go_wp2_with fail
        go_ret
        exact ⟨by rw [HL.out]; rfl, HB.out⟩
end Go.Proofs.Ytopoepifbjbmoaa.A
