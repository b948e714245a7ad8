/- slices.BinarySearchFunc with row.Compare, on versions. -/
import Derived.Test.YtheoodbkjgfdfaaNIns
import Derived.Test.YtheoodbkjgfdfaaIHeld
namespace Go.Proofs.Ytheoodbkjgfdfaa.A
open R
open Go.RowKit Go.Proofs.YtheoodbkjgfdfaaW.PrintWords Go.Proofs.YtheoodbkjgfdfaaW.PrintLast Go.Proofs.YtheoodbkjgfdfaaW.PrintMore
set_option linter.unusedVariables false
set_option linter.unusedSimpArgs false

theorem vr8 {A : Option Addr} {n : Nat} {l : List Vr} {w : World} {ad : Addr} (hA : A = some ad) (h : KVr.C w A n l) (i : Nat) (hi : i < n) (p : Vr) (hp : l.getD i default = p) :
    w.cell? (ad.add (i * 8)) = some (.string p.k) ∧ w.cell? ⟨(ad.add (i * 8)).block, (ad.add (i * 8)).off + 1, none⟩ = some (.int .i64 p.br) ∧ w.cell? ⟨(ad.add (i * 8)).block, (ad.add (i * 8)).off + 2, none⟩ = some (.int .i64 p.ep) ∧ w.cell? ⟨(ad.add (i * 8)).block, (ad.add (i * 8)).off + 3, none⟩ = some (.int .i64 p.sq) ∧ w.cell? ⟨(ad.add (i * 8)).block, (ad.add (i * 8)).off + 4, none⟩ = some (.int .i64 p.f) ∧ w.cell? ⟨(ad.add (i * 8)).block, (ad.add (i * 8)).off + 5, none⟩ = some (.int .i64 p.t) ∧ w.cell? ⟨(ad.add (i * 8)).block, (ad.add (i * 8)).off + 6, none⟩ = some (.string p.v) ∧ w.cell? ⟨(ad.add (i * 8)).block, (ad.add (i * 8)).off + 7, none⟩ = some (.bool p.g) := by
  obtain ⟨ad', e, h⟩ := C_atVr h i hi
  rw [hA] at e
  injection e with e
  subst e
  rw [hp] at h
  exact h
set_option maxRecDepth 100000 in
set_option maxHeartbeats 4000000 in
theorem search_calls (A : Option Addr) (n c : Nat) (l : List Vr) (v : Vr) (i : Nat) (w : World) (hr : KVr.C w A n l) (hc : n ≤ c) (hn : n ≤ 100000) (hi : i ≤ n)
    (hlo : ∀ j, j < i → cmpV (l.getD j default) v < 0) (hhi : ∀ j, i ≤ j → j < n → 0 ≤ cmpV (l.getD j default) v) :
    Calls Try.prog 28 #[.slice A n c, .agg #[.string v.k, .int .i64 v.br, .int .i64 v.ep, .int .i64 v.sq, .int .i64 v.f, .int .i64 v.t, .string v.v, .bool v.g], .func (.func 29) #[] #[]] w
      fun e w' => e = .returned (.tuple #[.int .i64 (i : Int), .bool (decide (i < n) && decide (cmpV (l.getD i default) v = 0))]) ∧ Below w.heap.size w w' := by
  have HR := Aside0.mk hr
  have HLO := Aside0.mk hlo
  have HHI := Aside0.mk hhi
  obtain ⟨g, hg⟩ : ∃ g, w.heap.size = g := ⟨_, rfl⟩
  obtain ⟨W, hW⟩ : ∃ W, w.alloc (vrBox v.k v.br v.ep v.sq v.f v.t v.v v.g) = W := ⟨_, rfl⟩
  have hb : Below w.heap.size w W := by rw [← hW]; exact below_alloc (Below.refl _ _) _
  have z0 : W.heap[g]? = some (vrBox v.k v.br v.ep v.sq v.f v.t v.v v.g) := by rw [← hW, ← hg]; exact blk_new w _
  have HB := Aside0.mk hb
  have HZ := Aside0.mk z0
  have HCv := Aside0.mk (fun (p : Vr) W => compare_calls p.k p.br p.ep p.sq p.f p.t p.v p.g v.k v.br v.ep v.sq v.f v.t v.v v.g W)
  obtain ⟨fin, hfin⟩ : ∃ b, (decide (i < n) && decide (cmpV (l.getD i default) v = 0)) = b := ⟨_, rfl⟩
  rw [hfin]
  have HFIN := Aside0.mk hfin
  clear hr hlo hhi hb z0 hfin
  go_enter Try.func28, Try.ntmps28
  go_wp2_with fail
  go_loopw [9, 10] (fun v9 v10 w' => ∃ lo hi : Nat, v9 = .int .i64 lo ∧ v10 = .int .i64 hi ∧ lo ≤ i ∧ i ≤ hi ∧ hi ≤ n ∧ Aside0 (Below w.heap.size w w' ∧ w'.heap[g]? = some (vrBox v.k v.br v.ep v.sq v.f v.t v.v v.g))) (fun v9 v10 _ => (intOf v10).toNat - (intOf v9).toNat)
  case atStart => exact ⟨0, n, rfl, rfl, Nat.zero_le _, by omega, Nat.le_refl _, ⟨HB.out, HZ.out⟩⟩
  case round =>
    obtain ⟨lo, hh, rfl, rfl, h1, h2, h3, HI⟩ := hrel
    have HBOX : Aside0 (∀ W', Below wr.heap.size wr W' → W'.cell? ⟨g, 0, none⟩ = some (.string v.k) ∧ W'.cell? ⟨g, 1, none⟩ = some (.int .i64 v.br) ∧ W'.cell? ⟨g, 2, none⟩ = some (.int .i64 v.ep) ∧ W'.cell? ⟨g, 3, none⟩ = some (.int .i64 v.sq) ∧ W'.cell? ⟨g, 4, none⟩ = some (.int .i64 v.f) ∧ W'.cell? ⟨g, 5, none⟩ = some (.int .i64 v.t) ∧ W'.cell? ⟨g, 6, none⟩ = some (.string v.v) ∧ W'.cell? ⟨g, 7, none⟩ = some (.bool v.g)) := ⟨fun W' hb => vr_cells (box_keep HI.out.2 hb)⟩
    by_cases hlt : lo < hh
    · obtain ⟨mid, hmid⟩ : ∃ m, (lo + hh) / 2 = m := ⟨_, rfl⟩
      have m1 : lo ≤ mid := by omega
      have m2 : mid < hh := by omega
      have m3 : ((lo : Int) + (hh : Int)) / 2 = (mid : Int) := by omega
      have m4 : (mid : Int) < (n : Int) := by omega
      obtain ⟨ad, hA, -⟩ := C_atVr HR.out mid (by omega)
      subst hA
      obtain ⟨p, hp⟩ : ∃ p, l.getD mid default = p := ⟨_, rfl⟩
      have HROW := Aside0.mk (fun W' (hb : Below wr.heap.size wr W') => vr8 rfl (Kd.C_below HR.out (below_step HI.out.1 hb)) mid (by omega) p hp)
      have HCM := Aside0.mk (HCv.out p)
      obtain ⟨q, hq⟩ : ∃ q, cmpV p v = q := ⟨_, rfl⟩
      have hq1 : q < 0 → mid < i := fun h => by
        rcases Nat.lt_or_ge mid i with h9 | h9
        · exact h9
        · have := HHI.out mid h9 (by omega); rw [hp, hq] at this; omega
      have hq2 : ¬ q < 0 → i ≤ mid := fun h => by
        rcases Nat.lt_or_ge mid i with h9 | h9
        · have := HLO.out mid h9; rw [hp, hq] at this; omega
        · exact h9
      rw [show (⟨p.k, p.br, p.ep, p.sq, p.f, p.t, p.v, p.g⟩ : Vr) = p from rfl, show (⟨v.k, v.br, v.ep, v.sq, v.f, v.t, v.v, v.g⟩ : Vr) = v from rfl, hq] at HCM
      have j1 : (lo : Int) < (hh : Int) := by omega
      clear hp hq hmid
      by_cases hq0 : q < 0
      · have hmi := hq1 hq0
        go_wp2_with fail
        refine wp_region_held_drew (S := (fun w' => Below wr.heap.size wr w')) (by kernel_rfl) (below_drew1 (Below.refl _ _)) (fun hHeld => ?_)
        (refine hd_take 0 (v := ?_) rfl (by kernel_rfl) (by kernel_rfl) (fun _ _ _ h => h) (by assumption) ?_ ?_; rotate_left; (intro w hSw; (try dsimp only at hSw); go_simp; first | done | with_reducible rfl); simp only [Act.put, List.setIfInBounds_toArray, List.set_cons_zero, List.set_cons_succ])
        (refine hd_take 1 (v := ?_) rfl (by kernel_rfl) (by kernel_rfl) (fun _ _ _ h => h) (by assumption) ?_ ?_; rotate_left; (intro w hSw; (try dsimp only at hSw); go_simp; first | done | with_reducible rfl); simp only [Act.put, List.setIfInBounds_toArray, List.set_cons_zero, List.set_cons_succ])
        (refine hd_take 2 (v := ?_) rfl (by kernel_rfl) (by kernel_rfl) (fun _ _ _ h => h) (by assumption) ?_ ?_; rotate_left; (intro w hSw; (try dsimp only at hSw); go_simp; first | done | with_reducible rfl); simp only [Act.put, List.setIfInBounds_toArray, List.set_cons_zero, List.set_cons_succ])
        (refine hd_take 3 (v := ?_) rfl (by kernel_rfl) (by kernel_rfl) (fun _ _ _ h => h) (by assumption) ?_ ?_; rotate_left; (intro w hSw; (try dsimp only at hSw); go_simp; first | done | with_reducible rfl); simp only [Act.put, List.setIfInBounds_toArray, List.set_cons_zero, List.set_cons_succ])
        (refine hd_take 4 (v := ?_) rfl (by kernel_rfl) (by kernel_rfl) (fun _ _ _ h => h) (by assumption) ?_ ?_; rotate_left; (intro w hSw; (try dsimp only at hSw); obtain ⟨s0, s1, s2, s3, s4, s5, s6, s7⟩ := HROW.out _ hSw; obtain ⟨r0, r1, r2, r3, r4, r5, r6, r7⟩ := HBOX.out _ hSw; go_simp; first | done | with_reducible rfl); simp only [Act.put, List.setIfInBounds_toArray, List.set_cons_zero, List.set_cons_succ])
        (refine hd_take 5 (v := ?_) rfl (by kernel_rfl) (by kernel_rfl) (fun _ _ _ h => h) (by assumption) ?_ ?_; rotate_left; (intro w hSw; (try dsimp only at hSw); obtain ⟨s0, s1, s2, s3, s4, s5, s6, s7⟩ := HROW.out _ hSw; obtain ⟨r0, r1, r2, r3, r4, r5, r6, r7⟩ := HBOX.out _ hSw; go_simp; first | done | with_reducible rfl); simp only [Act.put, List.setIfInBounds_toArray, List.set_cons_zero, List.set_cons_succ])
        refine hd_one 6 rfl (by kernel_rfl) (fun K hK => ?_)
        go_simp
        go_wp2_with ((go_at_call 29); (with_reducible refine (HCM.out _).mono ?_); rintro e u1 ⟨rfl, hc1⟩)
        refine hK.out _ _ (below_step hHeld hc1) (fun hHeld => ?_)
        clear hK K hc1
        (refine hd_take 7 (v := ?_) rfl (by kernel_rfl) (by kernel_rfl) (fun _ _ _ h => h) (by assumption) ?_ ?_; rotate_left; (intro w hSw; (try dsimp only at hSw); go_simp; first | done | with_reducible rfl); simp only [Act.put, List.setIfInBounds_toArray, List.set_cons_zero, List.set_cons_succ])
        refine wpAnyH_done (by kernel_rfl) ?_ _
        have HI2 := Aside0.mk (show Below w.heap.size w u1 ∧ u1.heap[g]? = some (vrBox v.k v.br v.ep v.sq v.f v.t v.v v.g) from ⟨below_step HI.out.1 hHeld, box_keep HI.out.2 hHeld⟩)
        clear hHeld
        go_wp2_with fail
        go_roundw
        case rel => exact ⟨mid + 1, hh, by push_cast; rfl, rfl, by omega, h2, h3, HI2⟩
        case measure => simp [intOf]; omega
      · have hmi := hq2 hq0
        go_wp2_with fail
        refine wp_region_held_drew (S := (fun w' => Below wr.heap.size wr w')) (by kernel_rfl) (below_drew1 (Below.refl _ _)) (fun hHeld => ?_)
        (refine hd_take 0 (v := ?_) rfl (by kernel_rfl) (by kernel_rfl) (fun _ _ _ h => h) (by assumption) ?_ ?_; rotate_left; (intro w hSw; (try dsimp only at hSw); go_simp; first | done | with_reducible rfl); simp only [Act.put, List.setIfInBounds_toArray, List.set_cons_zero, List.set_cons_succ])
        (refine hd_take 1 (v := ?_) rfl (by kernel_rfl) (by kernel_rfl) (fun _ _ _ h => h) (by assumption) ?_ ?_; rotate_left; (intro w hSw; (try dsimp only at hSw); go_simp; first | done | with_reducible rfl); simp only [Act.put, List.setIfInBounds_toArray, List.set_cons_zero, List.set_cons_succ])
        (refine hd_take 2 (v := ?_) rfl (by kernel_rfl) (by kernel_rfl) (fun _ _ _ h => h) (by assumption) ?_ ?_; rotate_left; (intro w hSw; (try dsimp only at hSw); go_simp; first | done | with_reducible rfl); simp only [Act.put, List.setIfInBounds_toArray, List.set_cons_zero, List.set_cons_succ])
        (refine hd_take 3 (v := ?_) rfl (by kernel_rfl) (by kernel_rfl) (fun _ _ _ h => h) (by assumption) ?_ ?_; rotate_left; (intro w hSw; (try dsimp only at hSw); go_simp; first | done | with_reducible rfl); simp only [Act.put, List.setIfInBounds_toArray, List.set_cons_zero, List.set_cons_succ])
        (refine hd_take 4 (v := ?_) rfl (by kernel_rfl) (by kernel_rfl) (fun _ _ _ h => h) (by assumption) ?_ ?_; rotate_left; (intro w hSw; (try dsimp only at hSw); obtain ⟨s0, s1, s2, s3, s4, s5, s6, s7⟩ := HROW.out _ hSw; obtain ⟨r0, r1, r2, r3, r4, r5, r6, r7⟩ := HBOX.out _ hSw; go_simp; first | done | with_reducible rfl); simp only [Act.put, List.setIfInBounds_toArray, List.set_cons_zero, List.set_cons_succ])
        (refine hd_take 5 (v := ?_) rfl (by kernel_rfl) (by kernel_rfl) (fun _ _ _ h => h) (by assumption) ?_ ?_; rotate_left; (intro w hSw; (try dsimp only at hSw); obtain ⟨s0, s1, s2, s3, s4, s5, s6, s7⟩ := HROW.out _ hSw; obtain ⟨r0, r1, r2, r3, r4, r5, r6, r7⟩ := HBOX.out _ hSw; go_simp; first | done | with_reducible rfl); simp only [Act.put, List.setIfInBounds_toArray, List.set_cons_zero, List.set_cons_succ])
        refine hd_one 6 rfl (by kernel_rfl) (fun K hK => ?_)
        go_simp
        go_wp2_with ((go_at_call 29); (with_reducible refine (HCM.out _).mono ?_); rintro e u1 ⟨rfl, hc1⟩)
        refine hK.out _ _ (below_step hHeld hc1) (fun hHeld => ?_)
        clear hK K hc1
        (refine hd_take 7 (v := ?_) rfl (by kernel_rfl) (by kernel_rfl) (fun _ _ _ h => h) (by assumption) ?_ ?_; rotate_left; (intro w hSw; (try dsimp only at hSw); go_simp; first | done | with_reducible rfl); simp only [Act.put, List.setIfInBounds_toArray, List.set_cons_zero, List.set_cons_succ])
        refine wpAnyH_done (by kernel_rfl) ?_ _
        have HI2 := Aside0.mk (show Below w.heap.size w u1 ∧ u1.heap[g]? = some (vrBox v.k v.br v.ep v.sq v.f v.t v.v v.g) from ⟨below_step HI.out.1 hHeld, box_keep HI.out.2 hHeld⟩)
        clear hHeld
        go_wp2_with fail
        go_roundw
        case rel => exact ⟨lo, mid, rfl, rfl, h1, hmi, by omega, HI2⟩
        case measure => simp [intOf]; omega
    · obtain rfl : lo = i := by omega
      have j1 : ¬ (lo : Int) < (hh : Int) := by omega
      by_cases hln : lo < n
      · have m4 : (lo : Int) < (n : Int) := by omega
        obtain ⟨ad, hA, -⟩ := C_atVr HR.out lo hln
        subst hA
        obtain ⟨p, hp⟩ : ∃ p, l.getD lo default = p := ⟨_, rfl⟩
        have HROW := Aside0.mk (fun W' (hb : Below wr.heap.size wr W') => vr8 rfl (Kd.C_below HR.out (below_step HI.out.1 hb)) lo hln p hp)
        have HCM := Aside0.mk (HCv.out p)
        obtain ⟨q, hq⟩ : ∃ q, cmpV p v = q := ⟨_, rfl⟩
        rw [show (⟨p.k, p.br, p.ep, p.sq, p.f, p.t, p.v, p.g⟩ : Vr) = p from rfl, show (⟨v.k, v.br, v.ep, v.sq, v.f, v.t, v.v, v.g⟩ : Vr) = v from rfl, hq] at HCM
        have HF2 : Aside0 (decide (q = 0) = fin) := ⟨by rw [← HFIN.out, hp, hq, decide_eq_true hln, Bool.true_and]⟩
        clear hp hq
        go_wp2_with fail
        refine wp_region_held_drew (S := (fun w' => Below wr.heap.size wr w')) (by kernel_rfl) (below_drew1 (Below.refl _ _)) (fun hHeld => ?_)
        (refine hd_take 0 (v := ?_) rfl (by kernel_rfl) (by kernel_rfl) (fun _ _ _ h => h) (by assumption) ?_ ?_; rotate_left; (intro w hSw; (try dsimp only at hSw); go_simp; first | done | with_reducible rfl); simp only [Act.put, List.setIfInBounds_toArray, List.set_cons_zero, List.set_cons_succ])
        (refine hd_take 1 (v := ?_) rfl (by kernel_rfl) (by kernel_rfl) (fun _ _ _ h => h) (by assumption) ?_ ?_; rotate_left; (intro w hSw; (try dsimp only at hSw); go_simp; first | done | with_reducible rfl); simp only [Act.put, List.setIfInBounds_toArray, List.set_cons_zero, List.set_cons_succ])
        (refine hd_take 2 (v := ?_) rfl (by kernel_rfl) (by kernel_rfl) (fun _ _ _ h => h) (by assumption) ?_ ?_; rotate_left; (intro w hSw; (try dsimp only at hSw); go_simp; first | done | with_reducible rfl); simp only [Act.put, List.setIfInBounds_toArray, List.set_cons_zero, List.set_cons_succ])
        (refine hd_take 3 (v := ?_) rfl (by kernel_rfl) (by kernel_rfl) (fun _ _ _ h => h) (by assumption) ?_ ?_; rotate_left; (intro w hSw; (try dsimp only at hSw); go_simp; first | done | with_reducible rfl); simp only [Act.put, List.setIfInBounds_toArray, List.set_cons_zero, List.set_cons_succ])
        (refine hd_take 4 (v := ?_) rfl (by kernel_rfl) (by kernel_rfl) (fun _ _ _ h => h) (by assumption) ?_ ?_; rotate_left; (intro w hSw; (try dsimp only at hSw); go_simp; first | done | with_reducible rfl); simp only [Act.put, List.setIfInBounds_toArray, List.set_cons_zero, List.set_cons_succ])
        (refine hd_take 5 (v := ?_) rfl (by kernel_rfl) (by kernel_rfl) (fun _ _ _ h => h) (by assumption) ?_ ?_; rotate_left; (intro w hSw; (try dsimp only at hSw); go_simp; first | done | with_reducible rfl); simp only [Act.put, List.setIfInBounds_toArray, List.set_cons_zero, List.set_cons_succ])
        (refine hd_take 6 (v := ?_) rfl (by kernel_rfl) (by kernel_rfl) (fun _ _ _ h => h) (by assumption) ?_ ?_; rotate_left; (intro w hSw; (try dsimp only at hSw); go_simp; first | done | with_reducible rfl); simp only [Act.put, List.setIfInBounds_toArray, List.set_cons_zero, List.set_cons_succ])
        (refine hd_take 7 (v := ?_) rfl (by kernel_rfl) (by kernel_rfl) (fun _ _ _ h => h) (by assumption) ?_ ?_; rotate_left; (intro w hSw; (try dsimp only at hSw); go_simp; first | done | with_reducible rfl); simp only [Act.put, List.setIfInBounds_toArray, List.set_cons_zero, List.set_cons_succ])
        (refine hd_take 8 (v := ?_) rfl (by kernel_rfl) (by kernel_rfl) (fun _ _ _ h => h) (by assumption) ?_ ?_; rotate_left; (intro w hSw; (try dsimp only at hSw); go_simp; first | done | with_reducible rfl); simp only [Act.put, List.setIfInBounds_toArray, List.set_cons_zero, List.set_cons_succ])
        (refine hd_take 9 (v := ?_) rfl (by kernel_rfl) (by kernel_rfl) (fun _ _ _ h => h) (by assumption) ?_ ?_; rotate_left; (intro w hSw; (try dsimp only at hSw); obtain ⟨s0, s1, s2, s3, s4, s5, s6, s7⟩ := HROW.out _ hSw; obtain ⟨r0, r1, r2, r3, r4, r5, r6, r7⟩ := HBOX.out _ hSw; go_simp; first | done | with_reducible rfl); simp only [Act.put, List.setIfInBounds_toArray, List.set_cons_zero, List.set_cons_succ])
        (refine hd_take 10 (v := ?_) rfl (by kernel_rfl) (by kernel_rfl) (fun _ _ _ h => h) (by assumption) ?_ ?_; rotate_left; (intro w hSw; (try dsimp only at hSw); obtain ⟨s0, s1, s2, s3, s4, s5, s6, s7⟩ := HROW.out _ hSw; obtain ⟨r0, r1, r2, r3, r4, r5, r6, r7⟩ := HBOX.out _ hSw; go_simp; first | done | with_reducible rfl); simp only [Act.put, List.setIfInBounds_toArray, List.set_cons_zero, List.set_cons_succ])
        refine hd_one 11 rfl (by kernel_rfl) (fun K hK => ?_)
        go_simp
        go_wp2_with ((go_at_call 29); (with_reducible refine (HCM.out _).mono ?_); rintro e u1 ⟨rfl, hc1⟩)
        refine hK.out _ _ (below_step hHeld hc1) (fun hHeld => ?_)
        clear hK K hc1
        (refine hd_take 12 (v := ?_) rfl (by kernel_rfl) (by kernel_rfl) (fun _ _ _ h => h) (by assumption) ?_ ?_; rotate_left; (intro w hSw; (try dsimp only at hSw); go_simp; first | done | with_reducible rfl); simp only [Act.put, List.setIfInBounds_toArray, List.set_cons_zero, List.set_cons_succ])
        (refine hd_take 13 (v := ?_) rfl (by kernel_rfl) (by kernel_rfl) (fun _ _ _ h => h) (by assumption) ?_ ?_; rotate_left; (intro w hSw; (try dsimp only at hSw); go_simp; first | done | with_reducible rfl); simp only [Act.put, List.setIfInBounds_toArray, List.set_cons_zero, List.set_cons_succ])
        (refine hd_take 14 (v := ?_) rfl (by kernel_rfl) (by kernel_rfl) (fun _ _ _ h => h) (by assumption) ?_ ?_; rotate_left; (intro w hSw; (try dsimp only at hSw); go_simp; first | done | with_reducible rfl); simp only [Act.put, List.setIfInBounds_toArray, List.set_cons_zero, List.set_cons_succ])
        (refine hd_take 15 (v := ?_) rfl (by kernel_rfl) (by kernel_rfl) (fun _ _ _ h => h) (by assumption) ?_ ?_; rotate_left; (intro w hSw; (try dsimp only at hSw); go_simp; first | done | with_reducible rfl); simp only [Act.put, List.setIfInBounds_toArray, List.set_cons_zero, List.set_cons_succ])
        refine wpAnyH_done (by kernel_rfl) ?_ _
        have HBe := Aside0.mk (below_step HI.out.1 hHeld)
        clear hHeld
        go_wp2_with fail
        clear hg
        go_ret2
        exact ⟨by rw [← HF2.out]; rfl, HBe.out⟩
      · have m4 : ¬ (lo : Int) < (n : Int) := by omega
        have HF2 : Aside0 (false = fin) := ⟨by rw [← HFIN.out, decide_eq_false hln, Bool.false_and]⟩
        go_wp2_with fail
        refine wp_region_held_drew (S := (fun w' => Below wr.heap.size wr w')) (by kernel_rfl) (below_drew1 (Below.refl _ _)) (fun hHeld => ?_)
        (refine hd_take 0 (v := ?_) rfl (by kernel_rfl) (by kernel_rfl) (fun _ _ _ h => h) (by assumption) ?_ ?_; rotate_left; (intro w hSw; (try dsimp only at hSw); go_simp; first | done | with_reducible rfl); simp only [Act.put, List.setIfInBounds_toArray, List.set_cons_zero, List.set_cons_succ])
        (refine hd_take 1 (v := ?_) rfl (by kernel_rfl) (by kernel_rfl) (fun _ _ _ h => h) (by assumption) ?_ ?_; rotate_left; (intro w hSw; (try dsimp only at hSw); go_simp; first | done | with_reducible rfl); simp only [Act.put, List.setIfInBounds_toArray, List.set_cons_zero, List.set_cons_succ])
        (refine hd_take 2 (v := ?_) rfl (by kernel_rfl) (by kernel_rfl) (fun _ _ _ h => h) (by assumption) ?_ ?_; rotate_left; (intro w hSw; (try dsimp only at hSw); go_simp; first | done | with_reducible rfl); simp only [Act.put, List.setIfInBounds_toArray, List.set_cons_zero, List.set_cons_succ])
        (refine hd_take 3 (v := ?_) rfl (by kernel_rfl) (by kernel_rfl) (fun _ _ _ h => h) (by assumption) ?_ ?_; rotate_left; (intro w hSw; (try dsimp only at hSw); go_simp; first | done | with_reducible rfl); simp only [Act.put, List.setIfInBounds_toArray, List.set_cons_zero, List.set_cons_succ])
        (refine hd_take 4 (v := ?_) rfl (by kernel_rfl) (by kernel_rfl) (fun _ _ _ h => h) (by assumption) ?_ ?_; rotate_left; (intro w hSw; (try dsimp only at hSw); go_simp; first | done | with_reducible rfl); simp only [Act.put, List.setIfInBounds_toArray, List.set_cons_zero, List.set_cons_succ])
        (refine hd_skip 5 rfl (by kernel_rfl) (by kernel_rfl) (fun _ _ _ h => h) (by assumption) ?_; simp only [Act.put, List.setIfInBounds_toArray, List.set_cons_zero, List.set_cons_succ])
        (refine hd_skip 6 rfl (by kernel_rfl) (by kernel_rfl) (fun _ _ _ h => h) (by assumption) ?_; simp only [Act.put, List.setIfInBounds_toArray, List.set_cons_zero, List.set_cons_succ])
        (refine hd_skip 7 rfl (by kernel_rfl) (by kernel_rfl) (fun _ _ _ h => h) (by assumption) ?_; simp only [Act.put, List.setIfInBounds_toArray, List.set_cons_zero, List.set_cons_succ])
        (refine hd_skip 8 rfl (by kernel_rfl) (by kernel_rfl) (fun _ _ _ h => h) (by assumption) ?_; simp only [Act.put, List.setIfInBounds_toArray, List.set_cons_zero, List.set_cons_succ])
        (refine hd_skip 9 rfl (by kernel_rfl) (by kernel_rfl) (fun _ _ _ h => h) (by assumption) ?_; simp only [Act.put, List.setIfInBounds_toArray, List.set_cons_zero, List.set_cons_succ])
        (refine hd_skip 10 rfl (by kernel_rfl) (by kernel_rfl) (fun _ _ _ h => h) (by assumption) ?_; simp only [Act.put, List.setIfInBounds_toArray, List.set_cons_zero, List.set_cons_succ])
        (refine hd_skip 11 rfl (by kernel_rfl) (by kernel_rfl) (fun _ _ _ h => h) (by assumption) ?_; simp only [Act.put, List.setIfInBounds_toArray, List.set_cons_zero, List.set_cons_succ])
        (refine hd_skip 12 rfl (by kernel_rfl) (by kernel_rfl) (fun _ _ _ h => h) (by assumption) ?_; simp only [Act.put, List.setIfInBounds_toArray, List.set_cons_zero, List.set_cons_succ])
        (refine hd_take 13 (v := ?_) rfl (by kernel_rfl) (by kernel_rfl) (fun _ _ _ h => h) (by assumption) ?_ ?_; rotate_left; (intro w hSw; (try dsimp only at hSw); go_simp; first | done | with_reducible rfl); simp only [Act.put, List.setIfInBounds_toArray, List.set_cons_zero, List.set_cons_succ])
        (refine hd_take 14 (v := ?_) rfl (by kernel_rfl) (by kernel_rfl) (fun _ _ _ h => h) (by assumption) ?_ ?_; rotate_left; (intro w hSw; (try dsimp only at hSw); go_simp; first | done | with_reducible rfl); simp only [Act.put, List.setIfInBounds_toArray, List.set_cons_zero, List.set_cons_succ])
        (refine hd_take 15 (v := ?_) rfl (by kernel_rfl) (by kernel_rfl) (fun _ _ _ h => h) (by assumption) ?_ ?_; rotate_left; (intro w hSw; (try dsimp only at hSw); go_simp; first | done | with_reducible rfl); simp only [Act.put, List.setIfInBounds_toArray, List.set_cons_zero, List.set_cons_succ])
        refine wpAnyH_done (by kernel_rfl) ?_ _
        have HBe := Aside0.mk (below_step HI.out.1 hHeld)
        clear hHeld
        go_wp2_with fail
        clear hg
        go_ret2
        exact ⟨by rw [← HF2.out]; rfl, HBe.out⟩
end Go.Proofs.Ytheoodbkjgfdfaa.A
