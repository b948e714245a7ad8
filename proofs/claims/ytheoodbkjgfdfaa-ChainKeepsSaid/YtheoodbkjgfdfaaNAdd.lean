/- The document's Add, on a row of versions in order. -/
import Derived.Test.YtheoodbkjgfdfaaNKeys
import Derived.Test.YtheoodbkjgfdfaaIHeld
namespace Go.Proofs.Ytheoodbkjgfdfaa.A
open R
open Go.RowKit Go.Proofs.YtheoodbkjgfdfaaW.PrintWords Go.Proofs.YtheoodbkjgfdfaaW.PrintLast Go.Proofs.YtheoodbkjgfdfaaW.PrintMore
set_option linter.unusedVariables false
set_option linter.unusedSimpArgs false

theorem less_pos {p v : Vr} {q : Int} (h : cmpV p v = q) : lessV p v = decide (q < 0) ∧ lessV v p = decide (0 < q) := by
  have h1 := cmpV_range p v
  have h2 := cmpV_swap p v
  rw [less_cmp, less_cmp, h2, h]
  rw [h] at h1
  exact ⟨decide_eq_decide.2 (by omega), decide_eq_decide.2 (by omega)⟩
set_option maxRecDepth 100000 in
set_option maxHeartbeats 2000000 in
theorem radd_bad (A : Option Addr) (n c : Nat) (l : List Vr) (v : Vr) (w : World) (hr : KVr.C w A n l) (hc : n ≤ c) (hn : n ≤ 5000) (hk : v.k.size ≤ 100000) (hv : v.v.size ≤ 9223372036854775807) (hm : mayV v = false) :
    Calls Try.prog 24 #[.slice A n c, (.agg #[.string v.k, .int .i64 v.br, .int .i64 v.ep, .int .i64 v.sq, .int .i64 v.f, .int .i64 v.t, .string v.v, .bool v.g])] w fun e w' => e = .returned (.tuple #[.slice A n c, .int .i64 1]) ∧ Below w.heap.size w w' := by
  have HR := Aside0.mk hr
  have HN := Aside0.mk hr.1
  have HM := Aside0.mk (fun W => may6_calls v.k v.br v.ep v.sq v.f v.t v.v v.g W hk hv)
  rw [show (⟨v.k, v.br, v.ep, v.sq, v.f, v.t, v.v, v.g⟩ : Vr) = v from rfl, hm] at HM
  obtain ⟨g, hg⟩ : ∃ g, w.heap.size = g := ⟨_, rfl⟩
  obtain ⟨W, hW⟩ : ∃ W, w.alloc (vrBox v.k v.br v.ep v.sq v.f v.t v.v v.g) = W := ⟨_, rfl⟩
  have hb : Below w.heap.size w W := by rw [← hW]; exact below_alloc (Below.refl _ _) _
  have z0 : W.heap[g]? = some (vrBox v.k v.br v.ep v.sq v.f v.t v.v v.g) := by rw [← hW, ← hg]; exact blk_new w _
  obtain ⟨c0, c1, c2, c3, c4, c5, c6, c7⟩ := vr_cells z0
  have HB := Aside0.mk hb
  have HZ := Aside0.mk z0
  clear hr hb z0 hm
  go_enter Try.func24, Try.ntmps24
  go_wp2_with fail
  (with_reducible refine (HM.out W).mono ?_)
  rintro e w1 ⟨rfl, hb1⟩
  have HB1 := Aside0.mk (below_step HB.out hb1)
  have HZ1 := Aside0.mk (box_keep HZ.out hb1)
  clear hb1 c0 c1 c2 c3 c4 c5 c6 c7
  go_wp2_with fail
  clear hg
  go_ret2
  exact ⟨rfl, HB1.out⟩
set_option maxRecDepth 100000 in
set_option maxHeartbeats 4000000 in
theorem radd_had (A : Option Addr) (n c : Nat) (l : List Vr) (v : Vr) (i : Nat) (w : World) (hr : KVr.C w A n l) (hc : n ≤ c) (hn : n ≤ 5000) (hk : v.k.size ≤ 100000) (hv : v.v.size ≤ 9223372036854775807) (hm : mayV v = true) (hi : i < n)
    (hlo : ∀ j, j < i → cmpV (l.getD j default) v < 0) (hat : cmpV (l.getD i default) v = 0) :
    Calls Try.prog 24 #[.slice A n c, (.agg #[.string v.k, .int .i64 v.br, .int .i64 v.ep, .int .i64 v.sq, .int .i64 v.f, .int .i64 v.t, .string v.v, .bool v.g])] w fun e w' => e = .returned (.tuple #[.slice A n c, .int .i64 9]) ∧ Below w.heap.size w w' := by
  have HLO := Aside0.mk hlo
  have HAT := Aside0.mk hat
  have HCP := Aside0.mk (fun (p : Vr) W => less_calls v.k v.br v.ep v.sq v.f v.t v.v v.g p.k p.br p.ep p.sq p.f p.t p.v p.g W)
  have HCQ := Aside0.mk (fun (p : Vr) W => less_calls p.k p.br p.ep p.sq p.f p.t p.v p.g v.k v.br v.ep v.sq v.f v.t v.v v.g W)
  clear hlo hat
  have HR := Aside0.mk hr
  have HN := Aside0.mk hr.1
  have HM := Aside0.mk (fun W => may6_calls v.k v.br v.ep v.sq v.f v.t v.v v.g W hk hv)
  rw [show (⟨v.k, v.br, v.ep, v.sq, v.f, v.t, v.v, v.g⟩ : Vr) = v from rfl, hm] at HM
  obtain ⟨g, hg⟩ : ∃ g, w.heap.size = g := ⟨_, rfl⟩
  obtain ⟨W, hW⟩ : ∃ W, w.alloc (vrBox v.k v.br v.ep v.sq v.f v.t v.v v.g) = W := ⟨_, rfl⟩
  have hb : Below w.heap.size w W := by rw [← hW]; exact below_alloc (Below.refl _ _) _
  have z0 : W.heap[g]? = some (vrBox v.k v.br v.ep v.sq v.f v.t v.v v.g) := by rw [← hW, ← hg]; exact blk_new w _
  obtain ⟨c0, c1, c2, c3, c4, c5, c6, c7⟩ := vr_cells z0
  have HB := Aside0.mk hb
  have HZ := Aside0.mk z0
  clear hr hb z0 hm
  go_enter Try.func24, Try.ntmps24
  go_wp2_with fail
  (with_reducible refine (HM.out W).mono ?_)
  rintro e w1 ⟨rfl, hb1⟩
  have HB1 := Aside0.mk (below_step HB.out hb1)
  have HZ1 := Aside0.mk (box_keep HZ.out hb1)
  clear hb1 c0 c1 c2 c3 c4 c5 c6 c7
  go_wp2_with fail
  go_loopw [7, 8, 9, 10, 11] (fun v7 v8 v9 v10 v11 w' => ∃ k : Nat, k ≤ i ∧ v9 = .int .i64 k ∧ v8 = .bool false ∧ Aside0 (OVr w' w1.heap.size v7 (l.take k)) ∧ Aside0 (Below w1.heap.size w1 w')) (fun _ _ v9 _ _ _ => n - (intOf v9).toNat)
  case atStart => exact ⟨0, Nat.zero_le _, rfl, rfl, ⟨OVr_nil _ _⟩, ⟨Below.refl _ _⟩⟩
  case round =>
    obtain ⟨k, hki, rfl, rfl, HO, HBk⟩ := hrel
    have hlt : k < n := by omega
    have HBOX : Aside0 (∀ W', Below wr.heap.size wr W' → W'.cell? ⟨g, 0, none⟩ = some (.string v.k) ∧ W'.cell? ⟨g, 1, none⟩ = some (.int .i64 v.br) ∧ W'.cell? ⟨g, 2, none⟩ = some (.int .i64 v.ep) ∧ W'.cell? ⟨g, 3, none⟩ = some (.int .i64 v.sq) ∧ W'.cell? ⟨g, 4, none⟩ = some (.int .i64 v.f) ∧ W'.cell? ⟨g, 5, none⟩ = some (.int .i64 v.t) ∧ W'.cell? ⟨g, 6, none⟩ = some (.string v.v) ∧ W'.cell? ⟨g, 7, none⟩ = some (.bool v.g)) := ⟨fun W' hb => vr_cells (box_keep (box_keep HZ1.out HBk.out) hb)⟩
    obtain ⟨ad, hA, -⟩ := C_atVr HR.out k hlt
    subst hA
    obtain ⟨p, hp⟩ : ∃ p, l.getD k default = p := ⟨_, rfl⟩
    have HROW := Aside0.mk (fun W' (hb : Below wr.heap.size wr W') => vr8 rfl (Kd.C_below HR.out (below_step (below_step HB1.out HBk.out) hb)) k hlt p hp)
    have HL1 := Aside0.mk (HCP.out p)
    have HL2 := Aside0.mk (HCQ.out p)
    rw [show (⟨p.k, p.br, p.ep, p.sq, p.f, p.t, p.v, p.g⟩ : Vr) = p from rfl, show (⟨v.k, v.br, v.ep, v.sq, v.f, v.t, v.v, v.g⟩ : Vr) = v from rfl] at HL1 HL2
    have j1 : (k : Int) < (n : Int) := by omega
    have j2 : (0 : Int) ≤ (k : Int) := by omega
    have hdr : Below wr.heap.size wr wr.drew := below_drew1 (Below.refl _ _)
    by_cases he : k = i
    · subst he
      have hq : cmpV p v = 0 := by rw [← hp]; exact HAT.out
      obtain ⟨l1, l2⟩ := less_pos hq
      rw [l2] at HL1
      rw [l1] at HL2
      rw [show decide ((0 : Int) < 0) = false from rfl] at HL1 HL2
      clear hp hq l1 l2 hdr
      go_wp2_with fail
      refine wp_region_held_drew (S := (fun w' => Below wr.heap.size wr w')) (by kernel_rfl) (below_drew1 (Below.refl _ _)) (fun hHeld => ?_)
      (refine hd_take 0 (v := ?_) rfl (by kernel_rfl) (by kernel_rfl) (fun _ _ _ h => h) (by assumption) ?_ ?_; rotate_left; (intro w hSw; (try dsimp only at hSw); obtain ⟨s0, s1, s2, s3, s4, s5, s6, s7⟩ := HROW.out _ hSw; obtain ⟨r0, r1, r2, r3, r4, r5, r6, r7⟩ := HBOX.out _ hSw; go_simp; first | done | with_reducible rfl); simp only [Act.put, List.setIfInBounds_toArray, List.set_cons_zero, List.set_cons_succ])
      (refine hd_take 1 (v := ?_) rfl (by kernel_rfl) (by kernel_rfl) (fun _ _ _ h => h) (by assumption) ?_ ?_; rotate_left; (intro w hSw; (try dsimp only at hSw); go_simp; first | done | with_reducible rfl); simp only [Act.put, List.setIfInBounds_toArray, List.set_cons_zero, List.set_cons_succ])
      (refine hd_take 2 (v := ?_) rfl (by kernel_rfl) (by kernel_rfl) (fun _ _ _ h => h) (by assumption) ?_ ?_; rotate_left; (intro w hSw; (try dsimp only at hSw); go_simp; first | done | with_reducible rfl); simp only [Act.put, List.setIfInBounds_toArray, List.set_cons_zero, List.set_cons_succ])
      (refine hd_take 3 (v := ?_) rfl (by kernel_rfl) (by kernel_rfl) (fun _ _ _ h => h) (by assumption) ?_ ?_; rotate_left; (intro w hSw; (try dsimp only at hSw); go_simp; first | done | with_reducible rfl); simp only [Act.put, List.setIfInBounds_toArray, List.set_cons_zero, List.set_cons_succ])
      (refine hd_take 4 (v := ?_) rfl (by kernel_rfl) (by kernel_rfl) (fun _ _ _ h => h) (by assumption) ?_ ?_; rotate_left; (intro w hSw; (try dsimp only at hSw); obtain ⟨s0, s1, s2, s3, s4, s5, s6, s7⟩ := HROW.out _ hSw; obtain ⟨r0, r1, r2, r3, r4, r5, r6, r7⟩ := HBOX.out _ hSw; go_simp; first | done | with_reducible rfl); simp only [Act.put, List.setIfInBounds_toArray, List.set_cons_zero, List.set_cons_succ])
      refine hd_one 5 rfl (by kernel_rfl) (fun K hK => ?_)
      go_simp
      go_wp2_with ((go_at_call 47); (with_reducible refine (HL1.out _).mono ?_); rintro e u1 ⟨rfl, hc1⟩)
      refine hK.out _ _ (below_step hHeld hc1) (fun hHeld => ?_)
      clear hK K hc1
      (refine hd_take 6 (v := ?_) rfl (by kernel_rfl) (by kernel_rfl) (fun _ _ _ h => h) (by assumption) ?_ ?_; rotate_left; (intro w hSw; (try dsimp only at hSw); go_simp; first | done | with_reducible rfl); simp only [Act.put, List.setIfInBounds_toArray, List.set_cons_zero, List.set_cons_succ])
      refine wpAnyH_done (by kernel_rfl) ?_ _
      go_wp2_with fail
      refine wp_region_held_drew (S := (fun w' => Below wr.heap.size wr w')) (by kernel_rfl) (below_drew1 hHeld) (fun hHeld => ?_)
      (refine hd_take 0 (v := ?_) rfl (by kernel_rfl) (by kernel_rfl) (fun _ _ _ h => h) (by assumption) ?_ ?_; rotate_left; (intro w hSw; (try dsimp only at hSw); go_simp; first | done | with_reducible rfl); simp only [Act.put, List.setIfInBounds_toArray, List.set_cons_zero, List.set_cons_succ])
      (refine hd_take 1 (v := ?_) rfl (by kernel_rfl) (by kernel_rfl) (fun _ _ _ h => h) (by assumption) ?_ ?_; rotate_left; (intro w hSw; (try dsimp only at hSw); go_simp; first | done | with_reducible rfl); simp only [Act.put, List.setIfInBounds_toArray, List.set_cons_zero, List.set_cons_succ])
      (refine hd_take 2 (v := ?_) rfl (by kernel_rfl) (by kernel_rfl) (fun _ _ _ h => h) (by assumption) ?_ ?_; rotate_left; (intro w hSw; (try dsimp only at hSw); go_simp; first | done | with_reducible rfl); simp only [Act.put, List.setIfInBounds_toArray, List.set_cons_zero, List.set_cons_succ])
      (refine hd_take 3 (v := ?_) rfl (by kernel_rfl) (by kernel_rfl) (fun _ _ _ h => h) (by assumption) ?_ ?_; rotate_left; (intro w hSw; (try dsimp only at hSw); obtain ⟨s0, s1, s2, s3, s4, s5, s6, s7⟩ := HROW.out _ hSw; obtain ⟨r0, r1, r2, r3, r4, r5, r6, r7⟩ := HBOX.out _ hSw; go_simp; first | done | with_reducible rfl); simp only [Act.put, List.setIfInBounds_toArray, List.set_cons_zero, List.set_cons_succ])
      (refine hd_take 4 (v := ?_) rfl (by kernel_rfl) (by kernel_rfl) (fun _ _ _ h => h) (by assumption) ?_ ?_; rotate_left; (intro w hSw; (try dsimp only at hSw); obtain ⟨s0, s1, s2, s3, s4, s5, s6, s7⟩ := HROW.out _ hSw; obtain ⟨r0, r1, r2, r3, r4, r5, r6, r7⟩ := HBOX.out _ hSw; go_simp; first | done | with_reducible rfl); simp only [Act.put, List.setIfInBounds_toArray, List.set_cons_zero, List.set_cons_succ])
      refine hd_one 5 rfl (by kernel_rfl) (fun K hK => ?_)
      go_simp
      go_wp2_with ((go_at_call 47); (with_reducible refine (HL2.out _).mono ?_); rintro e u2 ⟨rfl, hc2⟩)
      refine hK.out _ _ (below_step hHeld hc2) (fun hHeld => ?_)
      clear hK K hc2
      (refine hd_take 6 (v := ?_) rfl (by kernel_rfl) (by kernel_rfl) (fun _ _ _ h => h) (by assumption) ?_ ?_; rotate_left; (intro w hSw; (try dsimp only at hSw); go_simp; first | done | with_reducible rfl); simp only [Act.put, List.setIfInBounds_toArray, List.set_cons_zero, List.set_cons_succ])
      refine wpAnyH_done (by kernel_rfl) ?_ _
      have HBe := Aside0.mk (below_step (below_step HB1.out HBk.out) hHeld)
      clear hHeld
      go_wp2_with fail
      clear hg
      go_ret2
      exact ⟨rfl, HBe.out⟩
    · have hln : k < l.length := by rw [HN.out]; exact hlt
      have HTK : Aside0 (l.take (k + 1) = l.take k ++ [p]) := ⟨by rw [List.take_succ_eq_append_getElem hln, ← hp, List.getD_eq_getElem?_getD, List.getElem?_eq_getElem hln]; rfl⟩
      have hq : cmpV p v < 0 := by rw [← hp]; exact HLO.out k (by omega)
      obtain ⟨l1, l2⟩ := less_pos (p := p) (v := v) rfl
      rw [l2, decide_eq_false (by omega)] at HL1
      rw [l1, decide_eq_true hq] at HL2
      have hk1 : k + 1 ≤ i := by omega
      clear hp l1 l2 hq hdr hln he
      go_wp2_with fail
      refine wp_region_held_drew (S := (fun w' => Below wr.heap.size wr w')) (by kernel_rfl) (below_drew1 (Below.refl _ _)) (fun hHeld => ?_)
      (refine hd_take 0 (v := ?_) rfl (by kernel_rfl) (by kernel_rfl) (fun _ _ _ h => h) (by assumption) ?_ ?_; rotate_left; (intro w hSw; (try dsimp only at hSw); obtain ⟨s0, s1, s2, s3, s4, s5, s6, s7⟩ := HROW.out _ hSw; obtain ⟨r0, r1, r2, r3, r4, r5, r6, r7⟩ := HBOX.out _ hSw; go_simp; first | done | with_reducible rfl); simp only [Act.put, List.setIfInBounds_toArray, List.set_cons_zero, List.set_cons_succ])
      (refine hd_take 1 (v := ?_) rfl (by kernel_rfl) (by kernel_rfl) (fun _ _ _ h => h) (by assumption) ?_ ?_; rotate_left; (intro w hSw; (try dsimp only at hSw); go_simp; first | done | with_reducible rfl); simp only [Act.put, List.setIfInBounds_toArray, List.set_cons_zero, List.set_cons_succ])
      (refine hd_take 2 (v := ?_) rfl (by kernel_rfl) (by kernel_rfl) (fun _ _ _ h => h) (by assumption) ?_ ?_; rotate_left; (intro w hSw; (try dsimp only at hSw); go_simp; first | done | with_reducible rfl); simp only [Act.put, List.setIfInBounds_toArray, List.set_cons_zero, List.set_cons_succ])
      (refine hd_take 3 (v := ?_) rfl (by kernel_rfl) (by kernel_rfl) (fun _ _ _ h => h) (by assumption) ?_ ?_; rotate_left; (intro w hSw; (try dsimp only at hSw); go_simp; first | done | with_reducible rfl); simp only [Act.put, List.setIfInBounds_toArray, List.set_cons_zero, List.set_cons_succ])
      (refine hd_take 4 (v := ?_) rfl (by kernel_rfl) (by kernel_rfl) (fun _ _ _ h => h) (by assumption) ?_ ?_; rotate_left; (intro w hSw; (try dsimp only at hSw); obtain ⟨s0, s1, s2, s3, s4, s5, s6, s7⟩ := HROW.out _ hSw; obtain ⟨r0, r1, r2, r3, r4, r5, r6, r7⟩ := HBOX.out _ hSw; go_simp; first | done | with_reducible rfl); simp only [Act.put, List.setIfInBounds_toArray, List.set_cons_zero, List.set_cons_succ])
      refine hd_one 5 rfl (by kernel_rfl) (fun K hK => ?_)
      go_simp
      go_wp2_with ((go_at_call 47); (with_reducible refine (HL1.out _).mono ?_); rintro e u1 ⟨rfl, hc1⟩)
      refine hK.out _ _ (below_step hHeld hc1) (fun hHeld => ?_)
      clear hK K hc1
      (refine hd_take 6 (v := ?_) rfl (by kernel_rfl) (by kernel_rfl) (fun _ _ _ h => h) (by assumption) ?_ ?_; rotate_left; (intro w hSw; (try dsimp only at hSw); go_simp; first | done | with_reducible rfl); simp only [Act.put, List.setIfInBounds_toArray, List.set_cons_zero, List.set_cons_succ])
      refine wpAnyH_done (by kernel_rfl) ?_ _
      go_wp2_with fail
      refine wp_region_held_drew (S := (fun w' => Below wr.heap.size wr w')) (by kernel_rfl) (below_drew1 hHeld) (fun hHeld => ?_)
      (refine hd_take 0 (v := ?_) rfl (by kernel_rfl) (by kernel_rfl) (fun _ _ _ h => h) (by assumption) ?_ ?_; rotate_left; (intro w hSw; (try dsimp only at hSw); go_simp; first | done | with_reducible rfl); simp only [Act.put, List.setIfInBounds_toArray, List.set_cons_zero, List.set_cons_succ])
      (refine hd_take 1 (v := ?_) rfl (by kernel_rfl) (by kernel_rfl) (fun _ _ _ h => h) (by assumption) ?_ ?_; rotate_left; (intro w hSw; (try dsimp only at hSw); go_simp; first | done | with_reducible rfl); simp only [Act.put, List.setIfInBounds_toArray, List.set_cons_zero, List.set_cons_succ])
      (refine hd_take 2 (v := ?_) rfl (by kernel_rfl) (by kernel_rfl) (fun _ _ _ h => h) (by assumption) ?_ ?_; rotate_left; (intro w hSw; (try dsimp only at hSw); go_simp; first | done | with_reducible rfl); simp only [Act.put, List.setIfInBounds_toArray, List.set_cons_zero, List.set_cons_succ])
      (refine hd_take 3 (v := ?_) rfl (by kernel_rfl) (by kernel_rfl) (fun _ _ _ h => h) (by assumption) ?_ ?_; rotate_left; (intro w hSw; (try dsimp only at hSw); obtain ⟨s0, s1, s2, s3, s4, s5, s6, s7⟩ := HROW.out _ hSw; obtain ⟨r0, r1, r2, r3, r4, r5, r6, r7⟩ := HBOX.out _ hSw; go_simp; first | done | with_reducible rfl); simp only [Act.put, List.setIfInBounds_toArray, List.set_cons_zero, List.set_cons_succ])
      (refine hd_take 4 (v := ?_) rfl (by kernel_rfl) (by kernel_rfl) (fun _ _ _ h => h) (by assumption) ?_ ?_; rotate_left; (intro w hSw; (try dsimp only at hSw); obtain ⟨s0, s1, s2, s3, s4, s5, s6, s7⟩ := HROW.out _ hSw; obtain ⟨r0, r1, r2, r3, r4, r5, r6, r7⟩ := HBOX.out _ hSw; go_simp; first | done | with_reducible rfl); simp only [Act.put, List.setIfInBounds_toArray, List.set_cons_zero, List.set_cons_succ])
      refine hd_one 5 rfl (by kernel_rfl) (fun K hK => ?_)
      go_simp
      go_wp2_with ((go_at_call 47); (with_reducible refine (HL2.out _).mono ?_); rintro e u2 ⟨rfl, hc2⟩)
      refine hK.out _ _ (below_step hHeld hc2) (fun hHeld => ?_)
      clear hK K hc2
      (refine hd_take 6 (v := ?_) rfl (by kernel_rfl) (by kernel_rfl) (fun _ _ _ h => h) (by assumption) ?_ ?_; rotate_left; (intro w hSw; (try dsimp only at hSw); go_simp; first | done | with_reducible rfl); simp only [Act.put, List.setIfInBounds_toArray, List.set_cons_zero, List.set_cons_succ])
      refine wpAnyH_done (by kernel_rfl) ?_ _
      have HO2 := Aside0.mk (Kd.R_below HO.out hHeld)
      have HB2 := Aside0.mk (below_step HBk.out hHeld)
      obtain ⟨s0, s1, s2, s3, s4, s5, s6, s7⟩ := HROW.out _ hHeld
      clear hHeld
      go_wp2_with ((with_reducible refine gate_dst (N := 57) rfl ?_); refine app_vr rfl rfl rfl rfl HO2.out HB2.out.size (by rw [List.length_take]; omega) ?_; intro v7 w7 hO7 hb7 _; have HO7 := Aside0.mk hO7; have HB7 := Aside0.mk (HB2.out.trans hb7); clear hO7 hb7)
      go_roundw
      case rel => exact ⟨k + 1, hk1, by push_cast; rfl, rfl, ⟨by rw [HTK.out]; exact HO7.out⟩, HB7⟩
      case measure => simp [intOf]; omega
/-- The row that is made, up to a place. -/
def outN (l : List Vr) (v : Vr) (i k : Nat) : List Vr := if k ≤ i then l.take k else l.take i ++ v :: (l.drop i).take (k - i)
theorem takeD {α : Type} [Inhabited α] (l : List α) (k : Nat) (hk : k < l.length) : l.take (k + 1) = l.take k ++ [l.getD k default] := by
  rw [List.take_succ_eq_append_getElem hk, List.getD_eq_getElem?_getD, List.getElem?_eq_getElem hk]
  rfl
theorem outN_lt (l : List Vr) (v : Vr) (i k : Nat) (h : k < i) (hk : k < l.length) : outN l v i (k + 1) = outN l v i k ++ [l.getD k default] := by
  unfold outN
  rw [if_pos (by omega), if_pos (by omega), takeD l k hk]
theorem outN_gt (l : List Vr) (v : Vr) (i k : Nat) (h : i < k) (hk : k < l.length) : outN l v i (k + 1) = outN l v i k ++ [l.getD k default] := by
  unfold outN
  rw [if_neg (by omega), if_neg (by omega), show k + 1 - i = (k - i) + 1 by omega, takeD (l.drop i) (k - i) (by rw [List.length_drop]; omega)]
  rw [List.append_assoc, List.cons_append, show (l.drop i).getD (k - i) default = l.getD k default by rw [List.getD_eq_getElem?_getD, List.getElem?_drop, List.getD_eq_getElem?_getD, show i + (k - i) = k by omega]]
theorem outN_eq (l : List Vr) (v : Vr) (i : Nat) (hk : i < l.length) : outN l v i (i + 1) = (outN l v i i ++ [v]) ++ [l.getD i default] := by
  unfold outN
  rw [if_neg (by omega), if_pos (Nat.le_refl _), show i + 1 - i = 0 + 1 by omega, takeD (l.drop i) 0 (by rw [List.length_drop]; omega)]
  rw [List.append_assoc, show (l.drop i).getD 0 default = l.getD i default by rw [List.getD_eq_getElem?_getD, List.getElem?_drop, List.getD_eq_getElem?_getD, Nat.add_zero]]
  rfl
theorem outN_len (l : List Vr) (v : Vr) (i k : Nat) : (outN l v i k).length ≤ k + 1 + i := by
  unfold outN
  split
  · rw [List.length_take]; omega
  · rw [List.length_append, List.length_cons, List.length_take, List.length_take]; omega
theorem outN_end (l : List Vr) (v : Vr) (i : Nat) (h : i < l.length) : outN l v i l.length = l.take i ++ v :: l.drop i := by
  unfold outN
  rw [if_neg (by omega), show (l.drop i).take (l.length - i) = l.drop i from List.take_of_length_le (by rw [List.length_drop]; omega)]
set_option maxRecDepth 100000 in
set_option maxHeartbeats 8000000 in
theorem radd_new (A : Option Addr) (n c : Nat) (l : List Vr) (v : Vr) (i : Nat) (w : World) (hr : KVr.C w A n l) (hc : n ≤ c) (hn : n ≤ 5000) (hk : v.k.size ≤ 100000) (hv : v.v.size ≤ 9223372036854775807) (hm : mayV v = true) (hi : i ≤ n)
    (hlo : ∀ j, j < i → cmpV (l.getD j default) v < 0) (hhi : ∀ j, i ≤ j → j < n → 0 < cmpV (l.getD j default) v) :
    Calls Try.prog 24 #[.slice A n c, (.agg #[.string v.k, .int .i64 v.br, .int .i64 v.ep, .int .i64 v.sq, .int .i64 v.f, .int .i64 v.t, .string v.v, .bool v.g])] w fun e w' => ∃ u, e = .returned (.tuple #[u, .int .i64 0]) ∧ OVr w' w.heap.size u (l.take i ++ v :: l.drop i) ∧ Below w.heap.size w w' := by
  have HLO := Aside0.mk hlo
  have HHI := Aside0.mk hhi
  have HCP := Aside0.mk (fun (p : Vr) W => less_calls v.k v.br v.ep v.sq v.f v.t v.v v.g p.k p.br p.ep p.sq p.f p.t p.v p.g W)
  have HCQ := Aside0.mk (fun (p : Vr) W => less_calls p.k p.br p.ep p.sq p.f p.t p.v p.g v.k v.br v.ep v.sq v.f v.t v.v v.g W)
  clear hlo hhi
  have HR := Aside0.mk hr
  have HN := Aside0.mk hr.1
  have HM := Aside0.mk (fun W => may6_calls v.k v.br v.ep v.sq v.f v.t v.v v.g W hk hv)
  rw [show (⟨v.k, v.br, v.ep, v.sq, v.f, v.t, v.v, v.g⟩ : Vr) = v from rfl, hm] at HM
  obtain ⟨g, hg⟩ : ∃ g, w.heap.size = g := ⟨_, rfl⟩
  obtain ⟨W, hW⟩ : ∃ W, w.alloc (vrBox v.k v.br v.ep v.sq v.f v.t v.v v.g) = W := ⟨_, rfl⟩
  have hb : Below w.heap.size w W := by rw [← hW]; exact below_alloc (Below.refl _ _) _
  have z0 : W.heap[g]? = some (vrBox v.k v.br v.ep v.sq v.f v.t v.v v.g) := by rw [← hW, ← hg]; exact blk_new w _
  obtain ⟨c0, c1, c2, c3, c4, c5, c6, c7⟩ := vr_cells z0
  have HB := Aside0.mk hb
  have HZ := Aside0.mk z0
  clear hr hb z0 hm
  go_enter Try.func24, Try.ntmps24
  go_wp2_with fail
  (with_reducible refine (HM.out W).mono ?_)
  rintro e w1 ⟨rfl, hb1⟩
  have HB1 := Aside0.mk (below_step HB.out hb1)
  have HZ1 := Aside0.mk (box_keep HZ.out hb1)
  clear hb1 c0 c1 c2 c3 c4 c5 c6 c7
  go_wp2_with fail
  go_loopw [7, 8, 9, 10, 11] (fun v7 v8 v9 v10 v11 w' => ∃ k : Nat, k ≤ n ∧ v9 = .int .i64 k ∧ v8 = .bool (decide (i < k)) ∧ Aside0 (OVr w' w1.heap.size v7 (outN l v i k)) ∧ Aside0 (Below w1.heap.size w1 w')) (fun _ _ v9 _ _ _ => n - (intOf v9).toNat)
  case atStart => exact ⟨0, Nat.zero_le _, rfl, by simp, ⟨by unfold outN; rw [if_pos (Nat.zero_le _)]; exact OVr_nil _ _⟩, ⟨Below.refl _ _⟩⟩
  case round =>
    obtain ⟨k, hkn, rfl, rfl, HO, HBk⟩ := hrel
    have HBOX : Aside0 (∀ W', Below wr.heap.size wr W' → W'.cell? ⟨g, 0, none⟩ = some (.string v.k) ∧ W'.cell? ⟨g, 1, none⟩ = some (.int .i64 v.br) ∧ W'.cell? ⟨g, 2, none⟩ = some (.int .i64 v.ep) ∧ W'.cell? ⟨g, 3, none⟩ = some (.int .i64 v.sq) ∧ W'.cell? ⟨g, 4, none⟩ = some (.int .i64 v.f) ∧ W'.cell? ⟨g, 5, none⟩ = some (.int .i64 v.t) ∧ W'.cell? ⟨g, 6, none⟩ = some (.string v.v) ∧ W'.cell? ⟨g, 7, none⟩ = some (.bool v.g)) := ⟨fun W' hb => vr_cells (box_keep (box_keep HZ1.out HBk.out) hb)⟩
    have HLL : Aside0 ((outN l v i k).length ≤ 10001) := ⟨by have := outN_len l v i k; omega⟩
    by_cases hlt : k < n
    · have hln : k < l.length := by rw [HN.out]; exact hlt
      obtain ⟨ad, hA, -⟩ := C_atVr HR.out k hlt
      subst hA
      have ht1 := fun h => outN_lt l v i k h hln
      have ht2 := fun h => outN_gt l v i k h hln
      have ht3 : k = i → outN l v i (k + 1) = (outN l v i k ++ [v]) ++ [l.getD k default] := fun h => by subst h; exact outN_eq l v k hln
      obtain ⟨p, hp⟩ : ∃ p, l.getD k default = p := ⟨_, rfl⟩
      rw [hp] at ht1 ht2 ht3
      have HROW := Aside0.mk (fun W' (hb : Below wr.heap.size wr W') => vr8 rfl (Kd.C_below HR.out (below_step (below_step HB1.out HBk.out) hb)) k hlt p hp)
      have HL1 := Aside0.mk (HCP.out p)
      have HL2 := Aside0.mk (HCQ.out p)
      rw [show (⟨p.k, p.br, p.ep, p.sq, p.f, p.t, p.v, p.g⟩ : Vr) = p from rfl, show (⟨v.k, v.br, v.ep, v.sq, v.f, v.t, v.v, v.g⟩ : Vr) = v from rfl] at HL1 HL2
      have j1 : (k : Int) < (n : Int) := by omega
      have j2 : (0 : Int) ≤ (k : Int) := by omega
      have hq1 : k < i → cmpV p v < 0 := fun h => by rw [← hp]; exact HLO.out k h
      have hq2 : i ≤ k → 0 < cmpV p v := fun h => by rw [← hp]; exact HHI.out k h hlt
      obtain ⟨l1, l2⟩ := less_pos (p := p) (v := v) rfl
      rw [l2] at HL1
      rw [l1] at HL2
      have HP0 := Aside0.mk hp
      clear hp l1 l2 hln
      rcases Nat.lt_trichotomy k i with he | he | he
      · have hq := hq1 he
        rw [decide_eq_false (by omega)] at HL1
        rw [decide_eq_true hq] at HL2
        rw [decide_eq_false (show ¬ i < k by omega)]
        have HD : Aside0 (decide (i < k + 1) = false) := ⟨decide_eq_false (by omega)⟩
        have HTK := Aside0.mk (ht1 he)
        clear hq hq1 hq2 ht1 ht2 ht3 he
        go_wp2_with fail
        refine wp_region_held_drew (S := (fun w' => Below wr.heap.size wr w')) (by kernel_rfl) (below_drew1 (Below.refl _ _)) (fun hHeld => ?_)
        (refine hd_take 0 (v := ?_) rfl (by kernel_rfl) (by kernel_rfl) (fun _ _ _ h => h) (by assumption) ?_ ?_; rotate_left; (intro w hSw; (try dsimp only at hSw); obtain ⟨s0, s1, s2, s3, s4, s5, s6, s7⟩ := HROW.out _ hSw; obtain ⟨r0, r1, r2, r3, r4, r5, r6, r7⟩ := HBOX.out _ hSw; go_simp; first | done | with_reducible rfl); simp only [Act.put, List.setIfInBounds_toArray, List.set_cons_zero, List.set_cons_succ])
        (refine hd_take 1 (v := ?_) rfl (by kernel_rfl) (by kernel_rfl) (fun _ _ _ h => h) (by assumption) ?_ ?_; rotate_left; (intro w hSw; (try dsimp only at hSw); go_simp; first | done | with_reducible rfl); simp only [Act.put, List.setIfInBounds_toArray, List.set_cons_zero, List.set_cons_succ])
        (refine hd_take 2 (v := ?_) rfl (by kernel_rfl) (by kernel_rfl) (fun _ _ _ h => h) (by assumption) ?_ ?_; rotate_left; (intro w hSw; (try dsimp only at hSw); go_simp; first | done | with_reducible rfl); simp only [Act.put, List.setIfInBounds_toArray, List.set_cons_zero, List.set_cons_succ])
        (refine hd_take 3 (v := ?_) rfl (by kernel_rfl) (by kernel_rfl) (fun _ _ _ h => h) (by assumption) ?_ ?_; rotate_left; (intro w hSw; (try dsimp only at hSw); go_simp; first | done | with_reducible rfl); simp only [Act.put, List.setIfInBounds_toArray, List.set_cons_zero, List.set_cons_succ])
        (refine hd_take 4 (v := ?_) rfl (by kernel_rfl) (by kernel_rfl) (fun _ _ _ h => h) (by assumption) ?_ ?_; rotate_left; (intro w hSw; (try dsimp only at hSw); obtain ⟨s0, s1, s2, s3, s4, s5, s6, s7⟩ := HROW.out _ hSw; obtain ⟨r0, r1, r2, r3, r4, r5, r6, r7⟩ := HBOX.out _ hSw; go_simp; first | done | with_reducible rfl); simp only [Act.put, List.setIfInBounds_toArray, List.set_cons_zero, List.set_cons_succ])
        refine hd_one 5 rfl (by kernel_rfl) (fun K hK => ?_)
        go_simp
        go_wp2_with ((go_at_call 47); (with_reducible refine (HL1.out _).mono ?_); rintro e u1 ⟨rfl, hc1⟩)
        refine hK.out _ _ (below_step hHeld hc1) (fun hHeld => ?_)
        clear hK K hc1
        (refine hd_take 6 (v := ?_) rfl (by kernel_rfl) (by kernel_rfl) (fun _ _ _ h => h) (by assumption) ?_ ?_; rotate_left; (intro w hSw; (try dsimp only at hSw); go_simp; first | done | with_reducible rfl); simp only [Act.put, List.setIfInBounds_toArray, List.set_cons_zero, List.set_cons_succ])
        refine wpAnyH_done (by kernel_rfl) ?_ _

        go_wp2_with fail
        refine wp_region_held_drew (S := (fun w' => Below wr.heap.size wr w')) (by kernel_rfl) (below_drew1 hHeld) (fun hHeld => ?_)
        (refine hd_take 0 (v := ?_) rfl (by kernel_rfl) (by kernel_rfl) (fun _ _ _ h => h) (by assumption) ?_ ?_; rotate_left; (intro w hSw; (try dsimp only at hSw); go_simp; first | done | with_reducible rfl); simp only [Act.put, List.setIfInBounds_toArray, List.set_cons_zero, List.set_cons_succ])
        (refine hd_take 1 (v := ?_) rfl (by kernel_rfl) (by kernel_rfl) (fun _ _ _ h => h) (by assumption) ?_ ?_; rotate_left; (intro w hSw; (try dsimp only at hSw); go_simp; first | done | with_reducible rfl); simp only [Act.put, List.setIfInBounds_toArray, List.set_cons_zero, List.set_cons_succ])
        (refine hd_take 2 (v := ?_) rfl (by kernel_rfl) (by kernel_rfl) (fun _ _ _ h => h) (by assumption) ?_ ?_; rotate_left; (intro w hSw; (try dsimp only at hSw); go_simp; first | done | with_reducible rfl); simp only [Act.put, List.setIfInBounds_toArray, List.set_cons_zero, List.set_cons_succ])
        (refine hd_take 3 (v := ?_) rfl (by kernel_rfl) (by kernel_rfl) (fun _ _ _ h => h) (by assumption) ?_ ?_; rotate_left; (intro w hSw; (try dsimp only at hSw); obtain ⟨s0, s1, s2, s3, s4, s5, s6, s7⟩ := HROW.out _ hSw; obtain ⟨r0, r1, r2, r3, r4, r5, r6, r7⟩ := HBOX.out _ hSw; go_simp; first | done | with_reducible rfl); simp only [Act.put, List.setIfInBounds_toArray, List.set_cons_zero, List.set_cons_succ])
        (refine hd_take 4 (v := ?_) rfl (by kernel_rfl) (by kernel_rfl) (fun _ _ _ h => h) (by assumption) ?_ ?_; rotate_left; (intro w hSw; (try dsimp only at hSw); obtain ⟨s0, s1, s2, s3, s4, s5, s6, s7⟩ := HROW.out _ hSw; obtain ⟨r0, r1, r2, r3, r4, r5, r6, r7⟩ := HBOX.out _ hSw; go_simp; first | done | with_reducible rfl); simp only [Act.put, List.setIfInBounds_toArray, List.set_cons_zero, List.set_cons_succ])
        refine hd_one 5 rfl (by kernel_rfl) (fun K hK => ?_)
        go_simp
        go_wp2_with ((go_at_call 47); (with_reducible refine (HL2.out _).mono ?_); rintro e u2 ⟨rfl, hc2⟩)
        refine hK.out _ _ (below_step hHeld hc2) (fun hHeld => ?_)
        clear hK K hc2
        (refine hd_take 6 (v := ?_) rfl (by kernel_rfl) (by kernel_rfl) (fun _ _ _ h => h) (by assumption) ?_ ?_; rotate_left; (intro w hSw; (try dsimp only at hSw); go_simp; first | done | with_reducible rfl); simp only [Act.put, List.setIfInBounds_toArray, List.set_cons_zero, List.set_cons_succ])
        refine wpAnyH_done (by kernel_rfl) ?_ _

        have HO2 := Aside0.mk (Kd.R_below HO.out hHeld)
        have HB2 := Aside0.mk (below_step HBk.out hHeld)
        obtain ⟨s0, s1, s2, s3, s4, s5, s6, s7⟩ := HROW.out _ hHeld
        clear hHeld
        go_wp2_with ((with_reducible refine gate_dst (N := 57) rfl ?_); refine app_vr rfl rfl rfl rfl HO2.out HB2.out.size (by have := HLL.out; omega) ?_; intro v7 w7 hO7 hb7 _; have HO7 := Aside0.mk hO7; have HB7 := Aside0.mk (HB2.out.trans hb7); clear hO7 hb7)
        go_roundw
        case rel => exact ⟨k + 1, hlt, by push_cast; rfl, by rw [HD.out], ⟨by rw [HTK.out]; exact HO7.out⟩, HB7⟩
        case measure => simp [intOf]; omega
      · have hq := hq2 (by omega)
        rw [decide_eq_true hq] at HL1
        rw [decide_eq_false (by omega)] at HL2
        rw [decide_eq_false (show ¬ i < k by omega)]
        have HD : Aside0 (decide (i < k + 1) = true) := ⟨decide_eq_true (by omega)⟩
        have HTK := Aside0.mk (ht3 he)
        clear hq hq1 hq2 ht1 ht2 ht3 he
        go_wp2_with fail
        refine wp_region_held_drew (S := (fun w' => Below wr.heap.size wr w')) (by kernel_rfl) (below_drew1 (Below.refl _ _)) (fun hHeld => ?_)
        (refine hd_take 0 (v := ?_) rfl (by kernel_rfl) (by kernel_rfl) (fun _ _ _ h => h) (by assumption) ?_ ?_; rotate_left; (intro w hSw; (try dsimp only at hSw); obtain ⟨s0, s1, s2, s3, s4, s5, s6, s7⟩ := HROW.out _ hSw; obtain ⟨r0, r1, r2, r3, r4, r5, r6, r7⟩ := HBOX.out _ hSw; go_simp; first | done | with_reducible rfl); simp only [Act.put, List.setIfInBounds_toArray, List.set_cons_zero, List.set_cons_succ])
        (refine hd_take 1 (v := ?_) rfl (by kernel_rfl) (by kernel_rfl) (fun _ _ _ h => h) (by assumption) ?_ ?_; rotate_left; (intro w hSw; (try dsimp only at hSw); go_simp; first | done | with_reducible rfl); simp only [Act.put, List.setIfInBounds_toArray, List.set_cons_zero, List.set_cons_succ])
        (refine hd_take 2 (v := ?_) rfl (by kernel_rfl) (by kernel_rfl) (fun _ _ _ h => h) (by assumption) ?_ ?_; rotate_left; (intro w hSw; (try dsimp only at hSw); go_simp; first | done | with_reducible rfl); simp only [Act.put, List.setIfInBounds_toArray, List.set_cons_zero, List.set_cons_succ])
        (refine hd_take 3 (v := ?_) rfl (by kernel_rfl) (by kernel_rfl) (fun _ _ _ h => h) (by assumption) ?_ ?_; rotate_left; (intro w hSw; (try dsimp only at hSw); go_simp; first | done | with_reducible rfl); simp only [Act.put, List.setIfInBounds_toArray, List.set_cons_zero, List.set_cons_succ])
        (refine hd_take 4 (v := ?_) rfl (by kernel_rfl) (by kernel_rfl) (fun _ _ _ h => h) (by assumption) ?_ ?_; rotate_left; (intro w hSw; (try dsimp only at hSw); obtain ⟨s0, s1, s2, s3, s4, s5, s6, s7⟩ := HROW.out _ hSw; obtain ⟨r0, r1, r2, r3, r4, r5, r6, r7⟩ := HBOX.out _ hSw; go_simp; first | done | with_reducible rfl); simp only [Act.put, List.setIfInBounds_toArray, List.set_cons_zero, List.set_cons_succ])
        refine hd_one 5 rfl (by kernel_rfl) (fun K hK => ?_)
        go_simp
        go_wp2_with ((go_at_call 47); (with_reducible refine (HL1.out _).mono ?_); rintro e u1 ⟨rfl, hc1⟩)
        refine hK.out _ _ (below_step hHeld hc1) (fun hHeld => ?_)
        clear hK K hc1
        (refine hd_take 6 (v := ?_) rfl (by kernel_rfl) (by kernel_rfl) (fun _ _ _ h => h) (by assumption) ?_ ?_; rotate_left; (intro w hSw; (try dsimp only at hSw); go_simp; first | done | with_reducible rfl); simp only [Act.put, List.setIfInBounds_toArray, List.set_cons_zero, List.set_cons_succ])
        refine wpAnyH_done (by kernel_rfl) ?_ _

        go_wp2_with fail
        refine wp_region_held_drew (S := (fun w' => Below wr.heap.size wr w')) (by kernel_rfl) (below_drew1 hHeld) (fun hHeld => ?_)
        (refine hd_take 0 (v := ?_) rfl (by kernel_rfl) (by kernel_rfl) (fun _ _ _ h => h) (by assumption) ?_ ?_; rotate_left; (intro w hSw; (try dsimp only at hSw); go_simp; first | done | with_reducible rfl); simp only [Act.put, List.setIfInBounds_toArray, List.set_cons_zero, List.set_cons_succ])
        (refine hd_take 1 (v := ?_) rfl (by kernel_rfl) (by kernel_rfl) (fun _ _ _ h => h) (by assumption) ?_ ?_; rotate_left; (intro w hSw; (try dsimp only at hSw); go_simp; first | done | with_reducible rfl); simp only [Act.put, List.setIfInBounds_toArray, List.set_cons_zero, List.set_cons_succ])
        (refine hd_take 2 (v := ?_) rfl (by kernel_rfl) (by kernel_rfl) (fun _ _ _ h => h) (by assumption) ?_ ?_; rotate_left; (intro w hSw; (try dsimp only at hSw); go_simp; first | done | with_reducible rfl); simp only [Act.put, List.setIfInBounds_toArray, List.set_cons_zero, List.set_cons_succ])
        (refine hd_take 3 (v := ?_) rfl (by kernel_rfl) (by kernel_rfl) (fun _ _ _ h => h) (by assumption) ?_ ?_; rotate_left; (intro w hSw; (try dsimp only at hSw); obtain ⟨s0, s1, s2, s3, s4, s5, s6, s7⟩ := HROW.out _ hSw; obtain ⟨r0, r1, r2, r3, r4, r5, r6, r7⟩ := HBOX.out _ hSw; go_simp; first | done | with_reducible rfl); simp only [Act.put, List.setIfInBounds_toArray, List.set_cons_zero, List.set_cons_succ])
        (refine hd_take 4 (v := ?_) rfl (by kernel_rfl) (by kernel_rfl) (fun _ _ _ h => h) (by assumption) ?_ ?_; rotate_left; (intro w hSw; (try dsimp only at hSw); obtain ⟨s0, s1, s2, s3, s4, s5, s6, s7⟩ := HROW.out _ hSw; obtain ⟨r0, r1, r2, r3, r4, r5, r6, r7⟩ := HBOX.out _ hSw; go_simp; first | done | with_reducible rfl); simp only [Act.put, List.setIfInBounds_toArray, List.set_cons_zero, List.set_cons_succ])
        refine hd_one 5 rfl (by kernel_rfl) (fun K hK => ?_)
        go_simp
        go_wp2_with ((go_at_call 47); (with_reducible refine (HL2.out _).mono ?_); rintro e u2 ⟨rfl, hc2⟩)
        refine hK.out _ _ (below_step hHeld hc2) (fun hHeld => ?_)
        clear hK K hc2
        (refine hd_take 6 (v := ?_) rfl (by kernel_rfl) (by kernel_rfl) (fun _ _ _ h => h) (by assumption) ?_ ?_; rotate_left; (intro w hSw; (try dsimp only at hSw); go_simp; first | done | with_reducible rfl); simp only [Act.put, List.setIfInBounds_toArray, List.set_cons_zero, List.set_cons_succ])
        refine wpAnyH_done (by kernel_rfl) ?_ _

        have HO2 := Aside0.mk (Kd.R_below HO.out hHeld)
        have HB2 := Aside0.mk (below_step HBk.out hHeld)
        obtain ⟨r0, r1, r2, r3, r4, r5, r6, r7⟩ := HBOX.out _ hHeld
        have HRW := Aside0.mk (fun W' (hb : Below w1.heap.size w1 W') => vr8 rfl (Kd.C_below HR.out (below_step HB1.out hb)) k hlt p HP0.out)
        clear hHeld
        go_wp2_with first | ((with_reducible refine gate_dst (N := 50) rfl ?_); refine app_vr rfl rfl rfl rfl HO2.out HB2.out.size (by have := HLL.out; omega) ?_; intro v7 w7 hO7 hb7 _; have HO7 := Aside0.mk hO7; have HB7 := Aside0.mk (HB2.out.trans hb7); clear hO7 hb7; obtain ⟨s0, s1, s2, s3, s4, s5, s6, s7⟩ := HRW.out w7 HB7.out) | ((with_reducible refine gate_dst (N := 57) rfl ?_); refine app_vr rfl rfl rfl rfl HO7.out HB7.out.size (by rw [List.length_append]; have := HLL.out; simp only [List.length_cons, List.length_nil]; omega) ?_; intro v8 w8 hO8 hb8 _; have HO8 := Aside0.mk hO8; have HB8 := Aside0.mk (HB7.out.trans hb8); clear hO8 hb8)
        go_roundw
        case rel => exact ⟨k + 1, hlt, by push_cast; rfl, by rw [HD.out], ⟨by rw [HTK.out]; exact HO8.out⟩, HB8⟩
        case measure => simp [intOf]; omega
      · have hq := hq2 (by omega)
        rw [decide_eq_true hq] at HL1
        rw [decide_eq_false (by omega)] at HL2
        rw [decide_eq_true he]
        have HD : Aside0 (decide (i < k + 1) = true) := ⟨decide_eq_true (by omega)⟩
        have HTK := Aside0.mk (ht2 he)
        clear hq hq1 hq2 ht1 ht2 ht3 he
        go_wp2_with fail
        refine wp_region_held_drew (S := (fun w' => Below wr.heap.size wr w')) (by kernel_rfl) (below_drew1 (Below.refl _ _)) (fun hHeld => ?_)
        (refine hd_take 0 (v := ?_) rfl (by kernel_rfl) (by kernel_rfl) (fun _ _ _ h => h) (by assumption) ?_ ?_; rotate_left; (intro w hSw; (try dsimp only at hSw); obtain ⟨s0, s1, s2, s3, s4, s5, s6, s7⟩ := HROW.out _ hSw; obtain ⟨r0, r1, r2, r3, r4, r5, r6, r7⟩ := HBOX.out _ hSw; go_simp; first | done | with_reducible rfl); simp only [Act.put, List.setIfInBounds_toArray, List.set_cons_zero, List.set_cons_succ])
        (refine hd_take 1 (v := ?_) rfl (by kernel_rfl) (by kernel_rfl) (fun _ _ _ h => h) (by assumption) ?_ ?_; rotate_left; (intro w hSw; (try dsimp only at hSw); go_simp; first | done | with_reducible rfl); simp only [Act.put, List.setIfInBounds_toArray, List.set_cons_zero, List.set_cons_succ])
        (refine hd_take 2 (v := ?_) rfl (by kernel_rfl) (by kernel_rfl) (fun _ _ _ h => h) (by assumption) ?_ ?_; rotate_left; (intro w hSw; (try dsimp only at hSw); go_simp; first | done | with_reducible rfl); simp only [Act.put, List.setIfInBounds_toArray, List.set_cons_zero, List.set_cons_succ])
        (refine hd_take 3 (v := ?_) rfl (by kernel_rfl) (by kernel_rfl) (fun _ _ _ h => h) (by assumption) ?_ ?_; rotate_left; (intro w hSw; (try dsimp only at hSw); go_simp; first | done | with_reducible rfl); simp only [Act.put, List.setIfInBounds_toArray, List.set_cons_zero, List.set_cons_succ])
        (refine hd_take 4 (v := ?_) rfl (by kernel_rfl) (by kernel_rfl) (fun _ _ _ h => h) (by assumption) ?_ ?_; rotate_left; (intro w hSw; (try dsimp only at hSw); obtain ⟨s0, s1, s2, s3, s4, s5, s6, s7⟩ := HROW.out _ hSw; obtain ⟨r0, r1, r2, r3, r4, r5, r6, r7⟩ := HBOX.out _ hSw; go_simp; first | done | with_reducible rfl); simp only [Act.put, List.setIfInBounds_toArray, List.set_cons_zero, List.set_cons_succ])
        refine hd_one 5 rfl (by kernel_rfl) (fun K hK => ?_)
        go_simp
        go_wp2_with ((go_at_call 47); (with_reducible refine (HL1.out _).mono ?_); rintro e u1 ⟨rfl, hc1⟩)
        refine hK.out _ _ (below_step hHeld hc1) (fun hHeld => ?_)
        clear hK K hc1
        (refine hd_take 6 (v := ?_) rfl (by kernel_rfl) (by kernel_rfl) (fun _ _ _ h => h) (by assumption) ?_ ?_; rotate_left; (intro w hSw; (try dsimp only at hSw); go_simp; first | done | with_reducible rfl); simp only [Act.put, List.setIfInBounds_toArray, List.set_cons_zero, List.set_cons_succ])
        refine wpAnyH_done (by kernel_rfl) ?_ _

        go_wp2_with fail
        refine wp_region_held_drew (S := (fun w' => Below wr.heap.size wr w')) (by kernel_rfl) (below_drew1 hHeld) (fun hHeld => ?_)
        (refine hd_take 0 (v := ?_) rfl (by kernel_rfl) (by kernel_rfl) (fun _ _ _ h => h) (by assumption) ?_ ?_; rotate_left; (intro w hSw; (try dsimp only at hSw); go_simp; first | done | with_reducible rfl); simp only [Act.put, List.setIfInBounds_toArray, List.set_cons_zero, List.set_cons_succ])
        (refine hd_take 1 (v := ?_) rfl (by kernel_rfl) (by kernel_rfl) (fun _ _ _ h => h) (by assumption) ?_ ?_; rotate_left; (intro w hSw; (try dsimp only at hSw); go_simp; first | done | with_reducible rfl); simp only [Act.put, List.setIfInBounds_toArray, List.set_cons_zero, List.set_cons_succ])
        (refine hd_take 2 (v := ?_) rfl (by kernel_rfl) (by kernel_rfl) (fun _ _ _ h => h) (by assumption) ?_ ?_; rotate_left; (intro w hSw; (try dsimp only at hSw); go_simp; first | done | with_reducible rfl); simp only [Act.put, List.setIfInBounds_toArray, List.set_cons_zero, List.set_cons_succ])
        (refine hd_take 3 (v := ?_) rfl (by kernel_rfl) (by kernel_rfl) (fun _ _ _ h => h) (by assumption) ?_ ?_; rotate_left; (intro w hSw; (try dsimp only at hSw); obtain ⟨s0, s1, s2, s3, s4, s5, s6, s7⟩ := HROW.out _ hSw; obtain ⟨r0, r1, r2, r3, r4, r5, r6, r7⟩ := HBOX.out _ hSw; go_simp; first | done | with_reducible rfl); simp only [Act.put, List.setIfInBounds_toArray, List.set_cons_zero, List.set_cons_succ])
        (refine hd_take 4 (v := ?_) rfl (by kernel_rfl) (by kernel_rfl) (fun _ _ _ h => h) (by assumption) ?_ ?_; rotate_left; (intro w hSw; (try dsimp only at hSw); obtain ⟨s0, s1, s2, s3, s4, s5, s6, s7⟩ := HROW.out _ hSw; obtain ⟨r0, r1, r2, r3, r4, r5, r6, r7⟩ := HBOX.out _ hSw; go_simp; first | done | with_reducible rfl); simp only [Act.put, List.setIfInBounds_toArray, List.set_cons_zero, List.set_cons_succ])
        refine hd_one 5 rfl (by kernel_rfl) (fun K hK => ?_)
        go_simp
        go_wp2_with ((go_at_call 47); (with_reducible refine (HL2.out _).mono ?_); rintro e u2 ⟨rfl, hc2⟩)
        refine hK.out _ _ (below_step hHeld hc2) (fun hHeld => ?_)
        clear hK K hc2
        (refine hd_take 6 (v := ?_) rfl (by kernel_rfl) (by kernel_rfl) (fun _ _ _ h => h) (by assumption) ?_ ?_; rotate_left; (intro w hSw; (try dsimp only at hSw); go_simp; first | done | with_reducible rfl); simp only [Act.put, List.setIfInBounds_toArray, List.set_cons_zero, List.set_cons_succ])
        refine wpAnyH_done (by kernel_rfl) ?_ _

        have HO2 := Aside0.mk (Kd.R_below HO.out hHeld)
        have HB2 := Aside0.mk (below_step HBk.out hHeld)
        obtain ⟨s0, s1, s2, s3, s4, s5, s6, s7⟩ := HROW.out _ hHeld
        clear hHeld
        go_wp2_with ((with_reducible refine gate_dst (N := 57) rfl ?_); refine app_vr rfl rfl rfl rfl HO2.out HB2.out.size (by have := HLL.out; omega) ?_; intro v7 w7 hO7 hb7 _; have HO7 := Aside0.mk hO7; have HB7 := Aside0.mk (HB2.out.trans hb7); clear hO7 hb7)
        go_roundw
        case rel => exact ⟨k + 1, hlt, by push_cast; rfl, by rw [HD.out], ⟨by rw [HTK.out]; exact HO7.out⟩, HB7⟩
        case measure => simp [intOf]; omega
    · have HNE := Aside0.mk hlt
      have hkn2 : k = n := by omega
      obtain rfl := hkn2
      have j1 : ¬ (k : Int) < (k : Int) := by omega
      by_cases hik : i < k
      · have HE : Aside0 (outN l v i k = l.take i ++ v :: l.drop i) := ⟨by have := outN_end l v i (by rw [HN.out]; exact hik); rw [HN.out] at this; exact this⟩
        rw [decide_eq_true hik]
        clear hik hlt
        go_wp2_with fail
        subst hg
        go_ret2
        exact ⟨_, rfl, by rw [← HE.out]; exact Kd.R_lower HO.out HB1.out.size, below_step HB1.out HBk.out⟩
      · have HE : Aside0 (outN l v i k ++ [v] = l.take i ++ v :: l.drop i) := ⟨by
          have hik2 : i = k := by omega
          subst hik2
          unfold outN
          rw [if_pos (Nat.le_refl _), List.drop_of_length_le (by rw [HN.out]; exact Nat.le_refl _)]⟩
        rw [decide_eq_false hik]
        obtain ⟨r0, r1, r2, r3, r4, r5, r6, r7⟩ := HBOX.out _ (Below.refl _ _)
        clear hik hlt
        go_wp2_with ((with_reducible refine gate_dst (N := 63) rfl ?_); refine app_vr rfl rfl rfl rfl HO.out HBk.out.size (by have := HLL.out; omega) ?_; intro v7 w7 hO7 hb7 _; have HO7 := Aside0.mk hO7; have HB7 := Aside0.mk (HBk.out.trans hb7); clear hO7 hb7)
        subst hg
        go_ret2
        exact ⟨_, rfl, by rw [← HE.out]; exact Kd.R_lower HO7.out HB1.out.size, below_step HB1.out HB7.out⟩
end Go.Proofs.Ytheoodbkjgfdfaa.A
