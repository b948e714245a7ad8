/- The document's keys of versions. -/
import Derived.Test.YtheoodbkjgfdfaaNKeep
import Derived.Test.YtheoodbkjgfdfaaMOne
namespace Go.Proofs.Ytheoodbkjgfdfaa.A
open R
open Go.RowKit Go.Proofs.YtheoodbkjgfdfaaW.PrintWords Go.Proofs.YtheoodbkjgfdfaaW.PrintLast Go.Proofs.YtheoodbkjgfdfaaW.PrintMore
set_option linter.unusedVariables false
set_option linter.unusedSimpArgs false

/-- A key behind others, if it is not the last of them. -/
def addK (o : List ByteArray) (k : ByteArray) : List ByteArray := if o.length = 0 ∨ ¬ (o.getD (o.length - 1) ByteArray.empty).toList = k.toList then o ++ [k] else o
def keysV (l : List Vr) : List ByteArray := l.foldl (fun o p => addK o p.k) []
theorem keysV_take (l : List Vr) (k : Nat) (hk : k < l.length) : keysV (l.take (k + 1)) = addK (keysV (l.take k)) (l.getD k default).k := by
  unfold keysV
  rw [List.take_succ_eq_append_getElem hk, List.foldl_append, List.getD_eq_getElem?_getD, List.getElem?_eq_getElem hk]
  rfl
theorem addK_len (o : List ByteArray) (k : ByteArray) : (addK o k).length ≤ o.length + 1 := by
  unfold addK
  split
  · simp
  · omega
theorem keysV_len (l : List Vr) : ∀ k, k ≤ l.length → (keysV (l.take k)).length ≤ k
  | 0, _ => by simp [keysV]
  | k + 1, h => by
    rw [keysV_take l k (by omega)]
    have := addK_len (keysV (l.take k)) (l.getD k default).k
    have := keysV_len l k (by omega)
    omega
theorem C_atStrN {A : Option Addr} {n : Nat} {l : List ByteArray} {w : World} (h : Kd.string.C w A n l) (i : Nat) (hi : i < n) : ∃ ad, A = some ad ∧ w.cell? (ad.add i) = some (.string (l.getD i ByteArray.empty)) := by
  have hn := h.1
  subst hn
  obtain ⟨ad, e, hc⟩ := h.2.2 (by omega)
  obtain ⟨c, h1, h2, h3⟩ := hc i _ (List.getElem?_eq_getElem hi)
  have h2' : c = [Value.string l[i]] := h2
  subst h2'
  refine ⟨ad, e, ?_⟩
  have := h3 0 _ rfl
  simpa [Kd.string, Kd.scalar, List.getD_eq_getElem?_getD, hi] using this
set_option maxRecDepth 100000 in
set_option maxHeartbeats 4000000 in
theorem keys13_calls (A : Option Addr) (n c : Nat) (l : List Vr) (w : World) (hr : KVr.C w A n l) (hc : n ≤ c) (hn : n ≤ 100000) :
    Calls Try.prog 36 #[.slice A n c] w fun e w' => ∃ v, e = .returned v ∧ M.OStr w' w.heap.size v (keysV l) ∧ Below w.heap.size w w' := by
  have HR := Aside0.mk hr
  have HN := Aside0.mk hr.1
  have HL1 := Aside0.mk (keysV_len l)
  clear hr
  go_enter Try.func36, Try.ntmps36
  go_wp2_with fail
  go_loopw [3, 4] (fun v3 v4 w' => ∃ k : Nat, k ≤ n ∧ v4 = .int .i64 k ∧ Aside0 (M.OStr w' w.heap.size v3 (keysV (l.take k))) ∧ Aside0 (Below w.heap.size w w')) (fun _ v4 _ => n - (intOf v4).toNat)
  case atStart => exact ⟨0, Nat.zero_le _, rfl, ⟨Kd.R_nil _ _ _ _ _⟩, ⟨Below.refl _ _⟩⟩
  case round =>
    obtain ⟨k, hk, rfl, HO, HB⟩ := hrel
    by_cases hlt : k < n
    · have hln : k < l.length := by rw [HN.out]; exact hlt
      obtain ⟨ad, hA, -⟩ := C_atVr HR.out k hlt
      subst hA
      have h1 := keysV_take l k hln
      have hll := HL1.out k (by omega)
      obtain ⟨p, hp⟩ : ∃ p, l.getD k default = p := ⟨_, rfl⟩
      rw [hp] at h1
      have HROW := Aside0.mk (fun W' (hb : Below wr.heap.size wr W') => vr8 rfl (Kd.C_below HR.out (below_step HB.out hb)) k hlt p hp)
      obtain ⟨o, ho⟩ : ∃ o, keysV (l.take k) = o := ⟨_, rfl⟩
      rw [ho] at h1 hll HO
      obtain ⟨m, hm⟩ : ∃ m, o.length = m := ⟨_, rfl⟩
      rw [hm] at hll
      have HLL : Aside0 (o.length ≤ 100000) := ⟨by omega⟩
      have H1 := Aside0.mk h1
      have HM := Aside0.mk hm
      obtain ⟨A3, c3, rfl, hc3, hC3⟩ : ∃ A3 c3, u3 = .slice A3 m c3 ∧ m ≤ c3 ∧ Kd.string.C wr A3 m o := by rw [← hm]; exact Kd.R_reads HO.out
      have HC3 := Aside0.mk hC3
      have j1 : (k : Int) < (n : Int) := by omega
      have j2 : (0 : Int) ≤ (k : Int) := by omega
      clear hp hln h1 ho hm hC3
      by_cases hm0 : m = 0
      · subst hm0
        have HY : Aside0 (addK o p.k = o ++ [p.k]) := ⟨by unfold addK; rw [if_pos (.inl HM.out)]⟩
        go_wp2_with fail
        refine wp_region_held_drew (S := (fun w' => Below wr.heap.size wr w')) (by kernel_rfl) (below_drew1 (Below.refl _ _)) (fun hHeld => ?_)
        (refine hd_take 0 (v := ?_) rfl (by kernel_rfl) (by kernel_rfl) (fun _ _ _ h => h) (by assumption) ?_ ?_; rotate_left; (intro w hSw; (try dsimp only at hSw); go_simp; first | done | with_reducible rfl); simp only [Act.put, List.setIfInBounds_toArray, List.set_cons_zero, List.set_cons_succ])
        (refine hd_take 1 (v := ?_) rfl (by kernel_rfl) (by kernel_rfl) (fun _ _ _ h => h) (by assumption) ?_ ?_; rotate_left; (intro w hSw; (try dsimp only at hSw); go_simp; first | done | with_reducible rfl); simp only [Act.put, List.setIfInBounds_toArray, List.set_cons_zero, List.set_cons_succ])
        (refine hd_take 2 (v := ?_) rfl (by kernel_rfl) (by kernel_rfl) (fun _ _ _ h => h) (by assumption) ?_ ?_; rotate_left; (intro w hSw; (try dsimp only at hSw); go_simp; first | done | with_reducible rfl); simp only [Act.put, List.setIfInBounds_toArray, List.set_cons_zero, List.set_cons_succ])
        (refine hd_take 3 (v := ?_) rfl (by kernel_rfl) (by kernel_rfl) (fun _ _ _ h => h) (by assumption) ?_ ?_; rotate_left; (intro w hSw; (try dsimp only at hSw); go_simp; first | done | with_reducible rfl); simp only [Act.put, List.setIfInBounds_toArray, List.set_cons_zero, List.set_cons_succ])
        (refine hd_skip 4 rfl (by kernel_rfl) (by kernel_rfl) (fun _ _ _ h => h) (by assumption) ?_; simp only [Act.put, List.setIfInBounds_toArray, List.set_cons_zero, List.set_cons_succ])
        (refine hd_skip 5 rfl (by kernel_rfl) (by kernel_rfl) (fun _ _ _ h => h) (by assumption) ?_; simp only [Act.put, List.setIfInBounds_toArray, List.set_cons_zero, List.set_cons_succ])
        (refine hd_skip 6 rfl (by kernel_rfl) (by kernel_rfl) (fun _ _ _ h => h) (by assumption) ?_; simp only [Act.put, List.setIfInBounds_toArray, List.set_cons_zero, List.set_cons_succ])
        (refine hd_skip 7 rfl (by kernel_rfl) (by kernel_rfl) (fun _ _ _ h => h) (by assumption) ?_; simp only [Act.put, List.setIfInBounds_toArray, List.set_cons_zero, List.set_cons_succ])
        (refine hd_skip 8 rfl (by kernel_rfl) (by kernel_rfl) (fun _ _ _ h => h) (by assumption) ?_; simp only [Act.put, List.setIfInBounds_toArray, List.set_cons_zero, List.set_cons_succ])
        (refine hd_skip 9 rfl (by kernel_rfl) (by kernel_rfl) (fun _ _ _ h => h) (by assumption) ?_; simp only [Act.put, List.setIfInBounds_toArray, List.set_cons_zero, List.set_cons_succ])
        (refine hd_skip 10 rfl (by kernel_rfl) (by kernel_rfl) (fun _ _ _ h => h) (by assumption) ?_; simp only [Act.put, List.setIfInBounds_toArray, List.set_cons_zero, List.set_cons_succ])
        (refine hd_skip 11 rfl (by kernel_rfl) (by kernel_rfl) (fun _ _ _ h => h) (by assumption) ?_; simp only [Act.put, List.setIfInBounds_toArray, List.set_cons_zero, List.set_cons_succ])
        (refine hd_skip 12 rfl (by kernel_rfl) (by kernel_rfl) (fun _ _ _ h => h) (by assumption) ?_; simp only [Act.put, List.setIfInBounds_toArray, List.set_cons_zero, List.set_cons_succ])
        (refine hd_skip 13 rfl (by kernel_rfl) (by kernel_rfl) (fun _ _ _ h => h) (by assumption) ?_; simp only [Act.put, List.setIfInBounds_toArray, List.set_cons_zero, List.set_cons_succ])
        (refine hd_skip 14 rfl (by kernel_rfl) (by kernel_rfl) (fun _ _ _ h => h) (by assumption) ?_; simp only [Act.put, List.setIfInBounds_toArray, List.set_cons_zero, List.set_cons_succ])
        (refine hd_skip 15 rfl (by kernel_rfl) (by kernel_rfl) (fun _ _ _ h => h) (by assumption) ?_; simp only [Act.put, List.setIfInBounds_toArray, List.set_cons_zero, List.set_cons_succ])
        (refine hd_take 16 (v := ?_) rfl (by kernel_rfl) (by kernel_rfl) (fun _ _ _ h => h) (by assumption) ?_ ?_; rotate_left; (intro w hSw; (try dsimp only at hSw); go_simp; first | done | with_reducible rfl); simp only [Act.put, List.setIfInBounds_toArray, List.set_cons_zero, List.set_cons_succ])
        refine wpAnyH_done (by kernel_rfl) ?_ _
        have HBd := Aside0.mk (below_step HB.out (below_drew1 (Below.refl wr.heap.size wr)))
        have HOd := Aside0.mk (Kd.R_below HO.out (below_drew1 (Below.refl wr.heap.size wr)))
        obtain ⟨s0, -⟩ := HROW.out _ (below_drew1 (Below.refl _ _))
        go_wp2_with ((with_reducible refine gate_dst (N := 35) rfl ?_); refine M.app_key rfl rfl rfl rfl HOd.out HBd.out.size (by have := HLL.out; omega) ?_; intro v7 w7 hO7 hb7 _; have HO7 := Aside0.mk hO7; have HB7 := Aside0.mk (HBd.out.trans hb7); clear hO7 hb7)
        go_roundw
        case rel => exact ⟨k + 1, hlt, by push_cast; rfl, ⟨by rw [H1.out, HY.out]; exact HO7.out⟩, HB7⟩
        case measure => simp [intOf]; omega
      · obtain ⟨i, hi⟩ : ∃ i, m - 1 = i := ⟨_, rfl⟩
        have him : i < m := by omega
        obtain ⟨ad3, hA3, -⟩ := C_atStrN HC3.out i him
        subst hA3
        obtain ⟨z, hz⟩ : ∃ z, o.getD i ByteArray.empty = z := ⟨_, rfl⟩
        have HLS : Aside0 (∀ W', Below wr.heap.size wr W' → W'.cell? (ad3.add i) = some (.string z)) := ⟨fun W' hb => by
          obtain ⟨ad', e, h9⟩ := C_atStrN (Kd.C_below HC3.out hb) i him
          injection e with e
          subst e
          rw [hz] at h9
          exact h9⟩
        obtain ⟨bq, hbq⟩ : ∃ b, (z.toList == p.k.toList) = b := ⟨_, rfl⟩
        have HY0 : Aside0 (addK o p.k = if bq = true then o else o ++ [p.k]) := ⟨by
          unfold addK
          rw [HM.out, hi, hz]
          cases bq with
          | true => rw [if_neg (by rintro (h | h); exact hm0 h; exact h (by simpa using hbq)), if_pos rfl]
          | false => rw [if_pos (.inr (by simpa using hbq)), if_neg (by simp)]⟩
        have i1 : (m : Int) - 1 = (i : Int) := by omega
        have i2 : (0 : Int) ≤ (i : Int) := by omega
        have i3 : (i : Int) < (m : Int) := by omega
        have i4 : ¬ (m : Int) = 0 := by omega
        have i6 : ((m : Int) == 0) = false := by simpa using i4
        have i5 : IntKind.i64.wrap (i : Int) = (i : Int) := by rw [IntKind.wrap_i64]; omega
        clear hi hz
        cases bq with
        | true =>
          have HY : Aside0 (addK o p.k = o) := ⟨by rw [HY0.out, if_pos rfl]⟩
          go_wp2_with fail
          refine wp_region_held_drew (S := (fun w' => Below wr.heap.size wr w')) (by kernel_rfl) (below_drew1 (Below.refl _ _)) (fun hHeld => ?_)
          (refine hd_take 0 (v := ?_) rfl (by kernel_rfl) (by kernel_rfl) (fun _ _ _ h => h) (by assumption) ?_ ?_; rotate_left; (intro w hSw; (try dsimp only at hSw); go_simp; first | done | with_reducible rfl); simp only [Act.put, List.setIfInBounds_toArray, List.set_cons_zero, List.set_cons_succ])
          (refine hd_take 1 (v := ?_) rfl (by kernel_rfl) (by kernel_rfl) (fun _ _ _ h => h) (by assumption) ?_ ?_; rotate_left; (intro w hSw; (try dsimp only at hSw); go_simp; first | done | with_reducible rfl); simp only [Act.put, List.setIfInBounds_toArray, List.set_cons_zero, List.set_cons_succ])
          (refine hd_take 2 (v := ?_) rfl (by kernel_rfl) (by kernel_rfl) (fun _ _ _ h => h) (by assumption) ?_ ?_; rotate_left; (intro w hSw; (try dsimp only at hSw); go_simp; first | done | with_reducible rfl); simp only [Act.put, List.setIfInBounds_toArray, List.set_cons_zero, List.set_cons_succ])
          (refine hd_take 3 (v := ?_) rfl (by kernel_rfl) (by kernel_rfl) (fun _ _ _ h => h) (by assumption) ?_ ?_; rotate_left; (intro w hSw; (try dsimp only at hSw); go_simp; first | done | with_reducible rfl); simp only [Act.put, List.setIfInBounds_toArray, List.set_cons_zero, List.set_cons_succ])
          (refine hd_take 4 (v := ?_) rfl (by kernel_rfl) (by kernel_rfl) (fun _ _ _ h => h) (by assumption) ?_ ?_; rotate_left; (intro w hSw; (try dsimp only at hSw); go_simp; first | done | with_reducible rfl); simp only [Act.put, List.setIfInBounds_toArray, List.set_cons_zero, List.set_cons_succ])
          (refine hd_take 5 (v := ?_) rfl (by kernel_rfl) (by kernel_rfl) (fun _ _ _ h => h) (by assumption) ?_ ?_; rotate_left; (intro w hSw; (try dsimp only at hSw); go_simp; first | done | with_reducible rfl); simp only [Act.put, List.setIfInBounds_toArray, List.set_cons_zero, List.set_cons_succ])
          (refine hd_take 6 (v := ?_) rfl (by kernel_rfl) (by kernel_rfl) (fun _ _ _ h => h) (by assumption) ?_ ?_; rotate_left; (intro w hSw; (try dsimp only at hSw); go_simp; first | done | with_reducible rfl); simp only [Act.put, List.setIfInBounds_toArray, List.set_cons_zero, List.set_cons_succ])
          (refine hd_take 7 (v := ?_) rfl (by kernel_rfl) (by kernel_rfl) (fun _ _ _ h => h) (by assumption) ?_ ?_; rotate_left; (intro w hSw; (try dsimp only at hSw); go_simp; first | done | with_reducible rfl); simp only [Act.put, List.setIfInBounds_toArray, List.set_cons_zero, List.set_cons_succ])
          (refine hd_take 8 (v := ?_) rfl (by kernel_rfl) (by kernel_rfl) (fun _ _ _ h => h) (by assumption) ?_ ?_; rotate_left; (intro w hSw; (try dsimp only at hSw); go_simp; first | done | with_reducible rfl); simp only [Act.put, List.setIfInBounds_toArray, List.set_cons_zero, List.set_cons_succ])
          (refine hd_take 9 (v := ?_) rfl (by kernel_rfl) (by kernel_rfl) (fun _ _ _ h => h) (by assumption) ?_ ?_; rotate_left; (intro w hSw; (try dsimp only at hSw); have r0 := HLS.out _ hSw; go_simp; first | done | with_reducible rfl); simp only [Act.put, List.setIfInBounds_toArray, List.set_cons_zero, List.set_cons_succ])
          (refine hd_take 10 (v := ?_) rfl (by kernel_rfl) (by kernel_rfl) (fun _ _ _ h => h) (by assumption) ?_ ?_; rotate_left; (intro w hSw; (try dsimp only at hSw); go_simp; first | done | with_reducible rfl); simp only [Act.put, List.setIfInBounds_toArray, List.set_cons_zero, List.set_cons_succ])
          (refine hd_take 11 (v := ?_) rfl (by kernel_rfl) (by kernel_rfl) (fun _ _ _ h => h) (by assumption) ?_ ?_; rotate_left; (intro w hSw; (try dsimp only at hSw); go_simp; first | done | with_reducible rfl); simp only [Act.put, List.setIfInBounds_toArray, List.set_cons_zero, List.set_cons_succ])
          (refine hd_take 12 (v := ?_) rfl (by kernel_rfl) (by kernel_rfl) (fun _ _ _ h => h) (by assumption) ?_ ?_; rotate_left; (intro w hSw; (try dsimp only at hSw); go_simp; first | done | with_reducible rfl); simp only [Act.put, List.setIfInBounds_toArray, List.set_cons_zero, List.set_cons_succ])
          (refine hd_take 13 (v := ?_) rfl (by kernel_rfl) (by kernel_rfl) (fun _ _ _ h => h) (by assumption) ?_ ?_; rotate_left; (intro w hSw; (try dsimp only at hSw); go_simp; first | done | with_reducible rfl); simp only [Act.put, List.setIfInBounds_toArray, List.set_cons_zero, List.set_cons_succ])
          (refine hd_take 14 (v := ?_) rfl (by kernel_rfl) (by kernel_rfl) (fun _ _ _ h => h) (by assumption) ?_ ?_; rotate_left; (intro w hSw; (try dsimp only at hSw); obtain ⟨s0, -⟩ := HROW.out _ hSw; go_simp; first | done | with_reducible rfl); simp only [Act.put, List.setIfInBounds_toArray, List.set_cons_zero, List.set_cons_succ])
          (refine hd_take 15 (v := ?_) rfl (by kernel_rfl) (by kernel_rfl) (fun _ _ _ h => h) (by assumption) ?_ ?_; rotate_left; (intro w hSw; (try dsimp only at hSw); go_simp; first | done | with_reducible rfl); simp only [Act.put, List.setIfInBounds_toArray, List.set_cons_zero, List.set_cons_succ])
          (refine hd_take 16 (v := ?_) rfl (by kernel_rfl) (by kernel_rfl) (fun _ _ _ h => h) (by assumption) ?_ ?_; rotate_left; (intro w hSw; (try dsimp only at hSw); go_simp; first | done | with_reducible rfl); simp only [Act.put, List.setIfInBounds_toArray, List.set_cons_zero, List.set_cons_succ])
          refine wpAnyH_done (by kernel_rfl) ?_ _
          have HBd := Aside0.mk (below_step HB.out (below_drew1 (Below.refl wr.heap.size wr)))
          have HOd := Aside0.mk (Kd.R_below HO.out (below_drew1 (Below.refl wr.heap.size wr)))
          obtain ⟨s0, -⟩ := HROW.out _ (below_drew1 (Below.refl _ _))
          go_wp2_with fail
          go_roundw
          case rel => exact ⟨k + 1, hlt, by push_cast; rfl, ⟨by rw [H1.out, HY.out]; exact HOd.out⟩, HBd⟩
          case measure => simp [intOf]; omega
        | false =>
          have HY : Aside0 (addK o p.k = o ++ [p.k]) := ⟨by rw [HY0.out, if_neg (by simp)]⟩
          go_wp2_with fail
          refine wp_region_held_drew (S := (fun w' => Below wr.heap.size wr w')) (by kernel_rfl) (below_drew1 (Below.refl _ _)) (fun hHeld => ?_)
          (refine hd_take 0 (v := ?_) rfl (by kernel_rfl) (by kernel_rfl) (fun _ _ _ h => h) (by assumption) ?_ ?_; rotate_left; (intro w hSw; (try dsimp only at hSw); go_simp; first | done | with_reducible rfl); simp only [Act.put, List.setIfInBounds_toArray, List.set_cons_zero, List.set_cons_succ])
          (refine hd_take 1 (v := ?_) rfl (by kernel_rfl) (by kernel_rfl) (fun _ _ _ h => h) (by assumption) ?_ ?_; rotate_left; (intro w hSw; (try dsimp only at hSw); go_simp; first | done | with_reducible rfl); simp only [Act.put, List.setIfInBounds_toArray, List.set_cons_zero, List.set_cons_succ])
          (refine hd_take 2 (v := ?_) rfl (by kernel_rfl) (by kernel_rfl) (fun _ _ _ h => h) (by assumption) ?_ ?_; rotate_left; (intro w hSw; (try dsimp only at hSw); go_simp; first | done | with_reducible rfl); simp only [Act.put, List.setIfInBounds_toArray, List.set_cons_zero, List.set_cons_succ])
          (refine hd_take 3 (v := ?_) rfl (by kernel_rfl) (by kernel_rfl) (fun _ _ _ h => h) (by assumption) ?_ ?_; rotate_left; (intro w hSw; (try dsimp only at hSw); go_simp; first | done | with_reducible rfl); simp only [Act.put, List.setIfInBounds_toArray, List.set_cons_zero, List.set_cons_succ])
          (refine hd_take 4 (v := ?_) rfl (by kernel_rfl) (by kernel_rfl) (fun _ _ _ h => h) (by assumption) ?_ ?_; rotate_left; (intro w hSw; (try dsimp only at hSw); go_simp; first | done | with_reducible rfl); simp only [Act.put, List.setIfInBounds_toArray, List.set_cons_zero, List.set_cons_succ])
          (refine hd_take 5 (v := ?_) rfl (by kernel_rfl) (by kernel_rfl) (fun _ _ _ h => h) (by assumption) ?_ ?_; rotate_left; (intro w hSw; (try dsimp only at hSw); go_simp; first | done | with_reducible rfl); simp only [Act.put, List.setIfInBounds_toArray, List.set_cons_zero, List.set_cons_succ])
          (refine hd_take 6 (v := ?_) rfl (by kernel_rfl) (by kernel_rfl) (fun _ _ _ h => h) (by assumption) ?_ ?_; rotate_left; (intro w hSw; (try dsimp only at hSw); go_simp; first | done | with_reducible rfl); simp only [Act.put, List.setIfInBounds_toArray, List.set_cons_zero, List.set_cons_succ])
          (refine hd_take 7 (v := ?_) rfl (by kernel_rfl) (by kernel_rfl) (fun _ _ _ h => h) (by assumption) ?_ ?_; rotate_left; (intro w hSw; (try dsimp only at hSw); go_simp; first | done | with_reducible rfl); simp only [Act.put, List.setIfInBounds_toArray, List.set_cons_zero, List.set_cons_succ])
          (refine hd_take 8 (v := ?_) rfl (by kernel_rfl) (by kernel_rfl) (fun _ _ _ h => h) (by assumption) ?_ ?_; rotate_left; (intro w hSw; (try dsimp only at hSw); go_simp; first | done | with_reducible rfl); simp only [Act.put, List.setIfInBounds_toArray, List.set_cons_zero, List.set_cons_succ])
          (refine hd_take 9 (v := ?_) rfl (by kernel_rfl) (by kernel_rfl) (fun _ _ _ h => h) (by assumption) ?_ ?_; rotate_left; (intro w hSw; (try dsimp only at hSw); have r0 := HLS.out _ hSw; go_simp; first | done | with_reducible rfl); simp only [Act.put, List.setIfInBounds_toArray, List.set_cons_zero, List.set_cons_succ])
          (refine hd_take 10 (v := ?_) rfl (by kernel_rfl) (by kernel_rfl) (fun _ _ _ h => h) (by assumption) ?_ ?_; rotate_left; (intro w hSw; (try dsimp only at hSw); go_simp; first | done | with_reducible rfl); simp only [Act.put, List.setIfInBounds_toArray, List.set_cons_zero, List.set_cons_succ])
          (refine hd_take 11 (v := ?_) rfl (by kernel_rfl) (by kernel_rfl) (fun _ _ _ h => h) (by assumption) ?_ ?_; rotate_left; (intro w hSw; (try dsimp only at hSw); go_simp; first | done | with_reducible rfl); simp only [Act.put, List.setIfInBounds_toArray, List.set_cons_zero, List.set_cons_succ])
          (refine hd_take 12 (v := ?_) rfl (by kernel_rfl) (by kernel_rfl) (fun _ _ _ h => h) (by assumption) ?_ ?_; rotate_left; (intro w hSw; (try dsimp only at hSw); go_simp; first | done | with_reducible rfl); simp only [Act.put, List.setIfInBounds_toArray, List.set_cons_zero, List.set_cons_succ])
          (refine hd_take 13 (v := ?_) rfl (by kernel_rfl) (by kernel_rfl) (fun _ _ _ h => h) (by assumption) ?_ ?_; rotate_left; (intro w hSw; (try dsimp only at hSw); go_simp; first | done | with_reducible rfl); simp only [Act.put, List.setIfInBounds_toArray, List.set_cons_zero, List.set_cons_succ])
          (refine hd_take 14 (v := ?_) rfl (by kernel_rfl) (by kernel_rfl) (fun _ _ _ h => h) (by assumption) ?_ ?_; rotate_left; (intro w hSw; (try dsimp only at hSw); obtain ⟨s0, -⟩ := HROW.out _ hSw; go_simp; first | done | with_reducible rfl); simp only [Act.put, List.setIfInBounds_toArray, List.set_cons_zero, List.set_cons_succ])
          (refine hd_take 15 (v := ?_) rfl (by kernel_rfl) (by kernel_rfl) (fun _ _ _ h => h) (by assumption) ?_ ?_; rotate_left; (intro w hSw; (try dsimp only at hSw); go_simp; first | done | with_reducible rfl); simp only [Act.put, List.setIfInBounds_toArray, List.set_cons_zero, List.set_cons_succ])
          (refine hd_take 16 (v := ?_) rfl (by kernel_rfl) (by kernel_rfl) (fun _ _ _ h => h) (by assumption) ?_ ?_; rotate_left; (intro w hSw; (try dsimp only at hSw); go_simp; first | done | with_reducible rfl); simp only [Act.put, List.setIfInBounds_toArray, List.set_cons_zero, List.set_cons_succ])
          refine wpAnyH_done (by kernel_rfl) ?_ _
          have HBd := Aside0.mk (below_step HB.out (below_drew1 (Below.refl wr.heap.size wr)))
          have HOd := Aside0.mk (Kd.R_below HO.out (below_drew1 (Below.refl wr.heap.size wr)))
          obtain ⟨s0, -⟩ := HROW.out _ (below_drew1 (Below.refl _ _))
          go_wp2_with ((with_reducible refine gate_dst (N := 35) rfl ?_); refine M.app_key rfl rfl rfl rfl HOd.out HBd.out.size (by have := HLL.out; omega) ?_; intro v7 w7 hO7 hb7 _; have HO7 := Aside0.mk hO7; have HB7 := Aside0.mk (HBd.out.trans hb7); clear hO7 hb7)
          go_roundw
          case rel => exact ⟨k + 1, hlt, by push_cast; rfl, ⟨by rw [H1.out, HY.out]; exact HO7.out⟩, HB7⟩
          case measure => simp [intOf]; omega
    · have j1 : ¬ (k : Int) < (n : Int) := by omega
      have HF : Aside0 (keysV (l.take k) = keysV l) := ⟨by rw [List.take_of_length_le (by have := HN.out; omega)]⟩
      go_wp2_with fail
      go_ret
      exact ⟨_, rfl, by rw [← HF.out]; exact HO.out, HB.out⟩
end Go.Proofs.Ytheoodbkjgfdfaa.A
