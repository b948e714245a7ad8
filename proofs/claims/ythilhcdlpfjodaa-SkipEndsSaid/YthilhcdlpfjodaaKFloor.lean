/- The last key up to one; the highest level; the keys of a level. -/
import Derived.Test.YthilhcdlpfjodaaKGet
import Derived.LaidEqlPtr
import Derived.Test.YthilhcdlpfjodaaIHeld
namespace Go.Proofs.Ythilhcdlpfjodaa.A
open Go.RowKit Go.Proofs.YthilhcdlpfjodaaW.PrintWords Go.Proofs.YthilhcdlpfjodaaW.PrintLast Go.Proofs.YthilhcdlpfjodaaW.PrintMore
set_option linter.unusedVariables false
set_option linter.unusedSimpArgs false

theorem neq_same (a : Addr) (w : World) : (binOp .neq 50 (.pointer (some a)) (.pointer (some a))).run Try.prog w = .ok (.bool false) w := by
  have hp : Try.prog.underlying 50 = some (.pointer 53) := Try.underlying50
  obtain ⟨j, hte⟩ : ∃ j, Try.prog.info? 53 = some j := Option.isSome_iff_exists.1 (by kernel_rfl)
  have h : ∀ d : Nat, (Op.equalIn (d + 1) 50 (.pointer (some a)) (.pointer (some a))).run Try.prog w = .ok true w := fun d => by
    simp [Op.equalIn, run_underlying hp, sizeOf, typeInfo, hte, run_sameAddr_same]
  simp only [binOp]
  simp [Op.equal, Op.maxDepth, h 9999]
theorem neq_other {a b : Addr} {ca cb : Array Value} {ta tb : TypeId} (w : World) (hne : a ≠ b) (ha : w.heap[a.block]? = some (.cells ca ta (0, 0))) (hb : w.heap[b.block]? = some (.cells cb tb (0, 0))) : (binOp .neq 50 (.pointer (some a)) (.pointer (some b))).run Try.prog w = .ok (.bool true) w := by
  have hp : Try.prog.underlying 50 = some (.pointer 53) := Try.underlying50
  obtain ⟨j, hte, hsz⟩ : ∃ j, Try.prog.info? 53 = some j ∧ j.size ≠ 0 := by
    obtain ⟨j, hte⟩ : ∃ j, Try.prog.info? 53 = some j := Option.isSome_iff_exists.1 (by kernel_rfl)
    have h3 : (Try.prog.info? 53).map (·.size) = some 3 := by kernel_rfl
    rw [hte] at h3
    have h4 : j.size = 3 := by simpa using h3
    exact ⟨j, hte, by omega⟩
  have h : ∀ d : Nat, (Op.equalIn (d + 1) 50 (.pointer (some a)) (.pointer (some b))).run Try.prog w = .ok false w := fun d => by
    simp [Op.equalIn, run_underlying hp, sizeOf, typeInfo, hte, hsz, run_sameAddr_other w hne ha hb]
  simp only [binOp]
  simp [Op.equal, Op.maxDepth, h 9999]
set_option maxHeartbeats 1000000 in
theorem floor_calls (w : World) (L : Nat) (xs : List Nd) (key : ByteArray) (h : SK w L xs) :
    Calls Try.prog 13 #[.pointer (some ⟨L, 0, none⟩), .string key] w fun e w' => e = .returned (.tuple #[.string (floorS (xs.tail.map Nd.it) key).1, .bool (floorS (xs.tail.map Nd.it) key).2]) ∧ Below w.heap.size w w' := by
  have hf := find_calls w L xs key h
  have HS := Aside0.mk h
  cases hi : isS (xs.tail.map Nd.it) key with
  | true =>
    obtain ⟨b, hb⟩ : ∃ b, (xs.getD (atS (xs.tail.map Nd.it) key + 1) default).b = b := ⟨_, rfl⟩
    have e1 : findB xs key = some b := by unfold findB; rw [hi, if_pos rfl, hb]
    have e2 : floorS (xs.tail.map Nd.it) key = (key, true) := by unfold floorS; rw [hi]; rfl
    rw [e1] at hf
    rw [e2]
    have hf' : Calls Try.prog 26 #[.pointer (some ⟨L, 0, none⟩), .string key] w fun e w' => e = .returned (.pointer (some ⟨b, 0, none⟩)) ∧ Below w.heap.size w w' := hf
    have HF := Aside0.mk hf'
    clear hf hf' e1 e2 hi hb h
    go_enter Try.func13, Try.ntmps13
    go_wp2_with fail
    (with_reducible refine HF.out.mono ?_)
    rintro e w1 ⟨rfl, hb1⟩
    have HB1 := Aside0.mk hb1
    clear hb1
    go_wp2_with fail
    go_ret2
    exact ⟨rfl, HB1.out⟩
  | false =>
    have e1 : findB xs key = none := by unfold findB; rw [hi]; rfl
    rw [e1] at hf
    have hf' : Calls Try.prog 26 #[.pointer (some ⟨L, 0, none⟩), .string key] w fun e w' => e = .returned (.pointer none) ∧ Below w.heap.size w w' := hf
    have HF := Aside0.mk hf'
    have hp := sk_p h key
    have hl0 := la0 h _ hp
    obtain ⟨d1, d2, d3, d4, d5, d6, d7, e8⟩ := ahead_form xs (atS (xs.tail.map Nd.it) key)
    have HA := Aside0.mk (fun W (hW : SK W L xs) => ahead_calls W L xs key hW)
    rw [e8, hl0] at HA
    have hfl : floorS (xs.tail.map Nd.it) key = ((xs.getD (atS (xs.tail.map Nd.it) key) default).it.k, decide (atS (xs.tail.map Nd.it) key ≠ 0)) := by
      unfold floorS
      rw [hi, if_neg (by simp)]
      by_cases h0 : atS (xs.tail.map Nd.it) key = 0
      · rw [if_pos h0, h0, h.2.1]
        rfl
      · rw [if_neg h0]
        obtain ⟨q, hq⟩ : ∃ q, atS (xs.tail.map Nd.it) key = q + 1 := ⟨atS (xs.tail.map Nd.it) key - 1, by omega⟩
        rw [hq, tail_at]
        simp
    have hap := blks_apart (List.nodup_cons.1 h.1.2.2.2).2 (atS (xs.tail.map Nd.it) key) 0 hp h.1.2.1
    rw [hfl]
    obtain ⟨p, hpp⟩ : ∃ p, atS (xs.tail.map Nd.it) key = p := ⟨_, rfl⟩
    rw [hpp] at HA hp hap ⊢
    obtain ⟨b, hb⟩ : ∃ b, (xs.getD p default).b = b := ⟨_, rfl⟩
    obtain ⟨k, hk⟩ : ∃ k, (xs.getD p default).it.k = k := ⟨_, rfl⟩
    obtain ⟨b0, hb0⟩ : ∃ b, (xs.getD 0 default).b = b := ⟨_, rfl⟩
    rw [hb] at HA hap
    rw [hb0] at hap
    rw [hk]
    have HC : Aside0 (∀ W, SK W L xs → W.cell? ⟨b, 0, none⟩ = some (.string k) ∧ W.cell? ⟨L, 0, none⟩ = some (.pointer (some ⟨b0, 0, none⟩))) := ⟨fun W hW => by
      obtain ⟨m0, -, -⟩ := node_cells (SL_node hW.1 p hp)
      rw [hb, hk] at m0
      refine ⟨m0, ?_⟩
      rw [cell_of_row _ _ _ _ _ _ (SL_list hW.1), ← hb0]
      rfl⟩
    have HN2 : Aside0 (∀ W, SK W L xs → W.heap[b]? = some (nodeBox (xs.getD p default).it.k (xs.getD p default).it.v (xs.getD p default).nb (xs.getD p default).it.lv) ∧ W.heap[b0]? = some (nodeBox (xs.getD 0 default).it.k (xs.getD 0 default).it.v (xs.getD 0 default).nb (xs.getD 0 default).it.lv)) := ⟨fun W hW => by
      have h7 := (SL_node hW.1 p hp).1
      have h8 := (SL_node hW.1 0 hW.1.2.1).1
      rw [hb] at h7
      rw [hb0] at h8
      exact ⟨h7, h8⟩⟩
    have hbb : b = b0 ↔ p = 0 := ⟨hap.2.2, fun e => by rw [← hb, ← hb0, e]⟩
    have hix : ∀ W : World, (Instr.index 62 (.agg #[.pointer (some ⟨b, 0, none⟩), .pointer (some ⟨d1, 0, none⟩), .pointer (some ⟨d2, 0, none⟩), .pointer (some ⟨d3, 0, none⟩), .pointer (some ⟨d4, 0, none⟩), .pointer (some ⟨d5, 0, none⟩), .pointer (some ⟨d6, 0, none⟩), .pointer (some ⟨d7, 0, none⟩)]) (.int .i64 0)).run Try.prog W = .ok (.pointer (some ⟨b, 0, none⟩)) W := fun W => idx_arr _ 0 (by omega) rfl W
    have HBB := Aside0.mk hbb
    obtain ⟨ok, hok⟩ : ∃ ok, decide (p ≠ 0) = ok := ⟨_, rfl⟩
    rw [hok]
    have HOK := Aside0.mk hok
    clear hok
    clear hf hf' e1 e8 hi hb h hfl hap hpp hk hb0 hp hl0 hbb
    go_enter Try.func13, Try.ntmps13
    go_wp2_with fail
    (with_reducible refine HF.out.mono ?_)
    rintro e w1 ⟨rfl, hb1⟩
    have HS1 : Aside0 (SK w1 L xs) := ⟨SL_below HS.out.1 hb1, HS.out.2⟩
    have HB1 := Aside0.mk hb1
    clear hb1
    go_wp2_with fail
    (with_reducible refine (HA.out w1 HS1.out).mono ?_)
    rintro e w2 ⟨rfl, hb2⟩
    have HS2 : Aside0 (SK w2.drew L xs) := ⟨SL_below HS1.out.1 (below_drew1 hb2), HS1.out.2⟩
    have HB2 := Aside0.mk (below_drew1 (below_step HB1.out hb2))
    obtain ⟨m0, m1⟩ := HC.out _ HS2.out
    clear hb2 HS1 HB1
    by_cases h0 : p = 0
    · obtain rfl : b = b0 := HBB.out.2 h0
      have HO2 : Aside0 (ok = false) := ⟨by rw [← HOK.out, h0]; rfl⟩
      have hnq := neq_same (⟨b, 0, none⟩ : Addr)
      clear HBB HC h0
      go_wp2_with fail
      go_region
      all_goals go_wp2
      all_goals go_ret2
      all_goals exact ⟨by rw [HO2.out]; first | rfl | simp, HB2.out⟩
    · have HNE : Aside0 ((⟨b, 0, none⟩ : Addr) ≠ ⟨b0, 0, none⟩) := ⟨fun e => h0 (HBB.out.1 (by injection e))⟩
      have HO2 : Aside0 (ok = true) := ⟨by rw [← HOK.out]; simp [h0]⟩
      have HNN := HN2.out _ HS2.out
      clear HBB HC h0
      go_wp2_with fail
      refine wp_region_held_drew (S := fun w' => w'.cell? ⟨b, 0, none⟩ = some (.string k) ∧ w'.cell? ⟨L, 0, none⟩ = some (.pointer (some ⟨b0, 0, none⟩)) ∧ w'.heap[b]? = some (nodeBox (xs.getD p default).it.k (xs.getD p default).it.v (xs.getD p default).nb (xs.getD p default).it.lv) ∧ w'.heap[b0]? = some (nodeBox (xs.getD 0 default).it.k (xs.getD 0 default).it.v (xs.getD 0 default).nb (xs.getD 0 default).it.lv)) (by kernel_rfl) ⟨m0, m1, HNN.1, HNN.2⟩ (fun hHeld => ?_)
      (refine hd_take 0 (v := ?_) rfl (by kernel_rfl) (by kernel_rfl) (fun _ _ _ h => h) (by assumption) ?_ ?_; rotate_left; (intro w hSw; (try dsimp only at hSw); go_simp; first | done | with_reducible rfl); simp only [Act.put, List.setIfInBounds_toArray, List.set_cons_zero, List.set_cons_succ])
      (refine hd_take 1 (v := ?_) rfl (by kernel_rfl) (by kernel_rfl) (fun _ _ _ h => h) (by assumption) ?_ ?_; rotate_left; (intro w hSw; (try dsimp only at hSw); go_simp; first | done | with_reducible rfl); simp only [Act.put, List.setIfInBounds_toArray, List.set_cons_zero, List.set_cons_succ])
      (refine hd_take 2 (v := ?_) rfl (by kernel_rfl) (by kernel_rfl) (fun _ _ _ h => h) (by assumption) ?_ ?_; rotate_left; (intro w hSw; (try dsimp only at hSw); go_simp; first | done | with_reducible rfl); simp only [Act.put, List.setIfInBounds_toArray, List.set_cons_zero, List.set_cons_succ])
      (refine hd_take 3 (v := ?_) rfl (by kernel_rfl) (by kernel_rfl) (fun _ _ _ h => h) (by assumption) ?_ ?_; rotate_left; (intro w hSw; (try dsimp only at hSw); go_simp; first | done | with_reducible rfl); simp only [Act.put, List.setIfInBounds_toArray, List.set_cons_zero, List.set_cons_succ])
      (refine hd_take 4 (v := ?_) rfl (by kernel_rfl) (by kernel_rfl) (fun _ _ _ h => h) (by assumption) ?_ ?_; rotate_left; (intro w hSw; (try dsimp only at hSw); go_simp; first | done | with_reducible rfl); simp only [Act.put, List.setIfInBounds_toArray, List.set_cons_zero, List.set_cons_succ])
      (refine hd_take 5 (v := ?_) rfl (by kernel_rfl) (by kernel_rfl) (fun _ _ _ h => h) (by assumption) ?_ ?_; rotate_left; (intro w hSw; (try dsimp only at hSw); go_simp; first | done | with_reducible rfl); simp only [Act.put, List.setIfInBounds_toArray, List.set_cons_zero, List.set_cons_succ])
      (refine hd_take 6 (v := ?_) rfl (by kernel_rfl) (by kernel_rfl) (fun _ _ _ h => h) (by assumption) ?_ ?_; rotate_left; (intro w hSw; (try dsimp only at hSw); go_simp; first | done | with_reducible rfl); simp only [Act.put, List.setIfInBounds_toArray, List.set_cons_zero, List.set_cons_succ])
      (refine hd_take 7 (v := ?_) rfl (by kernel_rfl) (by kernel_rfl) (fun _ _ _ h => h) (by assumption) ?_ ?_; rotate_left; (intro w hSw; (try dsimp only at hSw); go_simp; first | done | with_reducible rfl); simp only [Act.put, List.setIfInBounds_toArray, List.set_cons_zero, List.set_cons_succ])
      (refine hd_take 8 (v := ?_) rfl (by kernel_rfl) (by kernel_rfl) (fun _ _ _ h => h) (by assumption) ?_ ?_; rotate_left; (intro w hSw; (try dsimp only at hSw); go_simp; first | done | with_reducible rfl); simp only [Act.put, List.setIfInBounds_toArray, List.set_cons_zero, List.set_cons_succ])
      (refine hd_take 9 (v := ?_) rfl (by kernel_rfl) (by kernel_rfl) (fun _ _ _ h => h) (by assumption) ?_ ?_; rotate_left; (intro w hSw; (try dsimp only at hSw); have hnq := neq_other (a := ⟨b, 0, none⟩) (b := ⟨b0, 0, none⟩) w HNE.out hSw.2.2.1 hSw.2.2.2; go_simp; first | done | with_reducible rfl); simp only [Act.put, List.setIfInBounds_toArray, List.set_cons_zero, List.set_cons_succ])
      (refine hd_take 10 (v := ?_) rfl (by kernel_rfl) (by kernel_rfl) (fun _ _ _ h => h) (by assumption) ?_ ?_; rotate_left; (intro w hSw; (try dsimp only at hSw); go_simp; first | done | with_reducible rfl); simp only [Act.put, List.setIfInBounds_toArray, List.set_cons_zero, List.set_cons_succ])
      (refine hd_take 11 (v := ?_) rfl (by kernel_rfl) (by kernel_rfl) (fun _ _ _ h => h) (by assumption) ?_ ?_; rotate_left; (intro w hSw; (try dsimp only at hSw); go_simp; first | done | with_reducible rfl); simp only [Act.put, List.setIfInBounds_toArray, List.set_cons_zero, List.set_cons_succ])
      refine wpAnyH_done (by kernel_rfl) ?_ _
      go_wp2
      go_ret2
      exact ⟨by rw [HO2.out]; first | rfl | simp, HB2.out⟩
end Go.Proofs.Ythilhcdlpfjodaa.A
