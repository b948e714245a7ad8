/- The first parts of a tuple, each cut. -/
import Derived.Test.YtfabgmekkhlogaaATuple
namespace Go.Proofs.Ytfabgmekkhlogaa.A
open Go.RowKit Go.Proofs.YtfabgmekkhlogaaW.PrintWords Go.Proofs.YtfabgmekkhlogaaW.PrintLast Go.Proofs.YtfabgmekkhlogaaW.PrintMore
set_option linter.unusedVariables false
set_option linter.unusedSimpArgs false

theorem map_take {α β : Type} (f : α → β) (ll : List α) (d : α) (k : Nat) (hk : k < ll.length) : (ll.take (k + 1)).map f = (ll.take k).map f ++ [f (ll.getD k d)] := by
  rw [List.take_succ_eq_append_getElem hk, List.map_append]
  simp [List.getD_eq_getElem?_getD, hk]
theorem cutL_len (l : List Pt) : (cutL l).length ≤ 6 := by
  unfold cutL
  rw [List.length_map, List.length_take]
  omega
theorem cutL_size (l : List Pt) : ∀ p ∈ cutL l, p.s.size ≤ 50 := by
  intro p hp
  obtain ⟨q, _, rfl⟩ := List.mem_map.1 hp
  unfold cutP
  split
  · rw [ByteArray.size_extract]
    omega
  · omega
theorem cutL_ok (l : List Pt) (h : ∀ p ∈ l, p.ok) : ∀ p ∈ cutL l, p.ok := by
  intro p hp
  obtain ⟨q, hq, rfl⟩ := List.mem_map.1 hp
  have hk := h q (List.mem_of_mem_take hq)
  unfold cutP
  split
  · refine ⟨hk.1, ?_⟩
    show (q.s.extract 0 50).size ≤ maxLen
    rw [ByteArray.size_extract]
    have := hk.2
    omega
  · exact hk

set_option maxRecDepth 100000 in
set_option maxHeartbeats 1000000 in
theorem cut_calls (A : Option Addr) (n c : Nat) (l : List Pt) (w : World) (hr : KPt.C w A n l) (hc : n ≤ c) (hok : ∀ p ∈ l, p.ok) :
    Calls Try.prog 11 #[.slice A n c] w fun e w' => ∃ v, e = .returned v ∧ OPt w' w.heap.size v (cutL l) ∧ Below w.heap.size w w' := by
  have hn : n = l.length := hr.1.symm
  have hm : n ≤ 9223372036854775807 := hr.2.1
  have HN := Aside0.mk hn
  have HR := Aside0.mk hr
  have HOK := Aside0.mk hok
  clear hn hr hok
  go_enter Try.func11, Try.ntmps11
  go_wp2
  go_loopw [3, 4] (fun v3 v4 w' => ∃ k : Nat, k ≤ n ∧ k ≤ 6 ∧ v4 = .int .i64 k ∧ Aside0 (OPt w' w.heap.size v3 ((l.take k).map cutP)) ∧ Aside0 (Below w.heap.size w w')) (fun _ v4 _ => n - (intOf v4).toNat)
  case atStart => exact ⟨0, Nat.zero_le _, Nat.zero_le _, rfl, ⟨Kd.R_nil _ _ _ _ _⟩, ⟨Below.refl _ _⟩⟩
  case round =>
    obtain ⟨k, hk, hk6, rfl, HO, HB⟩ := hrel
    have hend : ∀ (_ : n ≤ k ∨ 6 ≤ k), (l.take k).map cutP = cutL l := by
      intro h
      unfold cutL
      rcases h with h | h
      · rw [List.take_of_length_le (by rw [← HN.out]; omega), List.take_of_length_le (by rw [← HN.out]; omega)]
      · rw [show k = 6 by omega]
    have HEND := Aside0.mk hend
    clear hend
    by_cases hlt : k < n
    · by_cases h6 : k < 6
      · obtain ⟨ad, rfl, p0, p1, p2⟩ := C_atPt HR.out k hlt
        have p0 := pw_cell_below HB.out p0
        have p1 := pw_cell_below HB.out p1
        have p2 := pw_cell_below HB.out p2
        have hmap := map_take cutP l default k (by rw [← HN.out]; exact hlt)
        have hln : ((l.take k).map cutP).length ≤ 6 := by rw [List.length_map, List.length_take]; omega
        have hsz : (l.getD k default).s.size ≤ 9223372036854775807 := by
          have e : l.getD k default = l[k]'(by rw [← HN.out]; exact hlt) := by simp [List.getD_eq_getElem?_getD, show k < l.length by rw [← HN.out]; exact hlt]
          rw [e]
          exact (HOK.out _ (List.getElem_mem _)).2
        generalize l.getD k default = p at *
        generalize (l.take k).map cutP = pre at *
        obtain ⟨pt, pn, ps⟩ := p
        dsimp only at p0 p1 p2 hsz
        have HM := Aside0.mk hmap
        clear hmap HEND
        by_cases h50 : 50 < ps.size
        · have h50' : (50 : Int) < (ps.size : Int) := by omega
          go_wp2_with ((with_reducible refine gate_dst (N := 31) rfl ?_); refine app_pt rfl rfl rfl ?_ (Kd.R_alloc HO.out _) (below_alloc HB.out _).size (by omega) ?_; go_simp; intro v2 w2 HO2 hb2 _)
          go_roundw
          case rel =>
            refine ⟨k + 1, hlt, h6, rfl, ⟨?_⟩, ⟨(below_alloc HB.out _).trans hb2⟩⟩
            rw [HM.out]
            simpa [cutP, h50] using HO2
          case measure => simp [intOf]; omega
        · have h50' : ¬ (50 : Int) < (ps.size : Int) := by omega
          go_wp2_with ((with_reducible refine gate_dst (N := 31) rfl ?_); refine app_pt rfl rfl rfl ?_ (Kd.R_alloc HO.out _) (below_alloc HB.out _).size (by omega) ?_; go_simp; intro v2 w2 HO2 hb2 _)
          go_roundw
          case rel =>
            refine ⟨k + 1, hlt, h6, rfl, ⟨?_⟩, ⟨(below_alloc HB.out _).trans hb2⟩⟩
            rw [HM.out]
            simpa [cutP, h50] using HO2
          case measure => simp [intOf]; omega
      · go_wp2_with fail
        go_ret
        refine ⟨_, rfl, ?_, HB.out⟩
        rw [← HEND.out (.inr (by omega))]
        exact HO.out
    · go_wp2_with fail
      go_ret
      refine ⟨_, rfl, ?_, HB.out⟩
      rw [← HEND.out (.inl (by omega))]
      exact HO.out

end Go.Proofs.Ytfabgmekkhlogaa.A
