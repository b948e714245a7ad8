/- Versions' bytes read back: row.All. -/
import Derived.Test.YtmkabbfglijckaaBList
import Derived.Test.YtmkabbfglijckaaBRead
namespace Go.Proofs.Ytmkabbfglijckaa.A
open Go.RowKit Go.Proofs.YtmkabbfglijckaaW.PrintWords Go.Proofs.YtmkabbfglijckaaW.PrintLast Go.Proofs.YtmkabbfglijckaaW.PrintMore
set_option linter.unusedVariables false
set_option linter.unusedSimpArgs false

theorem OVr_grown {W w1 : World} {B g : Nat} {u : Value} {xs : List Vr} (h : OVr W B u xs) (hg : W.grownBy w1 (some g)) (hgB : g < B) : OVr w1 B u xs :=
  Kd.R_mono (Kd.R_move (Kd.R_bound h) (fun k hk => hg.block k hk.2.2.1 (fun he => by injection he with he; have := hk.2.1; omega))) (fun _ hk => hk.1)
def lenV : Value → Nat
  | .slice _ n _ => n
  | _ => 0
theorem flat_range (l : List Vr) : ∀ x ∈ l.flatMap bytesV, 0 ≤ x ∧ x ≤ 255 := by
  intro x hx
  obtain ⟨p, _, hx⟩ := List.mem_flatMap.1 hx
  exact bytesV_range p x hx
theorem okS_flat (l : List Vr) : okS (l.flatMap bytesV, 0) := ⟨flat_range l, fun h => absurd rfl h⟩
theorem read_head (l : List Vr) (h6 : l.length ≤ 6) : numS (bytesL l, 0) = ((l.length : Int), (l.flatMap bytesV, 0)) := numS_put _ _ (by omega) (by omega)
theorem read_next (l : List Vr) (k : Nat) (hk : k < l.length) (hm : ∀ p ∈ l, mayV p = true) : readV ((l.drop k).flatMap bytesV, 0) = (l.getD k default, 0, ((l.drop (k + 1)).flatMap bytesV, 0)) := by
  rw [drop_getD l k hk, List.flatMap_cons]
  exact readV_bytes _ _ (hm _ (getD_mem l k hk))
set_option maxRecDepth 100000 in
set_option maxHeartbeats 4000000 in
theorem all_calls (A : Option Addr) (N c : Nat) (l : List Vr) (w : World) (hr : U8.C w A N (bytesL l)) (hc : N ≤ c) (h6 : l.length ≤ 6) (hm : ∀ p ∈ l, mayV p = true) :
    Calls Try.prog 21 #[.slice A N c] w fun e w' => ∃ u, e = .returned (.tuple #[u, .int .i64 0]) ∧ OVr w' w.heap.size u l ∧ Below w.heap.size w w' := by
  have HR := Aside0.mk hr
  have HM := Aside0.mk hm
  have hbl := bytesL_len l hm h6
  have hNN : (bytesL l).length = N := hr.1
  have hnum := read_head l h6
  have hrng := bytesL_range l
  obtain ⟨n, hn⟩ : ∃ n, l.length = n := ⟨_, rfl⟩
  have HN := Aside0.mk hn
  rw [hn] at h6 hnum
  have HNUM := Aside0.mk hnum
  have HRNG := Aside0.mk hrng
  rw [hNN] at hbl
  clear hr hm hn hnum hrng hNN
  go_enter Try.func21, Try.ntmps21
  go_wp2_with fail
  (with_reducible refine (V.read_calls A N c (bytesL l) _ HR.out hc (by omega)).mono ?_)
  rintro e w1 ⟨w0, rfl, hRD, hb0⟩
  have HRS : Aside0 (RS w0 w0.heap.size w1 (bytesL l, 0)) := ⟨by obtain ⟨a1, a2, a3, a4, a5, a6⟩ := hRD; exact ⟨a1, a2, a3, a4, a5, a6⟩⟩
  have hbr : Below w0.heap.size w0 w1 := by obtain ⟨a1, a2, a3, a4, a5, a6⟩ := hRD; exact a6
  have HB1 := Aside0.mk (below_step hb0 hbr)
  have hww : w.heap.size ≤ w0.heap.size := hb0.size
  clear hRD hb0 hbr
  go_wp2_with fail
  (with_reducible refine (numS_calls w0 w1 _ (bytesL l, 0) HRS.out (Nat.le_refl _) HRNG.out).mono ?_)
  rw [HNUM.out]
  dsimp only
  rintro e w2 ⟨rfl, hRS2, hgr2⟩
  have HRS2 := Aside0.mk hRS2
  have HB2 : Aside0 (Below w.heap.size w w2) := ⟨HB1.out.grown hgr2 HB1.out.size (fun k e => by cases e; exact hww)⟩
  have hg2 : w0.heap.size < w2.heap.size := by obtain ⟨A, c, h1, _⟩ := hRS2; exact blk_lt h1
  clear hRS2 hgr2 HRS HB1
  obtain ⟨g, hg⟩ : ∃ g, w0.heap.size = g := ⟨_, rfl⟩
  have hRSf : Aside0 (RS w0 g w2 (l.flatMap bytesV, 0)) := ⟨by rw [← hg]; exact HRS2.out⟩
  have hg0 : w0.heap.size ≤ g := by omega
  rw [hg] at hww hg2 ⊢
  clear hg HRS2
  go_wp2_with fail
  go_loopw [6] (fun v6 w' => ∃ k : Nat, k ≤ n ∧ Aside0 (OVr w' (g + 1) v6 (l.take k)) ∧ Aside0 (RS w0 g w' ((l.drop k).flatMap bytesV, 0)) ∧ Aside0 (Below w.heap.size w w')) (fun v6 _ => n - lenV v6)
  case atStart => exact ⟨0, Nat.zero_le _, ⟨OVr_nil _ _⟩, hRSf, HB2⟩
  case round =>
    obtain ⟨k, hk, HO, HRSk, HB⟩ := hrel
    have htkl : (l.take k).length = k := by rw [List.length_take, HN.out]; omega
    obtain ⟨A6, c6, rfl, hc6, _⟩ := OVr_readn HO.out k htkl
    have HTL := Aside0.mk htkl
    have hgr : g < wr.heap.size := by obtain ⟨A, c, h1, _⟩ := HRSk.out; exact blk_lt h1
    clear htkl
    go_wp2_with fail
    (with_reducible refine (errS_calls w0 wr g _ HRSk.out).mono ?_)
    rintro e _ ⟨rfl, rfl⟩
    by_cases hlt : k < n
    · have i1 : (k : Int) < (n : Int) := by omega
      have HTK := Aside0.mk (take_getD l k (by rw [HN.out]; exact hlt))
      have HRN := Aside0.mk (read_next l k (by rw [HN.out]; exact hlt) HM.out)
      generalize l.getD k default = q at *
      obtain ⟨qk, qbr, qep, qsq, qf, qt, qv, qg⟩ := q
      go_wp2_with fail
      (with_reducible refine (readV_calls w0 _ g _ HRSk.out hg0 (okS_flat _)).mono ?_)
      rw [HRN.out]
      dsimp only
      rintro e w3 ⟨rfl, hRS3, hgr3⟩
      have HO3 := Aside0.mk (OVr_grown HO.out hgr3 (Nat.lt_succ_self _))
      have HB3 : Aside0 (Below w.heap.size w w3) := ⟨HB.out.grown hgr3 HB.out.size (fun k e => by cases e; omega)⟩
      have hal := below_alloc (Below.refl w3.heap.size w3) (vrBox qk qbr qep qsq qf qt qv qg)
      have HO4 := Aside0.mk (Kd.R_below HO3.out hal)
      have HRS4 := Aside0.mk (RS_below hRS3 hal)
      have HB4 := Aside0.mk (below_step HB3.out hal)
      have hg4 : g + 1 ≤ (w3.alloc (vrBox qk qbr qep qsq qf qt qv qg)).heap.size := by obtain ⟨A, c, h1, _⟩ := HRS4.out; exact blk_lt h1
      clear hRS3 hgr3 hal HO HRSk HB HO3 HB3
      go_wp2_with ((with_reducible refine gate_dst (N := 33) rfl ?_); refine app_vr rfl rfl rfl (by rw [World.size_alloc]; rfl) HO4.out hg4 (by have := HTL.out; omega) ?_; intro v4 w4 hO4 hb4 _; have HO5 := Aside0.mk hO4; have HB5 := Aside0.mk hb4; clear hO4 hb4)
      have hRS5 : RS w0 g w4 ((l.drop (k + 1)).flatMap bytesV, 0) := by
        obtain ⟨A, c, h1, h2, h3, h4⟩ := HRS4.out
        exact ⟨A, c, (HB5.out.block _ (Nat.lt_succ_self g)).trans h1, h2, h3, h4.trans ⟨HB5.out.os, HB5.out.tape, HB5.out.output, HB5.out.size, fun j hj => HB5.out.block j (by omega)⟩⟩
      obtain ⟨A7, c7, e7, _, _⟩ := OVr_readn HO5.out (k + 1) (by rw [List.length_append, HTL.out]; rfl)
      have hlen : lenV v4 = k + 1 := by rw [e7]; rfl
      clear e7
      have hB5 : Below w.heap.size w w4 := HB4.out.trans ⟨HB5.out.os, HB5.out.tape, HB5.out.output, HB5.out.size, fun j hj => HB5.out.block j (by omega)⟩
      go_roundw
      case rel => exact ⟨k + 1, hlt, ⟨by rw [HTK.out]; exact HO5.out⟩, ⟨hRS5⟩, ⟨hB5⟩⟩
      case measure => rw [hlen]; show n - (k + 1) < n - k; omega
    · obtain rfl : k = n := by omega
      have hd0 : l.drop k = [] := List.drop_of_length_le (by rw [HN.out]; exact Nat.le_refl _)
      rw [hd0] at HRSk
      have hO := HO.out
      rw [List.take_of_length_le (by rw [HN.out]; exact Nat.le_refl _)] at hO
      have HOl := Aside0.mk (Kd.R_lower hO (show w.heap.size ≤ g + 1 by omega))
      clear hd0 hO HO
      go_wp2_with fail
      (with_reducible refine (errS_calls w0 _ g _ HRSk.out).mono ?_)
      rintro e _ ⟨rfl, rfl⟩
      go_wp2_with fail
      (with_reducible refine (restS_calls w0 _ g _ HRSk.out).mono ?_)
      rintro e _ ⟨rfl, rfl⟩
      go_wp2_with fail
      go_ret2
      exact ⟨_, rfl, HOl.out, HB.out⟩
end Go.Proofs.Ytmkabbfglijckaa.A
