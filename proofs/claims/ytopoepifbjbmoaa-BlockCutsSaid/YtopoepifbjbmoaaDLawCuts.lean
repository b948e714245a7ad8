/- BlockCuts: pieces are of eight versions, but the last one, and are all of them, in their order. -/
import Derived.Test.YtopoepifbjbmoaaDCut
namespace Go.Proofs.Ytopoepifbjbmoaa.A
open Go.RowKit Go.Proofs.YtopoepifbjbmoaaW.PrintWords Go.Proofs.YtopoepifbjbmoaaW.PrintLast Go.Proofs.YtopoepifbjbmoaaW.PrintMore
open R
set_option linter.unusedVariables false
set_option linter.unusedSimpArgs false

theorem chk_iff : ∀ (f : Nat) (l : List Vr), l.length < f → ∀ i, i < (chk f l).length ↔ 8 * i < l.length
  | 0, l, h, _ => absurd h (Nat.not_lt_zero _)
  | f + 1, l, h, i => by
    rw [chk]
    split
    · rename_i h0
      rw [List.length_nil]
      omega
    · rename_i h0
      rw [List.length_cons]
      cases i with
      | zero => omega
      | succ j =>
        have h1 := chk_iff f (l.drop 8) (by rw [List.length_drop]; omega) j
        rw [List.length_drop] at h1
        omega
theorem chk_get : ∀ (f : Nat) (l : List Vr) (i : Nat), l.length < f → 8 * i < l.length → (chk f l).getD i [] = (l.drop (8 * i)).take 8
  | 0, l, _, h, _ => absurd h (Nat.not_lt_zero _)
  | f + 1, l, i, h, hi => by
    rw [chk, if_neg (by omega)]
    cases i with
    | zero => rw [Nat.mul_zero, List.drop_zero]; rfl
    | succ j =>
      have h1 := chk_get f (l.drop 8) j (by rw [List.length_drop]; omega) (by rw [List.length_drop]; omega)
      rw [List.getD_cons_succ, h1, List.drop_drop, show 8 + 8 * j = 8 * (j + 1) by omega]
theorem HeadsV_C {w : World} {B : Nat} {A : Option Addr} {n e : Nat} {hs : List (Option Addr × Nat × Nat)} {ll : List (List Vr)} (hr : HdV.C w A n hs) (h : HeadsV w B hs ll) : (Kd.slice e KVr).C w A n ll := by
  refine ⟨h.1 ▸ hr.1, hr.2.1, fun h0 => ?_⟩
  obtain ⟨ad, e1, hc⟩ := hr.2.2 h0
  refine ⟨ad, e1, fun j x hj => ?_⟩
  have hjl : j < hs.length := by rw [h.1]; exact (List.getElem?_eq_some_iff.1 hj).1
  obtain ⟨cs, h1, hK, h3⟩ := hc j _ (List.getElem?_eq_getElem hjl)
  have h7 := h.2 j _ x (List.getElem?_eq_getElem hjl) hj
  obtain ⟨A', c', e2, hc', hC'⟩ := OVr_readn h7 _ rfl
  have hcs : cs = [Value.slice hs[j].1 hs[j].2.1 hs[j].2.2] := hK
  rw [e2] at hcs
  refine ⟨cs, h1, ⟨A', c', by rw [hcs], hc', hC'⟩, h3⟩
theorem cutmV2 (A : Option Addr) (n c : Nat) (l : List Vr) (lo hi m : Nat) (hn : l.length = n) (hm : lo + m = hi) (h2 : hi ≤ n) (hc : n ≤ c) :
    ∃ (A' : Option Addr) (c' : Nat), (∀ W : World, (Instr.slice 22 (.slice A n c) (some (.int .i64 (lo : Int))) (some (.int .i64 (hi : Int))) none).run Try.prog W = .ok (.slice A' m c') W) ∧
      (∀ w : World, KVr.C w A n l → KVr.C w A' m ((l.drop lo).take m)) ∧ m ≤ c' := by
  subst hn hm
  obtain ⟨i0, hi0, _, hsz, _⟩ := info_parts infoVr
  have e : (l.take (lo + m)).drop lo = (l.drop lo).take m := by rw [List.drop_take, show lo + m - lo = m by omega]
  refine ⟨if c = lo then A else A.map (·.add (lo * KVr.sz)), c - lo, fun W => ?_, fun w h => ?_, by omega⟩
  · rw [cut_mid 22 39 .i64 .i64 Try.underlying22 hi0 8 hsz A l.length c (lo : Int) ((lo + m : Nat) : Int) (by omega) (by omega) (by omega) hc W]
    rw [show ((((lo + m : Nat) : Int)).toNat - ((lo : Int)).toNat) = m by omega]
    rfl
  · have h7 := Kd.C_mid h (lo := lo) (hi := lo + m) (by omega) h2 hc
    rw [e, show ((l.drop lo).take m).length = m by rw [List.length_take, List.length_drop]; omega] at h7
    exact h7
/-- The pieces, the versions. -/
def PC (w : World) (A5 : Option Addr) (q : Nat) (P : List (List Vr)) (A3 : Option Addr) (k : Nat) (Y : List Vr) (W : World) : Prop := (Kd.slice 39 KVr).C W A5 q P ∧ KVr.C W A3 k Y ∧ Below w.heap.size w W
theorem PC_step {w : World} {A5 : Option Addr} {q : Nat} {P : List (List Vr)} {A3 : Option Addr} {k : Nat} {Y : List Vr} {W W1 : World} (h : PC w A5 q P A3 k Y W) (hb : Below W.heap.size W W1) : PC w A5 q P A3 k Y W1 := ⟨Kd.C_below h.1 hb, Kd.C_below h.2.1 hb, below_step h.2.2 hb⟩
theorem PC_p {w : World} {A5 : Option Addr} {q : Nat} {P : List (List Vr)} {A3 : Option Addr} {k : Nat} {Y : List Vr} {W : World} (h : PC w A5 q P A3 k Y W) : (Kd.slice 39 KVr).C W A5 q P := h.1
theorem PC_y {w : World} {A5 : Option Addr} {q : Nat} {P : List (List Vr)} {A3 : Option Addr} {k : Nat} {Y : List Vr} {W : World} (h : PC w A5 q P A3 k Y W) : KVr.C W A3 k Y := h.2.1
theorem PC_b {w : World} {A5 : Option Addr} {q : Nat} {P : List (List Vr)} {A3 : Option Addr} {k : Nat} {Y : List Vr} {W : World} (h : PC w A5 q P A3 k Y W) : Below w.heap.size w W := h.2.2
theorem take_min (Y : List Vr) (j k : Nat) (h : Y.length = k) : (Y.drop j).take (min 8 (k - j)) = (Y.drop j).take 8 := by
  rw [← List.take_take]
  congr 1
  rw [List.take_of_length_le (by rw [List.length_drop, h]; exact Nat.le_refl _)]
theorem C_atSn {α : Type} {d : Kd α} {e : Nat} {A : Option Addr} {n : Nat} {ll : List (List α)} {w : World} (h : Kd.C (Kd.slice e d) w A n ll) (i : Nat) (hi : i < n) :
    ∃ ad A1 c1, A = some ad ∧ w.cell? (ad.add i) = some (.slice A1 (ll.getD i []).length c1) ∧ (ll.getD i []).length ≤ c1 ∧ d.C w A1 (ll.getD i []).length (ll.getD i []) := by
  have hn := h.1
  subst hn
  exact C_atS h i hi
set_option maxRecDepth 100000 in
set_option maxHeartbeats 8000000 in
theorem cuts_calls (w : World) (A : Option Addr) (c : Nat) (l : List Vr) (hr : KVr.C w A l.length l) (hc : l.length ≤ c) (hf : ∀ p ∈ l, p.fits) :
    Calls Try.prog 7 #[.slice A l.length c] w fun e w' => e = .returned (.bool true) ∧ Below w.heap.size w w' := by
  have HR := Aside0.mk hr
  have HF := Aside0.mk hf
  have hmx : l.length ≤ 9223372036854775807 := hr.2.1
  obtain ⟨n, hn⟩ : ∃ n, l.length = n := ⟨_, rfl⟩
  have HN := Aside0.mk hn
  rw [hn] at hc hmx HR ⊢
  clear hr hf hn
  go_enter Try.func7, Try.ntmps7
  go_wp2_with fail
  go_loopw [3, 4] (fun v3 v4 w' => ∃ (k : Nat), k ≤ n ∧ k ≤ 40 ∧ v4 = .int .i64 k ∧ Aside0 (OVr w' w.heap.size v3 (ownL l k)) ∧ Aside0 (Below w.heap.size w w')) (fun _ v4 _ => 40 - (intOf v4).toNat)
  case atStart => exact ⟨0, Nat.zero_le _, by omega, rfl, ⟨OVr_nil _ _⟩, ⟨Below.refl _ _⟩⟩
  case round =>
    obtain ⟨k, hk, hk6, rfl, HO, HB⟩ := hrel
    by_cases hlt : k < n ∧ k < 40
    · obtain ⟨hlt, hl6⟩ := hlt
      have HX := Aside0.mk (C_atVr (Kd.C_below HR.out HB.out) k hlt)
      have HNX := Aside0.mk (ownL_next l k n HN.out hlt)
      have HLN := Aside0.mk (ownL_len l k n HN.out hk)
      have hfq := HF.out _ (getD_mem l k (by rw [HN.out]; exact hlt))
      generalize l.getD k default = q at *
      obtain ⟨qk, qbr, qep, qsq, qf, qt, qv, qg⟩ := q
      have i1 : qk.size ≤ 9223372036854775807 := hfq.1
      have i2 : qv.size ≤ 9223372036854775807 := hfq.2
      obtain ⟨ad, rfl, p0, p1, p2, p3, p4, p5, p6, p7⟩ := HX.out
      clear HX hfq
      have j1 : (k : Int) < (n : Int) := by omega
      have j2 : (0 : Int) ≤ (k : Int) := by omega
      have j3 : (k : Int) < 40 := by omega
      go_wp2_with fail
      (with_reducible refine (cut_calls qk qbr qep qsq qf qt qv qg _ i1 i2).mono ?_)
      rintro e w1 ⟨rfl, hb1⟩
      have HE : Aside0 (cutV ⟨qk, qbr, qep, qsq, qf, qt, qv, qg⟩ = ⟨cutS qk 110, qbr, qep, qsq, qf, qt, cutS qv 210, qg⟩) := ⟨rfl⟩
      generalize cutS qk 110 = k1 at *
      generalize cutS qv 210 = v1 at *
      have HO1 := Aside0.mk (Kd.R_below HO.out hb1)
      have HB1 := Aside0.mk (below_step HB.out hb1)
      clear hb1 HO HB p0 p1 p2 p3 p4 p5 p6 p7
      go_wp2_with ((with_reducible refine gate_dst (N := 27) rfl ?_); refine app_vr rfl rfl rfl rfl HO1.out HB1.out.size (by rw [HLN.out]; omega) ?_; intro v4 w4 hO4 hb4 _; have HO5 := Aside0.mk hO4; have HB5 := Aside0.mk (HB1.out.trans hb4); clear hO4 hb4)
      go_roundw
      case rel => exact ⟨k + 1, hlt, hl6, rfl, ⟨by rw [HNX.out, HE.out]; exact HO5.out⟩, HB5⟩
      case measure => simp [intOf]; omega
    · have HLN := Aside0.mk (ownL_len l k n HN.out hk)
      generalize ownL l k = Y at *
      obtain ⟨A3, c3, rfl, hc3, hC3⟩ := OVr_readn HO.out k HLN.out
      have HC3 := Aside0.mk hC3
      clear hC3 HO HR HF HN
      have HIF := Aside0.mk (chk_iff (k + 1) Y (by rw [HLN.out]; omega))
      have HGT := Aside0.mk (fun i => chk_get (k + 1) Y i (by rw [HLN.out]; omega))
      rw [HLN.out] at HIF HGT
      rcases (show (¬ (k : Int) < (n : Int)) ∨ ((k : Int) < (n : Int) ∧ ¬ (k : Int) < 40) by omega) with j1 | ⟨j1, j3⟩
      · clear hlt
        go_wp2_with fail
        (with_reducible refine (cut8_calls A3 k c3 Y _ HC3.out hc3 (by omega)).mono ?_)
        generalize chk (k + 1) Y = P at *
        rintro e w1 ⟨u, hs, rfl, hO1, hH1, hb1⟩
        obtain ⟨q, hq⟩ : ∃ q, P.length = q := ⟨_, rfl⟩
        rw [hq] at HIF
        obtain ⟨A5, c5, rfl, hc5, hC5⟩ := OR_readn hO1 q (by rw [hH1.1, hq])
        have HP0 : Aside0 (PC w A5 q P A3 k Y w1) := ⟨HeadsV_C hC5 hH1, Kd.C_below HC3.out hb1, below_step HB.out hb1⟩
        have hq41 : q ≤ 41 := by
          apply Nat.le_of_not_lt
          intro h
          have := (HIF.out 41).1 h
          omega
        have HQ8 : Aside0 (k ≤ 8 * q) := ⟨by
          apply Nat.le_of_not_lt
          intro h
          exact absurd ((HIF.out q).2 h) (Nat.lt_irrefl _)⟩
        clear hO1 hH1 hb1 hC5 HC3 HB hq
        go_wp2_with fail
        go_loopw [6, 7] (fun v6 v7 w' => ∃ (i a : Nat), i ≤ q ∧ v7 = .int .i64 i ∧ v6 = .int .i64 a ∧ Aside0 (a = min (8 * i) k) ∧ Aside0 (PC w A5 q P A3 k Y w')) (fun _ v7 _ => q - (intOf v7).toNat)
        case atStart => exact ⟨0, 0, Nat.zero_le _, rfl, rfl, ⟨by omega⟩, HP0⟩
        case round =>
          clear HP0
          obtain ⟨i, a, hiq, rfl, rfl, HA, HP1⟩ := hrel
          by_cases hlt : i < q
          · have h8 := (HIF.out i).1 hlt
            have ha := HA.out
            have hak : a ≤ k := by omega
            have HPd := Aside0.mk (PC_step HP1.out (below_drew1 (Below.refl _ _)))
            obtain ⟨X, hX⟩ : ∃ X, P.getD i [] = X := ⟨_, rfl⟩
            have hXe := HGT.out i h8
            rw [hX] at hXe
            obtain ⟨m, hm⟩ : ∃ m, X.length = m := ⟨_, rfl⟩
            have hmv : m = min 8 (k - 8 * i) := by rw [← hm, hXe, List.length_take, List.length_drop, HLN.out]
            have HPX : Aside0 (∀ W : World, (Kd.slice 39 KVr).C W A5 q P → ∃ ad A1 c1, A5 = some ad ∧ W.cell? (ad.add i) = some (.slice A1 m c1) ∧ m ≤ c1 ∧ KVr.C W A1 m X) := ⟨fun W h => by
              have h7 := C_atSn h i hlt
              rw [hX, hm] at h7
              exact h7⟩
            obtain ⟨ad5, A1, c1, rfl, p1, hc1, hCX1⟩ := HPX.out _ HP1.out.1
            have p0 := pw_cell_below (below_drew1 (Below.refl wr.heap.size wr)) p1
            have HCX := Aside0.mk (Kd.C_below hCX1 (below_drew1 (Below.refl _ _)))
            obtain ⟨hi, hhi⟩ : ∃ hi, a + m = hi := ⟨_, rfl⟩
            have hhk : hi ≤ k := by omega
            have HHI : Aside0 (hi = min (8 * (i + 1)) k) := ⟨by omega⟩
            obtain ⟨A9, c9, hcm, hC9, hc9⟩ := cutmV2 A3 k c3 Y a hi m HLN.out hhi hhk hc3
            rw [show (Y.drop a).take m = X by rw [hXe, show a = 8 * i by omega, hmv]; exact take_min Y (8 * i) k HLN.out] at hC9
            have HC9 := Aside0.mk hC9
            have n1 : 1 ≤ m := by omega
            have n8 : m ≤ 8 := by omega
            have j5 : (i : Int) < (q : Int) := by omega
            have j6 : (0 : Int) ≤ (i : Int) := by omega
            have k1 : (a : Int) + (m : Int) = (hi : Int) := by omega
            have k2 : IntKind.i64.wrap (hi : Int) = (hi : Int) := IntWalk.i64_in _ (by omega)
            have k3 : ¬ (m : Int) < 1 := by omega
            have k4 : ¬ (8 : Int) < (m : Int) := by omega
            have k5 : IntKind.i64.wrap ((q : Int) - 1) = (q : Int) - 1 := IntWalk.i64_in _ (by omega)
            have k6 : ¬ (k : Int) < (hi : Int) := by omega
            have k7 : (0 : Int) ≤ (a : Int) := by omega
            have k8 : (a : Int) ≤ (hi : Int) := by omega
            have k9 : (hi : Int) ≤ (k : Int) := by omega
            have HLAST : Aside0 (i + 1 < q → m = 8) := ⟨fun h => by have := (HIF.out (i + 1)).1 h; omega⟩
            clear hX hXe hm hmv hC9 hhi HIF HGT HPX HP1 hCX1
            by_cases hl : i + 1 < q
            · have k10 : (i : Int) < (q : Int) - 1 := by omega
              have k11 : ((m : Int) == 8) = true := by rw [beq_iff_eq]; have := HLAST.out hl; omega
              have k12 : ((m : Int) != 8) = false := by rw [bne, k11]; rfl
              clear ha HLAST HA h8 hl
              go_wp2_with fail
              refine wp_region_held_drew (S := fun w' => w'.cell? (ad5.add i) = some (.slice A1 m c1) ∧ Aside0 (PC w (some ad5) q P A3 k Y w')) (by kernel_rfl) ⟨p0, HPd⟩ (fun hHeld => ?_)
              (refine hd_take 0 (v := ?_) rfl (by kernel_rfl) (by kernel_rfl) (fun _ _ _ h => h) (by assumption) ?_ ?_; rotate_left; (intro w hSw; (try dsimp only at hSw); go_simp; first | done | with_reducible rfl); simp only [Act.put, List.setIfInBounds_toArray, List.set_cons_zero, List.set_cons_succ])
              (refine hd_take 1 (v := ?_) rfl (by kernel_rfl) (by kernel_rfl) (fun _ _ _ h => h) (by assumption) ?_ ?_; rotate_left; (intro w hSw; (try dsimp only at hSw); go_simp; first | done | with_reducible rfl); simp only [Act.put, List.setIfInBounds_toArray, List.set_cons_zero, List.set_cons_succ])
              (refine hd_take 2 (v := ?_) rfl (by kernel_rfl) (by kernel_rfl) (fun _ _ _ h => h) (by assumption) ?_ ?_; rotate_left; (intro w hSw; (try dsimp only at hSw); go_simp; first | done | with_reducible rfl); simp only [Act.put, List.setIfInBounds_toArray, List.set_cons_zero, List.set_cons_succ])
              (refine hd_take 3 (v := ?_) rfl (by kernel_rfl) (by kernel_rfl) (fun _ _ _ h => h) (by assumption) ?_ ?_; rotate_left; (intro w hSw; (try dsimp only at hSw); go_simp; first | done | with_reducible rfl); simp only [Act.put, List.setIfInBounds_toArray, List.set_cons_zero, List.set_cons_succ])
              (refine hd_take 4 (v := ?_) rfl (by kernel_rfl) (by kernel_rfl) (fun _ _ _ h => h) (by assumption) ?_ ?_; rotate_left; (intro w hSw; (try dsimp only at hSw); go_simp; first | done | with_reducible rfl); simp only [Act.put, List.setIfInBounds_toArray, List.set_cons_zero, List.set_cons_succ])
              (refine hd_take 5 (v := ?_) rfl (by kernel_rfl) (by kernel_rfl) (fun _ _ _ h => h) (by assumption) ?_ ?_; rotate_left; (intro w hSw; (try dsimp only at hSw); go_simp; first | done | with_reducible rfl); simp only [Act.put, List.setIfInBounds_toArray, List.set_cons_zero, List.set_cons_succ])
              (refine hd_take 6 (v := ?_) rfl (by kernel_rfl) (by kernel_rfl) (fun _ _ _ h => h) (by assumption) ?_ ?_; rotate_left; (intro w hSw; (try dsimp only at hSw); go_simp; first | done | with_reducible rfl); simp only [Act.put, List.setIfInBounds_toArray, List.set_cons_zero, List.set_cons_succ])
              (refine hd_take 7 (v := ?_) rfl (by kernel_rfl) (by kernel_rfl) (fun _ _ _ h => h) (by assumption) ?_ ?_; rotate_left; (intro w hSw; (try dsimp only at hSw); go_simp; first | done | with_reducible rfl); simp only [Act.put, List.setIfInBounds_toArray, List.set_cons_zero, List.set_cons_succ])
              (refine hd_take 8 (v := ?_) rfl (by kernel_rfl) (by kernel_rfl) (fun _ _ _ h => h) (by assumption) ?_ ?_; rotate_left; (intro w hSw; (try dsimp only at hSw); go_simp; first | done | with_reducible rfl); simp only [Act.put, List.setIfInBounds_toArray, List.set_cons_zero, List.set_cons_succ])
              (refine hd_take 9 (v := ?_) rfl (by kernel_rfl) (by kernel_rfl) (fun _ _ _ h => h) (by assumption) ?_ ?_; rotate_left; (intro w hSw; (try dsimp only at hSw); go_simp; first | done | with_reducible rfl); simp only [Act.put, List.setIfInBounds_toArray, List.set_cons_zero, List.set_cons_succ])
              refine hd_one 10 rfl (by kernel_rfl) (fun K hK => ?_)
              go_simp
              go_wp2_with ((go_at_call 12); (with_reducible refine (same_calls A1 A9 m c1 c9 X _ HCX.out (HC9.out _ (PC_y HPd.out)) hc1 hc9).mono ?_); rintro e w3 ⟨rfl, hb3⟩; have HP3 := Aside0.mk (PC_step HPd.out hb3); have q0 := pw_cell_below hb3 p0; clear hb3)
              refine hK.out _ _ ⟨q0, HP3⟩ (fun hHeld => ?_)
              clear hK K
              (refine hd_take 11 (v := ?_) rfl (by kernel_rfl) (by kernel_rfl) (fun _ _ _ h => h) (by assumption) ?_ ?_; rotate_left; (intro w hSw; (try dsimp only at hSw); go_simp; first | done | with_reducible rfl); simp only [Act.put, List.setIfInBounds_toArray, List.set_cons_zero, List.set_cons_succ])
              refine wpAnyH_done (by kernel_rfl) ?_ _
              go_wp2_with fail
              go_roundw
              case rel => exact ⟨i + 1, hi, hlt, rfl, rfl, ⟨HHI.out⟩, HP3⟩
              case measure => simp [intOf]; omega
            · have k10 : ¬ (i : Int) < (q : Int) - 1 := by omega
              clear ha HLAST HA h8 hl
              go_wp2_with fail
              refine wp_region_held_drew (S := fun w' => w'.cell? (ad5.add i) = some (.slice A1 m c1) ∧ Aside0 (PC w (some ad5) q P A3 k Y w')) (by kernel_rfl) ⟨p0, HPd⟩ (fun hHeld => ?_)
              (refine hd_take 0 (v := ?_) rfl (by kernel_rfl) (by kernel_rfl) (fun _ _ _ h => h) (by assumption) ?_ ?_; rotate_left; (intro w hSw; (try dsimp only at hSw); go_simp; first | done | with_reducible rfl); simp only [Act.put, List.setIfInBounds_toArray, List.set_cons_zero, List.set_cons_succ])
              (refine hd_take 1 (v := ?_) rfl (by kernel_rfl) (by kernel_rfl) (fun _ _ _ h => h) (by assumption) ?_ ?_; rotate_left; (intro w hSw; (try dsimp only at hSw); go_simp; first | done | with_reducible rfl); simp only [Act.put, List.setIfInBounds_toArray, List.set_cons_zero, List.set_cons_succ])
              (refine hd_take 2 (v := ?_) rfl (by kernel_rfl) (by kernel_rfl) (fun _ _ _ h => h) (by assumption) ?_ ?_; rotate_left; (intro w hSw; (try dsimp only at hSw); go_simp; first | done | with_reducible rfl); simp only [Act.put, List.setIfInBounds_toArray, List.set_cons_zero, List.set_cons_succ])
              (refine hd_take 3 (v := ?_) rfl (by kernel_rfl) (by kernel_rfl) (fun _ _ _ h => h) (by assumption) ?_ ?_; rotate_left; (intro w hSw; (try dsimp only at hSw); go_simp; first | done | with_reducible rfl); simp only [Act.put, List.setIfInBounds_toArray, List.set_cons_zero, List.set_cons_succ])
              (refine hd_take 4 (v := ?_) rfl (by kernel_rfl) (by kernel_rfl) (fun _ _ _ h => h) (by assumption) ?_ ?_; rotate_left; (intro w hSw; (try dsimp only at hSw); go_simp; first | done | with_reducible rfl); simp only [Act.put, List.setIfInBounds_toArray, List.set_cons_zero, List.set_cons_succ])
              (refine hd_take 5 (v := ?_) rfl (by kernel_rfl) (by kernel_rfl) (fun _ _ _ h => h) (by assumption) ?_ ?_; rotate_left; (intro w hSw; (try dsimp only at hSw); go_simp; first | done | with_reducible rfl); simp only [Act.put, List.setIfInBounds_toArray, List.set_cons_zero, List.set_cons_succ])
              (refine hd_take 6 (v := ?_) rfl (by kernel_rfl) (by kernel_rfl) (fun _ _ _ h => h) (by assumption) ?_ ?_; rotate_left; (intro w hSw; (try dsimp only at hSw); go_simp; first | done | with_reducible rfl); simp only [Act.put, List.setIfInBounds_toArray, List.set_cons_zero, List.set_cons_succ])
              (refine hd_take 7 (v := ?_) rfl (by kernel_rfl) (by kernel_rfl) (fun _ _ _ h => h) (by assumption) ?_ ?_; rotate_left; (intro w hSw; (try dsimp only at hSw); go_simp; first | done | with_reducible rfl); simp only [Act.put, List.setIfInBounds_toArray, List.set_cons_zero, List.set_cons_succ])
              (refine hd_take 8 (v := ?_) rfl (by kernel_rfl) (by kernel_rfl) (fun _ _ _ h => h) (by assumption) ?_ ?_; rotate_left; (intro w hSw; (try dsimp only at hSw); go_simp; first | done | with_reducible rfl); simp only [Act.put, List.setIfInBounds_toArray, List.set_cons_zero, List.set_cons_succ])
              (refine hd_take 9 (v := ?_) rfl (by kernel_rfl) (by kernel_rfl) (fun _ _ _ h => h) (by assumption) ?_ ?_; rotate_left; (intro w hSw; (try dsimp only at hSw); go_simp; first | done | with_reducible rfl); simp only [Act.put, List.setIfInBounds_toArray, List.set_cons_zero, List.set_cons_succ])
              refine hd_one 10 rfl (by kernel_rfl) (fun K hK => ?_)
              go_simp
              go_wp2_with ((go_at_call 12); (with_reducible refine (same_calls A1 A9 m c1 c9 X _ HCX.out (HC9.out _ (PC_y HPd.out)) hc1 hc9).mono ?_); rintro e w3 ⟨rfl, hb3⟩; have HP3 := Aside0.mk (PC_step HPd.out hb3); have q0 := pw_cell_below hb3 p0; clear hb3)
              refine hK.out _ _ ⟨q0, HP3⟩ (fun hHeld => ?_)
              clear hK K
              (refine hd_take 11 (v := ?_) rfl (by kernel_rfl) (by kernel_rfl) (fun _ _ _ h => h) (by assumption) ?_ ?_; rotate_left; (intro w hSw; (try dsimp only at hSw); go_simp; first | done | with_reducible rfl); simp only [Act.put, List.setIfInBounds_toArray, List.set_cons_zero, List.set_cons_succ])
              refine wpAnyH_done (by kernel_rfl) ?_ _
              go_wp2_with fail
              go_roundw
              case rel => exact ⟨i + 1, hi, hlt, rfl, rfl, ⟨HHI.out⟩, HP3⟩
              case measure => simp [intOf]; omega
          · obtain rfl : i = q := by omega
            have j5 : ¬ (i : Int) < (i : Int) := by omega
            have hak : a = k := by have h1 := HA.out; have h2 := HQ8.out; omega
            have k1 : ((a : Int) == (k : Int)) = true := by rw [beq_iff_eq]; omega
            clear hak
            go_wp2_with fail
            (with_reducible refine (lives_calls _).mono ?_)
            rintro e w6 ⟨rfl, hb6⟩
            have HB6 := Aside0.mk (below_step (PC_b HP1.out) hb6)
            clear hb6
            go_wp2_with fail
            go_ret
            exact ⟨rfl, HB6.out⟩
      · clear hlt
        go_wp2_with fail
        (with_reducible refine (cut8_calls A3 k c3 Y _ HC3.out hc3 (by omega)).mono ?_)
        generalize chk (k + 1) Y = P at *
        rintro e w1 ⟨u, hs, rfl, hO1, hH1, hb1⟩
        obtain ⟨q, hq⟩ : ∃ q, P.length = q := ⟨_, rfl⟩
        rw [hq] at HIF
        obtain ⟨A5, c5, rfl, hc5, hC5⟩ := OR_readn hO1 q (by rw [hH1.1, hq])
        have HP0 : Aside0 (PC w A5 q P A3 k Y w1) := ⟨HeadsV_C hC5 hH1, Kd.C_below HC3.out hb1, below_step HB.out hb1⟩
        have hq41 : q ≤ 41 := by
          apply Nat.le_of_not_lt
          intro h
          have := (HIF.out 41).1 h
          omega
        have HQ8 : Aside0 (k ≤ 8 * q) := ⟨by
          apply Nat.le_of_not_lt
          intro h
          exact absurd ((HIF.out q).2 h) (Nat.lt_irrefl _)⟩
        clear hO1 hH1 hb1 hC5 HC3 HB hq
        go_wp2_with fail
        go_loopw [6, 7] (fun v6 v7 w' => ∃ (i a : Nat), i ≤ q ∧ v7 = .int .i64 i ∧ v6 = .int .i64 a ∧ Aside0 (a = min (8 * i) k) ∧ Aside0 (PC w A5 q P A3 k Y w')) (fun _ v7 _ => q - (intOf v7).toNat)
        case atStart => exact ⟨0, 0, Nat.zero_le _, rfl, rfl, ⟨by omega⟩, HP0⟩
        case round =>
          clear HP0
          obtain ⟨i, a, hiq, rfl, rfl, HA, HP1⟩ := hrel
          by_cases hlt : i < q
          · have h8 := (HIF.out i).1 hlt
            have ha := HA.out
            have hak : a ≤ k := by omega
            have HPd := Aside0.mk (PC_step HP1.out (below_drew1 (Below.refl _ _)))
            obtain ⟨X, hX⟩ : ∃ X, P.getD i [] = X := ⟨_, rfl⟩
            have hXe := HGT.out i h8
            rw [hX] at hXe
            obtain ⟨m, hm⟩ : ∃ m, X.length = m := ⟨_, rfl⟩
            have hmv : m = min 8 (k - 8 * i) := by rw [← hm, hXe, List.length_take, List.length_drop, HLN.out]
            have HPX : Aside0 (∀ W : World, (Kd.slice 39 KVr).C W A5 q P → ∃ ad A1 c1, A5 = some ad ∧ W.cell? (ad.add i) = some (.slice A1 m c1) ∧ m ≤ c1 ∧ KVr.C W A1 m X) := ⟨fun W h => by
              have h7 := C_atSn h i hlt
              rw [hX, hm] at h7
              exact h7⟩
            obtain ⟨ad5, A1, c1, rfl, p1, hc1, hCX1⟩ := HPX.out _ HP1.out.1
            have p0 := pw_cell_below (below_drew1 (Below.refl wr.heap.size wr)) p1
            have HCX := Aside0.mk (Kd.C_below hCX1 (below_drew1 (Below.refl _ _)))
            obtain ⟨hi, hhi⟩ : ∃ hi, a + m = hi := ⟨_, rfl⟩
            have hhk : hi ≤ k := by omega
            have HHI : Aside0 (hi = min (8 * (i + 1)) k) := ⟨by omega⟩
            obtain ⟨A9, c9, hcm, hC9, hc9⟩ := cutmV2 A3 k c3 Y a hi m HLN.out hhi hhk hc3
            rw [show (Y.drop a).take m = X by rw [hXe, show a = 8 * i by omega, hmv]; exact take_min Y (8 * i) k HLN.out] at hC9
            have HC9 := Aside0.mk hC9
            have n1 : 1 ≤ m := by omega
            have n8 : m ≤ 8 := by omega
            have j5 : (i : Int) < (q : Int) := by omega
            have j6 : (0 : Int) ≤ (i : Int) := by omega
            have k1 : (a : Int) + (m : Int) = (hi : Int) := by omega
            have k2 : IntKind.i64.wrap (hi : Int) = (hi : Int) := IntWalk.i64_in _ (by omega)
            have k3 : ¬ (m : Int) < 1 := by omega
            have k4 : ¬ (8 : Int) < (m : Int) := by omega
            have k5 : IntKind.i64.wrap ((q : Int) - 1) = (q : Int) - 1 := IntWalk.i64_in _ (by omega)
            have k6 : ¬ (k : Int) < (hi : Int) := by omega
            have k7 : (0 : Int) ≤ (a : Int) := by omega
            have k8 : (a : Int) ≤ (hi : Int) := by omega
            have k9 : (hi : Int) ≤ (k : Int) := by omega
            have HLAST : Aside0 (i + 1 < q → m = 8) := ⟨fun h => by have := (HIF.out (i + 1)).1 h; omega⟩
            clear hX hXe hm hmv hC9 hhi HIF HGT HPX HP1 hCX1
            by_cases hl : i + 1 < q
            · have k10 : (i : Int) < (q : Int) - 1 := by omega
              have k11 : ((m : Int) == 8) = true := by rw [beq_iff_eq]; have := HLAST.out hl; omega
              have k12 : ((m : Int) != 8) = false := by rw [bne, k11]; rfl
              clear ha HLAST HA h8 hl
              go_wp2_with fail
              refine wp_region_held_drew (S := fun w' => w'.cell? (ad5.add i) = some (.slice A1 m c1) ∧ Aside0 (PC w (some ad5) q P A3 k Y w')) (by kernel_rfl) ⟨p0, HPd⟩ (fun hHeld => ?_)
              (refine hd_take 0 (v := ?_) rfl (by kernel_rfl) (by kernel_rfl) (fun _ _ _ h => h) (by assumption) ?_ ?_; rotate_left; (intro w hSw; (try dsimp only at hSw); go_simp; first | done | with_reducible rfl); simp only [Act.put, List.setIfInBounds_toArray, List.set_cons_zero, List.set_cons_succ])
              (refine hd_take 1 (v := ?_) rfl (by kernel_rfl) (by kernel_rfl) (fun _ _ _ h => h) (by assumption) ?_ ?_; rotate_left; (intro w hSw; (try dsimp only at hSw); go_simp; first | done | with_reducible rfl); simp only [Act.put, List.setIfInBounds_toArray, List.set_cons_zero, List.set_cons_succ])
              (refine hd_take 2 (v := ?_) rfl (by kernel_rfl) (by kernel_rfl) (fun _ _ _ h => h) (by assumption) ?_ ?_; rotate_left; (intro w hSw; (try dsimp only at hSw); go_simp; first | done | with_reducible rfl); simp only [Act.put, List.setIfInBounds_toArray, List.set_cons_zero, List.set_cons_succ])
              (refine hd_take 3 (v := ?_) rfl (by kernel_rfl) (by kernel_rfl) (fun _ _ _ h => h) (by assumption) ?_ ?_; rotate_left; (intro w hSw; (try dsimp only at hSw); go_simp; first | done | with_reducible rfl); simp only [Act.put, List.setIfInBounds_toArray, List.set_cons_zero, List.set_cons_succ])
              (refine hd_take 4 (v := ?_) rfl (by kernel_rfl) (by kernel_rfl) (fun _ _ _ h => h) (by assumption) ?_ ?_; rotate_left; (intro w hSw; (try dsimp only at hSw); go_simp; first | done | with_reducible rfl); simp only [Act.put, List.setIfInBounds_toArray, List.set_cons_zero, List.set_cons_succ])
              (refine hd_take 5 (v := ?_) rfl (by kernel_rfl) (by kernel_rfl) (fun _ _ _ h => h) (by assumption) ?_ ?_; rotate_left; (intro w hSw; (try dsimp only at hSw); go_simp; first | done | with_reducible rfl); simp only [Act.put, List.setIfInBounds_toArray, List.set_cons_zero, List.set_cons_succ])
              (refine hd_take 6 (v := ?_) rfl (by kernel_rfl) (by kernel_rfl) (fun _ _ _ h => h) (by assumption) ?_ ?_; rotate_left; (intro w hSw; (try dsimp only at hSw); go_simp; first | done | with_reducible rfl); simp only [Act.put, List.setIfInBounds_toArray, List.set_cons_zero, List.set_cons_succ])
              (refine hd_take 7 (v := ?_) rfl (by kernel_rfl) (by kernel_rfl) (fun _ _ _ h => h) (by assumption) ?_ ?_; rotate_left; (intro w hSw; (try dsimp only at hSw); go_simp; first | done | with_reducible rfl); simp only [Act.put, List.setIfInBounds_toArray, List.set_cons_zero, List.set_cons_succ])
              (refine hd_take 8 (v := ?_) rfl (by kernel_rfl) (by kernel_rfl) (fun _ _ _ h => h) (by assumption) ?_ ?_; rotate_left; (intro w hSw; (try dsimp only at hSw); go_simp; first | done | with_reducible rfl); simp only [Act.put, List.setIfInBounds_toArray, List.set_cons_zero, List.set_cons_succ])
              (refine hd_take 9 (v := ?_) rfl (by kernel_rfl) (by kernel_rfl) (fun _ _ _ h => h) (by assumption) ?_ ?_; rotate_left; (intro w hSw; (try dsimp only at hSw); go_simp; first | done | with_reducible rfl); simp only [Act.put, List.setIfInBounds_toArray, List.set_cons_zero, List.set_cons_succ])
              refine hd_one 10 rfl (by kernel_rfl) (fun K hK => ?_)
              go_simp
              go_wp2_with ((go_at_call 12); (with_reducible refine (same_calls A1 A9 m c1 c9 X _ HCX.out (HC9.out _ (PC_y HPd.out)) hc1 hc9).mono ?_); rintro e w3 ⟨rfl, hb3⟩; have HP3 := Aside0.mk (PC_step HPd.out hb3); have q0 := pw_cell_below hb3 p0; clear hb3)
              refine hK.out _ _ ⟨q0, HP3⟩ (fun hHeld => ?_)
              clear hK K
              (refine hd_take 11 (v := ?_) rfl (by kernel_rfl) (by kernel_rfl) (fun _ _ _ h => h) (by assumption) ?_ ?_; rotate_left; (intro w hSw; (try dsimp only at hSw); go_simp; first | done | with_reducible rfl); simp only [Act.put, List.setIfInBounds_toArray, List.set_cons_zero, List.set_cons_succ])
              refine wpAnyH_done (by kernel_rfl) ?_ _
              go_wp2_with fail
              go_roundw
              case rel => exact ⟨i + 1, hi, hlt, rfl, rfl, ⟨HHI.out⟩, HP3⟩
              case measure => simp [intOf]; omega
            · have k10 : ¬ (i : Int) < (q : Int) - 1 := by omega
              clear ha HLAST HA h8 hl
              go_wp2_with fail
              refine wp_region_held_drew (S := fun w' => w'.cell? (ad5.add i) = some (.slice A1 m c1) ∧ Aside0 (PC w (some ad5) q P A3 k Y w')) (by kernel_rfl) ⟨p0, HPd⟩ (fun hHeld => ?_)
              (refine hd_take 0 (v := ?_) rfl (by kernel_rfl) (by kernel_rfl) (fun _ _ _ h => h) (by assumption) ?_ ?_; rotate_left; (intro w hSw; (try dsimp only at hSw); go_simp; first | done | with_reducible rfl); simp only [Act.put, List.setIfInBounds_toArray, List.set_cons_zero, List.set_cons_succ])
              (refine hd_take 1 (v := ?_) rfl (by kernel_rfl) (by kernel_rfl) (fun _ _ _ h => h) (by assumption) ?_ ?_; rotate_left; (intro w hSw; (try dsimp only at hSw); go_simp; first | done | with_reducible rfl); simp only [Act.put, List.setIfInBounds_toArray, List.set_cons_zero, List.set_cons_succ])
              (refine hd_take 2 (v := ?_) rfl (by kernel_rfl) (by kernel_rfl) (fun _ _ _ h => h) (by assumption) ?_ ?_; rotate_left; (intro w hSw; (try dsimp only at hSw); go_simp; first | done | with_reducible rfl); simp only [Act.put, List.setIfInBounds_toArray, List.set_cons_zero, List.set_cons_succ])
              (refine hd_take 3 (v := ?_) rfl (by kernel_rfl) (by kernel_rfl) (fun _ _ _ h => h) (by assumption) ?_ ?_; rotate_left; (intro w hSw; (try dsimp only at hSw); go_simp; first | done | with_reducible rfl); simp only [Act.put, List.setIfInBounds_toArray, List.set_cons_zero, List.set_cons_succ])
              (refine hd_take 4 (v := ?_) rfl (by kernel_rfl) (by kernel_rfl) (fun _ _ _ h => h) (by assumption) ?_ ?_; rotate_left; (intro w hSw; (try dsimp only at hSw); go_simp; first | done | with_reducible rfl); simp only [Act.put, List.setIfInBounds_toArray, List.set_cons_zero, List.set_cons_succ])
              (refine hd_take 5 (v := ?_) rfl (by kernel_rfl) (by kernel_rfl) (fun _ _ _ h => h) (by assumption) ?_ ?_; rotate_left; (intro w hSw; (try dsimp only at hSw); go_simp; first | done | with_reducible rfl); simp only [Act.put, List.setIfInBounds_toArray, List.set_cons_zero, List.set_cons_succ])
              (refine hd_take 6 (v := ?_) rfl (by kernel_rfl) (by kernel_rfl) (fun _ _ _ h => h) (by assumption) ?_ ?_; rotate_left; (intro w hSw; (try dsimp only at hSw); go_simp; first | done | with_reducible rfl); simp only [Act.put, List.setIfInBounds_toArray, List.set_cons_zero, List.set_cons_succ])
              (refine hd_take 7 (v := ?_) rfl (by kernel_rfl) (by kernel_rfl) (fun _ _ _ h => h) (by assumption) ?_ ?_; rotate_left; (intro w hSw; (try dsimp only at hSw); go_simp; first | done | with_reducible rfl); simp only [Act.put, List.setIfInBounds_toArray, List.set_cons_zero, List.set_cons_succ])
              (refine hd_take 8 (v := ?_) rfl (by kernel_rfl) (by kernel_rfl) (fun _ _ _ h => h) (by assumption) ?_ ?_; rotate_left; (intro w hSw; (try dsimp only at hSw); go_simp; first | done | with_reducible rfl); simp only [Act.put, List.setIfInBounds_toArray, List.set_cons_zero, List.set_cons_succ])
              (refine hd_take 9 (v := ?_) rfl (by kernel_rfl) (by kernel_rfl) (fun _ _ _ h => h) (by assumption) ?_ ?_; rotate_left; (intro w hSw; (try dsimp only at hSw); go_simp; first | done | with_reducible rfl); simp only [Act.put, List.setIfInBounds_toArray, List.set_cons_zero, List.set_cons_succ])
              refine hd_one 10 rfl (by kernel_rfl) (fun K hK => ?_)
              go_simp
              go_wp2_with ((go_at_call 12); (with_reducible refine (same_calls A1 A9 m c1 c9 X _ HCX.out (HC9.out _ (PC_y HPd.out)) hc1 hc9).mono ?_); rintro e w3 ⟨rfl, hb3⟩; have HP3 := Aside0.mk (PC_step HPd.out hb3); have q0 := pw_cell_below hb3 p0; clear hb3)
              refine hK.out _ _ ⟨q0, HP3⟩ (fun hHeld => ?_)
              clear hK K
              (refine hd_take 11 (v := ?_) rfl (by kernel_rfl) (by kernel_rfl) (fun _ _ _ h => h) (by assumption) ?_ ?_; rotate_left; (intro w hSw; (try dsimp only at hSw); go_simp; first | done | with_reducible rfl); simp only [Act.put, List.setIfInBounds_toArray, List.set_cons_zero, List.set_cons_succ])
              refine wpAnyH_done (by kernel_rfl) ?_ _
              go_wp2_with fail
              go_roundw
              case rel => exact ⟨i + 1, hi, hlt, rfl, rfl, ⟨HHI.out⟩, HP3⟩
              case measure => simp [intOf]; omega
          · obtain rfl : i = q := by omega
            have j5 : ¬ (i : Int) < (i : Int) := by omega
            have hak : a = k := by have h1 := HA.out; have h2 := HQ8.out; omega
            have k1 : ((a : Int) == (k : Int)) = true := by rw [beq_iff_eq]; omega
            clear hak
            go_wp2_with fail
            (with_reducible refine (lives_calls _).mono ?_)
            rintro e w6 ⟨rfl, hb6⟩
            have HB6 := Aside0.mk (below_step (PC_b HP1.out) hb6)
            clear hb6
            go_wp2_with fail
            go_ret
            exact ⟨rfl, HB6.out⟩
end Go.Proofs.Ytopoepifbjbmoaa.A
