/- CheckRound: frames are read as they were put, up to a frame that ends too soon behind them. -/
import Derived.Test.YtohgmpkehncopaaJRound
import Derived.Test.YtohgmpkehncopaaALawMany3
namespace Go.Proofs.Ytohgmpkehncopaa.A
open Go.RowKit Go.Proofs.YtohgmpkehncopaaW.PrintWords Go.Proofs.YtohgmpkehncopaaW.PrintLast Go.Proofs.YtohgmpkehncopaaW.PrintMore
set_option linter.unusedVariables false
set_option linter.unusedSimpArgs false

def cut60 (x : List Int) : List Int := x.take (60 : Int).toNat
theorem cuttB (A : Option Addr) (n c j : Nat) (hj : j ≤ n) (hc : n ≤ c) (W : World) :
    (Instr.slice 22 (.slice A n c) none (some (.int .i64 (j : Int))) none).run Try.prog W = .ok (.slice A j c) W := by
  obtain ⟨i0, hi, _, hsz, _⟩ := info_parts infoU8
  rw [cut_to 22 5 .i64 Try.underlying22 hi A n c (j : Int) (by omega) (by omega) hc W]
  rfl
theorem C_takeB {w : World} {A : Option Addr} {n j : Nat} {l : List Int} (h : U8.C w A n l) (hn : l.length = n) (hj : j ≤ n) : U8.C w A j (l.take j) := by
  subst hn
  have h7 := Kd.C_take h hj
  rw [show (l.take j).length = j by rw [List.length_take]; omega] at h7
  exact h7
theorem flat_le8 : ∀ ll : List (List Int), ll.length ≤ (ll.flatMap frame).length
  | [] => Nat.le_refl _
  | x :: ll => by
    rw [List.flatMap_cons, List.length_append, frame_len, List.length_cons]
    have := flat_le8 ll
    omega
/-- What stays: the lists, the frames, the last one. -/
def RD (w : World) (A3 : Option Addr) (n : Nat) (own : List (List Int)) (A9 : Option Addr) (nb : Nat) (b : List Int) (A11 : Option Addr) (nf : Nat) (f : List Int) (W : World) : Prop := (Kd.slice 5 U8).C W A3 n own ∧ U8.C W A9 nb b ∧ U8.C W A11 nf f ∧ Below w.heap.size w W
theorem RD_step {w : World} {A3 : Option Addr} {n : Nat} {own : List (List Int)} {A9 : Option Addr} {nb : Nat} {b : List Int} {A11 : Option Addr} {nf : Nat} {f : List Int} {W W1 : World} (h : RD w A3 n own A9 nb b A11 nf f W) (hb : Below W.heap.size W W1) : RD w A3 n own A9 nb b A11 nf f W1 := ⟨Kd.C_below h.1 hb, Kd.C_below h.2.1 hb, Kd.C_below h.2.2.1 hb, below_step h.2.2.2 hb⟩
theorem RD_o {w : World} {A3 : Option Addr} {n : Nat} {own : List (List Int)} {A9 : Option Addr} {nb : Nat} {b : List Int} {A11 : Option Addr} {nf : Nat} {f : List Int} {W : World} (h : RD w A3 n own A9 nb b A11 nf f W) : (Kd.slice 5 U8).C W A3 n own := h.1
theorem RD_b {w : World} {A3 : Option Addr} {n : Nat} {own : List (List Int)} {A9 : Option Addr} {nb : Nat} {b : List Int} {A11 : Option Addr} {nf : Nat} {f : List Int} {W : World} (h : RD w A3 n own A9 nb b A11 nf f W) : Below w.heap.size w W := h.2.2.2
set_option maxRecDepth 100000 in
set_option maxHeartbeats 8000000 in
theorem round3_calls (w : World) (A : Option Addr) (c : Nat) (ll : List (List Int)) (hr : Kd.C (Kd.slice 5 U8) w A ll.length ll) (hc : ll.length ≤ c) (hg : ∀ x ∈ ll, ∀ y ∈ x, 0 ≤ y ∧ y ≤ 255) (A1 : Option Addr) (c1 : Nat) (last : List Int) (hr1 : U8.C w A1 last.length last) (hc1 : last.length ≤ c1) (hg1 : ∀ x ∈ last, 0 ≤ x ∧ x ≤ 255) (cut : Int) (gc : IntKind.i64.min ≤ cut ∧ cut ≤ IntKind.i64.max) :
    Calls Try.prog 8 #[.slice A ll.length c, .slice A1 last.length c1, .int .i64 cut] w fun e w' => e = .returned (.bool true) ∧ Below w.heap.size w w' := by
  have gn1 : -9223372036854775808 ≤ cut := gc.1
  have gn2 : cut ≤ 9223372036854775807 := gc.2
  have hm : ll.length ≤ 9223372036854775807 := hr.2.1
  have hm1 : last.length ≤ 9223372036854775807 := hr1.2.1
  have HR := Aside0.mk hr
  have HG := Aside0.mk hg
  have HR1 := Aside0.mk hr1
  have HBY := Aside0.mk hg1
  obtain ⟨a', hA⟩ : ∃ a' : Nat, (if cut < 0 then -(cut + 1) else cut) = (a' : Int) := ⟨(if cut < 0 then -(cut + 1) else cut).toNat, by split <;> omega⟩
  have HA := Aside0.mk hA
  clear hr hg hr1 hg1 gc hA
  obtain ⟨ln, hln⟩ : ∃ n, ll.length = n := ⟨_, rfl⟩
  have HLN := Aside0.mk hln
  rw [hln] at hm hc ⊢
  clear hln
  go_enter Try.func8, Try.ntmps8
  go_wp2_with fail
  go_loopw [7, 8] (fun v7 v8 w' => ∃ k : Nat, k ≤ ln ∧ k ≤ 6 ∧ v8 = .int .i64 k ∧ Aside0 (∃ hs, OR Hd 22 w' w.heap.size v7 hs ∧ Heads w hs ((ll.take k).map cut60)) ∧ Aside0 (Below w.heap.size w w')) (fun _ v8 _ => ln - (intOf v8).toNat)
  case atStart => exact ⟨0, Nat.zero_le _, by omega, rfl, ⟨[], Kd.R_nil _ _ _ _ _, by simpa using Heads_nil w⟩, ⟨Below.refl _ _⟩⟩
  case round =>
    obtain ⟨k, hk, hk5, rfl, ⟨hs, HH0, HS0⟩, HB⟩ := hrel
    have HH := Aside0.mk HH0
    have HS := Aside0.mk HS0
    have hown : ((ll.take k).map cut60).length = k := by rw [List.length_map, List.length_take, HLN.out]; omega
    have hhl : hs.length ≤ 6 := by rw [HS0.1, hown]; exact hk5
    clear HH0 HS0
    by_cases hlt6 : k < ln ∧ k < 6
    · obtain ⟨hlt, h6⟩ := hlt6
      obtain ⟨ad, Ax, cx, rfl, hcell0, hcx, hC0⟩ := C_atS HR.out k (by rw [HLN.out]; exact hlt)
      have hcell := pw_cell_below HB.out hcell0
      have hmap := map_take cut60 ll [] k (by rw [HLN.out]; exact hlt)
      unfold cut60 at hmap
      have hbl := few_len (ll.getD k []) 60
      have HMAP := Aside0.mk hmap
      have HC := Aside0.mk hC0
      have HCT := Aside0.mk (C_take_any hC0 (60 : Int).toNat)
      have j1 : (k : Int) < (ln : Int) := by omega
      have j2 : (0 : Int) ≤ (k : Int) := by omega
      have j3 : (k : Int) < 6 := by omega
      clear hcell0 hmap hown hC0
      generalize ll.getD k [] = x at *
      go_wp2_with fail
      (with_reducible refine (few_calls _ _ _ x _ (Kd.C_below HC.out HB.out) hcx (by omega) (by omega)).mono ?_)
      rintro e w1 ⟨rfl, rfl⟩
      generalize x.take (60 : Int).toNat = b at *
      obtain ⟨nb, hnb⟩ : ∃ n, b.length = n := ⟨_, rfl⟩
      obtain ⟨hb1, hb2⟩ := hbl
      have hnc : nb ≤ cx := by omega
      rw [hnb] at HCT ⊢
      clear hb1 hb2 hnb HC hcell hcx
      go_wp2_with ((with_reducible refine gate_dst (N := 33) rfl ?_); refine app_head rfl rfl rfl rfl HH.out HB.out.size (by omega) ?_; intro v3 w2 HH2 hb2 hg2; have HH3 := Aside0.mk HH2; have HB2 := Aside0.mk (HB.out.trans hb2); clear HH2 hb2 hg2)
      go_roundw
      case rel =>
        have hmap' : (ll.take (k + 1)).map cut60 = (ll.take k).map cut60 ++ [b] := HMAP.out
        refine ⟨k + 1, hlt, h6, rfl, ⟨hs ++ [(Ax, nb, cx)], HH3.out, ?_⟩, HB2⟩
        rw [hmap']
        exact Heads_add HS.out HCT.out hnc
      case measure => simp [intOf]; omega
    · obtain ⟨A3, c3, rfl, hc3, hC3⟩ : ∃ A c, u7 = .slice A hs.length c ∧ hs.length ≤ c ∧ Hd.C wr A hs.length hs := Kd.R_reads HH.out
      have HCO := Aside0.mk (Heads_C (e := 5) hC3 (Heads_below HS.out HB.out))
      have HOW : Aside0 (∀ x ∈ (ll.take k).map cut60, x.length < 4294967296) := ⟨fun x hx => by
        obtain ⟨y, _, rfl⟩ := List.mem_map.1 hx
        unfold cut60
        rw [List.length_take]
        omega⟩
      have HOR : Aside0 (∀ x ∈ (ll.take k).map cut60, ∀ z ∈ x, 0 ≤ z ∧ z ≤ 255) := ⟨fun x hx z hz => by
        obtain ⟨y, hy, rfl⟩ := List.mem_map.1 hx
        exact HG.out y (List.mem_of_mem_take hy) z (List.mem_of_mem_take hz)⟩
      have hfl := flat_frame_len ((ll.take k).map cut60) 60 (fun x hx => by
        obtain ⟨y, _, rfl⟩ := List.mem_map.1 hx
        unfold cut60
        rw [List.length_take]
        exact Nat.min_le_left _ _)
      rw [hown] at hfl
      have HFL : Aside0 ((((ll.take k).map cut60).flatMap frame).length ≤ 408) := ⟨by omega⟩
      have HLO : Aside0 (((ll.take k).map cut60).length = hs.length) := ⟨HS.out.1.symm⟩
      clear hfl hown hC3
      generalize (ll.take k).map cut60 = own at *
      generalize hs.length = hn at *
      clear HH HS HR HG HLN
      rcases (show (¬ (k : Int) < (ln : Int)) ∨ ((k : Int) < (ln : Int) ∧ ¬ (k : Int) < 6) by omega) with j1 | ⟨j1, j3⟩
      · clear hlt6
        go_wp2_with fail
        (with_reducible refine (frame_callsN A3 hn c3 own _ HCO.out hc3 (by have := HFL.out; omega)).mono ?_)
        rintro e w1 ⟨v1, rfl, hO1, hb1⟩
        obtain ⟨nb, hnb⟩ : ∃ nb, (own.flatMap frame).length = nb := ⟨_, rfl⟩
        have hnb9 : nb ≤ 500 := by rw [← hnb]; have := HFL.out; omega
        obtain ⟨A9, c9, rfl, hc9, hC9⟩ := OB_readn hO1 nb hnb
        have HNB := Aside0.mk hnb
        have HC9 := Aside0.mk hC9
        have HCO1 := Aside0.mk (Kd.C_below HCO.out hb1)
        have HB1 := Aside0.mk (below_step HB.out hb1)
        clear hO1 hC9 hb1 HCO HB hnb
        go_wp2_with fail
        (with_reducible refine (few_calls _ _ _ last _ (Kd.C_below HR1.out HB1.out) hc1 (by omega) (by omega)).mono ?_)
        rintro e w2 ⟨rfl, rfl⟩
        obtain ⟨hx1, hx2⟩ := few_len last 60
        have HX := Aside0.mk (Kd.C_below (C_take_any HR1.out (60 : Int).toNat) HB1.out)
        have HBX := Aside0.mk (fun x hx => HBY.out x (List.mem_of_mem_take hx) : ∀ x ∈ last.take (60 : Int).toNat, 0 ≤ x ∧ x ≤ 255)
        generalize last.take (60 : Int).toNat = f at *
        obtain ⟨nx, hnx⟩ : ∃ nx, f.length = nx := ⟨_, rfl⟩
        rw [hnx] at HX hx1 hx2 ⊢
        have hnx6 : nx ≤ 60 := by simpa using hx2
        have hnxc : nx ≤ c1 := by omega
        have HNX := Aside0.mk hnx
        clear hx1 hx2 hnx
        go_wp2_with fail
        (with_reducible refine (frame1_calls _ _ f _ (lit_S1n HX.out hnxc) (Nat.le_refl _) (by rw [HNX.out]; omega)).mono ?_)
        rintro e w3 ⟨v3, rfl, hO3, hb3⟩
        obtain ⟨nf, hnf⟩ : ∃ nf, nx + 8 = nf := ⟨_, rfl⟩
        have hnf7 : nf ≤ 68 := by omega
        have hnf0 : 1 ≤ nf := by omega
        have HNF : Aside0 ((frame f).length = nf) := ⟨by rw [frame_len, HNX.out]; exact hnf⟩
        obtain ⟨A11, c11, rfl, hc11, hC11⟩ := OB_readn hO3 nf HNF.out
        have HP3 : Aside0 (RD w A3 hn own A9 nb (own.flatMap frame) A11 nf (frame f) w3) := by
          have hal := below_step (below_alloc (Below.refl _ _) _) hb3
          exact ⟨Kd.C_below HCO1.out hal, Kd.C_below HC9.out hal, hC11, below_step (below_alloc HB1.out _) hb3⟩
        clear hO3 hC11 hb3 HX HCO1 HC9 HB1 hnf hnxc
        obtain ⟨k, hk⟩ : ∃ k, a' % nf = k := ⟨_, rfl⟩
        have hkz : k < nf := by rw [← hk]; exact Nat.mod_lt _ (by omega)
        have hkI : (a' : Int) % (nf : Int) = (k : Int) := by rw [← hk]; rfl
        have hkle : k ≤ nf := by omega
        have hct := cuttB A11 nf c11 k hkle hc11
        have HNE : Aside0 (cut < 0 → -((cut + 1).tmod (nf : Int)) = (k : Int)) := ⟨fun h => by
          have hA2 := HA.out
          rw [if_pos h] at hA2
          rw [show cut + 1 = -(a' : Int) by omega, Int.neg_tmod, Int.neg_neg, Int.tmod_eq_emod_of_nonneg (by omega), hkI]⟩
        have HNN : Aside0 (0 ≤ cut → cut % (nf : Int) = (k : Int)) := ⟨fun h => by
          have hA2 := HA.out
          rw [if_neg (by omega)] at hA2
          rw [hA2, hkI]⟩
        have kz1 : ¬ (nf : Int) = 0 := by omega
        have kz2 : ((nf : Int) == 0) = false := by rw [beq_eq_false_iff_ne]; omega
        have kz3 : (0 : Int) ≤ (k : Int) := by omega
        have kz4 : (k : Int) ≤ (nf : Int) := by omega
        have hsum : nb + k ≤ 600 := by omega
        clear hk hkI
        rcases Int.lt_or_le cut 0 with sn | sn
        · have hq := HNE.out sn
          have hq2 : (-(cut + 1)).tmod (nf : Int) = (k : Int) := by rw [Int.neg_tmod]; exact hq
          clear HNE HNN
          go_wp2_with first
            | ((with_reducible refine gate_dst (N := 52) rfl ?_); refine app_bytes (xs := []) rfl rfl rfl rfl (OB_nil _ _) HP3.out.2.1 (Nat.le_refl _) (by show 0 + nb ≤ _; omega) ?_; intro v4 w4 hO4 hb4 _ _; rw [List.nil_append] at hO4; have HO4 := Aside0.mk hO4; have HB4 := Aside0.mk hb4; clear hO4 hb4)
            | ((with_reducible refine gate_dst (N := 60) rfl ?_); refine app_bytes rfl rfl rfl rfl HO4.out (C_takeB (Kd.C_below HP3.out.2.2.1 HB4.out) HNF.out hkle) HB4.out.size (by rw [HNB.out]; omega) ?_; intro v5 w5 hO5 hb5 _ _; have HO5 := Aside0.mk hO5; have HP5 := Aside0.mk (RD_step HP3.out (HB4.out.trans hb5)); obtain ⟨na, hna⟩ : ∃ na, nb + k = na := ⟨_, rfl⟩; have qq : (own.flatMap frame ++ (frame f).take k).length = na := (by rw [List.length_append, HNB.out, List.length_take, HNF.out]; omega); clear hO5 hb5; have hO5 := HO5.out; obtain ⟨A5, c5, rfl, hc5, hC5⟩ := OB_readn hO5 na qq; have HC5 := Aside0.mk hC5; have hna9 : na ≤ 600 := hna ▸ hsum; have HNA := Aside0.mk hna; clear hO5 hC5 hna qq)
          have HFR : Aside0 (frs (na + 1) (own.flatMap frame ++ (frame f).take k) = own) := ⟨frs_frames own _ na HOW.out (okF_cut f k (by rw [HNX.out]; omega) (by rw [HNF.out]; exact hkz)) (by have h1 := flat_le8 own; rw [HNB.out] at h1; have h2 := HNA.out; exact Nat.le_trans h1 (by rw [← h2]; exact Nat.le_add_right _ _))⟩
          have HNB2 : Aside0 (frn own = nb) := ⟨by rw [frn_flat]; exact HNB.out⟩
          have HRG : Aside0 (∀ x ∈ own.flatMap frame ++ (frame f).take k, 0 ≤ x ∧ x ≤ 255) := ⟨fun x hx => by
            rcases List.mem_append.1 hx with h | h
            · obtain ⟨y, hy, hxy⟩ := List.mem_flatMap.1 h
              exact frame_range y (HOR.out y hy) x hxy
            · exact frame_range f HBX.out x (List.mem_of_mem_take h)⟩
          clear HO4 HO5 HB4 HP3
          (with_reducible refine (frames_calls A5 na c5 _ _ HC5.out hc5 HRG.out (by omega)).mono ?_)
          rw [HFR.out, HNB2.out]
          rintro e w6 ⟨v6, hs6, rfl, hO6, hH6, hb6⟩
          obtain ⟨A6, c6, rfl, hc6, hC6⟩ := own_lists hO6 (HeadsO_heads hH6) hn HLO.out
          have HC6 := Aside0.mk hC6
          have HP6 := Aside0.mk (RD_step HP5.out hb6)
          clear hO6 hH6 hb6 hC6 HC5 HP5 HFR HRG
          go_wp2_with fail
          (with_reducible refine (same3_calls A6 A3 hn c6 c3 own _ HC6.out (RD_o HP6.out) hc6 hc3).mono ?_)
          rintro e w7 ⟨rfl, hb7⟩
          have HB7 := Aside0.mk (below_step (RD_b HP6.out) hb7)
          clear hb7 HC6 HP6
          go_wp2_with fail
          (with_reducible refine (lives_calls _).mono ?_)
          rintro e w8 ⟨rfl, hb8⟩
          have HB8 := Aside0.mk (below_step HB7.out hb8)
          clear hb8
          go_wp2_with fail
          go_ret
          exact ⟨rfl, HB8.out⟩
        · have hq := HNN.out sn
          have hq2 : cut.tmod (nf : Int) = (k : Int) := by rw [Int.tmod_eq_emod_of_nonneg sn]; exact hq
          clear HNE HNN
          go_wp2_with first
            | ((with_reducible refine gate_dst (N := 52) rfl ?_); refine app_bytes (xs := []) rfl rfl rfl rfl (OB_nil _ _) HP3.out.2.1 (Nat.le_refl _) (by show 0 + nb ≤ _; omega) ?_; intro v4 w4 hO4 hb4 _ _; rw [List.nil_append] at hO4; have HO4 := Aside0.mk hO4; have HB4 := Aside0.mk hb4; clear hO4 hb4)
            | ((with_reducible refine gate_dst (N := 60) rfl ?_); refine app_bytes rfl rfl rfl rfl HO4.out (C_takeB (Kd.C_below HP3.out.2.2.1 HB4.out) HNF.out hkle) HB4.out.size (by rw [HNB.out]; omega) ?_; intro v5 w5 hO5 hb5 _ _; have HO5 := Aside0.mk hO5; have HP5 := Aside0.mk (RD_step HP3.out (HB4.out.trans hb5)); obtain ⟨na, hna⟩ : ∃ na, nb + k = na := ⟨_, rfl⟩; have qq : (own.flatMap frame ++ (frame f).take k).length = na := (by rw [List.length_append, HNB.out, List.length_take, HNF.out]; omega); clear hO5 hb5; have hO5 := HO5.out; obtain ⟨A5, c5, rfl, hc5, hC5⟩ := OB_readn hO5 na qq; have HC5 := Aside0.mk hC5; have hna9 : na ≤ 600 := hna ▸ hsum; have HNA := Aside0.mk hna; clear hO5 hC5 hna qq)
          have HFR : Aside0 (frs (na + 1) (own.flatMap frame ++ (frame f).take k) = own) := ⟨frs_frames own _ na HOW.out (okF_cut f k (by rw [HNX.out]; omega) (by rw [HNF.out]; exact hkz)) (by have h1 := flat_le8 own; rw [HNB.out] at h1; have h2 := HNA.out; exact Nat.le_trans h1 (by rw [← h2]; exact Nat.le_add_right _ _))⟩
          have HNB2 : Aside0 (frn own = nb) := ⟨by rw [frn_flat]; exact HNB.out⟩
          have HRG : Aside0 (∀ x ∈ own.flatMap frame ++ (frame f).take k, 0 ≤ x ∧ x ≤ 255) := ⟨fun x hx => by
            rcases List.mem_append.1 hx with h | h
            · obtain ⟨y, hy, hxy⟩ := List.mem_flatMap.1 h
              exact frame_range y (HOR.out y hy) x hxy
            · exact frame_range f HBX.out x (List.mem_of_mem_take h)⟩
          clear HO4 HO5 HB4 HP3
          (with_reducible refine (frames_calls A5 na c5 _ _ HC5.out hc5 HRG.out (by omega)).mono ?_)
          rw [HFR.out, HNB2.out]
          rintro e w6 ⟨v6, hs6, rfl, hO6, hH6, hb6⟩
          obtain ⟨A6, c6, rfl, hc6, hC6⟩ := own_lists hO6 (HeadsO_heads hH6) hn HLO.out
          have HC6 := Aside0.mk hC6
          have HP6 := Aside0.mk (RD_step HP5.out hb6)
          clear hO6 hH6 hb6 hC6 HC5 HP5 HFR HRG
          go_wp2_with fail
          (with_reducible refine (same3_calls A6 A3 hn c6 c3 own _ HC6.out (RD_o HP6.out) hc6 hc3).mono ?_)
          rintro e w7 ⟨rfl, hb7⟩
          have HB7 := Aside0.mk (below_step (RD_b HP6.out) hb7)
          clear hb7 HC6 HP6
          go_wp2_with fail
          (with_reducible refine (lives_calls _).mono ?_)
          rintro e w8 ⟨rfl, hb8⟩
          have HB8 := Aside0.mk (below_step HB7.out hb8)
          clear hb8
          go_wp2_with fail
          go_ret
          exact ⟨rfl, HB8.out⟩
      · clear hlt6
        go_wp2_with fail
        (with_reducible refine (frame_callsN A3 hn c3 own _ HCO.out hc3 (by have := HFL.out; omega)).mono ?_)
        rintro e w1 ⟨v1, rfl, hO1, hb1⟩
        obtain ⟨nb, hnb⟩ : ∃ nb, (own.flatMap frame).length = nb := ⟨_, rfl⟩
        have hnb9 : nb ≤ 500 := by rw [← hnb]; have := HFL.out; omega
        obtain ⟨A9, c9, rfl, hc9, hC9⟩ := OB_readn hO1 nb hnb
        have HNB := Aside0.mk hnb
        have HC9 := Aside0.mk hC9
        have HCO1 := Aside0.mk (Kd.C_below HCO.out hb1)
        have HB1 := Aside0.mk (below_step HB.out hb1)
        clear hO1 hC9 hb1 HCO HB hnb
        go_wp2_with fail
        (with_reducible refine (few_calls _ _ _ last _ (Kd.C_below HR1.out HB1.out) hc1 (by omega) (by omega)).mono ?_)
        rintro e w2 ⟨rfl, rfl⟩
        obtain ⟨hx1, hx2⟩ := few_len last 60
        have HX := Aside0.mk (Kd.C_below (C_take_any HR1.out (60 : Int).toNat) HB1.out)
        have HBX := Aside0.mk (fun x hx => HBY.out x (List.mem_of_mem_take hx) : ∀ x ∈ last.take (60 : Int).toNat, 0 ≤ x ∧ x ≤ 255)
        generalize last.take (60 : Int).toNat = f at *
        obtain ⟨nx, hnx⟩ : ∃ nx, f.length = nx := ⟨_, rfl⟩
        rw [hnx] at HX hx1 hx2 ⊢
        have hnx6 : nx ≤ 60 := by simpa using hx2
        have hnxc : nx ≤ c1 := by omega
        have HNX := Aside0.mk hnx
        clear hx1 hx2 hnx
        go_wp2_with fail
        (with_reducible refine (frame1_calls _ _ f _ (lit_S1n HX.out hnxc) (Nat.le_refl _) (by rw [HNX.out]; omega)).mono ?_)
        rintro e w3 ⟨v3, rfl, hO3, hb3⟩
        obtain ⟨nf, hnf⟩ : ∃ nf, nx + 8 = nf := ⟨_, rfl⟩
        have hnf7 : nf ≤ 68 := by omega
        have hnf0 : 1 ≤ nf := by omega
        have HNF : Aside0 ((frame f).length = nf) := ⟨by rw [frame_len, HNX.out]; exact hnf⟩
        obtain ⟨A11, c11, rfl, hc11, hC11⟩ := OB_readn hO3 nf HNF.out
        have HP3 : Aside0 (RD w A3 hn own A9 nb (own.flatMap frame) A11 nf (frame f) w3) := by
          have hal := below_step (below_alloc (Below.refl _ _) _) hb3
          exact ⟨Kd.C_below HCO1.out hal, Kd.C_below HC9.out hal, hC11, below_step (below_alloc HB1.out _) hb3⟩
        clear hO3 hC11 hb3 HX HCO1 HC9 HB1 hnf hnxc
        obtain ⟨k, hk⟩ : ∃ k, a' % nf = k := ⟨_, rfl⟩
        have hkz : k < nf := by rw [← hk]; exact Nat.mod_lt _ (by omega)
        have hkI : (a' : Int) % (nf : Int) = (k : Int) := by rw [← hk]; rfl
        have hkle : k ≤ nf := by omega
        have hct := cuttB A11 nf c11 k hkle hc11
        have HNE : Aside0 (cut < 0 → -((cut + 1).tmod (nf : Int)) = (k : Int)) := ⟨fun h => by
          have hA2 := HA.out
          rw [if_pos h] at hA2
          rw [show cut + 1 = -(a' : Int) by omega, Int.neg_tmod, Int.neg_neg, Int.tmod_eq_emod_of_nonneg (by omega), hkI]⟩
        have HNN : Aside0 (0 ≤ cut → cut % (nf : Int) = (k : Int)) := ⟨fun h => by
          have hA2 := HA.out
          rw [if_neg (by omega)] at hA2
          rw [hA2, hkI]⟩
        have kz1 : ¬ (nf : Int) = 0 := by omega
        have kz2 : ((nf : Int) == 0) = false := by rw [beq_eq_false_iff_ne]; omega
        have kz3 : (0 : Int) ≤ (k : Int) := by omega
        have kz4 : (k : Int) ≤ (nf : Int) := by omega
        have hsum : nb + k ≤ 600 := by omega
        clear hk hkI
        rcases Int.lt_or_le cut 0 with sn | sn
        · have hq := HNE.out sn
          have hq2 : (-(cut + 1)).tmod (nf : Int) = (k : Int) := by rw [Int.neg_tmod]; exact hq
          clear HNE HNN
          go_wp2_with first
            | ((with_reducible refine gate_dst (N := 52) rfl ?_); refine app_bytes (xs := []) rfl rfl rfl rfl (OB_nil _ _) HP3.out.2.1 (Nat.le_refl _) (by show 0 + nb ≤ _; omega) ?_; intro v4 w4 hO4 hb4 _ _; rw [List.nil_append] at hO4; have HO4 := Aside0.mk hO4; have HB4 := Aside0.mk hb4; clear hO4 hb4)
            | ((with_reducible refine gate_dst (N := 60) rfl ?_); refine app_bytes rfl rfl rfl rfl HO4.out (C_takeB (Kd.C_below HP3.out.2.2.1 HB4.out) HNF.out hkle) HB4.out.size (by rw [HNB.out]; omega) ?_; intro v5 w5 hO5 hb5 _ _; have HO5 := Aside0.mk hO5; have HP5 := Aside0.mk (RD_step HP3.out (HB4.out.trans hb5)); obtain ⟨na, hna⟩ : ∃ na, nb + k = na := ⟨_, rfl⟩; have qq : (own.flatMap frame ++ (frame f).take k).length = na := (by rw [List.length_append, HNB.out, List.length_take, HNF.out]; omega); clear hO5 hb5; have hO5 := HO5.out; obtain ⟨A5, c5, rfl, hc5, hC5⟩ := OB_readn hO5 na qq; have HC5 := Aside0.mk hC5; have hna9 : na ≤ 600 := hna ▸ hsum; have HNA := Aside0.mk hna; clear hO5 hC5 hna qq)
          have HFR : Aside0 (frs (na + 1) (own.flatMap frame ++ (frame f).take k) = own) := ⟨frs_frames own _ na HOW.out (okF_cut f k (by rw [HNX.out]; omega) (by rw [HNF.out]; exact hkz)) (by have h1 := flat_le8 own; rw [HNB.out] at h1; have h2 := HNA.out; exact Nat.le_trans h1 (by rw [← h2]; exact Nat.le_add_right _ _))⟩
          have HNB2 : Aside0 (frn own = nb) := ⟨by rw [frn_flat]; exact HNB.out⟩
          have HRG : Aside0 (∀ x ∈ own.flatMap frame ++ (frame f).take k, 0 ≤ x ∧ x ≤ 255) := ⟨fun x hx => by
            rcases List.mem_append.1 hx with h | h
            · obtain ⟨y, hy, hxy⟩ := List.mem_flatMap.1 h
              exact frame_range y (HOR.out y hy) x hxy
            · exact frame_range f HBX.out x (List.mem_of_mem_take h)⟩
          clear HO4 HO5 HB4 HP3
          (with_reducible refine (frames_calls A5 na c5 _ _ HC5.out hc5 HRG.out (by omega)).mono ?_)
          rw [HFR.out, HNB2.out]
          rintro e w6 ⟨v6, hs6, rfl, hO6, hH6, hb6⟩
          obtain ⟨A6, c6, rfl, hc6, hC6⟩ := own_lists hO6 (HeadsO_heads hH6) hn HLO.out
          have HC6 := Aside0.mk hC6
          have HP6 := Aside0.mk (RD_step HP5.out hb6)
          clear hO6 hH6 hb6 hC6 HC5 HP5 HFR HRG
          go_wp2_with fail
          (with_reducible refine (same3_calls A6 A3 hn c6 c3 own _ HC6.out (RD_o HP6.out) hc6 hc3).mono ?_)
          rintro e w7 ⟨rfl, hb7⟩
          have HB7 := Aside0.mk (below_step (RD_b HP6.out) hb7)
          clear hb7 HC6 HP6
          go_wp2_with fail
          (with_reducible refine (lives_calls _).mono ?_)
          rintro e w8 ⟨rfl, hb8⟩
          have HB8 := Aside0.mk (below_step HB7.out hb8)
          clear hb8
          go_wp2_with fail
          go_ret
          exact ⟨rfl, HB8.out⟩
        · have hq := HNN.out sn
          have hq2 : cut.tmod (nf : Int) = (k : Int) := by rw [Int.tmod_eq_emod_of_nonneg sn]; exact hq
          clear HNE HNN
          go_wp2_with first
            | ((with_reducible refine gate_dst (N := 52) rfl ?_); refine app_bytes (xs := []) rfl rfl rfl rfl (OB_nil _ _) HP3.out.2.1 (Nat.le_refl _) (by show 0 + nb ≤ _; omega) ?_; intro v4 w4 hO4 hb4 _ _; rw [List.nil_append] at hO4; have HO4 := Aside0.mk hO4; have HB4 := Aside0.mk hb4; clear hO4 hb4)
            | ((with_reducible refine gate_dst (N := 60) rfl ?_); refine app_bytes rfl rfl rfl rfl HO4.out (C_takeB (Kd.C_below HP3.out.2.2.1 HB4.out) HNF.out hkle) HB4.out.size (by rw [HNB.out]; omega) ?_; intro v5 w5 hO5 hb5 _ _; have HO5 := Aside0.mk hO5; have HP5 := Aside0.mk (RD_step HP3.out (HB4.out.trans hb5)); obtain ⟨na, hna⟩ : ∃ na, nb + k = na := ⟨_, rfl⟩; have qq : (own.flatMap frame ++ (frame f).take k).length = na := (by rw [List.length_append, HNB.out, List.length_take, HNF.out]; omega); clear hO5 hb5; have hO5 := HO5.out; obtain ⟨A5, c5, rfl, hc5, hC5⟩ := OB_readn hO5 na qq; have HC5 := Aside0.mk hC5; have hna9 : na ≤ 600 := hna ▸ hsum; have HNA := Aside0.mk hna; clear hO5 hC5 hna qq)
          have HFR : Aside0 (frs (na + 1) (own.flatMap frame ++ (frame f).take k) = own) := ⟨frs_frames own _ na HOW.out (okF_cut f k (by rw [HNX.out]; omega) (by rw [HNF.out]; exact hkz)) (by have h1 := flat_le8 own; rw [HNB.out] at h1; have h2 := HNA.out; exact Nat.le_trans h1 (by rw [← h2]; exact Nat.le_add_right _ _))⟩
          have HNB2 : Aside0 (frn own = nb) := ⟨by rw [frn_flat]; exact HNB.out⟩
          have HRG : Aside0 (∀ x ∈ own.flatMap frame ++ (frame f).take k, 0 ≤ x ∧ x ≤ 255) := ⟨fun x hx => by
            rcases List.mem_append.1 hx with h | h
            · obtain ⟨y, hy, hxy⟩ := List.mem_flatMap.1 h
              exact frame_range y (HOR.out y hy) x hxy
            · exact frame_range f HBX.out x (List.mem_of_mem_take h)⟩
          clear HO4 HO5 HB4 HP3
          (with_reducible refine (frames_calls A5 na c5 _ _ HC5.out hc5 HRG.out (by omega)).mono ?_)
          rw [HFR.out, HNB2.out]
          rintro e w6 ⟨v6, hs6, rfl, hO6, hH6, hb6⟩
          obtain ⟨A6, c6, rfl, hc6, hC6⟩ := own_lists hO6 (HeadsO_heads hH6) hn HLO.out
          have HC6 := Aside0.mk hC6
          have HP6 := Aside0.mk (RD_step HP5.out hb6)
          clear hO6 hH6 hb6 hC6 HC5 HP5 HFR HRG
          go_wp2_with fail
          (with_reducible refine (same3_calls A6 A3 hn c6 c3 own _ HC6.out (RD_o HP6.out) hc6 hc3).mono ?_)
          rintro e w7 ⟨rfl, hb7⟩
          have HB7 := Aside0.mk (below_step (RD_b HP6.out) hb7)
          clear hb7 HC6 HP6
          go_wp2_with fail
          (with_reducible refine (lives_calls _).mono ?_)
          rintro e w8 ⟨rfl, hb8⟩
          have HB8 := Aside0.mk (below_step HB7.out hb8)
          clear hb8
          go_wp2_with fail
          go_ret
          exact ⟨rfl, HB8.out⟩
end Go.Proofs.Ytohgmpkehncopaa.A
