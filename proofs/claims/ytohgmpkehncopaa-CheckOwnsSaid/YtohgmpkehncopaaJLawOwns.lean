/- CheckOwns: what is handed in stays, and what is told is new. -/
import Derived.Test.YtohgmpkehncopaaJRound
import Derived.Test.YtohgmpkehncopaaALaw3
namespace Go.Proofs.Ytohgmpkehncopaa.A
open Go.RowKit Go.Proofs.YtohgmpkehncopaaW.PrintWords Go.Proofs.YtohgmpkehncopaaW.PrintLast Go.Proofs.YtohgmpkehncopaaW.PrintMore
set_option linter.unusedVariables false
set_option linter.unusedSimpArgs false

/-- One byte of one's own row is written over. -/
theorem own_step3 {W : World} {B n c : Nat} {A : Option Addr} (h : ∃ l : List Int, OB W B (.slice A n c) l) (k : Nat) (hk : k < n) :
    ∃ g, A = some ⟨g, 0, none⟩ ∧ B ≤ g ∧ (∃ y, W.cell? ⟨g, k, none⟩ = some y) ∧ W.frozen? ⟨g, k, none⟩ = false ∧ ∀ y : Int, (∃ l : List Int, OB (W.setCell ⟨g, k, none⟩ (.int .u8 y)) B (.slice A n c) l) ∧ W.grownBy (W.setCell ⟨g, k, none⟩ (.int .u8 y)) (Value.slice A n c).ownBlock := by
  obtain ⟨l, h⟩ := h
  have hn := (Kd.R_reads' h).1
  obtain ⟨g, cap, e, hg, _, _⟩ := Kd.R_form h (by omega)
  injection e with e1 e2 e3
  subst e1
  have h1 := Kd.R_celln (0 : Int) h (k : Int) (by omega) (by omega)
  rw [Int.toNat_natCast] at h1
  refine ⟨g, rfl, hg, ⟨_, h1.1⟩, h1.2, fun y => ?_⟩
  have h2 := Kd.R_putg h (k : Int) y
  rw [Int.toNat_natCast] at h2
  exact ⟨⟨_, h2.1⟩, h2.2⟩
theorem head_cell {W : World} {B c : Nat} {A : Option Addr} {h : Option Addr × Nat × Nat} (hO : OR Hd 22 W B (.slice A 1 c) [h]) : ∃ ad, A = some ad ∧ W.cell? ad = some (.slice h.1 h.2.1 h.2.2) := by
  obtain ⟨A', c', e, hc, hC⟩ := OR_readn hO 1 rfl
  injection e with e1 e2 e3
  subst e1
  obtain ⟨ad, e, hc⟩ := hC.2.2 (by omega)
  obtain ⟨cs, h1, hK, h3⟩ := hc 0 h rfl
  have hK' : cs = [Value.slice h.1 h.2.1 h.2.2] := hK
  subst hK'
  refine ⟨ad, e, ?_⟩
  have h4 := h3 0 _ rfl
  rw [Nat.zero_mul] at h4
  have e0 : (ad.add (0 + 0)) = ad := by unfold Addr.add; rw [if_pos rfl]
  rw [e0] at h4
  exact h4
/-- What stands while what was told is written over. -/
def OW (w3 : World) (Al : Option Addr) (cl : Nat) (A : Option Addr) (n cA : Nat) (A7 : Option Addr) (n7 c7 B2 : Nat) (W : World) : Prop :=
  OR Hd 22 W w3.heap.size (.slice Al 1 cl) [(A, n, cA)] ∧ (∃ l : List Int, OB W w3.heap.size (.slice A n cA) l) ∧ (∃ l : List Int, OB W B2 (.slice A7 n7 c7) l) ∧ Below w3.heap.size w3 W
theorem OW_step {w3 : World} {Al : Option Addr} {cl : Nat} {A : Option Addr} {n cA : Nat} {A7 : Option Addr} {n7 c7 B2 : Nat} {W W1 : World} (h : OW w3 Al cl A n cA A7 n7 c7 B2 W) (hb : Below W.heap.size W W1) : OW w3 Al cl A n cA A7 n7 c7 B2 W1 := by
  obtain ⟨h1, ⟨l2, h2⟩, ⟨l3, h3⟩, h4⟩ := h
  exact ⟨Kd.R_below h1 hb, ⟨_, Kd.R_below h2 hb⟩, ⟨_, Kd.R_below h3 hb⟩, below_step h4 hb⟩
theorem OW_set {w3 : World} {Al : Option Addr} {cl : Nat} {A : Option Addr} {n cA : Nat} {A7 : Option Addr} {n7 c7 B2 : Nat} {W : World} (h : OW w3 Al cl A n cA A7 n7 c7 B2 W) (hne : (Value.slice A7 n7 c7).ownBlock = none ∨ (Value.slice A7 n7 c7).ownBlock ≠ (Value.slice A n cA).ownBlock) (k : Nat) (hk : k < n) :
    ∃ g, A = some ⟨g, 0, none⟩ ∧ (∃ y, W.cell? ⟨g, k, none⟩ = some y) ∧ W.frozen? ⟨g, k, none⟩ = false ∧ ∀ y : Int, OW w3 Al cl A n cA A7 n7 c7 B2 (W.setCell ⟨g, k, none⟩ (.int .u8 y)) := by
  obtain ⟨h1, h2, ⟨l3, h3⟩, h4⟩ := h
  obtain ⟨g, e, hg, hy, hf, hs⟩ := own_step3 h2 k hk
  refine ⟨g, e, hy, hf, fun y => ?_⟩
  obtain ⟨s1, s2⟩ := hs y
  obtain ⟨l2, h2'⟩ := h2
  refine ⟨OR_grown h1 s2 (own_ne_type h2' h1 (by decide)), s1, ⟨_, OB_grown (v := Value.slice A n cA) h3 s2 hne⟩, h4.grown s2 h4.size (fun k' e' => ?_)⟩
  rw [e] at e'
  have e2 : some g = some k' := e'
  injection e2 with e2
  omega
/-- The second row written over. -/
def OX (w3 : World) (A7 : Option Addr) (n7 c7 : Nat) (W : World) : Prop := (∃ l : List Int, OB W w3.heap.size (.slice A7 n7 c7) l) ∧ Below w3.heap.size w3 W
theorem OX_step {w3 : World} {A7 : Option Addr} {n7 c7 : Nat} {W W1 : World} (h : OX w3 A7 n7 c7 W) (hb : Below W.heap.size W W1) : OX w3 A7 n7 c7 W1 := by
  obtain ⟨⟨l3, h3⟩, h4⟩ := h
  exact ⟨⟨_, Kd.R_below h3 hb⟩, below_step h4 hb⟩
theorem OX_set {w3 : World} {A7 : Option Addr} {n7 c7 : Nat} {W : World} (h : OX w3 A7 n7 c7 W) (k : Nat) (hk : k < n7) :
    ∃ g, A7 = some ⟨g, 0, none⟩ ∧ (∃ y, W.cell? ⟨g, k, none⟩ = some y) ∧ W.frozen? ⟨g, k, none⟩ = false ∧ ∀ y : Int, OX w3 A7 n7 c7 (W.setCell ⟨g, k, none⟩ (.int .u8 y)) := by
  obtain ⟨h2, h4⟩ := h
  obtain ⟨g, e, hg, hy, hf, hs⟩ := own_step3 h2 k hk
  refine ⟨g, e, hy, hf, fun y => ?_⟩
  obtain ⟨s1, s2⟩ := hs y
  refine ⟨s1, h4.grown s2 h4.size (fun k' e' => ?_)⟩
  rw [e] at e'
  have e2 : some g = some k' := e'
  injection e2 with e2
  omega
set_option maxHeartbeats 800000 in
theorem OneX_calls (A : Option Addr) (n c : Nat) (l : List Int) (w : World) (hr : U8.C w A n l) (hc : n ≤ c) (hb : ∀ x ∈ l, 0 ≤ x ∧ x ≤ 255) (h : okF l = true) (hrest : restOf l = []) :
    Calls Try.prog 16 #[.slice A n c] w fun e w' => ∃ v, e = .returned (.tuple #[v, .int .i64 0]) ∧ OB w' w.heap.size v (ownOf l) ∧ Below w.heap.size w w' := by
  have HC := Aside0.mk (one_yes A n c l w hr hc hb h)
  rw [hrest] at HC
  clear hr hb h hrest
  go_enter Try.func16, Try.ntmps16
  go_wp2_with fail
  (with_reducible refine HC.out.mono ?_)
  rintro e w1 ⟨v, A1, c1, rfl, hO1, hc1, -, hb1⟩
  have HO1 := Aside0.mk hO1
  have HB1 := Aside0.mk hb1
  clear hO1 hb1 HC
  obtain ⟨m, hm⟩ : ∃ m, (ownOf l).length = m := ⟨_, rfl⟩
  obtain ⟨A2, c2, rfl, -, -⟩ := OB_readn HO1.out m hm
  clear hm
  go_wp2_with fail
  go_ret2
  exact ⟨_, rfl, HO1.out, HB1.out⟩
theorem sumN_calls (A : Option Addr) (n c : Nat) (l : List Int) (w : World) (hr : U8.C w A n l) (hc : n ≤ c) : Calls Try.prog 11 #[.slice A n c] w fun e w' => e = .returned (.int .i64 (sum l)) ∧ w = w' := by
  have hn := hr.1
  subst hn
  exact sum_calls A c l w hr hc
theorem refsumN_calls (A : Option Addr) (n c : Nat) (l : List Int) (w : World) (hr : U8.C w A n l) (hc : n ≤ c) (hb : ∀ x ∈ l, 0 ≤ x ∧ x ≤ 255) : Calls Try.prog 12 #[.slice A n c] w fun e w' => e = .returned (.int .i64 (sum l)) ∧ Below w.heap.size w w' := by
  have hn := hr.1
  subst hn
  exact refsum_calls A c l w hr hc hb
set_option maxRecDepth 100000 in
set_option maxHeartbeats 8000000 in
theorem owns3_calls (w : World) (A1 : Option Addr) (c1 : Nat) (b : List Int) (hr1 : U8.C w A1 b.length b) (hc1 : b.length ≤ c1) (hg1 : ∀ x ∈ b, 0 ≤ x ∧ x ≤ 255) :
    Calls Try.prog 9 #[.slice A1 b.length c1] w fun e w' => e = .returned (.bool true) ∧ Below w.heap.size w w' := by
  have hm1 : b.length ≤ 9223372036854775807 := hr1.2.1
  have HR1 := Aside0.mk hr1
  have HBY := Aside0.mk hg1
  clear hr1 hg1
  go_enter Try.func9, Try.ntmps9
  go_wp2_with fail
  (with_reducible refine (few_calls _ _ _ b _ HR1.out hc1 (by omega) (by omega)).mono ?_)
  rintro e w2 ⟨rfl, rfl⟩
  obtain ⟨hx1, hx2⟩ := few_len b 60
  have HX := Aside0.mk (C_take_any HR1.out (60 : Int).toNat)
  have HBX := Aside0.mk (fun x hx => HBY.out x (List.mem_of_mem_take hx) : ∀ x ∈ b.take (60 : Int).toNat, 0 ≤ x ∧ x ≤ 255)
  generalize b.take (60 : Int).toNat = x at *
  obtain ⟨nx, hnx⟩ : ∃ nx, x.length = nx := ⟨_, rfl⟩
  rw [hnx] at HX hx1 hx2 ⊢
  have hnx6 : nx ≤ 60 := by simpa using hx2
  have hnxc : nx ≤ c1 := by omega
  have HNX := Aside0.mk hnx
  clear hx1 hx2 hnx
  go_wp2_with fail
  (with_reducible refine (frame1_calls _ _ x _ (lit_S1n HX.out hnxc) (Nat.le_refl _) (by rw [HNX.out]; omega)).mono ?_)
  rintro e w3 ⟨v3, rfl, hO3, hb3⟩
  obtain ⟨nf, hnf⟩ : ∃ nf, nx + 8 = nf := ⟨_, rfl⟩
  have hnf7 : nf ≤ 68 := by omega
  have HNF : Aside0 ((frame x).length = nf) := ⟨by rw [frame_len, HNX.out]; exact hnf⟩
  have HST := Aside0.mk (OB_string hO3)
  obtain ⟨A3, c3, rfl, hc3, hC3⟩ := OB_readn hO3 nf HNF.out
  have HC3 := Aside0.mk hC3
  have HB3 := Aside0.mk (below_step (below_alloc (Below.refl w.heap.size w) _) hb3)
  have HFR : Aside0 (frs (nf + 1) (frame x) = [x]) := ⟨by
    have h7 := frs_frames [x] [] nf (fun y hy => by rw [List.mem_singleton.1 hy, HNX.out]; omega) (by decide) (by show 1 ≤ nf; omega)
    simpa using h7⟩
  have HFG := Aside0.mk (frame_range x HBX.out)
  have HOK : Aside0 (okF (frame x) = true ∧ restOf (frame x) = [] ∧ ownOf (frame x) = x) := ⟨by
    have e1 := okF_frame x [] (by rw [HNX.out]; omega)
    have e2 := restOf_frame x [] (by rw [HNX.out]; omega)
    have e3 := ownOf_frame x [] (by rw [HNX.out]; omega)
    rw [List.append_nil] at e1 e2 e3
    exact ⟨e1, e2, e3⟩⟩
  have hst := HST.out
  clear hO3 hC3 hb3 HX hnf hnxc
  go_wp2_with fail
  clear hst
  (with_reducible refine (frames_calls A3 nf c3 (frame x) w3 HC3.out hc3 HFG.out (by omega)).mono ?_)
  rw [HFR.out]
  rintro e w4 ⟨v4, hs, rfl, hO4, hH4, hb4⟩
  obtain ⟨⟨Ax, nh, cA⟩, rfl⟩ : ∃ h, hs = [h] := List.length_eq_one_iff.1 (by rw [hH4.1]; rfl)
  obtain ⟨Al, cl, rfl, hcl, -⟩ := OR_readn hO4 1 rfl
  have hx4 := hH4.2 0 _ x rfl rfl
  simp only at hx4
  obtain ⟨Ay, cy, e4, -, -⟩ := OB_readn hx4 nx HNX.out
  injection e4 with e5 e6 e7
  subst e6
  have HX4 := Aside0.mk hx4
  have HO4 := Aside0.mk hO4
  have HB4 := Aside0.mk hb4
  have HC4 := Aside0.mk (Kd.C_below HC3.out hb4)
  clear hO4 hH4 hb4 hx4 e5 e7
  go_wp2_with fail
  (with_reducible refine (OneX_calls A3 nf c3 (frame x) w4 HC4.out hc3 HFG.out HOK.out.1 HOK.out.2.1).mono ?_)
  rw [HOK.out.2.2]
  rintro e w5 ⟨v5, rfl, hO5, hb5⟩
  obtain ⟨A7, c7, rfl, -, -⟩ := OB_readn hO5 nh HNX.out
  have HNE := Aside0.mk (own_ne_new HX4.out hO5 (Nat.le_refl _))
  have HW5 : Aside0 (OW w3 Al cl Ax nh cA A7 nh c7 w4.heap.size w5) := ⟨Kd.R_below HO4.out hb5, ⟨_, Kd.R_below HX4.out hb5⟩, ⟨_, hO5⟩, below_step HB4.out hb5⟩
  have HB24 := Aside0.mk HB4.out.size
  clear hO5 hb5 HO4 HX4 HB4 HC4
  go_wp2_with fail
  go_loopw [9] (fun v9 w' => ∃ i : Nat, i ≤ 1 ∧ v9 = .int .i64 i ∧ Aside0 (OW w3 Al cl Ax nh cA A7 nh c7 w4.heap.size w')) (fun v9 _ => 1 - (intOf v9).toNat)
  case atStart => exact ⟨0, by omega, rfl, HW5⟩
  case round =>
    clear HW5
    obtain ⟨i, hi, rfl, HW⟩ := hrel
    by_cases hlt : i < 1
    · obtain rfl : i = 0 := by omega
      go_wp2_with fail
      go_loopw [10] (fun v10 w' => ∃ k : Nat, k ≤ nh ∧ v10 = .int .i64 k ∧ Aside0 (OW w3 Al cl Ax nh cA A7 nh c7 w4.heap.size w')) (fun v10 _ => nh - (intOf v10).toNat)
      case atStart => exact ⟨0, Nat.zero_le _, rfl, HW⟩
      case round =>
        clear HW
        obtain ⟨k, hk, rfl, HW⟩ := hrel
        obtain ⟨adl, rfl, p0⟩ := head_cell HW.out.1
        simp only at p0
        have i0 : (0 : Int) ≤ (k : Int) := by omega
        by_cases hkl : k < nh
        · obtain ⟨g, rfl, ⟨y, hy⟩, hf, hs⟩ := OW_set HW.out HNE.out k hkl
          have HS := Aside0.mk (hs 1)
          have i1 : (k : Int) < (nh : Int) := by omega
          clear hs HW
          go_wp2_with fail
          go_roundw
          case rel => exact ⟨k + 1, hkl, rfl, HS⟩
          case measure => simp [intOf]; omega
        · have i1 : ¬ (k : Int) < (nh : Int) := by omega
          go_wp2_with fail
          go_roundw
          case rel => exact ⟨1, by omega, rfl, HW⟩
          case measure => simp [intOf]
    · obtain rfl : i = 1 := by omega
      have HX0 : Aside0 (OX w3 A7 nh c7 wr) := ⟨by
        obtain ⟨l3, h3⟩ := HW.out.2.2.1
        exact ⟨_, Kd.R_lower h3 HB24.out⟩, HW.out.2.2.2⟩
      clear HW
      go_wp2_with fail
      go_loopw [11] (fun v11 w' => ∃ k : Nat, k ≤ nh ∧ v11 = .int .i64 k ∧ Aside0 (OX w3 A7 nh c7 w')) (fun v11 _ => nh - (intOf v11).toNat)
      case atStart => exact ⟨0, Nat.zero_le _, rfl, HX0⟩
      case round =>
        clear HX0
        obtain ⟨k, hk, rfl, HW⟩ := hrel
        have i0 : (0 : Int) ≤ (k : Int) := by omega
        by_cases hkl : k < nh
        · obtain ⟨g, rfl, ⟨y, hy⟩, hf, hs⟩ := OX_set HW.out k hkl
          have HS := Aside0.mk (hs 2)
          have i1 : (k : Int) < (nh : Int) := by omega
          clear hs HW
          go_wp2_with fail
          go_roundw
          case rel => exact ⟨k + 1, hkl, rfl, HS⟩
          case measure => simp [intOf]; omega
        · have i1 : ¬ (k : Int) < (nh : Int) := by omega
          have HCE := Aside0.mk (Kd.C_below HC3.out HW.out.2)
          have hst := C_string' (c := c3) HCE.out
          have HBE := Aside0.mk (below_step HB3.out HW.out.2)
          clear HW HC3 HB3
          go_wp2_with fail
          (with_reducible refine (sumN_calls A3 nf c3 (frame x) _ HCE.out hc3).mono ?_)
          rintro e w8 ⟨rfl, rfl⟩
          go_wp2_with fail
          (with_reducible refine (refsumN_calls A3 nf c3 (frame x) _ HCE.out hc3 HFG.out).mono ?_)
          rintro e w9 ⟨rfl, hb9⟩
          have HB9 := Aside0.mk (below_step HBE.out hb9)
          clear hb9 hst
          go_wp2_with fail
          (with_reducible refine (lives_calls _).mono ?_)
          rintro e w10 ⟨rfl, hb10⟩
          have HB10 := Aside0.mk (below_step HB9.out hb10)
          clear hb10
          go_wp2_with fail
          go_ret
          exact ⟨rfl, HB10.out⟩
end Go.Proofs.Ytohgmpkehncopaa.A
