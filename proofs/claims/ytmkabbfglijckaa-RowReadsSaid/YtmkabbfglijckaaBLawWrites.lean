/- RowWrites: a version's bytes are just the document's, and are read as it, with what stands behind; or it is refused. -/
import Derived.Test.YtmkabbfglijckaaBLawApart
import Derived.Test.YtmkabbfglijckaaBMayR
import Derived.Test.YtmkabbfglijckaaBRead
import Derived.Deep.RegionHeld3
namespace Go.Proofs.Ytmkabbfglijckaa.A
open Go.RowKit Go.Proofs.YtmkabbfglijckaaW.PrintWords Go.Proofs.YtmkabbfglijckaaW.PrintLast Go.Proofs.YtmkabbfglijckaaW.PrintMore
set_option linter.unusedVariables false
set_option linter.unusedSimpArgs false

set_option maxRecDepth 100000 in
/-- The first 500 bytes. -/
theorem few6_calls (A : Option Addr) (n c : Nat) (l : List Int) (w : World) (hr : U8.C w A n l) (hc : n ≤ c) :
    Calls Try.prog 14 #[.slice A n c] w fun e w' => ∃ n', e = .returned (.slice A n' c) ∧ n' ≤ c ∧ n' ≤ 500 ∧ n' ≤ n ∧ U8.C w A n' (l.take 500) ∧ w' = w := by
  have hn := hr.1
  have hm : n ≤ 9223372036854775807 := hr.2.1
  obtain ⟨i0, hi0, _, _, _⟩ := info_parts infoU8
  by_cases h : 500 < n
  · have h1 : (500 : Int) < (n : Int) := by omega
    have hct := cut_to 29 5 .i64 Try.underlying29 hi0 A n c 500 (by omega) (by omega) hc
    have hC : U8.C w A 500 (l.take 500) := by
      have h7 := Kd.C_take (m := 500) (show U8.C w A l.length l by rw [hn]; exact hr) (by omega)
      rwa [show (l.take 500).length = 500 by rw [List.length_take]; omega] at h7
    have HC := Aside0.mk hC
    clear hC hr hn
    go_enter Try.func14, Try.ntmps14
    go_wp2
    go_ret
    exact ⟨500, rfl, by omega, Nat.le_refl _, by omega, HC.out, rfl⟩
  · have h1 : ¬ (500 : Int) < (n : Int) := by omega
    have e : l.take 500 = l := List.take_of_length_le (by omega)
    rw [e]
    have HC := Aside0.mk hr
    clear hr hn e
    go_enter Try.func14, Try.ntmps14
    go_wp2
    go_ret
    exact ⟨n, rfl, hc, by omega, Nat.le_refl _, HC.out, rfl⟩
def PW (w : World) (a : Vr) (W : World) : Prop := W.heap[w.heap.size]? = some (vrB a) ∧ Below w.heap.size w W
theorem PW_step {w W W1 : World} {a : Vr} (h : PW w a W) (hb : Below W.heap.size W W1) : PW w a W1 := ⟨box_keep h.1 hb, below_step h.2 hb⟩
theorem PW_set {w W : World} {a : Vr} (h : PW w a W) (p : Vr) : PW w p (set8 W w.heap.size p) := ⟨set8_heap h.1 p, set8_below h.2 (Nat.le_refl _) p⟩
theorem PW_b {w W : World} {a : Vr} (h : PW w a W) : Below w.heap.size w W := h.2
theorem PW_x {w W : World} {a : Vr} (h : PW w a W) : W.heap[w.heap.size]? = some (vrB a) := h.1
/-- What stands before the last line: both versions, the bytes, what stood behind. -/
def PZ (w : World) (z : Nat) (p : Vr) (u5 : Value) (X : List Int) (u8 : Value) (R : List Int) (A : Option Addr) (m : Nat) (W : World) : Prop :=
  PW w p W ∧ W.heap[z]? = some (vrB p) ∧ OB W 0 u5 X ∧ OB W 0 u8 R ∧ U8.C W A m R
theorem PZ_step {w : World} {z : Nat} {p : Vr} {u5 : Value} {X : List Int} {u8 : Value} {R : List Int} {A : Option Addr} {m : Nat} {W W1 : World} (h : PZ w z p u5 X u8 R A m W) (hb : Below W.heap.size W W1) : PZ w z p u5 X u8 R A m W1 := by
  obtain ⟨h1, h2, h3, h4, h5⟩ := h
  exact ⟨PW_step h1 hb, box_keep h2 hb, Kd.R_below h3 hb, Kd.R_below h4 hb, Kd.C_below h5 hb⟩
theorem PZ_b {w : World} {z : Nat} {p : Vr} {u5 : Value} {X : List Int} {u8 : Value} {R : List Int} {A : Option Addr} {m : Nat} {W : World} (h : PZ w z p u5 X u8 R A m W) : Below w.heap.size w W := h.1.2
theorem PZ_S {w : World} {z : Nat} {p : Vr} {u5 : Value} {X : List Int} {u8 : Value} {R : List Int} {A : Option Addr} {m : Nat} {w' : World} {c : Nat} (h : PZ w z p u5 X u8 R A m w') : w'.cell? ⟨w.heap.size, 0, none⟩ = some (.string p.k) ∧ w'.cell? ⟨w.heap.size, 1, none⟩ = some (.int .i64 p.br) ∧ w'.cell? ⟨w.heap.size, 2, none⟩ = some (.int .i64 p.ep) ∧ w'.cell? ⟨w.heap.size, 3, none⟩ = some (.int .i64 p.sq) ∧ w'.cell? ⟨w.heap.size, 4, none⟩ = some (.int .i64 p.f) ∧ w'.cell? ⟨w.heap.size, 5, none⟩ = some (.int .i64 p.t) ∧ w'.cell? ⟨w.heap.size, 6, none⟩ = some (.string p.v) ∧ w'.cell? ⟨w.heap.size, 7, none⟩ = some (.bool p.g) ∧ w'.cell? ⟨z, 0, none⟩ = some (.string p.k) ∧ w'.cell? ⟨z, 1, none⟩ = some (.int .i64 p.br) ∧ w'.cell? ⟨z, 2, none⟩ = some (.int .i64 p.ep) ∧ w'.cell? ⟨z, 3, none⟩ = some (.int .i64 p.sq) ∧ w'.cell? ⟨z, 4, none⟩ = some (.int .i64 p.f) ∧ w'.cell? ⟨z, 5, none⟩ = some (.int .i64 p.t) ∧ w'.cell? ⟨z, 6, none⟩ = some (.string p.v) ∧ w'.cell? ⟨z, 7, none⟩ = some (.bool p.g) ∧ (convert 29 9 u5).run Try.prog w' = .ok (.string (strOfNums X)) w' ∧ (convert 29 9 u8).run Try.prog w' = .ok (.string (strOfNums R)) w' ∧ (convert 29 9 (.slice A m c)).run Try.prog w' = .ok (.string (strOfNums R)) w' ∧ Aside0 (PZ w z p u5 X u8 R A m w') := by
  obtain ⟨a0, a1, a2, a3, a4, a5, a6, a7⟩ := vr_cells h.1.1
  obtain ⟨b0, b1, b2, b3, b4, b5, b6, b7⟩ := vr_cells h.2.1
  exact ⟨a0, a1, a2, a3, a4, a5, a6, a7, b0, b1, b2, b3, b4, b5, b6, b7, OB_string h.2.2.1, OB_string h.2.2.2.1, C_string' h.2.2.2.2, ⟨h⟩⟩
set_option maxRecDepth 100000 in
set_option maxHeartbeats 8000000 in
theorem writes_calls (w : World) (c1 : Array Value) (y1 : Vr) (h1 : KVr.K w y1 (Value.agg c1).cells.toList) (g1 : y1.fits) (A : Option Addr) (c : Nat) (l : List Int) (hr : U8.C w A l.length l) (hc : l.length ≤ c) (hb : ∀ x ∈ l, IntKind.u8.min ≤ x ∧ x ≤ IntKind.u8.max) :
    Calls Try.prog 6 #[.agg c1, .slice A l.length c] w fun e w' => e = .returned (.bool true) ∧ Below w.heap.size w w' := by
  have e1 := agg_of h1
  subst e1
  obtain ⟨G1, G2⟩ := g1
  clear h1
  obtain ⟨K, B, E, S, F, T, V, G⟩ := y1
  have i1 : K.size ≤ 9223372036854775807 := G1
  have i2 : V.size ≤ 9223372036854775807 := G2
  have hs1 := cutS_size K 110
  have hs2 := cutS_size V 210
  have hq := eqA27
  have HR := Aside0.mk hr
  have HBL : Aside0 (∀ x ∈ l.take 500, 0 ≤ x ∧ x ≤ 255) := ⟨fun x hx => hb x (List.mem_of_mem_take hx)⟩
  obtain ⟨n, hn⟩ : ∃ n, l.length = n := ⟨_, rfl⟩
  rw [hn] at hc HR ⊢
  have HI0 : Aside0 (PW w ⟨K, B, E, S, F, T, V, G⟩ (w.alloc (vrB ⟨K, B, E, S, F, T, V, G⟩))) := ⟨heap_alloc_new w _, below_alloc (Below.refl _ _) _⟩
  clear G1 G2 hr hb hn
  go_enter Try.func6, Try.ntmps6
  go_wp2_with fail
  (with_reducible refine (cut_calls K B E S F T V G _ i1 i2).mono ?_)
  rintro e w1 ⟨rfl, hb1⟩
  have HI1 := Aside0.mk (PW_step HI0.out hb1)
  obtain ⟨x0, x1, x2, x3, x4, x5, x6, x7⟩ := vr_cells (PW_x HI1.out)
  have fx := vr_frozen (PW_x HI1.out)
  have HI2 := Aside0.mk (PW_set HI1.out ⟨cutS K 110, B, E, S, F, T, cutS V 210, G⟩)
  clear hb1 HI0
  generalize cutS K 110 = k1 at *
  generalize cutS V 210 = v1 at *
  go_wp2_with fail
  rw [set8_eq]
  obtain ⟨w2, hw2⟩ : ∃ w2, set8 w1 w.heap.size ⟨k1, B, E, S, F, T, v1, G⟩ = w2 := ⟨_, rfl⟩
  rw [hw2]
  have HI2 : Aside0 (PW w ⟨k1, B, E, S, F, T, v1, G⟩ w2) := by rw [← hw2]; exact HI2
  clear hw2 x0 x1 x2 x3 x4 x5 x6 x7 fx HI1
  (with_reducible refine (few6_calls A n c l _ (Kd.C_below HR.out (PW_b HI2.out)) hc).mono ?_)
  rintro e _ ⟨m, rfl, hmc, hm5, hmn, hC, rfl⟩
  have HC2 := Aside0.mk hC
  obtain ⟨x0, x1, x2, x3, x4, x5, x6, x7⟩ := vr_cells (PW_x HI2.out)
  clear hC
  generalize l.take 500 = R at *
  go_wp2_with fail
  (with_reducible refine (write_calls k1 B E S F T v1 G _ (by omega) (by omega)).mono ?_)
  rintro e w3 ⟨u, rfl, hu, hb3⟩
  have HI3 := Aside0.mk (PW_step HI2.out hb3)
  have HU3 := Aside0.mk (Kd.R_lower hu (Nat.zero_le _))
  have HC3 := Aside0.mk (Kd.C_below HC2.out hb3)
  clear x0 x1 x2 x3 x4 x5 x6 x7 HI2 HC2 hu hb3
  obtain ⟨x0, x1, x2, x3, x4, x5, x6, x7⟩ := vr_cells (PW_x HI3.out)
  have fx := vr_frozen (PW_x HI3.out)
  go_wp2_with fail
  (with_reducible refine (may6_calls k1 B E S F T v1 G _ (by omega) (by omega)).mono ?_)
  rintro e w4 ⟨rfl, hb4⟩
  have HI4 := Aside0.mk (PW_step HI3.out hb4)
  have HU4 := Aside0.mk (Kd.R_below HU3.out hb4)
  have HC4 := Aside0.mk (Kd.C_below HC3.out hb4)
  clear x0 x1 x2 x3 x4 x5 x6 x7 fx HI3 HC3 HU3 hb4
  obtain ⟨x0, x1, x2, x3, x4, x5, x6, x7⟩ := vr_cells (PW_x HI4.out)
  go_wp2_with fail
  (with_reducible refine (may_calls k1 B E S F T v1 G _ (by omega) (by omega)).mono ?_)
  rintro e w5 ⟨rfl, hb5⟩
  have HI5 := Aside0.mk (PW_step HI4.out hb5)
  have HU5 := Aside0.mk (Kd.R_below HU4.out hb5)
  have HC5 := Aside0.mk (Kd.C_below HC4.out hb5)
  clear x0 x1 x2 x3 x4 x5 x6 x7 HI4 HC4 HU4 hb5
  cases hmv : mayV ⟨k1, B, E, S, F, T, v1, G⟩ with
  | false =>
    have e1 : writeE ⟨k1, B, E, S, F, T, v1, G⟩ = 1 := by unfold writeE; rw [hmv]; rfl
    have e2 : writeB ⟨k1, B, E, S, F, T, v1, G⟩ = [] := by unfold writeB; rw [hmv]; rfl
    rw [e1]
    rw [e2] at HU5
    obtain ⟨Au, cu, rfl, _, _⟩ := OB_readn HU5.out 0 rfl
    clear e1 e2 hmv
    go_wp2_with fail
    (with_reducible refine (lives_calls _).mono ?_)
    rintro e w6 ⟨rfl, hb6⟩
    have HB6 := Aside0.mk (below_step (PW_b HI5.out) hb6)
    clear hb6
    go_wp2_with fail
    go_ret
    exact ⟨rfl, HB6.out⟩
  | true =>
    have e1 : writeE ⟨k1, B, E, S, F, T, v1, G⟩ = 0 := by unfold writeE; rw [hmv]; rfl
    have e2 : writeB ⟨k1, B, E, S, F, T, v1, G⟩ = bytesV ⟨k1, B, E, S, F, T, v1, G⟩ := by unfold writeB; rw [hmv]; rfl
    rw [e1]
    rw [e2] at HU5
    have hbl := bytesV_len _ hmv
    have hbr := bytesV_range ⟨k1, B, E, S, F, T, v1, G⟩
    have hrv := readV_bytes ⟨k1, B, E, S, F, T, v1, G⟩ R hmv
    have HRW := Aside0.mk (fun W => refwrite_calls k1 B E S F T v1 G W hmv)
    clear e1 e2 hmv
    generalize bytesV ⟨k1, B, E, S, F, T, v1, G⟩ = X at *
    obtain ⟨p, hp⟩ : ∃ p, X.length = p := ⟨_, rfl⟩
    rw [hp] at hbl
    obtain ⟨Au, cu, rfl, hcu, hCu⟩ := OB_readn HU5.out p hp
    have HCu := Aside0.mk hCu
    have HBR := Aside0.mk hbr
    have HRV := Aside0.mk hrv
    have HP := Aside0.mk hp
    have hRl : R.length = m := HC5.out.1
    clear hCu hbr hrv hp
    have HX6 : Aside0 (OB w5 w5.heap.size (.slice none 0 0) []) := ⟨OB_nil _ _⟩
    go_wp2_with (first
      | ((with_reducible refine gate_dst (N := 41) rfl ?_); refine app_bytes (B := w5.heap.size) (v := .slice none 0 0) (xs := []) (ys := X) (A := Au) (m := p) (c := cu) rfl rfl rfl rfl HX6.out HCu.out (Nat.le_refl _) (by simp; omega) ?_; intro u6 w6 hO6 hb6 _ _; have HO6 := Aside0.mk hO6; have HB6 := Aside0.mk hb6; have hz6 : w5.heap.size ≤ w6.heap.size := hb6.size; have HC6 := Aside0.mk (Kd.C_below HC5.out hb6); have HI6 := Aside0.mk (PW_step HI5.out hb6); have HU6 := Aside0.mk (Kd.R_below HU5.out hb6); clear hO6 hb6)
      | ((with_reducible refine gate_dst (N := 44) rfl ?_); refine app_bytes (B := w5.heap.size) (v := u6) (xs := [] ++ X) (ys := R) (A := A) (m := m) (c := c) rfl rfl rfl rfl HO6.out HC6.out hz6 (by rw [List.nil_append, HP.out]; omega) ?_; intro u7 w7 hO7 hb7 _ _; have HO7 := Aside0.mk hO7; have HB7 := Aside0.mk hb7; clear hO7 hb7))
    rw [List.nil_append] at HO7
    have HB57 := Aside0.mk (HB6.out.trans HB7.out)
    have HI7 := Aside0.mk (PW_step HI5.out HB57.out)
    have HU7 := Aside0.mk (Kd.R_below HU5.out HB57.out)
    have HC7 := Aside0.mk (Kd.C_below HC5.out HB57.out)
    have hXR : (X ++ R).length = p + m := by rw [List.length_append, HP.out, hRl]
    obtain ⟨A7, c7, rfl, hc7, hC7'⟩ := OB_readn HO7.out (p + m) hXR
    clear HB57 HB6 HB7 HI6 HU6 HC6 HI5 HU5 HC5 HX6 HO6 HCu hXR
    (with_reducible refine (read6_calls A7 (p + m) c7 (X ++ R) w7 hC7' hc7 (by omega) (by intro x hx; rcases List.mem_append.1 hx with hx | hx; exact HBR.out x hx; exact HBL.out x hx)).mono ?_)
    rw [HRV.out]
    dsimp only
    rw [if_pos rfl]
    rintro e w8 ⟨u8, rfl, hO8, hb8⟩
    have HI8 := Aside0.mk (PW_step HI7.out hb8)
    have HU8 := Aside0.mk (Kd.R_below HU7.out hb8)
    have HC8 := Aside0.mk (Kd.C_below HC7.out hb8)
    have HO8 := Aside0.mk (Kd.R_lower hO8 (Nat.zero_le _))
    have hal := below_alloc (Below.refl w8.heap.size w8) (vrBox k1 B E S F T v1 G)
    have HPZ : Aside0 (PZ w w8.heap.size ⟨k1, B, E, S, F, T, v1, G⟩ (.slice Au p cu) X u8 R A m (w8.alloc (vrBox k1 B E S F T v1 G))) := ⟨PW_step HI8.out hal, heap_alloc_new w8 _, Kd.R_below HU8.out hal, Kd.R_below HO8.out hal, Kd.C_below HC8.out hal⟩
    clear hO8 hb8 hC7' HI7 HU7 HC7 HO7 HI8 HU8 HC8 HO8 hal HRV HBR HBL
    have hself : eqV ⟨k1, B, E, S, F, T, v1, G⟩ ⟨k1, B, E, S, F, T, v1, G⟩ = true := (eqV_iff _ _).2 rfl
    go_wp2_with fail
    obtain ⟨w9, hw9⟩ : ∃ w9, w8.alloc (.cells #[.string k1, .int .i64 B, .int .i64 E, .int .i64 S, .int .i64 F, .int .i64 T, .string v1, .bool G] 27) = w9 := ⟨_, rfl⟩
    rw [hw9]
    have HPZ9 : Aside0 (PZ w w8.heap.size ⟨k1, B, E, S, F, T, v1, G⟩ (.slice Au p cu) X u8 R A m w9.drew) := by rw [← hw9]; exact ⟨PZ_step HPZ.out (below_drew1 (Below.refl _ _))⟩
    clear hw9 HPZ
    go_region_held (fun w' => w'.cell? ⟨w.heap.size, 0, none⟩ = some (.string k1) ∧ w'.cell? ⟨w.heap.size, 1, none⟩ = some (.int .i64 B) ∧ w'.cell? ⟨w.heap.size, 2, none⟩ = some (.int .i64 E) ∧ w'.cell? ⟨w.heap.size, 3, none⟩ = some (.int .i64 S) ∧ w'.cell? ⟨w.heap.size, 4, none⟩ = some (.int .i64 F) ∧ w'.cell? ⟨w.heap.size, 5, none⟩ = some (.int .i64 T) ∧ w'.cell? ⟨w.heap.size, 6, none⟩ = some (.string v1) ∧ w'.cell? ⟨w.heap.size, 7, none⟩ = some (.bool G) ∧ w'.cell? ⟨w8.heap.size, 0, none⟩ = some (.string k1) ∧ w'.cell? ⟨w8.heap.size, 1, none⟩ = some (.int .i64 B) ∧ w'.cell? ⟨w8.heap.size, 2, none⟩ = some (.int .i64 E) ∧ w'.cell? ⟨w8.heap.size, 3, none⟩ = some (.int .i64 S) ∧ w'.cell? ⟨w8.heap.size, 4, none⟩ = some (.int .i64 F) ∧ w'.cell? ⟨w8.heap.size, 5, none⟩ = some (.int .i64 T) ∧ w'.cell? ⟨w8.heap.size, 6, none⟩ = some (.string v1) ∧ w'.cell? ⟨w8.heap.size, 7, none⟩ = some (.bool G) ∧ (convert 29 9 (.slice Au p cu)).run Try.prog w' = .ok (.string (strOfNums X)) w' ∧ (convert 29 9 u8).run Try.prog w' = .ok (.string (strOfNums R)) w' ∧ (convert 29 9 (.slice A m c)).run Try.prog w' = .ok (.string (strOfNums R)) w' ∧ Aside0 (PZ w w8.heap.size ⟨k1, B, E, S, F, T, v1, G⟩ (.slice Au p cu) X u8 R A m w'))
      (first
        | (with_reducible exact PZ_S HPZ9.out)
        | (with_reducible exact PZ_S HPZa.out)
        | (with_reducible exact PZ_S HPZb.out))
      (first
        | ((go_at_call 18); (with_reducible refine (HRW.out _).mono ?_); rintro e wa ⟨ua, rfl, hOa, hba⟩; have HPZa := Aside0.mk (PZ_step HPZ9.out hba); have hsa := OB_string hOa; clear hOa hba)
        | ((go_at_call 11); (with_reducible refine (lives_calls _).mono ?_); rintro e wb ⟨rfl, hbb⟩; have HPZb := Aside0.mk (PZ_step HPZa.out hbb)))
    all_goals go_wp2
    all_goals go_ret
    all_goals exact ⟨by first | rfl | kernel_rfl, by first | exact PZ_b HPZb.out | (go_split_ands; exact PZ_b (Aside0.out (by assumption)))⟩
end Go.Proofs.Ytmkabbfglijckaa.A
