/- Pieces that others make, one over the other. -/
import Derived.Test.YtloachifhaigjaaAROver
namespace Go.Proofs.Ytloachifhaigjaa.A
open Go.RowKit Go.Proofs.YtloachifhaigjaaW.PrintWords Go.Proofs.YtloachifhaigjaaW.PrintLast Go.Proofs.YtloachifhaigjaaW.PrintMore
set_option linter.unusedVariables false
set_option linter.unusedSimpArgs false

set_option maxRecDepth 100000 in
theorem rover0_calls (u : Value) (f t : Int) (v : ByteArray) (w : World) (hm : Sp.may ⟨f, t⟩ = false) :
    Calls Try.prog 28 #[u, .agg #[.int .i64 f, .int .i64 t, .string v]] w fun e w' => e = .returned u ∧ Below w.heap.size w w' := by
  have HM := Aside0.mk hm
  clear hm
  go_enter Try.func28, Try.ntmps28
  go_wp2_with fail
  (with_reducible refine (rmay_calls _ _ _).mono ?_)
  rw [HM.out]
  rintro e w1 ⟨rfl, rfl⟩
  have HB1 := Aside0.mk (below_alloc (below_alloc (Below.refl _ w) (pcBox f t v)) (spBox f t))
  go_wp2_with fail
  go_ret
  exact ⟨rfl, HB1.out⟩
theorem overL_true {l : List Pc} {p : Pc} (h : p.sp.may = true) : overL l p = overGo p (l.flatMap (wo p.sp)) false := by
  unfold overL
  rw [if_pos h, without_may h]
/-- Over, where the row is one's own. -/
theorem overL_calls (u : Value) (l : List Pc) (p : Pc) (w : World) (B : Nat) (HO : OPc w B u l) (hB : B ≤ w.heap.size) (hn : l.length ≤ 1000) :
    Calls Try.prog 28 #[u, .agg #[.int .i64 p.f, .int .i64 p.t, .string p.v]] w fun e w' => ∃ v', e = .returned v' ∧ OPc w' B v' (overL l p) ∧ Below w.heap.size w w' := by
  obtain ⟨f, t, v⟩ := p
  cases hm : Sp.may ⟨f, t⟩ with
  | true =>
    rw [overL_true hm]
    obtain ⟨A, c, rfl, hc, hr⟩ := OPc_readn HO _ rfl
    refine (rover_calls A l.length c l f t v w hr hc hn hm).mono ?_
    rintro e w' ⟨v', rfl, h1, h2⟩
    exact ⟨v', rfl, Kd.R_lower h1 hB, h2⟩
  | false =>
    have e : overL l ⟨f, t, v⟩ = l := if_neg (by simp [hm])
    rw [e]
    refine (rover0_calls u f t v w hm).mono ?_
    rintro e w' ⟨rfl, h2⟩
    exact ⟨u, rfl, Kd.R_below HO h2, h2⟩
theorem overGo_len (p : Pc) (L : List Pc) (d : Bool) : (overGo p L d).length ≤ L.length + 1 := by
  induction L generalizing d with
  | nil => cases d <;> simp [overGo]
  | cons q L ih =>
    unfold overGo
    have h1 := ih true
    have h2 := ih d
    split
    · rw [over_true]; simp
    · simp; omega
theorem overL_len (l : List Pc) (p : Pc) : (overL l p).length ≤ 2 * l.length + 1 := by
  unfold overL
  split
  · rename_i h
    rw [without_may h]
    have h1 := overGo_len p (l.flatMap (wo p.sp)) false
    have h2 := wo_len p.sp l
    omega
  · omega
/-- The first pieces, laid one over the other. -/
def madeK (l : List Pc) (k : Nat) : List Pc := (l.take k).foldl (fun o p => overL o (cutP p)) []
theorem madeK_succ (l : List Pc) (k : Nat) (h : k < l.length) : madeK l (k + 1) = overL (madeK l k) (cutP (l.getD k default)) := by
  unfold madeK
  rw [List.take_add_one, List.foldl_append]
  simp [List.getD_eq_getElem?_getD, h]
theorem madeK_len (l : List Pc) (k : Nat) : (madeK l k).length + 1 ≤ 2 ^ k := by
  induction k with
  | zero => simp [madeK]
  | succ k ih =>
    by_cases h : k < l.length
    · rw [madeK_succ l k h, Nat.pow_succ]
      have := overL_len (madeK l k) (cutP (l.getD k default))
      omega
    · have e : madeK l (k + 1) = madeK l k := by unfold madeK; rw [List.take_of_length_le (by omega), List.take_of_length_le (by omega)]
      rw [e, Nat.pow_succ]
      omega
set_option maxRecDepth 100000 in
set_option maxHeartbeats 1000000 in
theorem made_calls (A : Option Addr) (n c : Nat) (l : List Pc) (w : World) (hr : KPc.C w A n l) (hc : n ≤ c) (hok : ∀ p ∈ l, p.v.size ≤ 9223372036854775807) :
    Calls Try.prog 19 #[.slice A n c] w fun e w' => ∃ v, e = .returned v ∧ OPc w' w.heap.size v (madeL l) ∧ (madeL l).length ≤ 255 ∧ Below w.heap.size w w' := by
  have HR := Aside0.mk hr
  have HN := Aside0.mk hr.1
  have HOK := Aside0.mk hok
  have hm : n ≤ 9223372036854775807 := hr.2.1
  clear hr hok
  go_enter Try.func19, Try.ntmps19
  go_wp2_with fail
  go_loopw [3, 4] (fun v3 v4 w' => ∃ k : Nat, k ≤ n ∧ k ≤ 8 ∧ v4 = .int .i64 k ∧ Aside0 (OPc w' w.heap.size v3 (madeK l k)) ∧ Aside0 (Below w.heap.size w w')) (fun _ v4 _ => 8 - (intOf v4).toNat)
  case atStart => exact ⟨0, Nat.zero_le _, by omega, rfl, ⟨OPc_nil _ _⟩, ⟨Below.refl _ _⟩⟩
  case round =>
    obtain ⟨k, hk, hk8, rfl, HO, HB⟩ := hrel
    have hl8 : (madeK l k).length ≤ 255 := by
      have h1 := madeK_len l k
      have h2 : 2 ^ k ≤ 2 ^ 8 := Nat.pow_le_pow_right (by decide) hk8
      omega
    have HL8 := Aside0.mk hl8
    clear hl8
    by_cases hlt : k < n ∧ k < 8
    · obtain ⟨hlt, h8⟩ := hlt
      obtain ⟨ad, rfl, q0, q1, q2⟩ := C_atPc HR.out k hlt
      have p0 := pw_cell_below HB.out q0
      have p1 := pw_cell_below HB.out q1
      have p2 := pw_cell_below HB.out q2
      have hv : (l.getD k default).v.size ≤ 9223372036854775807 := by
        have hkl : k < l.length := by rw [HN.out]; exact hlt
        have e : l.getD k default = l[k] := by simp [List.getD_eq_getElem?_getD, hkl]
        rw [e]
        exact HOK.out _ (List.getElem_mem _)
      have hms := madeK_succ l k (by rw [HN.out]; exact hlt)
      clear q0 q1 q2
      generalize l.getD k default = q at *
      obtain ⟨qf, qt, qv⟩ := q
      have HMS := Aside0.mk hms
      simp only at p0 p1 p2 hv
      have i1 : (k : Int) < (n : Int) := by omega
      have i2 : (0 : Int) ≤ (k : Int) := by omega
      have i3 : (k : Int) < 8 := by omega
      clear hms
      go_wp2_with fail
      (with_reducible refine (cut_calls qf qt qv _ hv).mono ?_)
      rintro e w1 ⟨rfl, hb1⟩
      have HO1 := Aside0.mk (Kd.R_below HO.out hb1)
      have HB1 := Aside0.mk (below_step HB.out hb1)
      clear hb1 HO HB p0 p1 p2
      generalize cutP ⟨qf, qt, qv⟩ = q at *
      go_wp2_with fail
      (with_reducible refine (overL_calls _ _ q _ w.heap.size HO1.out HB1.out.size (Nat.le_trans HL8.out (by decide))).mono ?_)
      rintro e w2 ⟨v2, rfl, HO2, hb2⟩
      rw [← HMS.out] at HO2
      have HO3 := Aside0.mk HO2
      have HB3 := Aside0.mk (below_step HB1.out hb2)
      clear HO2 hb2
      go_wp2_with fail
      go_roundw
      case rel => exact ⟨k + 1, hlt, h8, rfl, HO3, HB3⟩
      case measure => simp [intOf]; omega
    · have e8 : madeL l = madeK l k := by
        show madeK l 8 = madeK l k
        unfold madeK
        have hkl : l.length = n := HN.out
        rcases (by omega : k = 8 ∨ n ≤ k) with h | h
        · rw [h]
        · rw [List.take_of_length_le (show l.length ≤ k by omega), List.take_of_length_le (show l.length ≤ 8 by omega)]
      have HE8 := Aside0.mk e8
      clear e8
      by_cases hkn : k < n
      · have i1 : (k : Int) < (n : Int) := by omega
        obtain rfl : k = 8 := by omega
        go_wp2_with fail
        go_ret
        exact ⟨_, rfl, by rw [HE8.out]; exact HO.out, by rw [HE8.out]; exact HL8.out, HB.out⟩
      · obtain rfl : k = n := by omega
        go_wp2_with fail
        go_ret
        exact ⟨_, rfl, by rw [HE8.out]; exact HO.out, by rw [HE8.out]; exact HL8.out, HB.out⟩
end Go.Proofs.Ytloachifhaigjaa.A
