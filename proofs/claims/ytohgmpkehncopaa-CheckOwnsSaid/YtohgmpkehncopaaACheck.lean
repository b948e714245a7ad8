/- Reading frames: the program's and the document's. -/
import Derived.Test.YtohgmpkehncopaaALaw3
import Derived.WalkSpells
namespace Go.Proofs.Ytohgmpkehncopaa.A
open Go.RowKit Go.Proofs.YtohgmpkehncopaaW.PrintWords Go.Proofs.YtohgmpkehncopaaW.PrintLast Go.Proofs.YtohgmpkehncopaaW.PrintMore
set_option linter.unusedVariables false
set_option linter.unusedSimpArgs false

/-- The number of the first 4 bytes. -/
def num4 (l : List Int) : Int := l.getD 0 0 + 256 * l.getD 1 0 + 65536 * l.getD 2 0 + 16777216 * l.getD 3 0
theorem or_lo_hi (x y : Int) (i : Nat) (hx : 0 ≤ x) (hx1 : x < 2 ^ i) (hy : 0 ≤ y) (hy1 : y % 2 ^ i = 0) (hi : i < 63) (hs : x + y < 9223372036854775808) : bits .or .i64 x y = x + y := by
  have h63 : (2 : Int) ^ 63 = 9223372036854775808 := by decide
  have hp : (0 : Int) < 2 ^ i := Int.pow_pos (by omega)
  have h := bits_join .i64 63 (by decide) (fun n h0 h1 => by rw [IntKind.wrap_i64]; omega) i y x hy hy1 (by omega) hx hx1 (by omega)
  have hc : bits .or .i64 x y = bits .or .i64 y x := by
    simp only [bits]
    rw [BitVec.or_comm]
  rw [hc, h]
  omega
theorem byte_at {l : List Int} (hb : ∀ x ∈ l, 0 ≤ x ∧ x ≤ 255) (i : Nat) : 0 ≤ l.getD i 0 ∧ l.getD i 0 ≤ 255 := by
  rw [List.getD_eq_getElem?_getD]
  by_cases h : i < l.length
  · rw [List.getElem?_eq_getElem h]
    exact hb _ (List.getElem_mem h)
  · rw [List.getElem?_eq_none (by omega)]
    simp
theorem num4_range {l : List Int} (hb : ∀ x ∈ l, 0 ≤ x ∧ x ≤ 255) : 0 ≤ num4 l ∧ num4 l < 4294967296 := by
  have h0 := byte_at hb 0
  have h1 := byte_at hb 1
  have h2 := byte_at hb 2
  have h3 := byte_at hb 3
  unfold num4
  omega

set_option maxHeartbeats 800000 in
theorem refnumber_calls (A : Option Addr) (c : Nat) (l : List Int) (w : World) (hr : U8.C w A l.length l) (hc : l.length ≤ c) (hb : ∀ x ∈ l, 0 ≤ x ∧ x ≤ 255) (h4 : 4 ≤ l.length) :
    Calls Try.prog 29 #[.slice A l.length c] w fun e w' => e = .returned (.int .i64 (num4 l)) ∧ ∃ n, w' = w.drewN n := by
  obtain ⟨ad, rfl, hc0⟩ := C_at hr 0 (by omega)
  obtain ⟨_, e1, hc1⟩ := C_at hr 1 (by omega)
  obtain ⟨_, e2, hc2⟩ := C_at hr 2 (by omega)
  obtain ⟨_, e3, hc3⟩ := C_at hr 3 (by omega)
  injection e1 with e1
  injection e2 with e2
  injection e3 with e3
  subst e1 e2 e3
  have hm : l.length ≤ 9223372036854775807 := hr.2.1
  have hnum : Aside0 (num4 l = l.getD 0 0 + 256 * l.getD 1 0 + 65536 * l.getD 2 0 + 16777216 * l.getD 3 0) := ⟨rfl⟩
  obtain ⟨b00, b01⟩ := byte_at hb 0
  obtain ⟨b10, b11⟩ := byte_at hb 1
  obtain ⟨b20, b21⟩ := byte_at hb 2
  obtain ⟨b30, b31⟩ := byte_at hb 3
  clear hr hb
  generalize l.getD 0 0 = x0 at *
  generalize l.getD 1 0 = x1 at *
  generalize l.getD 2 0 = x2 at *
  generalize l.getD 3 0 = x3 at *
  generalize l.length = n at *
  simp [Addr.add] at hc0 hc1 hc2 hc3
  have i0 : (0 : Int) < (n : Int) := by omega
  have i1 : (1 : Int) < (n : Int) := by omega
  have i2 : (2 : Int) < (n : Int) := by omega
  have i3 : (3 : Int) < (n : Int) := by omega
  have j0 : 0 < n := by omega
  have j1 : 1 < n := by omega
  have j2 : 2 < n := by omega
  have j3 : 3 < n := by omega
  go_enter Try.func29, Try.ntmps29
  go_wp2
  go_region
  go_wp2
  go_ret
  exact ⟨congrArg (fun z => Ending.returned (Value.int .i64 z)) hnum.out.symm, 1, rfl⟩
theorem num_or (x0 x1 x2 x3 : Int) (b00 : 0 ≤ x0) (b01 : x0 ≤ 255) (b10 : 0 ≤ x1) (b11 : x1 ≤ 255) (b20 : 0 ≤ x2) (b21 : x2 ≤ 255) (b30 : 0 ≤ x3) (b31 : x3 ≤ 255) :
    bits .or .i64 (bits .or .i64 (bits .or .i64 x0 (x1 * 256)) (x2 * 65536)) (x3 * 16777216) = x0 + 256 * x1 + 65536 * x2 + 16777216 * x3 := by
  rw [or_lo_hi x0 (x1 * 256) 8 b00 (by omega) (by omega) (by omega) (by decide) (by omega), or_lo_hi _ (x2 * 65536) 16 (by omega) (by omega) (by omega) (by omega) (by decide) (by omega), or_lo_hi _ (x3 * 16777216) 24 (by omega) (by omega) (by omega) (by omega) (by decide) (by omega)]
  omega
set_option maxHeartbeats 800000 in
theorem number_calls (A : Option Addr) (c : Nat) (l : List Int) (w : World) (hr : U8.C w A l.length l) (hc : l.length ≤ c) (hb : ∀ x ∈ l, 0 ≤ x ∧ x ≤ 255) (h4 : 4 ≤ l.length) :
    Calls Try.prog 27 #[.slice A l.length c] w fun e w' => e = .returned (.int .i64 (num4 l)) ∧ ∃ n, w' = w.drewN n := by
  obtain ⟨ad, rfl, hc0⟩ := C_at hr 0 (by omega)
  obtain ⟨_, e1, hc1⟩ := C_at hr 1 (by omega)
  obtain ⟨_, e2, hc2⟩ := C_at hr 2 (by omega)
  obtain ⟨_, e3, hc3⟩ := C_at hr 3 (by omega)
  injection e1 with e1
  injection e2 with e2
  injection e3 with e3
  subst e1 e2 e3
  have hm : l.length ≤ 9223372036854775807 := hr.2.1
  have hnum : Aside0 (num4 l = l.getD 0 0 + 256 * l.getD 1 0 + 65536 * l.getD 2 0 + 16777216 * l.getD 3 0) := ⟨rfl⟩
  obtain ⟨b00, b01⟩ := byte_at hb 0
  obtain ⟨b10, b11⟩ := byte_at hb 1
  obtain ⟨b20, b21⟩ := byte_at hb 2
  obtain ⟨b30, b31⟩ := byte_at hb 3
  clear hr hb
  generalize l.getD 0 0 = x0 at *
  generalize l.getD 1 0 = x1 at *
  generalize l.getD 2 0 = x2 at *
  generalize l.getD 3 0 = x3 at *
  generalize l.length = n at *
  simp [Addr.add] at hc0 hc1 hc2 hc3
  have i0 : (0 : Int) < (n : Int) := by omega
  have i1 : (1 : Int) < (n : Int) := by omega
  have i2 : (2 : Int) < (n : Int) := by omega
  have i3 : (3 : Int) < (n : Int) := by omega
  have j0 : 0 < n := by omega
  have j1 : 1 < n := by omega
  have j2 : 2 < n := by omega
  have j3 : 3 < n := by omega
  go_enter Try.func27, Try.ntmps27
  go_wp2
  go_region
  go_wp2
  go_ret
  exact ⟨congrArg (fun z => Ending.returned (Value.int .i64 z)) ((num_or x0 x1 x2 x3 b00 b01 b10 b11 b20 b21 b30 b31).trans hnum.out.symm), 1, rfl⟩

set_option maxHeartbeats 800000 in
theorem clone_calls (A : Option Addr) (c : Nat) (l : List Int) (w : World) (hr : U8.C w A l.length l) (hc : l.length ≤ c) (hl : l.length ≤ 140737488000000) :
    Calls Try.prog 28 #[.slice A l.length c] w fun e w' => ∃ v, e = .returned v ∧ OB w' w.heap.size v l ∧ Below w.heap.size w w' := by
  have HR := Aside0.mk hr
  clear hr
  have hq := fun (w : World) (a : Option Addr) (n c : Nat) => Lib.run_eql_slice_nil (P := Try.prog) w 22 5 a n c 0 0 Try.underlying22
  cases A with
  | none =>
    have h0 : l = [] := by
      rcases l with _ | ⟨x, l⟩
      · rfl
      · obtain ⟨ad, h, _⟩ := HR.out.2.2 (by simp)
        cases h
    subst h0
    go_enter Try.func28, Try.ntmps28
    go_wp2
    go_ret
    exact ⟨_, rfl, OB_nil _ _, Below.refl _ _⟩
  | some ad =>
    go_enter Try.func28, Try.ntmps28
    go_wp2_with ((with_reducible refine gate_dst (N := 7) rfl ?_); refine app_bytes rfl rfl rfl rfl (OB_lit [] (Nat.le_refl _) (by simp)) (Kd.C_alloc HR.out _) (by simp) (by simp; omega) ?_; intro v1 w1 HO1 hb1 _ _)
    go_ret
    exact ⟨_, rfl, by simpa using HO1, ((Below.refl _ _).alloc (Nat.le_refl _) _).trans hb1⟩

end Go.Proofs.Ytohgmpkehncopaa.A
