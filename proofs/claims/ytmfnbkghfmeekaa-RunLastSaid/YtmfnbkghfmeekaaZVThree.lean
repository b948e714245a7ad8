/- VThree -/
import Derived.Test.YtmfnbkghfmeekaaZVTwo
import Derived.BigQuiet
namespace Go.Proofs.Ytmfnbkghfmeekaa.A.V
open Go.RowKit Go.Proofs.YtmfnbkghfmeekaaW.PrintWords Go.Proofs.YtmfnbkghfmeekaaW.PrintLast Go.Proofs.YtmfnbkghfmeekaaW.PrintMore
set_option linter.unusedVariables false
set_option linter.unusedSimpArgs false
def dsum (bs : List Int) : Nat → Int
  | 0 => 0
  | k + 1 => dsum bs k + bs.getD k 0 % 128 * 128 ^ k
theorem dsum_bound (bs : List Int) (hb : ∀ x ∈ bs, 0 ≤ x ∧ x ≤ 255) : ∀ k, 0 ≤ dsum bs k ∧ dsum bs k < 128 ^ k
  | 0 => by simp [dsum]
  | k + 1 => num_bound (dsum bs k) (bs.getD k 0) k (dsum_bound bs hb k).1 (dsum_bound bs hb k).2 (byteOf hb k)
theorem vnat_len : ∀ (k n : Nat), 128 ^ k ≤ n → n < 128 ^ (k + 1) → (vnat n).length = k + 1
  | 0, n, h0, h1 => by rw [vnat_small (by simpa using h1)]; rfl
  | k + 1, n, h0, h1 => by
    have hp : 0 < 128 ^ k := Nat.pow_pos (by omega)
    have h2 : ¬ n < 128 := by
      rw [Nat.pow_succ] at h0
      have : 1 * 128 ≤ 128 ^ k * 128 := Nat.mul_le_mul_right _ hp
      omega
    rw [vnat_big h2, List.length_cons]
    rw [Nat.pow_succ] at h0 h1
    rw [vnat_len k (n / 128) (by rw [Nat.le_div_iff_mul_le (by omega)]; exact h0) (by rw [Nat.div_lt_iff_lt_mul (by omega)]; exact h1)]
theorem vnat_short : ∀ (k n : Nat), n < 128 ^ (k + 1) → (vnat n).length ≤ k + 1
  | 0, n, h1 => by rw [vnat_small (by simpa using h1)]; simp
  | k + 1, n, h1 => by
    by_cases h2 : n < 128
    · rw [vnat_small h2]; simp
    · rw [vnat_big h2, List.length_cons]
      rw [Nat.pow_succ] at h1
      have := vnat_short k (n / 128) (by rw [Nat.div_lt_iff_lt_mul (by omega)]; exact h1)
      omega
theorem vput_just (bs : List Int) (hb : ∀ x ∈ bs, 0 ≤ x ∧ x ≤ 255) (k : Nat) (hx : bs.getD k 0 < 128) : (vput (dsum bs (k + 1))).length = k + 1 ↔ ¬ (bs.getD k 0 = 0 ∧ 0 < k) := by
  have h1 := dsum_bound bs hb (k + 1)
  have h0 := dsum_bound bs hb k
  have hxx := byteOf hb k
  have e : dsum bs (k + 1) = dsum bs k + bs.getD k 0 % 128 * 128 ^ k := rfl
  obtain ⟨m, hm⟩ : ∃ m : Nat, dsum bs (k + 1) = (m : Int) := ⟨(dsum bs (k + 1)).toNat, by omega⟩
  have hp : (128 : Int) ^ (k + 1) = ((128 ^ (k + 1) : Nat) : Int) := by simp
  have hp0 : (128 : Int) ^ k = ((128 ^ k : Nat) : Int) := by simp
  have hv : vput (dsum bs (k + 1)) = vnat m := by rw [hm]; unfold vput; rw [Int.toNat_natCast]
  rw [hv]
  have hlt : m < 128 ^ (k + 1) := by rw [hm, hp] at h1; omega
  rw [Int.emod_eq_of_lt hxx.1 hx] at e
  by_cases hz : bs.getD k 0 = 0
  · rw [hz, Int.zero_mul, Int.add_zero] at e
    cases k with
    | zero =>
      refine ⟨fun _ h => by omega, fun _ => ?_⟩
      have hm0 : m = 0 := by
        have : dsum bs 0 = 0 := rfl
        omega
      rw [hm0, vnat_small (by omega)]
      rfl
    | succ k =>
      have hs : m < 128 ^ (k + 1) := by rw [hp0] at h0; omega
      have := vnat_short k m hs
      exact ⟨fun h => by omega, fun h => absurd ⟨hz, by omega⟩ h⟩
  · have hge : 128 ^ k ≤ m := by
      have h5 : (128 : Int) ^ k ≤ bs.getD k 0 * 128 ^ k := by
        have hpp : (0 : Int) < 128 ^ k := Int.pow_pos (by decide)
        have := Int.mul_le_mul_of_nonneg_right (show (1 : Int) ≤ bs.getD k 0 by omega) (Int.le_of_lt hpp)
        omega
      rw [hp0] at h5
      rw [hp0] at e
      omega
    have := vnat_len k m hge hlt
    exact ⟨fun _ h => hz h.1, fun _ => this⟩
theorem box_keep {W w1 : World} {g : Nat} {o : Obj} (h : W.heap[g]? = some o) (hb : Below W.heap.size W w1) : w1.heap[g]? = some o :=
  (hb.block g (Array.getElem?_eq_some_iff.1 h).1).trans h
theorem pow128_lt (u : Int) (e : Nat) (h : u < 128 ^ e) (he : e ≤ 8) : u < 72057594037927936 := by
  have h2 : (128 : Int) ^ e ≤ 72057594037927936 := by
    rcases (by omega : e = 0 ∨ e = 1 ∨ e = 2 ∨ e = 3 ∨ e = 4 ∨ e = 5 ∨ e = 6 ∨ e = 7 ∨ e = 8) with rfl | rfl | rfl | rfl | rfl | rfl | rfl | rfl | rfl <;> decide
  omega
theorem digit_step (bs : List Int) (u : Int) (k j : Nat) (h0 : 0 ≤ u) (h1 : u < 128 ^ (k + 1 - (j + 1))) (hj : j ≤ k) (hx : 0 ≤ bs.getD j 0 ∧ bs.getD j 0 ≤ 255) (hs : dsum bs (k + 1) = u * 128 ^ (j + 1) + dsum bs (j + 1)) :
    0 ≤ 128 * u + bs.getD j 0 % 128 ∧ 128 * u + bs.getD j 0 % 128 < 128 ^ (k + 1 - j) ∧ dsum bs (k + 1) = (128 * u + bs.getD j 0 % 128) * 128 ^ j + dsum bs j := by
  have e : k + 1 - j = (k + 1 - (j + 1)) + 1 := by omega
  have e2 : dsum bs (j + 1) = dsum bs j + bs.getD j 0 % 128 * 128 ^ j := rfl
  refine ⟨by omega, ?_, ?_⟩
  · rw [e, Int.pow_succ]
    generalize (128 : Int) ^ (k + 1 - (j + 1)) = m at *
    omega
  · rw [hs, e2, Int.pow_succ, Int.add_mul, ← Int.mul_assoc, Int.mul_comm 128 u, Int.mul_assoc u 128, Int.mul_comm 128, ← Int.mul_assoc]
    omega
abbrev rfr (A : Option Addr) (n c : Nat) (at_ e : Int) : Obj := .cells #[.slice A n c, .int .i64 at_, .int .i64 e] 108 (0, 0)
theorem rfr_cells {w : World} {g n c : Nat} {A : Option Addr} {p e : Int} (h : w.heap[g]? = some (rfr A n c p e)) : w.cell? ⟨g, 0, none⟩ = some (.slice A n c) ∧ w.cell? ⟨g, 1, none⟩ = some (.int .i64 p) ∧ w.cell? ⟨g, 2, none⟩ = some (.int .i64 e) := by
  refine ⟨?_, ?_, ?_⟩
  · rw [cell_of_row _ _ _ _ _ _ h]; rfl
  · rw [cell_of_row _ _ _ _ _ _ h]; rfl
  · rw [cell_of_row _ _ _ _ _ _ h]; rfl
end Go.Proofs.Ytmfnbkghfmeekaa.A.V
