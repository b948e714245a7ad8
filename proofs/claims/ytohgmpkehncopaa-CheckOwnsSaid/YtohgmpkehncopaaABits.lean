/- The document's check sum's helper: a number's 32 bits. -/
import Derived.Test.YtohgmpkehncopaaABase
import Derived.RegionTactic
import Derived.ChangeAlike
namespace Go.Proofs.Ytohgmpkehncopaa.A
open Go.RowKit Go.Proofs.YtohgmpkehncopaaW.PrintWords Go.Proofs.YtohgmpkehncopaaW.PrintLast Go.Proofs.YtohgmpkehncopaaW.PrintMore
set_option linter.unusedVariables false
set_option linter.unusedSimpArgs false

/-- 32 places. -/
def row32 (f : Nat → Int) : List Int := (List.range 32).map f
theorem row32_len (f : Nat → Int) : (row32 f).length = 32 := by simp [row32]
theorem row32_at (f : Nat → Int) (i : Nat) (h : i < 32) : (row32 f).getD i 0 = f i := by simp [row32, List.getD_eq_getElem?_getD, h]
theorem row32_set (f : Nat → Int) (k : Nat) (x : Int) : (row32 f).set k x = row32 (fun i => if i = k then x else f i) := by
  apply List.ext_getElem?
  intro i
  simp only [row32, List.getElem?_set, List.getElem?_map, List.length_map, List.length_range]
  by_cases h : k = i
  · subst h
    by_cases hk : k < 32
    · simp [hk, List.getElem?_range]
    · simp [hk, List.getElem?_range]
  · rw [if_neg h]
    by_cases hi : i < 32
    · simp [List.getElem?_range, hi, Ne.symm h]
    · simp [List.getElem?_range, hi]
theorem row32_congr {f g : Nat → Int} (h : ∀ i, i < 32 → f i = g i) : row32 f = row32 g := by
  unfold row32
  exact List.map_congr_left (fun i hi => h i (List.mem_range.1 hi))

theorem info3 : (Try.prog.info? 3).map (fun i => (i.zero, i.size, i.bytes)) = some (some (.int .i64 0), 1, 8) := by kernel_rfl
/-- bit i of a number that is not below 0 -/
def bitAt (n : Int) (i : Nat) : Int := n / 2 ^ i % 2

set_option maxHeartbeats 800000 in
theorem bits_calls (n : Int) (w : World) (h0 : 0 ≤ n) (h1 : n ≤ 9223372036854775807) :
    Calls Try.prog 21 #[.int .i64 n] w fun e w' => ∃ v, e = .returned v ∧ (Kd.int .i64).R 3 w' w.heap.size (fun _ => True) v (row32 (bitAt n)) ∧ Below w.heap.size w w' := by
  go_enter Try.func21, Try.ntmps21
  go_wp2_with ((with_reducible refine gate_dst (N := 5) rfl ?_); refine Kd.R_make (Kd.int .i64) _ 3 rfl (N := 5) rfl 41 _ _ rfl 32 rfl rfl Try.underlying41 (.int .i64 0) 8 info3 rfl (by decide) (by omega) 0 (ok := fun _ => True) (okp := fun _ => True) rfl (fun _ hk => hk) trivial (by omega) (by omega) (Below.refl _ _) (Nat.le_refl _) ?_; intro v w1 HO hb _ _)
  obtain ⟨g, cap, rfl, hg, _⟩ := Kd.R_form HO (by simp)
  have HO0 := Aside0.mk HO
  have HB0 := Aside0.mk hb
  clear HO hb
  simp only [List.length_replicate, Int.reduceToNat] at *
  go_loopw [0, 4] (fun v0 v4 w' => ∃ j : Nat, j ≤ 32 ∧ v4 = .int .i64 j ∧ v0 = .int .i64 (n / 2 ^ j) ∧ Aside0 ((Kd.int .i64).R 3 w' w.heap.size (fun _ => True) (.slice (some ⟨g, 0, none⟩) 32 cap) (row32 fun i => if i < j then bitAt n i else 0)) ∧ Aside0 (Below w.heap.size w w')) (fun _ v4 _ => 32 - (intOf v4).toNat)
  case atStart =>
    refine ⟨0, Nat.zero_le _, rfl, by simp, ⟨?_⟩, HB0⟩
    have e : List.replicate 32 (0 : Int) = row32 (fun i => if i < 0 then bitAt n i else 0) := by
      unfold row32
      rfl
    rw [← e]
    exact HO0.out
  case round =>
    clear HO0 HB0
    obtain ⟨j, hj, rfl, rfl, HO, HB⟩ := hrel
    by_cases hlt : j < 32
    · obtain ⟨hc, hf⟩ := R_cellN HO.out j hlt
      have hq : 0 ≤ n / 2 ^ j := Int.ediv_nonneg h0 (by exact Int.le_of_lt (Int.pow_pos (by omega)))
      have hq1 : n / 2 ^ j ≤ 9223372036854775807 := by
        have := Int.ediv_le_self (2 ^ j) h0
        omega
      generalize hz : n / 2 ^ j = z at *
      have HZ := Aside0.mk hz
      clear hz
      go_wp2
      go_roundw
      case rel =>
        refine ⟨j + 1, by omega, by go_num, ?_, ⟨?_⟩, ⟨?_⟩⟩
        · rw [← HZ.out, Int.pow_succ, Int.ediv_ediv_of_nonneg (by exact Int.le_of_lt (Int.pow_pos (by omega)))]
        · have h2 := R_putN HO.out j (z % 2)
          rw [row32_set] at h2
          refine (show _ = _ from row32_congr ?_) ▸ h2
          intro i hi
          by_cases he : i = j
          · subst he
            simp [bitAt, HZ.out]
          · simp only [if_neg he]
            by_cases hl : i < j
            · rw [if_pos hl, if_pos (by omega)]
            · rw [if_neg hl, if_neg (by omega)]
        · exact below_set HB.out hg
      case measure => simp [intOf]; omega
    · obtain rfl : j = 32 := by omega
      go_wp2
      go_ret
      refine ⟨_, rfl, ?_, HB.out⟩
      refine (show _ = _ from row32_congr ?_) ▸ HO.out
      intro i hi
      rw [if_pos hi]

end Go.Proofs.Ytohgmpkehncopaa.A
