/- GFind -/
import Derived.Test.YtmfnbkghfmeekaaZGOpen
namespace Go.Proofs.Ytmfnbkghfmeekaa.A
open Go.RowKit Go.Proofs.YtmfnbkghfmeekaaW.PrintWords Go.Proofs.YtmfnbkghfmeekaaW.PrintLast Go.Proofs.YtmfnbkghfmeekaaW.PrintMore
open R C
open Go.Op (bytesLess)
set_option linter.unusedVariables false
set_option linter.unusedSimpArgs false
theorem nanC_calls (x : ByteArray) (w : World) : Calls Try.prog 102 #[.string x] w fun e w' => e = .returned (.bool false) ∧ w = w' := by
  go_enter Try.func102, Try.ntmps102
  go_wp2_with fail
  go_ret
  exact ⟨by simp, rfl⟩
theorem nanS_calls (x : ByteArray) (w : World) : Calls Try.prog 106 #[.string x] w fun e w' => e = .returned (.bool false) ∧ w = w' := by
  go_enter Try.func106, Try.ntmps106
  go_wp2_with fail
  go_ret
  exact ⟨by simp, rfl⟩
theorem lessS_calls (x y : ByteArray) (w : World) : Calls Try.prog 105 #[.string x, .string y] w fun e w' => e = .returned (.bool (bytesLess x.toList y.toList)) ∧ w = w' := by
  go_enter Try.func105, Try.ntmps105
  go_wp2_with fail
  (with_reducible refine (nanC_calls x w).mono ?_)
  rintro e w1 ⟨rfl, rfl⟩
  go_wp2_with fail
  go_ret
  exact ⟨rfl, rfl⟩
theorem C_atStrR {A : Option Addr} {n : Nat} {l : List ByteArray} {w : World} (h : Kd.string.C w A n l) (i : Nat) (hi : i < n) : ∃ ad, A = some ad ∧ w.cell? (ad.add i) = some (.string (l.getD i ByteArray.empty)) := by
  have hn := h.1
  subst hn
  obtain ⟨ad, e, hc⟩ := h.2.2 (by omega)
  obtain ⟨c, h1, h2, h3⟩ := hc i _ (List.getElem?_eq_getElem hi)
  have h2' : c = [Value.string l[i]] := h2
  subst h2'
  refine ⟨ad, e, ?_⟩
  have := h3 0 _ rfl
  simpa [Kd.string, Kd.scalar, List.getD_eq_getElem?_getD, hi] using this
set_option maxRecDepth 100000 in
set_option maxHeartbeats 4000000 in
theorem bfind_calls (A : Option Addr) (n c : Nat) (ks : List ByteArray) (key : ByteArray) (i : Nat) (w : World) (hr : Kd.string.C w A n ks) (hc : n ≤ c) (hn : n ≤ 100000) (hi : i ≤ n)
    (hlo : ∀ j, j < i → bytesLess (ks.getD j ByteArray.empty).toList key.toList = true) (hhi : ∀ j, i ≤ j → j < n → bytesLess (ks.getD j ByteArray.empty).toList key.toList = false) :
    Calls Try.prog 95 #[.slice A n c, .string key] w fun e w' => e = .returned (.tuple #[.int .i64 (i : Int), .bool (decide (i < n) && ((ks.getD i ByteArray.empty).toList == key.toList))]) ∧ w = w' := by
  obtain ⟨fin, hfin⟩ : ∃ fin, (decide (i < n) && ((ks.getD i ByteArray.empty).toList == key.toList)) = fin := ⟨_, rfl⟩
  rw [hfin]
  have HFIN := Aside0.mk hfin
  clear hfin
  have HR := Aside0.mk hr
  have HLO := Aside0.mk hlo
  have HHI := Aside0.mk hhi
  clear hr hlo hhi
  go_enter Try.func95, Try.ntmps95
  go_wp2_with fail
  go_loopw [7, 8] (fun v7 v8 w' => ∃ lo hi : Nat, v7 = .int .i64 lo ∧ v8 = .int .i64 hi ∧ lo ≤ i ∧ i ≤ hi ∧ hi ≤ n ∧ w = w') (fun v7 v8 _ => (intOf v8).toNat - (intOf v7).toNat)
  case atStart => exact ⟨0, n, rfl, rfl, Nat.zero_le _, by omega, Nat.le_refl _, rfl⟩
  case round =>
    obtain ⟨lo, hh, rfl, rfl, h1, h2, h3, rfl⟩ := hrel
    by_cases hlt : lo < hh
    · obtain ⟨mid, hmid⟩ : ∃ m, (lo + hh) / 2 = m := ⟨_, rfl⟩
      have m1 : lo ≤ mid := by omega
      have m2 : mid < hh := by omega
      have m3 : ((lo : Int) + (hh : Int)) / 2 = (mid : Int) := by omega
      have m4 : (mid : Int) < (n : Int) := by omega
      obtain ⟨ad, rfl, q0⟩ := C_atStrR HR.out mid (by omega)
      obtain ⟨x, hx⟩ : ∃ x, ks.getD mid ByteArray.empty = x := ⟨_, rfl⟩
      rw [hx] at q0
      obtain ⟨q, hq⟩ : ∃ q, bytesLess x.toList key.toList = q := ⟨_, rfl⟩
      have hq1 : q = true → mid < i := fun h => by
        rcases Nat.lt_or_ge mid i with h9 | h9
        · exact h9
        · have := HHI.out mid h9 (by omega); rw [hx, hq, h] at this; cases this
      have hq2 : q = false → i ≤ mid := fun h => by
        rcases Nat.lt_or_ge mid i with h9 | h9
        · have := HLO.out mid h9; rw [hx, hq, h] at this; cases this
        · exact h9
      have HLS := Aside0.mk (fun W => lessS_calls x key W)
      rw [hq] at HLS
      have j1 : (lo : Int) < (hh : Int) := by omega
      clear hx hq hmid
      cases q with
      | true =>
        have hmi := hq1 rfl
        clear hq1 hq2
        go_wp2_with fail
        (with_reducible refine (HLS.out _).mono ?_)
        rintro e w1 ⟨rfl, rfl⟩
        go_wp2_with fail
        go_roundw
        case rel => exact ⟨mid + 1, hh, by push_cast; rfl, rfl, by omega, h2, h3, trivial⟩
        case measure => simp [intOf]; omega
      | false =>
        have hmi := hq2 rfl
        clear hq1 hq2
        go_wp2_with fail
        (with_reducible refine (HLS.out _).mono ?_)
        rintro e w1 ⟨rfl, rfl⟩
        go_wp2_with fail
        go_roundw
        case rel => exact ⟨lo, mid, rfl, rfl, h1, hmi, by omega, trivial⟩
        case measure => simp [intOf]; omega
    · obtain rfl : lo = i := by omega
      have j1 : ¬ (lo : Int) < (hh : Int) := by omega
      by_cases hln : lo < n
      · have m4 : (lo : Int) < (n : Int) := by omega
        obtain ⟨ad, rfl, q0⟩ := C_atStrR HR.out lo hln
        obtain ⟨x, hx⟩ : ∃ x, ks.getD lo ByteArray.empty = x := ⟨_, rfl⟩
        rw [hx] at q0
        obtain ⟨q, hq⟩ : ∃ q, (x.toList == key.toList) = q := ⟨_, rfl⟩
        have HF : Aside0 (fin = q) := ⟨by rw [← HFIN.out, decide_eq_true hln, hx, hq]; rfl⟩
        clear hx
        cases q with
        | true =>
          go_wp2_with fail
          go_ret2
          first | exact ⟨by rw [HF.out]; rfl, rfl⟩ | (rw [HF.out]; rfl)
        | false =>
          go_wp2_with fail
          (with_reducible refine (nanS_calls x _).mono ?_)
          rintro e w1 ⟨rfl, rfl⟩
          go_wp2_with fail
          go_ret2
          first | exact ⟨by rw [HF.out]; rfl, rfl⟩ | (rw [HF.out]; rfl)
      · have m4 : ¬ (lo : Int) < (n : Int) := by omega
        have HF : Aside0 (fin = false) := ⟨by rw [← HFIN.out, decide_eq_false hln]; rfl⟩
        go_wp2_with fail
        go_ret2
        first | exact ⟨by rw [HF.out]; rfl, rfl⟩ | (rw [HF.out]; rfl)
end Go.Proofs.Ytmfnbkghfmeekaa.A
