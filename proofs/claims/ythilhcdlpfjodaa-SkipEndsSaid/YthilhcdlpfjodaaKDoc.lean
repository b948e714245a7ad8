/- The document's Row, Height, From, Floor, Same; the list's Height. -/
import Derived.Test.YthilhcdlpfjodaaKDocPut
namespace Go.Proofs.Ythilhcdlpfjodaa.A
open Go.RowKit Go.Proofs.YthilhcdlpfjodaaW.PrintWords Go.Proofs.YthilhcdlpfjodaaW.PrintLast Go.Proofs.YthilhcdlpfjodaaW.PrintMore
set_option linter.unusedVariables false
set_option linter.unusedSimpArgs false

theorem take_it (l : List It) (i : Nat) (hi : i < l.length) : l.take (i + 1) = l.take i ++ [l.getD i default] := by
  rw [List.take_succ_eq_append_getElem hi, List.getD_eq_getElem?_getD, List.getElem?_eq_getElem hi]
  rfl
theorem rowS_step (l : List It) (lv : Int) (i : Nat) (hi : i < l.length) : rowS (l.take (i + 1)) lv = rowS (l.take i) lv ++ (if 1 ≤ lv ∧ lv ≤ 8 ∧ lv ≤ ((l.getD i default).lv : Int) then [(l.getD i default).k] else []) := by
  unfold rowS
  rw [take_it l i hi]
  by_cases h : 1 ≤ lv ∧ lv ≤ 8
  · rw [if_pos h, if_pos h, List.filter_append, List.map_append]
    congr 1
    by_cases h2 : lv ≤ ((l.getD i default).lv : Int)
    · rw [if_pos ⟨h.1, h.2, h2⟩, List.filter_cons_of_pos (by simpa using h2)]
      rfl
    · rw [if_neg (fun h3 => h2 h3.2.2), List.filter_cons_of_neg (by simpa using h2)]
      rfl
  · rw [if_neg h, if_neg h, if_neg (fun h3 => h ⟨h3.1, h3.2.1⟩)]
    rfl
theorem rowS_zero (l : List It) (lv : Int) : rowS (l.take 0) lv = [] := by
  unfold rowS
  split <;> rfl
theorem rowS_len (l : List It) (lv : Int) : (rowS l lv).length ≤ l.length := by
  unfold rowS
  split
  · rw [List.length_map]; exact List.length_filter_le _ _
  · simp
theorem rowS_all (l : List It) (lv : Int) (n : Nat) (hn : l.length ≤ n) : rowS (l.take n) lv = rowS l lv := by rw [List.take_of_length_le hn]
set_option maxHeartbeats 2000000 in
theorem rrow_calls (A : Option Addr) (n c : Nat) (l : List It) (level : Int) (w : World) (hr : KIt.C w A n l) (hc : n ≤ c) (hn : n ≤ 1000) :
    Calls Try.prog 31 #[.slice A n c, .int .i64 level] w fun e w' => ∃ v', e = .returned v' ∧ OStr w' w.heap.size v' (rowS l level) ∧ Below w.heap.size w w' := by
  have HR := Aside0.mk hr
  have HN := Aside0.mk hr.1
  clear hr
  go_enter Try.func31, Try.ntmps31
  go_wp2_with fail
  go_loopw [5, 6] (fun v5 v6 w' => ∃ (i : Nat), i ≤ n ∧ v6 = .int .i64 i ∧ Aside0 (OStr w' w.heap.size v5 (rowS (l.take i) level)) ∧ Aside0 (Below w.heap.size w w')) (fun _ v6 _ => n - (intOf v6).toNat)
  case atStart => exact ⟨0, Nat.zero_le _, rfl, ⟨by rw [rowS_zero]; exact Kd.R_nil _ _ _ _ _⟩, ⟨Below.refl _ _⟩⟩
  case round =>
    obtain ⟨i, hin, rfl, HO, HB⟩ := hrel
    by_cases hlt : i < n
    · obtain ⟨ad, rfl, q0, q1, -⟩ := C_atIt HR.out i hlt
      have p0 := pw_cell_below HB.out q0
      have p1 := pw_cell_below HB.out q1
      have hst := rowS_step l level i (by rw [HN.out]; exact hlt)
      have hl1 := rowS_len (l.take i) level
      rw [List.length_take] at hl1
      obtain ⟨k, hk⟩ : ∃ k, (l.getD i default).k = k := ⟨_, rfl⟩
      obtain ⟨x, hx⟩ : ∃ k, (l.getD i default).lv = k := ⟨_, rfl⟩
      rw [hk] at p0
      rw [hx] at p1
      rw [hk, hx] at hst
      have j1 : (i : Int) < (n : Int) := by omega
      have j2 : (0 : Int) ≤ (i : Int) := by omega
      have HL1 : Aside0 ((rowS (l.take i) level).length ≤ 1000000) := ⟨by omega⟩
      clear q0 q1 hk hx hl1
      by_cases c1 : 1 ≤ level
      · by_cases c2 : level ≤ 8
        · by_cases c3 : level ≤ (x : Int)
          · rw [if_pos ⟨c1, c2, c3⟩] at hst
            have HST := Aside0.mk hst
            clear hst
            go_wp2_with ((with_reducible refine gate_dst (N := 35) rfl ?_); refine app_key rfl rfl rfl rfl HO.out HB.out.size HL1.out ?_; intro v7 w7 hO7 hb7 _; have HO7 := Aside0.mk hO7; have HB7 := Aside0.mk (HB.out.trans hb7); clear hO7 hb7)
            go_roundw
            case rel => exact ⟨i + 1, hlt, by push_cast; rfl, ⟨by rw [HST.out]; exact HO7.out⟩, HB7⟩
            case measure => simp [intOf]; omega
          · rw [if_neg (fun h => c3 h.2.2), List.append_nil] at hst
            have HST := Aside0.mk hst
            have c3' : (x : Int) < level := by omega
            clear hst
            go_wp2_with fail
            go_roundw
            case rel => exact ⟨i + 1, hlt, by push_cast; rfl, ⟨by rw [HST.out]; exact HO.out⟩, HB⟩
            case measure => simp [intOf]; omega
        · rw [if_neg (fun h => c2 h.2.1), List.append_nil] at hst
          have HST := Aside0.mk hst
          have c3' : (8 : Int) < level := by omega
          clear hst
          go_wp2_with fail
          go_roundw
          case rel => exact ⟨i + 1, hlt, by push_cast; rfl, ⟨by rw [HST.out]; exact HO.out⟩, HB⟩
          case measure => simp [intOf]; omega
      · rw [if_neg (fun h => c1 h.1), List.append_nil] at hst
        have HST := Aside0.mk hst
        have c3' : level < (1 : Int) := by omega
        clear hst
        go_wp2_with fail
        go_roundw
        case rel => exact ⟨i + 1, hlt, by push_cast; rfl, ⟨by rw [HST.out]; exact HO.out⟩, HB⟩
        case measure => simp [intOf]; omega
    · have j1 : ¬ (i : Int) < (n : Int) := by omega
      have H1 : Aside0 (rowS (l.take i) level = rowS l level) := ⟨rowS_all l level i (by have := HN.out; omega)⟩
      go_wp2_with fail
      go_ret
      exact ⟨_, rfl, by rw [← H1.out]; exact HO.out, HB.out⟩
theorem heightS_step (l : List It) (i : Nat) (hi : i < l.length) : heightS (l.take (i + 1)) = if heightS (l.take i) < (l.getD i default).lv then (l.getD i default).lv else heightS (l.take i) := by
  rw [take_it l i hi]
  unfold heightS
  rw [List.foldl_append]
  rfl
set_option maxHeartbeats 2000000 in
theorem rheight_calls (A : Option Addr) (n c : Nat) (l : List It) (w : World) (hr : KIt.C w A n l) (hc : n ≤ c) (hn : n ≤ 1000) :
    Calls Try.prog 30 #[.slice A n c] w fun e w' => e = .returned (.int .i64 (heightS l : Int)) ∧ w = w' := by
  have HR := Aside0.mk hr
  have HN := Aside0.mk hr.1
  clear hr
  go_enter Try.func30, Try.ntmps30
  go_wp2_with fail
  go_loopw [3, 4] (fun v3 v4 w' => ∃ (i m : Nat), i ≤ n ∧ v4 = .int .i64 i ∧ v3 = .int .i64 m ∧ Aside0 (m = heightS (l.take i)) ∧ w = w') (fun _ v4 _ => n - (intOf v4).toNat)
  case atStart => exact ⟨0, 0, Nat.zero_le _, rfl, rfl, ⟨rfl⟩, rfl⟩
  case round =>
    obtain ⟨i, m, hin, rfl, rfl, HM, rfl⟩ := hrel
    by_cases hlt : i < n
    · obtain ⟨ad, rfl, -, q1, -⟩ := C_atIt HR.out i hlt
      have hst := heightS_step l i (by rw [HN.out]; exact hlt)
      obtain ⟨x, hx⟩ : ∃ k, (l.getD i default).lv = k := ⟨_, rfl⟩
      rw [hx] at q1
      rw [hx, ← HM.out] at hst
      have j1 : (i : Int) < (n : Int) := by omega
      have j2 : (0 : Int) ≤ (i : Int) := by omega
      clear hx
      by_cases c1 : m < x
      · rw [if_pos c1] at hst
        have HST := Aside0.mk hst
        have c2 : (m : Int) < (x : Int) := by omega
        clear hst
        go_wp2_with fail
        go_roundw
        case rel => exact ⟨i + 1, x, hlt, by push_cast; rfl, rfl, ⟨HST.out.symm⟩, trivial⟩
        case measure => simp [intOf]; omega
      · rw [if_neg c1] at hst
        have HST := Aside0.mk hst
        have c2 : ¬ (m : Int) < (x : Int) := by omega
        clear hst
        go_wp2_with fail
        go_roundw
        case rel => exact ⟨i + 1, m, hlt, by push_cast; rfl, rfl, ⟨HST.out.symm⟩, trivial⟩
        case measure => simp [intOf]; omega
    · have j1 : ¬ (i : Int) < (n : Int) := by omega
      have H1 : Aside0 (m = heightS l) := ⟨by have h9 := HM.out; rwa [List.take_of_length_le (by have := HN.out; omega)] at h9⟩
      go_wp2_with fail
      go_ret
      exact ⟨by rw [← H1.out]; rfl, rfl⟩
set_option maxHeartbeats 2000000 in
theorem rfrom_calls (A : Option Addr) (n c : Nat) (l : List It) (key : ByteArray) (w : World) (hr : KIt.C w A n l) (hc : n ≤ c) (hn : n ≤ 1000) :
    Calls Try.prog 18 #[.slice A n c, .string key] w fun e w' => ∃ A' c', e = .returned (.slice A' (n - atS l key) c') ∧ n - atS l key ≤ c' ∧ (∀ W : World, KIt.C W A n l → KIt.C W A' (n - atS l key) (fromS l key)) ∧ Below w.heap.size w w' := by
  have hrat := rat_calls A n c l key w hr hc hn
  have hp := atS_le l key
  rw [hr.1] at hp
  obtain ⟨A5, c5, hcf, hC5, hc5⟩ := cutfI A n c l (atS l key) hr.1 hp hc
  have HC5 : Aside0 (∀ W : World, KIt.C W A n l → KIt.C W A5 (n - atS l key) (fromS l key)) := ⟨hC5⟩
  obtain ⟨p, hpp⟩ : ∃ p, atS l key = p := ⟨_, rfl⟩
  rw [hpp] at hrat hcf HC5 hc5 hp ⊢
  have HR2 := Aside0.mk hrat
  clear hr hrat hC5 hpp
  go_enter Try.func18, Try.ntmps18
  go_wp2_with fail
  (with_reducible refine HR2.out.mono ?_)
  rintro e w1 ⟨rfl, hb1⟩
  have HB1 := Aside0.mk hb1
  clear hb1
  go_wp2_with fail
  go_ret
  exact ⟨A5, c5, rfl, hc5, HC5.out, HB1.out⟩
set_option maxHeartbeats 2000000 in
theorem rfloor_calls (A : Option Addr) (n c : Nat) (l : List It) (key : ByteArray) (w : World) (hr : KIt.C w A n l) (hc : n ≤ c) (hn : n ≤ 1000) :
    Calls Try.prog 25 #[.slice A n c, .string key] w fun e w' => e = .returned (.tuple #[.string (floorS l key).1, .bool (floorS l key).2]) ∧ Below w.heap.size w w' := by
  have hrat := rat_calls A n c l key w hr hc hn
  have hp := atS_le l key
  rw [hr.1] at hp
  have HR := Aside0.mk hr
  cases hi : isS l key with
  | true =>
    have e2 : floorS l key = (key, true) := by unfold floorS; rw [hi]; rfl
    rw [e2]
    rw [hi] at hrat
    have HR2 := Aside0.mk hrat
    clear hr hrat e2 hi
    go_enter Try.func25, Try.ntmps25
    go_wp2_with fail
    (with_reducible refine HR2.out.mono ?_)
    rintro e w1 ⟨rfl, hb1⟩
    have HB1 := Aside0.mk hb1
    clear hb1
    go_wp2_with fail
    go_ret2
    exact ⟨rfl, HB1.out⟩
  | false =>
    rw [hi] at hrat
    by_cases h0 : atS l key = 0
    · have e2 : floorS l key = (ByteArray.empty, false) := by unfold floorS; rw [hi, if_pos h0]; rfl
      rw [e2]
      rw [h0] at hrat
      have HR2 := Aside0.mk hrat
      clear hr hrat e2 hi h0 hp
      go_enter Try.func25, Try.ntmps25
      go_wp2_with fail
      (with_reducible refine HR2.out.mono ?_)
      rintro e w1 ⟨rfl, hb1⟩
      have HB1 := Aside0.mk hb1
      clear hb1
      go_wp2_with fail
      go_ret2
      exact ⟨rfl, HB1.out⟩
    · have e2 : floorS l key = ((l.getD (atS l key - 1) default).k, true) := by unfold floorS; rw [hi, if_neg h0]; rfl
      rw [e2]
      obtain ⟨p, hpp⟩ : ∃ p, atS l key = p + 1 := ⟨atS l key - 1, by omega⟩
      rw [hpp] at hrat hp ⊢
      obtain ⟨ad, rfl, q0, -, -⟩ := C_atIt hr p (by omega)
      obtain ⟨k, hk⟩ : ∃ k, (l.getD (p + 1 - 1) default).k = k := ⟨_, rfl⟩
      rw [hk]
      rw [show (l.getD p default).k = k from hk] at q0
      have HR2 := Aside0.mk hrat
      have Q0 := Aside0.mk q0
      obtain ⟨z, hz⟩ : ∃ z : Int, ((p + 1 : Nat) : Int) = z := ⟨_, rfl⟩
      rw [hz] at HR2
      have j1 : ¬ z = 0 := by omega
      have j3 : z - 1 = (p : Int) := by omega
      have j4 : IntKind.i64.wrap (z - 1) = (p : Int) := by rw [IntWalk.i64_in _ (by omega)]; omega
      have j5 : (p : Int) < (n : Int) := by omega
      have j6 : (z == 0) = false := by simpa using j1
      clear hr hrat e2 hi h0 hp hpp q0 hk hz
      go_enter Try.func25, Try.ntmps25
      go_wp2_with fail
      (with_reducible refine HR2.out.mono ?_)
      rintro e w1 ⟨rfl, hb1⟩
      have HB1 := Aside0.mk hb1
      have q0 := pw_cell_below hb1 Q0.out
      clear hb1
      go_wp2_with fail
      go_ret2
      exact ⟨rfl, HB1.out⟩
end Go.Proofs.Ythilhcdlpfjodaa.A
