/- The document's Put and Drop. -/
import Derived.Test.YthilhcdlpfjodaaKItem
namespace Go.Proofs.Ythilhcdlpfjodaa.A
open Go.RowKit Go.Proofs.YthilhcdlpfjodaaW.PrintWords Go.Proofs.YthilhcdlpfjodaaW.PrintLast Go.Proofs.YthilhcdlpfjodaaW.PrintMore
set_option linter.unusedVariables false
set_option linter.unusedSimpArgs false

set_option maxHeartbeats 2000000 in
theorem rput_lo (A : Option Addr) (n c : Nat) (l : List It) (key : ByteArray) (lv : Int) (v : Int) (w : World) (hr : KIt.C w A n l) (hc : n ≤ c) (hn : n ≤ 1000) (hlv : lv < 1) :
    Calls Try.prog 21 #[.slice A n c, .string key, .int .i64 lv, .int .i64 v] w fun e w' => ∃ v', e = .returned (.tuple #[v', .bool (!isS l key)]) ∧ OIt w' w.heap.size v' (if isS l key then l.take (atS l key) ++ ⟨key, (l.getD (atS l key) default).lv, v⟩ :: l.drop (atS l key + 1) else l.take (atS l key) ++ ⟨key, 1, v⟩ :: l.drop (atS l key)) ∧ Below w.heap.size w w' := by
  have HR := Aside0.mk hr
  have HN := Aside0.mk hr.1
  have hrat := rat_calls A n c l key w hr hc hn
  have hp := atS_le l key
  rw [hr.1] at hp
  have j5 : ¬ (8 : Int) < 1 := by omega
  clear hr
  cases hi : isS l key with
  | true =>
    have hpl := (isS_lt hi).1
    rw [HN.out] at hpl
    rw [hi] at hrat
    obtain ⟨p, hpp⟩ : ∃ p, atS l key = p := ⟨_, rfl⟩
    rw [hpp] at hrat hp hpl ⊢
    simp only [if_true, Bool.not_true]
    obtain ⟨p1, hp1⟩ : ∃ p1, p + 1 = p1 := ⟨_, rfl⟩
    rw [hp1]
    obtain ⟨A5, c5, hcf, hC5, hc5⟩ := cutfI A n c l p1 HN.out (by omega) hc
    have hct := cuttI A n c p hp hc
    obtain ⟨ad, rfl, -, q1, -⟩ := C_atIt HR.out p hpl
    have HC5 := Aside0.mk hC5
    have HR2 := Aside0.mk hrat
    obtain ⟨x, hx⟩ : ∃ x, (l.getD p default).lv = x := ⟨_, rfl⟩
    rw [hx] at q1 ⊢
    have Q1 := Aside0.mk q1
    have j1 : (p : Int) < (n : Int) := by omega
    have j2 : (0 : Int) ≤ (p : Int) := by omega
    have j3 : IntKind.i64.wrap ((p : Int) + 1) = (p1 : Int) := by rw [IntWalk.i64_in _ (by omega)]; omega
    have j4 : (p : Int) + 1 = (p1 : Int) := by omega
    have HP1 := Aside0.mk hp1
    have j7 : p1 ≤ n := by omega
    clear hp1
    clear hrat hi hC5 hpp hx q1
    go_enter Try.func21, Try.ntmps21
    go_wp2_with fail
    (with_reducible refine HR2.out.mono ?_)
    rintro e w1 ⟨rfl, hb1⟩
    have HB1 := Aside0.mk hb1
    have HC1 := Aside0.mk (C_takeI (Kd.C_below HR.out hb1) HN.out hp)
    have hl1 : (l.take p).length ≤ 1000 := by rw [List.length_take]; omega
    have HL1 := Aside0.mk hl1
    clear hb1 hl1
    go_wp2_with (first
      | ((with_reducible refine gate_dst (N := 27) rfl ?_); refine app_its (B := w.heap.size) rfl rfl rfl rfl (OIt_nil _ _) HC1.out HB1.out.size (by simp; omega) ?_; intro v2 w2 hO2 hb2 _; have HO2 := Aside0.mk hO2; have HB2 := Aside0.mk (HB1.out.trans hb2); have q2 := pw_cell_below HB2.out Q1.out; clear hO2 hb2)
      | ((with_reducible refine gate_dst (N := 39) rfl ?_); refine app_it (lv := x) rfl rfl rfl rfl HO2.out HB2.out.size (by have := HL1.out; simp; omega) ?_; intro v3 w3 hO3 hb3 _; have HO3 := Aside0.mk hO3; have HB3 := Aside0.mk (HB2.out.trans hb3); clear hO3 hb3)
      | ((with_reducible refine gate_dst (N := 45) rfl ?_); refine app_its rfl rfl rfl rfl HO3.out (HC5.out _ (Kd.C_below HR.out HB3.out)) HB3.out.size (by have := HL1.out; simp; omega) ?_; intro v4 w4 hO4 hb4 _; have HO4 := Aside0.mk hO4; have HB4 := Aside0.mk (HB3.out.trans hb4); clear hO4 hb4))
    go_ret2
    exact ⟨_, rfl, by have h := HO4.out; simpa using h, HB4.out⟩
  | false =>
    rw [hi] at hrat
    obtain ⟨p, hpp⟩ : ∃ p, atS l key = p := ⟨_, rfl⟩
    rw [hpp] at hrat hp ⊢
    simp only [if_false, Bool.not_false, Bool.false_eq_true]
    obtain ⟨A5, c5, hcf, hC5, hc5⟩ := cutfI A n c l p HN.out (by omega) hc
    have hct := cuttI A n c p hp hc
    have HC5 := Aside0.mk hC5
    have HR2 := Aside0.mk hrat
    clear hrat hi hC5 hpp
    go_enter Try.func21, Try.ntmps21
    go_wp2_with fail
    (with_reducible refine HR2.out.mono ?_)
    rintro e w1 ⟨rfl, hb1⟩
    have HB1 := Aside0.mk hb1
    have HC1 := Aside0.mk (C_takeI (Kd.C_below HR.out hb1) HN.out hp)
    have hl1 : (l.take p).length ≤ 1000 := by rw [List.length_take]; omega
    have HL1 := Aside0.mk hl1
    clear hb1 hl1
    go_wp2_with (first
      | ((with_reducible refine gate_dst (N := 27) rfl ?_); refine app_its (B := w.heap.size) rfl rfl rfl rfl (OIt_nil _ _) HC1.out HB1.out.size (by simp; omega) ?_; intro v2 w2 hO2 hb2 _; have HO2 := Aside0.mk hO2; have HB2 := Aside0.mk (HB1.out.trans hb2); clear hO2 hb2)
      | ((with_reducible refine gate_dst (N := 52) rfl ?_); refine app_it (lv := 1) rfl rfl rfl rfl HO2.out HB2.out.size (by have := HL1.out; simp; omega) ?_; intro v3 w3 hO3 hb3 _; have HO3 := Aside0.mk hO3; have HB3 := Aside0.mk (HB2.out.trans hb3); clear hO3 hb3)
      | ((with_reducible refine gate_dst (N := 57) rfl ?_); refine app_its rfl rfl rfl rfl HO3.out (HC5.out _ (Kd.C_below HR.out HB3.out)) HB3.out.size (by have := HL1.out; simp; omega) ?_; intro v4 w4 hO4 hb4 _; have HO4 := Aside0.mk hO4; have HB4 := Aside0.mk (HB3.out.trans hb4); clear hO4 hb4))
    go_ret2
    exact ⟨_, rfl, by have h := HO4.out; simpa using h, HB4.out⟩
set_option maxHeartbeats 2000000 in
theorem rput_hi (A : Option Addr) (n c : Nat) (l : List It) (key : ByteArray) (lv : Int) (v : Int) (w : World) (hr : KIt.C w A n l) (hc : n ≤ c) (hn : n ≤ 1000) (hlv : 8 < lv) :
    Calls Try.prog 21 #[.slice A n c, .string key, .int .i64 lv, .int .i64 v] w fun e w' => ∃ v', e = .returned (.tuple #[v', .bool (!isS l key)]) ∧ OIt w' w.heap.size v' (if isS l key then l.take (atS l key) ++ ⟨key, (l.getD (atS l key) default).lv, v⟩ :: l.drop (atS l key + 1) else l.take (atS l key) ++ ⟨key, 8, v⟩ :: l.drop (atS l key)) ∧ Below w.heap.size w w' := by
  have HR := Aside0.mk hr
  have HN := Aside0.mk hr.1
  have hrat := rat_calls A n c l key w hr hc hn
  have hp := atS_le l key
  rw [hr.1] at hp
  have j5 : ¬ lv < 1 := by omega
  have j6 : (8 : Int) < lv := by omega
  clear hr
  cases hi : isS l key with
  | true =>
    have hpl := (isS_lt hi).1
    rw [HN.out] at hpl
    rw [hi] at hrat
    obtain ⟨p, hpp⟩ : ∃ p, atS l key = p := ⟨_, rfl⟩
    rw [hpp] at hrat hp hpl ⊢
    simp only [if_true, Bool.not_true]
    obtain ⟨p1, hp1⟩ : ∃ p1, p + 1 = p1 := ⟨_, rfl⟩
    rw [hp1]
    obtain ⟨A5, c5, hcf, hC5, hc5⟩ := cutfI A n c l p1 HN.out (by omega) hc
    have hct := cuttI A n c p hp hc
    obtain ⟨ad, rfl, -, q1, -⟩ := C_atIt HR.out p hpl
    have HC5 := Aside0.mk hC5
    have HR2 := Aside0.mk hrat
    obtain ⟨x, hx⟩ : ∃ x, (l.getD p default).lv = x := ⟨_, rfl⟩
    rw [hx] at q1 ⊢
    have Q1 := Aside0.mk q1
    have j1 : (p : Int) < (n : Int) := by omega
    have j2 : (0 : Int) ≤ (p : Int) := by omega
    have j3 : IntKind.i64.wrap ((p : Int) + 1) = (p1 : Int) := by rw [IntWalk.i64_in _ (by omega)]; omega
    have j4 : (p : Int) + 1 = (p1 : Int) := by omega
    have HP1 := Aside0.mk hp1
    have j7 : p1 ≤ n := by omega
    clear hp1
    clear hrat hi hC5 hpp hx q1
    go_enter Try.func21, Try.ntmps21
    go_wp2_with fail
    (with_reducible refine HR2.out.mono ?_)
    rintro e w1 ⟨rfl, hb1⟩
    have HB1 := Aside0.mk hb1
    have HC1 := Aside0.mk (C_takeI (Kd.C_below HR.out hb1) HN.out hp)
    have hl1 : (l.take p).length ≤ 1000 := by rw [List.length_take]; omega
    have HL1 := Aside0.mk hl1
    clear hb1 hl1
    go_wp2_with (first
      | ((with_reducible refine gate_dst (N := 27) rfl ?_); refine app_its (B := w.heap.size) rfl rfl rfl rfl (OIt_nil _ _) HC1.out HB1.out.size (by simp; omega) ?_; intro v2 w2 hO2 hb2 _; have HO2 := Aside0.mk hO2; have HB2 := Aside0.mk (HB1.out.trans hb2); have q2 := pw_cell_below HB2.out Q1.out; clear hO2 hb2)
      | ((with_reducible refine gate_dst (N := 39) rfl ?_); refine app_it (lv := x) rfl rfl rfl rfl HO2.out HB2.out.size (by have := HL1.out; simp; omega) ?_; intro v3 w3 hO3 hb3 _; have HO3 := Aside0.mk hO3; have HB3 := Aside0.mk (HB2.out.trans hb3); clear hO3 hb3)
      | ((with_reducible refine gate_dst (N := 45) rfl ?_); refine app_its rfl rfl rfl rfl HO3.out (HC5.out _ (Kd.C_below HR.out HB3.out)) HB3.out.size (by have := HL1.out; simp; omega) ?_; intro v4 w4 hO4 hb4 _; have HO4 := Aside0.mk hO4; have HB4 := Aside0.mk (HB3.out.trans hb4); clear hO4 hb4))
    go_ret2
    exact ⟨_, rfl, by have h := HO4.out; simpa using h, HB4.out⟩
  | false =>
    rw [hi] at hrat
    obtain ⟨p, hpp⟩ : ∃ p, atS l key = p := ⟨_, rfl⟩
    rw [hpp] at hrat hp ⊢
    simp only [if_false, Bool.not_false, Bool.false_eq_true]
    obtain ⟨A5, c5, hcf, hC5, hc5⟩ := cutfI A n c l p HN.out (by omega) hc
    have hct := cuttI A n c p hp hc
    have HC5 := Aside0.mk hC5
    have HR2 := Aside0.mk hrat
    clear hrat hi hC5 hpp
    go_enter Try.func21, Try.ntmps21
    go_wp2_with fail
    (with_reducible refine HR2.out.mono ?_)
    rintro e w1 ⟨rfl, hb1⟩
    have HB1 := Aside0.mk hb1
    have HC1 := Aside0.mk (C_takeI (Kd.C_below HR.out hb1) HN.out hp)
    have hl1 : (l.take p).length ≤ 1000 := by rw [List.length_take]; omega
    have HL1 := Aside0.mk hl1
    clear hb1 hl1
    go_wp2_with (first
      | ((with_reducible refine gate_dst (N := 27) rfl ?_); refine app_its (B := w.heap.size) rfl rfl rfl rfl (OIt_nil _ _) HC1.out HB1.out.size (by simp; omega) ?_; intro v2 w2 hO2 hb2 _; have HO2 := Aside0.mk hO2; have HB2 := Aside0.mk (HB1.out.trans hb2); clear hO2 hb2)
      | ((with_reducible refine gate_dst (N := 52) rfl ?_); refine app_it (lv := 8) rfl rfl rfl rfl HO2.out HB2.out.size (by have := HL1.out; simp; omega) ?_; intro v3 w3 hO3 hb3 _; have HO3 := Aside0.mk hO3; have HB3 := Aside0.mk (HB2.out.trans hb3); clear hO3 hb3)
      | ((with_reducible refine gate_dst (N := 57) rfl ?_); refine app_its rfl rfl rfl rfl HO3.out (HC5.out _ (Kd.C_below HR.out HB3.out)) HB3.out.size (by have := HL1.out; simp; omega) ?_; intro v4 w4 hO4 hb4 _; have HO4 := Aside0.mk hO4; have HB4 := Aside0.mk (HB3.out.trans hb4); clear hO4 hb4))
    go_ret2
    exact ⟨_, rfl, by have h := HO4.out; simpa using h, HB4.out⟩
set_option maxHeartbeats 2000000 in
theorem rput_mid (A : Option Addr) (n c : Nat) (l : List It) (key : ByteArray) (m : Nat) (v : Int) (w : World) (hr : KIt.C w A n l) (hc : n ≤ c) (hn : n ≤ 1000) (hlv1 : 1 ≤ m) (hlv8 : m ≤ 8) :
    Calls Try.prog 21 #[.slice A n c, .string key, .int .i64 (m : Int), .int .i64 v] w fun e w' => ∃ v', e = .returned (.tuple #[v', .bool (!isS l key)]) ∧ OIt w' w.heap.size v' (if isS l key then l.take (atS l key) ++ ⟨key, (l.getD (atS l key) default).lv, v⟩ :: l.drop (atS l key + 1) else l.take (atS l key) ++ ⟨key, m, v⟩ :: l.drop (atS l key)) ∧ Below w.heap.size w w' := by
  have HR := Aside0.mk hr
  have HN := Aside0.mk hr.1
  have hrat := rat_calls A n c l key w hr hc hn
  have hp := atS_le l key
  rw [hr.1] at hp
  have j5 : ¬ (m : Int) < 1 := by omega
  have j6 : ¬ (8 : Int) < (m : Int) := by omega
  clear hr
  cases hi : isS l key with
  | true =>
    have hpl := (isS_lt hi).1
    rw [HN.out] at hpl
    rw [hi] at hrat
    obtain ⟨p, hpp⟩ : ∃ p, atS l key = p := ⟨_, rfl⟩
    rw [hpp] at hrat hp hpl ⊢
    simp only [if_true, Bool.not_true]
    obtain ⟨p1, hp1⟩ : ∃ p1, p + 1 = p1 := ⟨_, rfl⟩
    rw [hp1]
    obtain ⟨A5, c5, hcf, hC5, hc5⟩ := cutfI A n c l p1 HN.out (by omega) hc
    have hct := cuttI A n c p hp hc
    obtain ⟨ad, rfl, -, q1, -⟩ := C_atIt HR.out p hpl
    have HC5 := Aside0.mk hC5
    have HR2 := Aside0.mk hrat
    obtain ⟨x, hx⟩ : ∃ x, (l.getD p default).lv = x := ⟨_, rfl⟩
    rw [hx] at q1 ⊢
    have Q1 := Aside0.mk q1
    have j1 : (p : Int) < (n : Int) := by omega
    have j2 : (0 : Int) ≤ (p : Int) := by omega
    have j3 : IntKind.i64.wrap ((p : Int) + 1) = (p1 : Int) := by rw [IntWalk.i64_in _ (by omega)]; omega
    have j4 : (p : Int) + 1 = (p1 : Int) := by omega
    have HP1 := Aside0.mk hp1
    have j7 : p1 ≤ n := by omega
    clear hp1
    clear hrat hi hC5 hpp hx q1
    go_enter Try.func21, Try.ntmps21
    go_wp2_with fail
    (with_reducible refine HR2.out.mono ?_)
    rintro e w1 ⟨rfl, hb1⟩
    have HB1 := Aside0.mk hb1
    have HC1 := Aside0.mk (C_takeI (Kd.C_below HR.out hb1) HN.out hp)
    have hl1 : (l.take p).length ≤ 1000 := by rw [List.length_take]; omega
    have HL1 := Aside0.mk hl1
    clear hb1 hl1
    go_wp2_with (first
      | ((with_reducible refine gate_dst (N := 27) rfl ?_); refine app_its (B := w.heap.size) rfl rfl rfl rfl (OIt_nil _ _) HC1.out HB1.out.size (by simp; omega) ?_; intro v2 w2 hO2 hb2 _; have HO2 := Aside0.mk hO2; have HB2 := Aside0.mk (HB1.out.trans hb2); have q2 := pw_cell_below HB2.out Q1.out; clear hO2 hb2)
      | ((with_reducible refine gate_dst (N := 39) rfl ?_); refine app_it (lv := x) rfl rfl rfl rfl HO2.out HB2.out.size (by have := HL1.out; simp; omega) ?_; intro v3 w3 hO3 hb3 _; have HO3 := Aside0.mk hO3; have HB3 := Aside0.mk (HB2.out.trans hb3); clear hO3 hb3)
      | ((with_reducible refine gate_dst (N := 45) rfl ?_); refine app_its rfl rfl rfl rfl HO3.out (HC5.out _ (Kd.C_below HR.out HB3.out)) HB3.out.size (by have := HL1.out; simp; omega) ?_; intro v4 w4 hO4 hb4 _; have HO4 := Aside0.mk hO4; have HB4 := Aside0.mk (HB3.out.trans hb4); clear hO4 hb4))
    go_ret2
    exact ⟨_, rfl, by have h := HO4.out; simpa using h, HB4.out⟩
  | false =>
    rw [hi] at hrat
    obtain ⟨p, hpp⟩ : ∃ p, atS l key = p := ⟨_, rfl⟩
    rw [hpp] at hrat hp ⊢
    simp only [if_false, Bool.not_false, Bool.false_eq_true]
    obtain ⟨A5, c5, hcf, hC5, hc5⟩ := cutfI A n c l p HN.out (by omega) hc
    have hct := cuttI A n c p hp hc
    have HC5 := Aside0.mk hC5
    have HR2 := Aside0.mk hrat
    clear hrat hi hC5 hpp
    go_enter Try.func21, Try.ntmps21
    go_wp2_with fail
    (with_reducible refine HR2.out.mono ?_)
    rintro e w1 ⟨rfl, hb1⟩
    have HB1 := Aside0.mk hb1
    have HC1 := Aside0.mk (C_takeI (Kd.C_below HR.out hb1) HN.out hp)
    have hl1 : (l.take p).length ≤ 1000 := by rw [List.length_take]; omega
    have HL1 := Aside0.mk hl1
    clear hb1 hl1
    go_wp2_with (first
      | ((with_reducible refine gate_dst (N := 27) rfl ?_); refine app_its (B := w.heap.size) rfl rfl rfl rfl (OIt_nil _ _) HC1.out HB1.out.size (by simp; omega) ?_; intro v2 w2 hO2 hb2 _; have HO2 := Aside0.mk hO2; have HB2 := Aside0.mk (HB1.out.trans hb2); clear hO2 hb2)
      | ((with_reducible refine gate_dst (N := 52) rfl ?_); refine app_it (lv := m) rfl rfl rfl rfl HO2.out HB2.out.size (by have := HL1.out; simp; omega) ?_; intro v3 w3 hO3 hb3 _; have HO3 := Aside0.mk hO3; have HB3 := Aside0.mk (HB2.out.trans hb3); clear hO3 hb3)
      | ((with_reducible refine gate_dst (N := 57) rfl ?_); refine app_its rfl rfl rfl rfl HO3.out (HC5.out _ (Kd.C_below HR.out HB3.out)) HB3.out.size (by have := HL1.out; simp; omega) ?_; intro v4 w4 hO4 hb4 _; have HO4 := Aside0.mk hO4; have HB4 := Aside0.mk (HB3.out.trans hb4); clear hO4 hb4))
    go_ret2
    exact ⟨_, rfl, by have h := HO4.out; simpa using h, HB4.out⟩
theorem rput_calls (A : Option Addr) (n c : Nat) (l : List It) (key : ByteArray) (lv v : Int) (w : World) (hr : KIt.C w A n l) (hc : n ≤ c) (hn : n ≤ 1000) :
    Calls Try.prog 21 #[.slice A n c, .string key, .int .i64 lv, .int .i64 v] w fun e w' => ∃ v', e = .returned (.tuple #[v', .bool (!isS l key)]) ∧ OIt w' w.heap.size v' (putS l key lv v) ∧ Below w.heap.size w w' := by
  by_cases h1 : lv < 1
  · have h := rput_lo A n c l key lv v w hr hc hn h1
    unfold putS
    rw [show clampL lv = 1 by unfold clampL; rw [if_pos h1]]
    exact h
  · by_cases h2 : 8 < lv
    · have h := rput_hi A n c l key lv v w hr hc hn h2
      unfold putS
      rw [show clampL lv = 8 by unfold clampL; rw [if_neg h1, if_pos h2]]
      exact h
    · obtain ⟨m, rfl⟩ : ∃ m : Nat, lv = (m : Int) := ⟨lv.toNat, by omega⟩
      have h := rput_mid A n c l key m v w hr hc hn (by omega) (by omega)
      unfold putS
      rw [show clampL (m : Int) = m by unfold clampL; rw [if_neg h1, if_neg h2]; omega]
      exact h
set_option maxHeartbeats 2000000 in
theorem rdrop_calls (A : Option Addr) (n c : Nat) (l : List It) (key : ByteArray) (w : World) (B : Nat) (hB : B ≤ w.heap.size) (hr : OIt w B (.slice A n c) l) (hc : n ≤ c) (hn : n ≤ 1000) :
    Calls Try.prog 23 #[.slice A n c, .string key] w fun e w' => ∃ v', e = .returned (.tuple #[v', .bool (isS l key)]) ∧ OIt w' B v' (dropS l key) ∧ Below w.heap.size w w' := by
  have HO := Aside0.mk hr
  have hnl : l.length = n := (Kd.R_reads' hr).1.symm
  obtain ⟨A', c', e, hc', hr'⟩ := OIt_readn hr n hnl
  injection e with e1 e2 e3
  subst e1
  have HR := Aside0.mk hr'
  have HN := Aside0.mk hnl
  have hrat := rat_calls A n c l key w hr' hc hn
  have hp := atS_le l key
  rw [hnl] at hp
  have hdn := @dropS_no l key
  have hdy := @dropS_yes l key
  clear hr hr' hnl e2 e3 hc'
  cases hi : isS l key with
  | false =>
    rw [hi] at hrat
    rw [hdn hi]
    have HR2 := Aside0.mk hrat
    clear hrat hi hdn hdy
    go_enter Try.func23, Try.ntmps23
    go_wp2_with fail
    (with_reducible refine HR2.out.mono ?_)
    rintro e w1 ⟨rfl, hb1⟩
    have HB1 := Aside0.mk hb1
    clear hb1
    go_wp2_with fail
    go_ret2
    exact ⟨_, rfl, Kd.R_below HO.out HB1.out, HB1.out⟩
  | true =>
    have hpl := (isS_lt hi).1
    rw [HN.out] at hpl
    rw [hi] at hrat
    rw [hdy hi]
    obtain ⟨p, hpp⟩ : ∃ p, atS l key = p := ⟨_, rfl⟩
    rw [hpp] at hrat hp hpl ⊢
    obtain ⟨p1, hp1⟩ : ∃ p1, p + 1 = p1 := ⟨_, rfl⟩
    rw [hp1]
    obtain ⟨A5, c5, hcf, hC5, hc5⟩ := cutfI A n c l p1 HN.out (by omega) hc
    have hct := cuttI A n c p hp hc
    have HC5 := Aside0.mk hC5
    have HR2 := Aside0.mk hrat
    have j3 : IntKind.i64.wrap ((p : Int) + 1) = (p1 : Int) := by rw [IntWalk.i64_in _ (by omega)]; omega
    have j4 : (p : Int) + 1 = (p1 : Int) := by omega
    have HP1 := Aside0.mk hp1
    have j7 : p1 ≤ n := by omega
    clear hp1
    clear hrat hi hC5 hpp hdn hdy
    go_enter Try.func23, Try.ntmps23
    go_wp2_with fail
    (with_reducible refine HR2.out.mono ?_)
    rintro e w1 ⟨rfl, hb1⟩
    have HB1 := Aside0.mk hb1
    have HC1 := Aside0.mk (C_takeI (Kd.C_below HR.out hb1) HN.out hp)
    have hl1 : (l.take p).length ≤ 1000 := by rw [List.length_take]; omega
    have HL1 := Aside0.mk hl1
    clear hb1 hl1
    go_wp2_with (first
      | ((with_reducible refine gate_dst (N := 22) rfl ?_); refine app_its (B := w.heap.size) rfl rfl rfl rfl (OIt_nil _ _) HC1.out HB1.out.size (by simp; omega) ?_; intro v2 w2 hO2 hb2 _; have HO2 := Aside0.mk hO2; have HB2 := Aside0.mk (HB1.out.trans hb2); clear hO2 hb2)
      | ((with_reducible refine gate_dst (N := 28) rfl ?_); refine app_its rfl rfl rfl rfl HO2.out (HC5.out _ (Kd.C_below HR.out HB2.out)) HB2.out.size (by have := HL1.out; simp; omega) ?_; intro v4 w4 hO4 hb4 _; have HO4 := Aside0.mk hO4; have HB4 := Aside0.mk (HB2.out.trans hb4); clear hO4 hb4))
    go_ret2
    exact ⟨_, rfl, by have h := Kd.R_lower HO4.out hB; simpa using h, HB4.out⟩
end Go.Proofs.Ythilhcdlpfjodaa.A
