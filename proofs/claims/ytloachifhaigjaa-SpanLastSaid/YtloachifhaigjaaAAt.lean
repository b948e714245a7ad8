/- What stands at a time: the program's and the document's. -/
import Derived.Test.YtloachifhaigjaaAPiece
namespace Go.Proofs.Ytloachifhaigjaa.A
open Go.RowKit Go.Proofs.YtloachifhaigjaaW.PrintWords Go.Proofs.YtloachifhaigjaaW.PrintLast Go.Proofs.YtloachifhaigjaaW.PrintMore
set_option linter.unusedVariables false
set_option linter.unusedSimpArgs false

theorem drop_pc (l : List Pc) (k : Nat) (hk : k < l.length) : l.drop k = l.getD k default :: l.drop (k + 1) := by
  rw [List.drop_eq_getElem_cons hk]
  simp [List.getD_eq_getElem?_getD, hk]
set_option maxRecDepth 100000 in
set_option maxHeartbeats 1000000 in
theorem at_calls (A : Option Addr) (n c : Nat) (l : List Pc) (x : Int) (w : World) (hr : KPc.C w A n l) (hc : n ≤ c) :
    Calls Try.prog 23 #[.slice A n c, .int .i64 x] w fun e w' => e = .returned (.tuple #[.string (atL l x).1, .bool (atL l x).2]) ∧ Below w.heap.size w w' := by
  have HR := Aside0.mk hr
  have HN := Aside0.mk hr.1
  have hm : n ≤ 9223372036854775807 := hr.2.1
  clear hr
  go_enter Try.func23, Try.ntmps23
  go_wp2_with fail
  go_loopw [10] (fun v10 w' => ∃ k : Nat, k ≤ n ∧ v10 = .int .i64 k ∧ Aside0 (atL (l.drop k) x = atL l x) ∧ Aside0 (Below w.heap.size w w')) (fun v10 _ => n - (intOf v10).toNat)
  case atStart => exact ⟨0, Nat.zero_le _, rfl, ⟨rfl⟩, ⟨Below.refl _ _⟩⟩
  case round =>
    obtain ⟨k, hk, rfl, HE, HB⟩ := hrel
    by_cases hlt : k < n
    · obtain ⟨ad, rfl, q0, q1, q2⟩ := C_atPc HR.out k hlt
      have p0 := pw_cell_below HB.out q0
      have p1 := pw_cell_below HB.out q1
      have p2 := pw_cell_below HB.out q2
      have hE := HE.out
      rw [drop_pc l k (by rw [HN.out]; exact hlt)] at hE
      clear q0 q1 q2 HE
      generalize l.getD k default = p at *
      obtain ⟨f, t, v⟩ := p
      rw [atL] at hE
      simp only at p0 p1 p2 hE
      have i1 : (k : Int) < (n : Int) := by omega
      have i2 : (0 : Int) ≤ (k : Int) := by omega
      by_cases hh : Sp.has ⟨f, t⟩ x = true
      · rw [if_pos hh] at hE
        have HD := Aside0.mk hE
        have HH := Aside0.mk hh
        clear hE hh
        go_wp2_with fail
        (with_reducible refine (has_calls _ _ _ _).mono ?_)
        rw [HH.out]
        rintro e w1 ⟨rfl, rfl⟩
        have HB2 := Aside0.mk (below_alloc (below_alloc (below_alloc HB.out (.cells #[.int .i64 f, .int .i64 t, .string v] 42)) (spBox f t)) (spBox f t))
        go_wp2_with fail
        go_ret2
        exact ⟨by rw [← HD.out]; rfl, HB2.out⟩
      · have hh2 : Sp.has ⟨f, t⟩ x = false := by simpa using hh
        rw [if_neg hh] at hE
        have HD := Aside0.mk hE
        have HH := Aside0.mk hh2
        clear hE hh hh2
        go_wp2_with fail
        (with_reducible refine (has_calls _ _ _ _).mono ?_)
        rw [HH.out]
        rintro e w1 ⟨rfl, rfl⟩
        have HB2 := Aside0.mk (below_alloc (below_alloc (below_alloc HB.out (.cells #[.int .i64 f, .int .i64 t, .string v] 42)) (spBox f t)) (spBox f t))
        go_wp2_with fail
        go_roundw
        case rel => exact ⟨k + 1, hlt, rfl, HD, HB2⟩
        case measure => simp [intOf]; omega
    · obtain rfl : k = n := by omega
      have hE := HE.out
      rw [List.drop_of_length_le (by rw [HN.out]; omega), atL] at hE
      have HD := Aside0.mk hE
      clear hE HE
      go_wp2_with fail
      go_ret2
      exact ⟨by rw [← HD.out]; rfl, HB.out⟩

set_option maxRecDepth 100000 in
set_option maxHeartbeats 1000000 in
theorem rat_calls (A : Option Addr) (n c : Nat) (l : List Pc) (x : Int) (w : World) (hr : KPc.C w A n l) (hc : n ≤ c) :
    Calls Try.prog 24 #[.slice A n c, .int .i64 x] w fun e w' => e = .returned (.tuple #[.string (atL l x).1, .bool (atL l x).2]) ∧ Below w.heap.size w w' := by
  have HR := Aside0.mk hr
  have HN := Aside0.mk hr.1
  have hm : n ≤ 9223372036854775807 := hr.2.1
  clear hr
  go_enter Try.func24, Try.ntmps24
  go_wp2_with fail
  go_loopw [6] (fun v6 w' => ∃ k : Nat, k ≤ n ∧ v6 = .int .i64 k ∧ Aside0 (atL (l.drop k) x = atL l x) ∧ Aside0 (Below w.heap.size w w')) (fun v6 _ => n - (intOf v6).toNat)
  case atStart => exact ⟨0, Nat.zero_le _, rfl, ⟨rfl⟩, ⟨Below.refl _ _⟩⟩
  case round =>
    obtain ⟨k, hk, rfl, HE, HB⟩ := hrel
    by_cases hlt : k < n
    · obtain ⟨ad, rfl, q0, q1, q2⟩ := C_atPc HR.out k hlt
      have p0 := pw_cell_below HB.out q0
      have p1 := pw_cell_below HB.out q1
      have p2 := pw_cell_below HB.out q2
      have hE := HE.out
      rw [drop_pc l k (by rw [HN.out]; exact hlt)] at hE
      clear q0 q1 q2 HE
      generalize l.getD k default = p at *
      obtain ⟨f, t, v⟩ := p
      rw [atL] at hE
      simp only at p0 p1 p2 hE
      have i1 : (k : Int) < (n : Int) := by omega
      have i2 : (0 : Int) ≤ (k : Int) := by omega
      by_cases hh : Sp.has ⟨f, t⟩ x = true
      · rw [if_pos hh] at hE
        have HD := Aside0.mk hE
        have HH := Aside0.mk hh
        clear hE hh
        go_wp2_with fail
        (with_reducible refine (rhas_below _ _ _ _).mono ?_)
        rw [HH.out]
        rintro e w1 ⟨rfl, hb1⟩
        have p2' := pw_cell_below hb1 p2
        have HB2 := Aside0.mk (below_step HB.out hb1)
        clear p0 p1 p2 hb1
        go_wp2_with fail
        go_ret2
        exact ⟨by rw [← HD.out]; rfl, HB2.out⟩
      · have hh2 : Sp.has ⟨f, t⟩ x = false := by simpa using hh
        rw [if_neg hh] at hE
        have HD := Aside0.mk hE
        have HH := Aside0.mk hh2
        clear hE hh hh2
        go_wp2_with fail
        (with_reducible refine (rhas_below _ _ _ _).mono ?_)
        rw [HH.out]
        rintro e w1 ⟨rfl, hb1⟩
        have HB2 := Aside0.mk (below_step HB.out hb1)
        clear hb1
        go_wp2_with fail
        go_roundw
        case rel => exact ⟨k + 1, hlt, rfl, HD, HB2⟩
        case measure => simp [intOf]; omega
    · obtain rfl : k = n := by omega
      have hE := HE.out
      rw [List.drop_of_length_le (by rw [HN.out]; omega), atL] at hE
      have HD := Aside0.mk hE
      clear hE HE
      go_wp2_with fail
      go_ret2
      exact ⟨by rw [← HD.out]; rfl, HB.out⟩
end Go.Proofs.Ytloachifhaigjaa.A
