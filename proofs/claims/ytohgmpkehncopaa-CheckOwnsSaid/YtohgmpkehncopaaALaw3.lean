/- What all statements of check lean on: the first bytes, the example. -/
import Derived.Test.YtohgmpkehncopaaAFrame
import Derived.Lib.SlBytesConst
import Derived.Lib.Hide
import Derived.Deep.RegionWith
namespace Go.Proofs.Ytohgmpkehncopaa.A
open Go.RowKit Go.Proofs.YtohgmpkehncopaaW.PrintWords Go.Proofs.YtohgmpkehncopaaW.PrintLast Go.Proofs.YtohgmpkehncopaaW.PrintMore
set_option linter.unusedVariables false
set_option linter.unusedSimpArgs false

theorem flat_one (x : List Int) : [x].flatMap frame = frame x := by simp
/-- The frame of one. -/
theorem frame1_calls (A : Option Addr) (c : Nat) (x : List Int) (w : World) (hr : (Kd.slice 5 U8).C w A 1 [x]) (hc : 1 ≤ c) (hl : x.length ≤ 140737487000000) :
    Calls Try.prog 13 #[.slice A 1 c] w fun e w' => ∃ v, e = .returned v ∧ OB w' w.heap.size v (frame x) ∧ Below w.heap.size w w' := by
  have h := frame_calls A c [x] w hr hc (by rw [flat_one, frame_len]; omega)
  rw [flat_one] at h
  exact h
set_option maxHeartbeats 400000 in
theorem few_calls (A : Option Addr) (c : Nat) (n : Int) (l : List Int) (w : World) (hr : U8.C w A l.length l) (hc : l.length ≤ c) (h0 : 0 ≤ n) (hn : n ≤ 9223372036854775807) :
    Calls Try.prog 10 #[.slice A l.length c, .int .i64 n] w fun e w' => e = .returned (.slice A (l.take n.toNat).length c) ∧ w = w' := by
  have hm : l.length ≤ 9223372036854775807 := hr.2.1
  clear hr
  obtain ⟨n, rfl⟩ := Int.eq_ofNat_of_zero_le h0
  rw [Int.toNat_natCast]
  by_cases h : n < l.length
  · have e1 : (l.take n).length = n := by rw [List.length_take]; omega
    have h1 : decide ((n : Int) < (l.length : Int)) = true := by simpa using h
    have h2 := Aside0.mk h1
    go_enter Try.func10, Try.ntmps10
    go_wp2
    all_goals go_ret
    all_goals exact ⟨by simp; omega, rfl⟩
  · have e1 : l.take n = l := List.take_of_length_le (by omega)
    rw [e1]
    go_enter Try.func10, Try.ntmps10
    go_wp2
    go_ret
    exact ⟨rfl, rfl⟩
theorem few_len (l : List Int) (n : Int) : (l.take n.toNat).length ≤ l.length ∧ (l.take n.toNat).length ≤ n.toNat := by
  rw [List.length_take]; omega
theorem sum_example : sum [49, 50, 51, 52, 53, 54, 55, 56, 57] = 3421780262 := by decide +kernel
set_option maxHeartbeats 400000 in
theorem lives_calls (w : World) : Calls Try.prog 15 #[] w fun e w' => e = .returned (.bool true) ∧ Below w.heap.size w w' := by
  have h0 : Calls Try.prog 11 #[.slice (some ⟨w.heap.size, 0, none⟩) 9 9] (w.alloc (.cells #[.int .u8 49, .int .u8 50, .int .u8 51, .int .u8 52, .int .u8 53, .int .u8 54, .int .u8 55, .int .u8 56, .int .u8 57] 5 (9, 10))) _ :=
    sum_calls _ _ [49, 50, 51, 52, 53, 54, 55, 56, 57] _ (lit_CF [49, 50, 51, 52, 53, 54, 55, 56, 57] (by decide) _) (Nat.le_refl _)
  have H0 := Lib.hid h0
  clear h0
  have kc := fun (w : World) (C : Array Value) (n c : Nat) => Lib.run_convert_bytes_const (P := Try.prog) w 22 5 C n c Try.underlying22 Try.underlying5
  go_enter Try.func15, Try.ntmps15
  go_wp2_with fail
  (with_reducible refine H0.out.mono ?_)
  rintro e w2 ⟨rfl, rfl⟩
  rw [sum_example]
  go_wp2
  go_ret
  exact ⟨rfl, below_alloc (Below.refl _ _) _⟩

set_option maxHeartbeats 4000000 in
theorem sums_calls (w : World) (A : Option Addr) (c : Nat) (l : List Int) (hr : U8.C w A l.length l) (hc : l.length ≤ c) (hb : ∀ x ∈ l, 0 ≤ x ∧ x ≤ 255) :
    Calls Try.prog 3 #[.slice A l.length c] w fun e w' => e = .returned (.bool true) ∧ Below w.heap.size w w' := by
  have HR := Aside0.mk hr
  have HBY := Aside0.mk hb
  clear hr hb
  go_enter Try.func3, Try.ntmps3
  go_wp2_with fail
  (with_reducible refine (few_calls _ _ _ _ _ HR.out hc (by omega) (by omega)).mono ?_)
  rintro e w1 ⟨rfl, rfl⟩
  obtain ⟨hx1, hx2⟩ := few_len l 200
  have HR1 := Aside0.mk (C_take_any HR.out (200 : Int).toNat)
  have HBY1 := Aside0.mk (fun x hx => HBY.out x (List.mem_of_mem_take hx) : ∀ x ∈ l.take (200 : Int).toNat, 0 ≤ x ∧ x ≤ 255)
  clear HR HBY
  generalize l.take (200 : Int).toNat = x at *
  have hcx : x.length ≤ c := by omega
  have hxl : x.length ≤ 200 := hx2
  have HB := Aside0.mk (Below.refl w.heap.size w)
  go_wp2_with fail
  go_region_with (first
    | ((go_at_call 11); (with_reducible refine (sum_calls _ _ _ _ ?_ hcx).mono ?_); exact Kd.C_below HR1.out (by repeat (first | exact HB.out | apply below_alloc | apply below_drew1)); rintro e w5 ⟨rfl, rfl⟩)
    | ((go_at_call 12); (with_reducible refine (refsum_calls _ _ _ _ ?_ hcx HBY1.out).mono ?_); exact Kd.C_below HR1.out (by repeat (first | exact HB.out | apply below_alloc | apply below_drew1)); rintro e w5 ⟨rfl, hb⟩; have n0 := Aside0.mk (below_step (by repeat (first | exact HB.out | apply below_alloc | apply below_drew1)) hb); clear HB hb; have HB := n0; clear n0)
    | ((go_at_call 13); (with_reducible refine (frame1_calls _ _ x _ (lit_S1 ?_ hcx) (Nat.le_refl _) (by omega)).mono ?_); exact Kd.C_below HR1.out (by repeat (first | exact HB.out | apply below_alloc | apply below_drew1)); rintro e w6 ⟨v6, rfl, HO, hb⟩; have n0 := Aside0.mk (below_step (by repeat (first | exact HB.out | apply below_alloc | apply below_drew1)) hb); (try (have n1 := Aside0.mk (Kd.R_below (Kd.R_alloc HO16.out _) hb); clear E16 HO16; have HO16 := n1; have E16 := OB_string n1.out; clear n1)); clear HB hb; have HB := n0; clear n0; have HO13 := Aside0.mk HO; have E13 := OB_string HO; clear HO)
    | ((go_at_call 14); (with_reducible refine (refframe_calls _ _ x _ ?_ hcx HBY1.out (by omega)).mono ?_); exact Kd.C_below HR1.out (by repeat (first | exact HB.out | apply below_alloc | apply below_drew1)); rintro e w7 ⟨v7, rfl, HO, hb⟩; have n0 := Aside0.mk (below_step (by repeat (first | exact HB.out | apply below_alloc | apply below_drew1)) hb); (try (have n1 := Aside0.mk (Kd.R_below HO13.out hb); clear E13 HO13; have HO13 := n1; have E13 := OB_string n1.out; clear n1)); clear HB hb; have HB := n0; clear n0; have HO16 := Aside0.mk HO; have E16 := OB_string HO; clear HO)
    | ((go_at_call 15); (with_reducible refine (lives_calls _).mono ?_); rintro e w8 ⟨rfl, hb⟩; have n0 := Aside0.mk (below_step (by repeat (first | exact HB.out | apply below_alloc | apply below_drew1)) hb); clear HB hb; have HB := n0; clear n0)
    )
  all_goals go_wp2
  all_goals go_ret
  all_goals exact ⟨rfl, HB.out⟩

end Go.Proofs.Ytohgmpkehncopaa.A
