/- FTwo -/
import Derived.Test.YtmfnbkghfmeekaaZFOne
import Derived.Lib.SlBytesConst
import Derived.Lib.Hide
import Derived.Deep.RegionWith
import Derived.WalkSpells
import Derived.Test.YtmfnbkghfmeekaaZABytes
namespace Go.Proofs.Ytmfnbkghfmeekaa.A.F
open Go.RowKit Go.Proofs.YtmfnbkghfmeekaaW.PrintWords Go.Proofs.YtmfnbkghfmeekaaW.PrintLast Go.Proofs.YtmfnbkghfmeekaaW.PrintMore
set_option linter.unusedVariables false
set_option linter.unusedSimpArgs false
theorem flat_one (x : List Int) : [x].flatMap frame = frame x := by simp
theorem frame1_calls (A : Option Addr) (c : Nat) (x : List Int) (w : World) (hr : (Kd.slice 5 U8).C w A 1 [x]) (hc : 1 ≤ c) (hl : x.length ≤ 140737487000000) :
    Calls Try.prog 33 #[.slice A 1 c] w fun e w' => ∃ v, e = .returned v ∧ OB w' w.heap.size v (frame x) ∧ Below w.heap.size w w' := by
  have h := frame_calls A c [x] w hr hc (by rw [flat_one, frame_len]; omega)
  rw [flat_one] at h
  exact h
end Go.Proofs.Ytmfnbkghfmeekaa.A.F
namespace Go.Proofs.Ytmfnbkghfmeekaa.A.F
open Go.RowKit Go.Proofs.YtmfnbkghfmeekaaW.PrintWords Go.Proofs.YtmfnbkghfmeekaaW.PrintLast Go.Proofs.YtmfnbkghfmeekaaW.PrintMore
set_option linter.unusedVariables false
set_option linter.unusedSimpArgs false
def num4 (l : List Int) : Int := l.getD 0 0 + 256 * l.getD 1 0 + 65536 * l.getD 2 0 + 16777216 * l.getD 3 0
theorem or_lo_hi (x y : Int) (i : Nat) (hx : 0 ≤ x) (hx1 : x < 2 ^ i) (hy : 0 ≤ y) (hy1 : y % 2 ^ i = 0) (hi : i < 63) (hs : x + y < 9223372036854775808) : bits .or .i64 x y = x + y := by
  have h63 : (2 : Int) ^ 63 = 9223372036854775808 := by decide
  have hp : (0 : Int) < 2 ^ i := Int.pow_pos (by omega)
  have h := bits_join .i64 63 (by decide) (fun n h0 h1 => by rw [IntKind.wrap_i64]; omega) i y x hy hy1 (by omega) hx hx1 (by omega)
  have hc : bits .or .i64 x y = bits .or .i64 y x := by
    simp only [bits]
    rw [BitVec.or_comm]
  rw [hc, h]
  omega
theorem byte_at {l : List Int} (hb : ∀ x ∈ l, 0 ≤ x ∧ x ≤ 255) (i : Nat) : 0 ≤ l.getD i 0 ∧ l.getD i 0 ≤ 255 := by
  rw [List.getD_eq_getElem?_getD]
  by_cases h : i < l.length
  · rw [List.getElem?_eq_getElem h]
    exact hb _ (List.getElem_mem h)
  · rw [List.getElem?_eq_none (by omega)]
    simp
theorem num4_range {l : List Int} (hb : ∀ x ∈ l, 0 ≤ x ∧ x ≤ 255) : 0 ≤ num4 l ∧ num4 l < 4294967296 := by
  have h0 := byte_at hb 0
  have h1 := byte_at hb 1
  have h2 := byte_at hb 2
  have h3 := byte_at hb 3
  unfold num4
  omega
set_option maxHeartbeats 800000 in
theorem refnumber_calls (A : Option Addr) (c : Nat) (l : List Int) (w : World) (hr : U8.C w A l.length l) (hc : l.length ≤ c) (hb : ∀ x ∈ l, 0 ≤ x ∧ x ≤ 255) (h4 : 4 ≤ l.length) :
    Calls Try.prog 97 #[.slice A l.length c] w fun e w' => e = .returned (.int .i64 (num4 l)) ∧ ∃ n, w' = w.drewN n := by
  obtain ⟨ad, rfl, hc0⟩ := C_at hr 0 (by omega)
  obtain ⟨_, e1, hc1⟩ := C_at hr 1 (by omega)
  obtain ⟨_, e2, hc2⟩ := C_at hr 2 (by omega)
  obtain ⟨_, e3, hc3⟩ := C_at hr 3 (by omega)
  injection e1 with e1
  injection e2 with e2
  injection e3 with e3
  subst e1 e2 e3
  have hm : l.length ≤ 9223372036854775807 := hr.2.1
  have hnum : Aside0 (num4 l = l.getD 0 0 + 256 * l.getD 1 0 + 65536 * l.getD 2 0 + 16777216 * l.getD 3 0) := ⟨rfl⟩
  obtain ⟨b00, b01⟩ := byte_at hb 0
  obtain ⟨b10, b11⟩ := byte_at hb 1
  obtain ⟨b20, b21⟩ := byte_at hb 2
  obtain ⟨b30, b31⟩ := byte_at hb 3
  clear hr hb
  generalize l.getD 0 0 = x0 at *
  generalize l.getD 1 0 = x1 at *
  generalize l.getD 2 0 = x2 at *
  generalize l.getD 3 0 = x3 at *
  generalize l.length = n at *
  simp [Addr.add] at hc0 hc1 hc2 hc3
  have i0 : (0 : Int) < (n : Int) := by omega
  have i1 : (1 : Int) < (n : Int) := by omega
  have i2 : (2 : Int) < (n : Int) := by omega
  have i3 : (3 : Int) < (n : Int) := by omega
  have j0 : 0 < n := by omega
  have j1 : 1 < n := by omega
  have j2 : 2 < n := by omega
  have j3 : 3 < n := by omega
  go_enter Try.func97, Try.ntmps97
  go_wp2
  go_region
  go_wp2
  go_ret
  exact ⟨congrArg (fun z => Ending.returned (Value.int .i64 z)) hnum.out.symm, 1, rfl⟩
theorem num_or (x0 x1 x2 x3 : Int) (b00 : 0 ≤ x0) (b01 : x0 ≤ 255) (b10 : 0 ≤ x1) (b11 : x1 ≤ 255) (b20 : 0 ≤ x2) (b21 : x2 ≤ 255) (b30 : 0 ≤ x3) (b31 : x3 ≤ 255) :
    bits .or .i64 (bits .or .i64 (bits .or .i64 x0 (x1 * 256)) (x2 * 65536)) (x3 * 16777216) = x0 + 256 * x1 + 65536 * x2 + 16777216 * x3 := by
  rw [or_lo_hi x0 (x1 * 256) 8 b00 (by omega) (by omega) (by omega) (by decide) (by omega), or_lo_hi _ (x2 * 65536) 16 (by omega) (by omega) (by omega) (by omega) (by decide) (by omega), or_lo_hi _ (x3 * 16777216) 24 (by omega) (by omega) (by omega) (by omega) (by decide) (by omega)]
  omega
set_option maxHeartbeats 800000 in
theorem number_calls (A : Option Addr) (c : Nat) (l : List Int) (w : World) (hr : U8.C w A l.length l) (hc : l.length ≤ c) (hb : ∀ x ∈ l, 0 ≤ x ∧ x ≤ 255) (h4 : 4 ≤ l.length) :
    Calls Try.prog 104 #[.slice A l.length c] w fun e w' => e = .returned (.int .i64 (num4 l)) ∧ ∃ n, w' = w.drewN n := by
  obtain ⟨ad, rfl, hc0⟩ := C_at hr 0 (by omega)
  obtain ⟨_, e1, hc1⟩ := C_at hr 1 (by omega)
  obtain ⟨_, e2, hc2⟩ := C_at hr 2 (by omega)
  obtain ⟨_, e3, hc3⟩ := C_at hr 3 (by omega)
  injection e1 with e1
  injection e2 with e2
  injection e3 with e3
  subst e1 e2 e3
  have hm : l.length ≤ 9223372036854775807 := hr.2.1
  have hnum : Aside0 (num4 l = l.getD 0 0 + 256 * l.getD 1 0 + 65536 * l.getD 2 0 + 16777216 * l.getD 3 0) := ⟨rfl⟩
  obtain ⟨b00, b01⟩ := byte_at hb 0
  obtain ⟨b10, b11⟩ := byte_at hb 1
  obtain ⟨b20, b21⟩ := byte_at hb 2
  obtain ⟨b30, b31⟩ := byte_at hb 3
  clear hr hb
  generalize l.getD 0 0 = x0 at *
  generalize l.getD 1 0 = x1 at *
  generalize l.getD 2 0 = x2 at *
  generalize l.getD 3 0 = x3 at *
  generalize l.length = n at *
  simp [Addr.add] at hc0 hc1 hc2 hc3
  have i0 : (0 : Int) < (n : Int) := by omega
  have i1 : (1 : Int) < (n : Int) := by omega
  have i2 : (2 : Int) < (n : Int) := by omega
  have i3 : (3 : Int) < (n : Int) := by omega
  have j0 : 0 < n := by omega
  have j1 : 1 < n := by omega
  have j2 : 2 < n := by omega
  have j3 : 3 < n := by omega
  go_enter Try.func104, Try.ntmps104
  go_wp2
  go_region
  go_wp2
  go_ret
  exact ⟨congrArg (fun z => Ending.returned (Value.int .i64 z)) ((num_or x0 x1 x2 x3 b00 b01 b10 b11 b20 b21 b30 b31).trans hnum.out.symm), 1, rfl⟩
set_option maxHeartbeats 800000 in
theorem clone_calls (A : Option Addr) (c : Nat) (l : List Int) (w : World) (hr : U8.C w A l.length l) (hc : l.length ≤ c) (hl : l.length ≤ 140737488000000) :
    Calls Try.prog 62 #[.slice A l.length c] w fun e w' => ∃ v, e = .returned v ∧ OB w' w.heap.size v l ∧ Below w.heap.size w w' := by
  have HR := Aside0.mk hr
  clear hr
  have hq := fun (w : World) (a : Option Addr) (n c : Nat) => Lib.run_eql_slice_nil (P := Try.prog) w 31 5 a n c 0 0 Try.underlying31
  cases A with
  | none =>
    have h0 : l = [] := by
      rcases l with _ | ⟨x, l⟩
      · rfl
      · obtain ⟨ad, h, _⟩ := HR.out.2.2 (by simp)
        cases h
    subst h0
    go_enter Try.func62, Try.ntmps62
    go_wp2
    go_ret
    exact ⟨_, rfl, OB_nil _ _, Below.refl _ _⟩
  | some ad =>
    go_enter Try.func62, Try.ntmps62
    go_wp2_with ((with_reducible refine gate_dst (N := 7) rfl ?_); refine app_bytes rfl rfl rfl rfl (OB_lit [] (Nat.le_refl _) (by simp)) (Kd.C_alloc HR.out _) (by simp) (by simp; omega) ?_; intro v1 w1 HO1 hb1 _ _)
    go_ret
    exact ⟨_, rfl, by simpa using HO1, ((Below.refl _ _).alloc (Nat.le_refl _) _).trans hb1⟩
end Go.Proofs.Ytmfnbkghfmeekaa.A.F
namespace Go.Proofs.Ytmfnbkghfmeekaa.A.F
open Go.RowKit Go.Proofs.YtmfnbkghfmeekaaW.PrintWords Go.Proofs.YtmfnbkghfmeekaaW.PrintLast Go.Proofs.YtmfnbkghfmeekaaW.PrintMore
set_option linter.unusedVariables false
set_option linter.unusedSimpArgs false
def ownOf (l : List Int) : List Int := (l.take (8 + num4 l).toNat).drop 8
def restOf (l : List Int) : List Int := l.drop (8 + num4 l).toNat
theorem tail4_range {l : List Int} (hb : ∀ x ∈ l, 0 ≤ x ∧ x ≤ 255) (j : Nat) : ∀ x ∈ l.drop j, 0 ≤ x ∧ x ≤ 255 := fun x hx => hb x (List.mem_of_mem_drop hx)
set_option maxHeartbeats 800000 in
theorem one_short (A : Option Addr) (c : Nat) (l : List Int) (w : World) (hr : U8.C w A l.length l) (hc : l.length ≤ c) (hb : ∀ x ∈ l, 0 ≤ x ∧ x ≤ 255) (h : l.length < 8 ∨ (l.length : Int) < 8 + num4 l) :
    Calls Try.prog 92 #[.slice A l.length c] w fun e w' => e = .returned (.tuple #[.slice none 0 0, .slice none 0 0, .int .i64 3]) ∧ Below w.heap.size w w' := by
  have HR := Aside0.mk hr
  have HBY := Aside0.mk hb
  have hm : l.length ≤ 9223372036854775807 := hr.2.1
  clear hr hb
  by_cases h8 : l.length < 8
  · clear h
    have h8' : decide ((l.length : Int) < 8) = true := decide_eq_true (by omega)
    go_enter Try.func92, Try.ntmps92
    go_wp2
    go_ret3
    exact ⟨rfl, Below.refl _ _⟩
  · have hn : (l.length : Int) - 8 < num4 l := by omega
    obtain ⟨hn0, hn1⟩ := num4_range HBY.out
    generalize hN : num4 l = N at *
    have HN := Aside0.mk hN
    clear h hN
    go_enter Try.func92, Try.ntmps92
    go_wp2_with ((go_at_call 104); (with_reducible refine (number_calls _ _ _ _ HR.out hc HBY.out (by omega)).mono ?_); rw [HN.out]; rintro e w1 ⟨rfl, n1, rfl⟩)
    go_ret3
    exact ⟨rfl, pw_below_drewN (Below.refl _ _) _⟩
set_option maxHeartbeats 1600000 in
theorem one_bad (A : Option Addr) (c : Nat) (l : List Int) (w : World) (hr : U8.C w A l.length l) (hc : l.length ≤ c) (hb : ∀ x ∈ l, 0 ≤ x ∧ x ≤ 255) (h8 : 8 ≤ l.length) (h : 8 + num4 l ≤ l.length) (hs : sum (ownOf l) ≠ num4 (l.drop 4)) :
    Calls Try.prog 92 #[.slice A l.length c] w fun e w' => ∃ A1 c1, e = .returned (.tuple #[.slice none 0 0, .slice A1 (restOf l).length c1, .int .i64 4]) ∧ (restOf l).length ≤ c1 ∧ U8.C w' A1 (restOf l).length (restOf l) ∧ Below w.heap.size w w' := by
  have HR := Aside0.mk hr
  have HBY := Aside0.mk hb
  have hm : l.length ≤ 9223372036854775807 := hr.2.1
  obtain ⟨hn0, hn1⟩ := num4_range hb
  obtain ⟨A1, c1, hk1, hC1, hl1⟩ := cutf A c l (8 + num4 l) (by omega) h hc
  obtain ⟨A2, c2, hk2, hC2, hl2⟩ := cutm A c l 8 (8 + num4 l) (by omega) (by omega) h hc
  obtain ⟨A3, c3, hk3, hC3, hl3⟩ := cutf A c l 4 (by omega) (by omega) hc
  have HS := Aside0.mk hs
  have HC1 := Aside0.mk (hC1 _ hr)
  have HC2 := Aside0.mk (hC2 _ hr)
  have HC3 := Aside0.mk (hC3 _ hr)
  have h4 : 4 ≤ (l.drop 4).length := by rw [List.length_drop]; omega
  have HB4 := Aside0.mk (tail4_range hb 4)
  have hn : ¬ (l.length : Int) - 8 < num4 l := by omega
  have ho : (l.take (8 + num4 l).toNat).drop (8 : Int).toNat = ownOf l := rfl
  have hre : l.drop (8 + num4 l).toNat = restOf l := rfl
  have hl4 : l.drop (4 : Int).toNat = l.drop 4 := rfl
  rw [ho] at hk2 HC2 hl2
  rw [hre] at hk1 HC1 hl1
  rw [hl4] at hk3 HC3 hl3
  clear hC1 hC2 hC3 ho hre hl4 hr hb hs
  generalize ownOf l = O at *
  generalize restOf l = R at *
  generalize l.drop 4 = D at *
  generalize hN : num4 l = N at *
  generalize hN4 : num4 D = N4 at *
  have HN := Aside0.mk hN
  have HN4 := Aside0.mk hN4
  have hne : (sum O == N4) = false := by simpa using HS.out
  have hne2 : (sum O != N4) = true := by simpa using HS.out
  clear hN hN4
  go_enter Try.func92, Try.ntmps92
  go_wp2_with ((go_at_call 104); (with_reducible refine (number_calls _ _ _ _ ?_ hc HBY.out (by omega)).mono ?_); exact (by repeat (with_reducible first | exact HR.out | refine Kd.C_drewN ?_ _ | refine Kd.C_drew ?_)); rw [HN.out]; rintro e w1 ⟨rfl, n1, rfl⟩)
  go_region_with (first
    | ((go_at_call 66); (with_reducible refine (sum_calls _ _ _ _ ?_ hl2).mono ?_); exact (by repeat (with_reducible first | exact HC2.out | refine Kd.C_drewN ?_ _ | refine Kd.C_drew ?_)); rintro e w5 ⟨rfl, rfl⟩)
    | ((go_at_call 104); (with_reducible refine (number_calls _ _ D _ ?_ hl3 HB4.out h4).mono ?_); exact (by repeat (with_reducible first | exact HC3.out | refine Kd.C_drewN ?_ _ | refine Kd.C_drew ?_)); rw [HN4.out]; rintro e w1 ⟨rfl, n1, rfl⟩))
  all_goals go_wp2
  all_goals go_region_with (fail)
  all_goals go_wp2
  all_goals go_ret3
  all_goals exact ⟨A1, c1, by kernel_rfl, hl1, by repeat (with_reducible first | exact HC1.out | refine Kd.C_drewN ?_ _ | refine Kd.C_drew ?_), by repeat (with_reducible first | exact Below.refl _ _ | apply pw_below_drewN | apply below_drew1)⟩
end Go.Proofs.Ytmfnbkghfmeekaa.A.F
namespace Go.Proofs.Ytmfnbkghfmeekaa.A.F
open Go.RowKit Go.Proofs.YtmfnbkghfmeekaaW.PrintWords Go.Proofs.YtmfnbkghfmeekaaW.PrintLast Go.Proofs.YtmfnbkghfmeekaaW.PrintMore
set_option linter.unusedVariables false
set_option linter.unusedSimpArgs false
abbrev RB (w : World) (v : Value) (l : List Int) : Prop := ∃ A c, v = .slice A l.length c ∧ l.length ≤ c ∧ U8.C w A l.length l
def Short (l : List Int) : Prop := l.length < 8 ∨ (l.length : Int) < 8 + num4 l
instance (l : List Int) : Decidable (Short l) := by unfold Short; infer_instance
set_option maxHeartbeats 800000 in
theorem first_short (A : Option Addr) (c : Nat) (l : List Int) (w : World) (hr : U8.C w A l.length l) (hc : l.length ≤ c) (hb : ∀ x ∈ l, 0 ≤ x ∧ x ≤ 255) (h : Short l) :
    Calls Try.prog 76 #[.slice A l.length c] w fun e w' => e = .returned (.tuple #[.slice none 0 0, .int .i64 0, .int .i64 3]) ∧ Below w.heap.size w w' := by
  unfold Short at h
  have HR := Aside0.mk hr
  have HBY := Aside0.mk hb
  have hm : l.length ≤ 9223372036854775807 := hr.2.1
  clear hr hb
  by_cases h8 : l.length < 8
  · clear h
    have h8' : decide ((l.length : Int) < 8) = true := decide_eq_true (by omega)
    go_enter Try.func76, Try.ntmps76
    go_wp2
    go_ret3
    exact ⟨rfl, Below.refl _ _⟩
  · have hn : (l.length : Int) < 8 + num4 l := by omega
    obtain ⟨hn0, hn1⟩ := num4_range HBY.out
    generalize hN : num4 l = N at *
    have HN := Aside0.mk hN
    clear h hN
    go_enter Try.func76, Try.ntmps76
    go_wp2_with ((go_at_call 97); (with_reducible refine (refnumber_calls _ _ _ _ HR.out hc HBY.out (by omega)).mono ?_); rw [HN.out]; rintro e w1 ⟨rfl, n1, rfl⟩)
    go_ret3
    exact ⟨rfl, pw_below_drewN (Below.refl _ _) _⟩
theorem num4_take (l : List Int) (h8 : 8 ≤ l.length) : num4 ((l.take 8).drop 4) = num4 (l.drop 4) := by
  have e : ∀ i, i < 4 → ((l.take 8).drop 4).getD i 0 = (l.drop 4).getD i 0 := by
    intro i hi
    simp only [List.getD_eq_getElem?_getD, List.getElem?_drop, List.getElem?_take]
    rw [if_pos (by omega)]
  unfold num4
  rw [e 0 (by omega), e 1 (by omega), e 2 (by omega), e 3 (by omega)]
theorem own_range {l : List Int} (hb : ∀ x ∈ l, 0 ≤ x ∧ x ≤ 255) : ∀ x ∈ ownOf l, 0 ≤ x ∧ x ≤ 255 := fun x hx => hb x (List.mem_of_mem_take (List.mem_of_mem_drop hx))
set_option maxHeartbeats 1600000 in
theorem first_bad (A : Option Addr) (c : Nat) (l : List Int) (w : World) (hr : U8.C w A l.length l) (hc : l.length ≤ c) (hb : ∀ x ∈ l, 0 ≤ x ∧ x ≤ 255) (h8 : 8 ≤ l.length) (h : 8 + num4 l ≤ l.length) (hs : sum (ownOf l) ≠ num4 (l.drop 4)) :
    Calls Try.prog 76 #[.slice A l.length c] w fun e w' => e = .returned (.tuple #[.slice none 0 0, .int .i64 (8 + num4 l), .int .i64 4]) ∧ Below w.heap.size w w' := by
  have HR := Aside0.mk hr
  have HBY := Aside0.mk hb
  have hm : l.length ≤ 9223372036854775807 := hr.2.1
  obtain ⟨hn0, hn1⟩ := num4_range hb
  obtain ⟨A2, c2, hk2, hC2, hl2⟩ := cutm A c l 8 (8 + num4 l) (by omega) (by omega) h hc
  obtain ⟨A3, c3, hk3, hC3, hl3⟩ := cutm A c l 4 8 (by omega) (by omega) (by omega) hc
  have HS := Aside0.mk hs
  have HC2 := Aside0.mk (hC2 _ hr)
  have HC3 := Aside0.mk (hC3 _ hr)
  have HBO := Aside0.mk (own_range hb)
  have h48 : num4 ((l.take 8).drop 4) = num4 (l.drop 4) := num4_take l h8
  have h4 : 4 ≤ ((l.take (8 : Int).toNat).drop (4 : Int).toNat).length := by rw [List.length_drop, List.length_take]; omega
  have HB4 : Aside0 (∀ x ∈ (l.take (8 : Int).toNat).drop (4 : Int).toNat, 0 ≤ x ∧ x ≤ 255) := ⟨fun x hx => hb x (List.mem_of_mem_take (List.mem_of_mem_drop hx))⟩
  have hn : ¬ (l.length : Int) < 8 + num4 l := by omega
  have ho : (l.take (8 + num4 l).toNat).drop (8 : Int).toNat = ownOf l := rfl
  have hl4 : (l.take (8 : Int).toNat).drop (4 : Int).toNat = (l.take 8).drop 4 := rfl
  rw [ho] at hk2 HC2 hl2
  rw [hl4] at hk3 HC3 hl3 h4 HB4
  clear hC2 hC3 ho hl4 hr hb hs
  rw [← h48] at HS
  clear h48
  generalize ownOf l = O at *
  generalize (l.take 8).drop 4 = D at *
  generalize hN : num4 l = N at *
  generalize hN4 : num4 D = N4 at *
  have HN := Aside0.mk hN
  have HN4 := Aside0.mk hN4
  have hne : (sum O == N4) = false := by simpa using HS.out
  have hne2 : (sum O != N4) = true := by simpa using HS.out
  clear hN hN4
  go_enter Try.func76, Try.ntmps76
  go_wp2_with ((go_at_call 97); (with_reducible refine (refnumber_calls _ _ _ _ ?_ hc HBY.out (by omega)).mono ?_); exact (by repeat (with_reducible first | exact HR.out | refine Kd.C_drewN ?_ _ | refine Kd.C_drew ?_)); rw [HN.out]; rintro e w1 ⟨rfl, n1, rfl⟩)
  go_region_with (first
    | ((go_at_call 75); (with_reducible refine (refsum_calls _ _ O _ ?_ hl2 HBO.out).mono ?_); exact (by repeat (with_reducible first | exact HC2.out | refine Kd.C_drewN ?_ _ | refine Kd.C_drew ?_)); rintro e w5 ⟨rfl, hb5⟩; have hf := Aside0.mk (below_step (w := w) (by repeat (with_reducible first | exact Below.refl _ _ | apply pw_below_drewN | apply below_drew1)) hb5); clear hb5)
    | ((go_at_call 97); (with_reducible refine (refnumber_calls _ _ D _ ?_ hl3 HB4.out h4).mono ?_); (repeat (with_reducible first | exact HC3.out | exact Kd.C_below HC3.out hf.out | refine Kd.C_drewN ?_ _ | refine Kd.C_drew ?_)); rw [HN4.out]; rintro e w1 ⟨rfl, n1, rfl⟩))
  all_goals go_wp2
  all_goals go_ret3
  all_goals exact ⟨by kernel_rfl, by repeat (with_reducible first | exact hf.out | apply pw_below_drewN | apply below_drew1)⟩
end Go.Proofs.Ytmfnbkghfmeekaa.A.F
namespace Go.Proofs.Ytmfnbkghfmeekaa.A.F
open Go.RowKit Go.Proofs.YtmfnbkghfmeekaaW.PrintWords Go.Proofs.YtmfnbkghfmeekaaW.PrintLast Go.Proofs.YtmfnbkghfmeekaaW.PrintMore
set_option linter.unusedVariables false
set_option linter.unusedSimpArgs false
end Go.Proofs.Ytmfnbkghfmeekaa.A.F
namespace Go.Proofs.Ytmfnbkghfmeekaa.A.F
open Go.RowKit Go.Proofs.YtmfnbkghfmeekaaW.PrintWords Go.Proofs.YtmfnbkghfmeekaaW.PrintLast Go.Proofs.YtmfnbkghfmeekaaW.PrintMore
set_option linter.unusedVariables false
set_option linter.unusedSimpArgs false
section
variable {α β : Type} {d : Kd α} {d' : Kd β} {e e' : Nat} {W W1 : World} {B B' : Nat} {ok ok' : Nat → Prop} {v u : Value} {xs : List α} {ys : List β}
theorem own_ne_type (h : d.R e W B ok v xs) (h' : d'.R e' W B' ok' u ys) (hne : e ≠ e') : u.ownBlock = none ∨ u.ownBlock ≠ v.ownBlock := by
  obtain ⟨_, inner, ho, _⟩ := h
  obtain ⟨_, inner', ho', _⟩ := h'
  cases hu : u.ownBlock with
  | none => exact .inl rfl
  | some k =>
    refine .inr fun e1 => ?_
    obtain ⟨cells, hc⟩ := own_typed ho k e1.symm
    obtain ⟨cells', hc'⟩ := own_typed ho' k hu
    rw [hc] at hc'
    injection hc' with h1
    injection h1 with _ h2
    exact hne h2
end
theorem OR_grown {α : Type} {enc : α → Value} {h1 : ∀ x, (enc x).oneCell' = true} {e : Nat} {W w1 : World} {B : Nat} {ok : Nat → Prop} {u : Value} {xs : List α} {row : Option Nat} (h : (Kd.scalar enc h1).R e W B ok u xs) (hg : W.grownBy w1 row) (hne : u.ownBlock = none ∨ u.ownBlock ≠ row) : (Kd.scalar enc h1).R e w1 B ok u xs := by
  obtain ⟨h0, inner, ho, hr⟩ := h
  exact ⟨h0, inner, ho.kept hg hne, hr⟩
abbrev Hd : Kd (Option Addr × Nat × Nat) := Kd.scalar (fun h => Value.slice h.1 h.2.1 h.2.2) (fun _ => rfl)
def Heads (w : World) (hs : List (Option Addr × Nat × Nat)) (ll : List (List Int)) : Prop :=
  hs.length = ll.length ∧ ∀ (i : Nat) (h : Option Addr × Nat × Nat) (x : List Int), hs[i]? = some h → ll[i]? = some x → h.2.1 = x.length ∧ x.length ≤ h.2.2 ∧ U8.C w h.1 x.length x
theorem Heads_nil (w : World) : Heads w [] [] := ⟨rfl, fun i h x h1 => by simp at h1⟩
theorem Heads_add {w : World} {hs : List (Option Addr × Nat × Nat)} {ll : List (List Int)} {A : Option Addr} {c n : Nat} {x : List Int} (h : Heads w hs ll) (hx : U8.C w A n x) (hc : n ≤ c) : Heads w (hs ++ [(A, n, c)]) (ll ++ [x]) := by
  have hn := hx.1
  subst hn
  refine ⟨by simp [h.1], fun i a y h1 h2 => ?_⟩
  rcases Nat.lt_or_ge i hs.length with hi | hi
  · rw [List.getElem?_append_left hi] at h1
    rw [List.getElem?_append_left (by rw [← h.1]; exact hi)] at h2
    exact h.2 i a y h1 h2
  · rw [List.getElem?_append_right hi] at h1
    rw [List.getElem?_append_right (by rw [← h.1]; exact hi), ← h.1] at h2
    have h0 : i - hs.length = 0 := by
      have := (List.getElem?_eq_some_iff.1 h1).1
      simpa using this
    rw [h0] at h1 h2
    simp only [List.getElem?_cons_zero, Option.some.injEq] at h1 h2
    subst h1 h2
    exact ⟨rfl, hc, hx⟩
theorem infoHd : (Try.prog.info? 31).map (fun i => (i.zero, i.size, i.bytes)) = some (some (.slice none 0 0), 1, 24) := by kernel_rfl
section
variable {ops : Array Oper} {rest : List Oper} {o : Oper} {a : Act} {Q : Exit → Act → World → Prop} {W : World} {B : Nat}
theorem app_head {s x : Operand} (hgd : o.guard = none) (ho : o.op = .call { callee := .builtin .append, args := #[s, x], argTypes := #[67, 67] }) {v : Value} {xs : List (Option Addr × Nat × Nat)} {A : Option Addr} {n c : Nat}
    (hs : a.eval s = v) (hx : a.eval x = .slice (some ⟨W.heap.size, 0, none⟩) 1 1) (HO : OR Hd 31 W B v xs) (hB : B ≤ W.heap.size) (hl : xs.length ≤ 1000000000)
    (h : ∀ v1 w1, OR Hd 31 w1 B v1 (xs ++ [(A, n, c)]) → Below B W w1 → W.grownBy w1 v.ownBlock → wpList Try.prog ops Q rest (a.put o.dst v1) w1) : wpList Try.prog ops Q (o :: rest) a (W.alloc (.cells #[.slice A n c] 31)) :=
  app_one (p := (A, n, c)) (cs := [.slice A n c]) Hd 67 31 (.slice none 0 0) 24 Try.underlying67 infoHd rfl (by decide) (by decide) hgd ho hs hx (fun okp => rfl) HO hB (by show (xs.length + 1) * 24 ≤ _; omega) h
end
end Go.Proofs.Ytmfnbkghfmeekaa.A.F
