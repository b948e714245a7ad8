/- The document's Sum comes to the plain check sum, too. -/
import Derived.Test.YtohgmpkehncopaaASum
import Derived.Test.YtohgmpkehncopaaABits
namespace Go.Proofs.Ytohgmpkehncopaa.A
open Go.RowKit Go.Proofs.YtohgmpkehncopaaW.PrintWords Go.Proofs.YtohgmpkehncopaaW.PrintLast Go.Proofs.YtohgmpkehncopaaW.PrintMore
set_option linter.unusedVariables false
set_option linter.unusedSimpArgs false

def bv (s : BitVec 32) (i : Nat) : Int := if s.getLsbD i then 1 else 0
theorem bv_range (s : BitVec 32) (i : Nat) : 0 ≤ bv s i ∧ bv s i ≤ 1 := by unfold bv; split <;> omega
theorem bv_xor (s t : BitVec 32) (i : Nat) : bv (s ^^^ t) i = (bv s i + bv t i) % 2 := by
  unfold bv
  rw [BitVec.getLsbD_xor]
  cases s.getLsbD i <;> cases t.getLsbD i <;> rfl
theorem bitAt_bv (x : Nat) (i : Nat) (hi : i < 32) : bitAt (x : Int) i = bv (BitVec.ofInt 32 (x : Int)) i := by
  unfold bitAt bv
  rw [BitVec.ofInt_natCast, BitVec.getLsbD_ofNat, decide_eq_true hi, Bool.true_and]
  have h : (x : Int) / 2 ^ i % 2 = ((x / 2 ^ i % 2 : Nat) : Int) := by simp
  rw [h, Nat.testBit_eq_decide_div_mod_eq]
  by_cases h1 : x / 2 ^ i % 2 = 1
  · simp [h1]
  · have : x / 2 ^ i % 2 = 0 := by omega
    simp [this]
theorem bv_step_low (s : BitVec 32) (j : Nat) (hj : j < 31) : bv (stepB s) j = (bv s (j + 1) + bv s 0 * bv 3988292384#32 j) % 2 := by
  have hn : (-(s &&& 1#32)).getLsbD j = s.getLsbD 0 := by
    rcases hb : s.getLsbD 0 with _ | _
    · have e : s &&& 1#32 = 0#32 := by
        apply BitVec.eq_of_getLsbD_eq
        intro i hi
        rw [BitVec.getLsbD_and, BitVec.getLsbD_one]
        by_cases h : i = 0
        · subst h; rw [hb]; rfl
        · simp [h]
      rw [e]; simp
    · have e : s &&& 1#32 = 1#32 := by
        apply BitVec.eq_of_getLsbD_eq
        intro i hi
        rw [BitVec.getLsbD_and, BitVec.getLsbD_one]
        by_cases h : i = 0
        · subst h; rw [hb]; rfl
        · simp [h]
      rw [e, show (-(1#32)) = BitVec.allOnes 32 from by decide, BitVec.getLsbD_allOnes]
      simp; omega
  unfold bv stepB
  rw [BitVec.getLsbD_xor, BitVec.getLsbD_ushiftRight, BitVec.getLsbD_and, hn, Nat.add_comm 1 j]
  cases s.getLsbD (j + 1) <;> cases s.getLsbD 0 <;> cases (3988292384#32).getLsbD j <;> rfl
theorem bv_step_top (s : BitVec 32) : bv (stepB s) 31 = bv s 0 * bv 3988292384#32 31 := by
  have hn : (-(s &&& 1#32)).getLsbD 31 = s.getLsbD 0 := by
    rcases hb : s.getLsbD 0 with _ | _
    · have e : s &&& 1#32 = 0#32 := by
        apply BitVec.eq_of_getLsbD_eq
        intro i hi
        rw [BitVec.getLsbD_and, BitVec.getLsbD_one]
        by_cases h : i = 0
        · subst h; rw [hb]; rfl
        · simp [h]
      rw [e]; simp
    · have e : s &&& 1#32 = 1#32 := by
        apply BitVec.eq_of_getLsbD_eq
        intro i hi
        rw [BitVec.getLsbD_and, BitVec.getLsbD_one]
        by_cases h : i = 0
        · subst h; rw [hb]; rfl
        · simp [h]
      rw [e]; decide
  unfold bv stepB
  rw [BitVec.getLsbD_xor, BitVec.getLsbD_ushiftRight, BitVec.getLsbD_and, hn, show s.getLsbD (1 + 31) = false from by simp]
  cases s.getLsbD 0 <;> rfl
theorem poly_bv (j : Nat) (hj : j < 32) : bitAt 3988292384 j = bv 3988292384#32 j := by
  have := bitAt_bv 3988292384 j hj
  rw [show BitVec.ofInt 32 ((3988292384 : Nat) : Int) = 3988292384#32 from by decide] at this
  exact this
/-- What has been added up of the turned bits. -/
def part (t : BitVec 32) (k : Nat) : Int := ((t.toNat % 2 ^ k : Nat) : Int)
theorem part_succ (s : BitVec 32) (k : Nat) (hk : k < 32) : part (~~~ s) (k + 1) = part (~~~ s) k + 2 ^ k * (1 - bv s k) := by
  unfold part bv
  rw [Nat.mod_pow_succ, ← Nat.toNat_testBit]
  have e : (~~~ s).toNat.testBit k = !s.getLsbD k := by
    have : (~~~ s).getLsbD k = !s.getLsbD k := by rw [BitVec.getLsbD_not]; simp [hk]
    rw [← this]; rfl
  rw [e]
  cases s.getLsbD k <;> simp
theorem part_end (s : BitVec 32) : part s 32 = (s.toNat : Int) := by
  unfold part
  rw [Nat.mod_eq_of_lt s.isLt]
theorem part_range (s : BitVec 32) (k : Nat) (hk : k ≤ 32) : 0 ≤ part s k ∧ part s k < 4294967296 := by
  unfold part
  have h1 : s.toNat % 2 ^ k < 2 ^ k := Nat.mod_lt _ (Nat.two_pow_pos k)
  have h2 : 2 ^ k ≤ 2 ^ 32 := Nat.pow_le_pow_right (by decide) hk
  omega

set_option maxHeartbeats 4000000 in
set_option maxRecDepth 100000 in
theorem refsum_calls (A : Option Addr) (c : Nat) (l : List Int) (w : World) (hr : Kd.C (Kd.int .u8) w A l.length l) (hc : l.length ≤ c) (hb : ∀ x ∈ l, 0 ≤ x ∧ x ≤ 255) :
    Calls Try.prog 12 #[.slice A l.length c] w fun e w' => e = .returned (.int .i64 (sum l)) ∧ Below w.heap.size w w' := by
  have HR := Aside0.mk hr
  have hm : l.length ≤ 9223372036854775807 := hr.2.1
  have HBY := Aside0.mk hb
  clear hr hb
  go_enter Try.func12, Try.ntmps12
  go_wp2_with ((with_reducible refine gate_dst (N := 15) rfl ?_); refine Kd.R_make (Kd.int .i64) _ 3 rfl (N := 15) rfl 41 _ _ rfl 32 rfl rfl Try.underlying41 (.int .i64 0) 8 info3 rfl (by decide) (by omega) 0 (ok := fun _ => True) (okp := fun _ => True) rfl (fun _ hk => hk) trivial (by omega) (by omega) (Below.refl _ _) (Nat.le_refl _) ?_; intro v w1 HO hb _ _)
  obtain ⟨g, cap, rfl, hg, _⟩ := Kd.R_form HO (by simp)
  have HO0 := Aside0.mk HO
  have HB0 := Aside0.mk hb
  clear HO hb
  simp only [List.length_replicate, Int.reduceToNat] at *
  go_loopw [4] (fun v4 w' => ∃ j : Nat, j ≤ 32 ∧ v4 = .int .i64 j ∧ Aside0 ((Kd.int .i64).R 3 w' w.heap.size (fun _ => True) (.slice (some ⟨g, 0, none⟩) 32 cap) (row32 fun i => if i < j then 1 else 0)) ∧ Aside0 (Below w.heap.size w w')) (fun v4 _ => 32 - (intOf v4).toNat)
  case atStart => exact ⟨0, Nat.zero_le _, rfl, HO0, HB0⟩
  case round =>
    clear HO0 HB0
    obtain ⟨j, hj, rfl, HO, HB⟩ := hrel
    by_cases hlt : j < 32
    · obtain ⟨hc, hf⟩ := R_cellN HO.out j hlt
      go_wp2
      go_roundw
      case rel =>
        refine ⟨j + 1, by omega, by go_num, ⟨?_⟩, ⟨below_set HB.out hg⟩⟩
        have h2 := R_putN HO.out j 1
        rw [row32_set] at h2
        refine (show _ = _ from row32_congr ?_) ▸ h2
        intro i hi
        by_cases he : i = j
        · subst he
          simp
        · simp only [if_neg he]
          by_cases hl : i < j
          · rw [if_pos hl, if_pos (by omega)]
          · rw [if_neg hl, if_neg (by omega)]
      case measure => simp [intOf]; omega
    · obtain rfl : j = 32 := by omega
      clear hj hlt
      go_wp2_with (go_at_call 21; refine (bits_calls _ _ (by omega) (by omega)).mono ?_; rintro e w2 ⟨vp, rfl, HP0, hb2⟩)
      have HP := Aside0.mk (Kd.R_below HP0 (Below.refl _ _))
      obtain ⟨gp, capp, rfl, hgp, _⟩ := Kd.R_form HP0 (by rw [row32_len]; omega)
      rw [row32_len] at HP
      have HP1 := Aside0.mk (Kd.R_lower HP.out (below_size HB.out))
      have HB2 := Aside0.mk (below_step HB.out hb2)
      have HO2 := Aside0.mk (Kd.R_below HO.out hb2)
      have hne : gp ≠ g := by
        obtain ⟨_, _, he, _, hgl, _⟩ := Kd.R_form HO.out (by rw [row32_len]; omega)
        injection he with he1
        injection he1 with he2
        injection he2 with he3
        omega
      clear HP0 HP HO HB hb2
      rw [row32_len]
      go_loopw [6] (fun v6 w' => ∃ k : Nat, k ≤ l.length ∧ v6 = .int .i64 k ∧ Aside0 ((Kd.int .i64).R 3 w' w.heap.size (fun _ => True) (.slice (some ⟨g, 0, none⟩) 32 cap) (row32 (bv (crcTo l k)))) ∧ Aside0 ((Kd.int .i64).R 3 w' w.heap.size (fun _ => True) (.slice (some ⟨gp, 0, none⟩) 32 capp) (row32 (bitAt 3988292384))) ∧ Aside0 (Below w.heap.size w w')) (fun v6 _ => l.length - (intOf v6).toNat)
      case atStart =>
        refine ⟨0, Nat.zero_le _, rfl, ⟨?_⟩, HP1, HB2⟩
        refine (show _ = _ from row32_congr ?_) ▸ HO2.out
        intro i hi
        rw [if_pos hi, show crcTo l 0 = BitVec.allOnes 32 from rfl]
        unfold bv
        rw [BitVec.getLsbD_allOnes]
        simp [hi]
      case round =>
        clear HP1 HB2 HO2
        obtain ⟨k, hk, rfl, HO, HP, HB⟩ := hrel
        by_cases hlt : k < l.length
        · obtain ⟨ad, rfl, hcell0⟩ := C_at HR.out k hlt
          have hcell := pw_cell_below HB.out hcell0
          have hxr := HBY.out (l.getD k 0) (by rw [List.getD_eq_getElem?_getD, List.getElem?_eq_getElem hlt]; exact List.getElem_mem hlt)
          generalize hx : l.getD k 0 = x at hcell hxr
          have HX := Aside0.mk hx
          obtain ⟨hx0, hx1⟩ := hxr
          clear hx hcell0
          go_wp2_with (go_at_call 21; (with_reducible refine (bits_calls _ _ (by omega) (by omega)).mono ?_); rintro e w3 ⟨vq, rfl, HQ0, hb3⟩)
          obtain ⟨gq, capq, rfl, hgq, _⟩ := Kd.R_form HQ0 (by rw [row32_len]; omega)
          rw [row32_len] at HQ0 ⊢
          have HQ := Aside0.mk (Kd.R_lower HQ0 (below_size HB.out))
          have HP2 := Aside0.mk (Kd.R_below HP.out hb3)
          have HO2 := Aside0.mk (Kd.R_below HO.out hb3)
          have HB2 := Aside0.mk (below_step HB.out hb3)
          have hneq : gq ≠ g := by
            obtain ⟨_, _, he, _, hgl, _⟩ := Kd.R_form HO.out (by rw [row32_len]; omega)
            injection he with he1
            injection he1 with he2
            injection he2 with he3
            omega
          clear HQ0 HP HO HB hb3
          rw [← Int.toNat_of_nonneg hx0] at HQ
          go_loopw [8] (fun v8 w' => ∃ j : Nat, j ≤ 32 ∧ v8 = .int .i64 j ∧ Aside0 ((Kd.int .i64).R 3 w' w.heap.size (fun _ => True) (.slice (some ⟨g, 0, none⟩) 32 cap) (row32 fun i => if i < j then bv (crcTo l k ^^^ BitVec.ofInt 32 x) i else bv (crcTo l k) i)) ∧ Aside0 ((Kd.int .i64).R 3 w' w.heap.size (fun _ => True) (.slice (some ⟨gq, 0, none⟩) 32 capq) (row32 (bitAt x.toNat))) ∧ Aside0 ((Kd.int .i64).R 3 w' w.heap.size (fun _ => True) (.slice (some ⟨gp, 0, none⟩) 32 capp) (row32 (bitAt 3988292384))) ∧ Aside0 (Below w.heap.size w w')) (fun v8 _ => 32 - (intOf v8).toNat)
          case atStart => exact ⟨0, Nat.zero_le _, rfl, HO2, HQ, HP2, HB2⟩
          case round =>
            clear HO2 HQ HP2 HB2
            obtain ⟨j, hj, rfl, HO, HQ, HP, HB⟩ := hrel
            by_cases hjt : j < 32
            · obtain ⟨hc1, hf1⟩ := R_cellN HO.out j hjt
              obtain ⟨hc2, _⟩ := R_cellN HQ.out j hjt
              rw [row32_at _ _ hjt] at hc1 hc2
              simp only [Nat.lt_irrefl, if_false] at hc1
              have hb1 := bv_range (crcTo l k) j
              rw [bitAt_bv _ _ hjt] at hc2
              have hb2 := bv_range (BitVec.ofInt 32 (x.toNat : Int)) j
              obtain ⟨h10, h11⟩ := hb1
              obtain ⟨h20, h21⟩ := hb2
              generalize hbx : bv (crcTo l k) j = bx at *
              generalize hby : bv (BitVec.ofInt 32 (x.toNat : Int)) j = bY at *
              have HBX := Aside0.mk hbx
              have HBY2 := Aside0.mk hby
              clear hbx hby
              go_wp2
              go_region
              go_wp2
              go_roundw
              case rel =>
                refine ⟨j + 1, by omega, by go_num, ⟨?_⟩, ⟨Kd.R_drew (R_other HQ.out hneq _)⟩, ⟨Kd.R_drew (R_other HP.out hne _)⟩, ⟨below_drew (below_set HB.out hg)⟩⟩
                refine Kd.R_drew ?_
                have h2 := R_putN HO.out j ((bx + bY) % 2)
                rw [row32_set] at h2
                refine (show _ = _ from row32_congr ?_) ▸ h2
                intro i hi
                by_cases he : i = j
                · subst he
                  rw [if_pos rfl, if_pos (by omega), bv_xor, HBX.out, ← HBY2.out, Int.toNat_of_nonneg hx0]
                · simp only [if_neg he]
                  by_cases hl : i < j
                  · rw [if_pos hl, if_pos (by omega)]
                  · rw [if_neg hl, if_neg (by omega)]
              case measure => simp [intOf]; omega
            · obtain rfl : j = 32 := by omega
              clear hj hjt
              have HO1 := Aside0.mk ((show (row32 fun i => if i < 32 then bv (crcTo l k ^^^ BitVec.ofInt 32 x) i else bv (crcTo l k) i) = row32 (bv (stepN 0 (crcTo l k ^^^ BitVec.ofInt 32 x))) from row32_congr (fun i hi => by rw [if_pos hi]; rfl)) ▸ HO.out)
              clear HO HQ
              generalize hS : crcTo l k ^^^ BitVec.ofInt 32 x = S at HO1
              have HS := Aside0.mk hS
              clear hS
              go_wp2
              go_loopw [9] (fun v9 w' => ∃ m : Nat, m ≤ 8 ∧ v9 = .int .i64 m ∧ Aside0 ((Kd.int .i64).R 3 w' w.heap.size (fun _ => True) (.slice (some ⟨g, 0, none⟩) 32 cap) (row32 (bv (stepN m S)))) ∧ Aside0 ((Kd.int .i64).R 3 w' w.heap.size (fun _ => True) (.slice (some ⟨gp, 0, none⟩) 32 capp) (row32 (bitAt 3988292384))) ∧ Aside0 (Below w.heap.size w w')) (fun v9 _ => 8 - (intOf v9).toNat)
              case atStart => exact ⟨0, Nat.zero_le _, rfl, HO1, HP, HB⟩
              case round =>
                clear HO1 HP HB
                obtain ⟨m, hm8, rfl, HO, HP, HB⟩ := hrel
                by_cases hmt : m < 8
                · obtain ⟨hc0, _⟩ := R_cellN HO.out 0 (by omega)
                  rw [row32_at _ _ (by omega)] at hc0
                  generalize hT : stepN m S = T at *
                  have HT := Aside0.mk hT
                  clear hT
                  have hb0 := bv_range T 0
                  generalize hb0v : bv T 0 = b0 at *
                  have HB0V := Aside0.mk hb0v
                  clear hb0v
                  obtain ⟨hb00, hb01⟩ := hb0
                  go_wp2
                  go_loopw [11] (fun v11 w' => ∃ j : Nat, j ≤ 31 ∧ v11 = .int .i64 j ∧ Aside0 ((Kd.int .i64).R 3 w' w.heap.size (fun _ => True) (.slice (some ⟨g, 0, none⟩) 32 cap) (row32 fun i => if i < j then bv (stepB T) i else bv T i)) ∧ Aside0 ((Kd.int .i64).R 3 w' w.heap.size (fun _ => True) (.slice (some ⟨gp, 0, none⟩) 32 capp) (row32 (bitAt 3988292384))) ∧ Aside0 (Below w.heap.size w w')) (fun v11 _ => 31 - (intOf v11).toNat)
                  case atStart => exact ⟨0, Nat.zero_le _, rfl, HO, HP, HB⟩
                  case round =>
                    clear HO HP HB hc0
                    obtain ⟨j, hj, rfl, HO, HP, HB⟩ := hrel
                    by_cases hjt : j < 31
                    · obtain ⟨hc1, hf1⟩ := R_cellN HO.out j (by omega)
                      obtain ⟨hc3, _⟩ := R_cellN HO.out (j + 1) (by omega)
                      obtain ⟨hc2, _⟩ := R_cellN HP.out j (by omega)
                      rw [row32_at _ _ (by omega)] at hc1 hc2 hc3
                      rw [if_neg (by omega)] at hc1 hc3
                      rw [poly_bv _ (by omega)] at hc2
                      have hb1 := bv_range T (j + 1)
                      have hb2 := bv_range 3988292384#32 j
                      obtain ⟨h10, h11⟩ := hb1
                      obtain ⟨h20, h21⟩ := hb2
                      generalize hbx : bv T (j + 1) = bx at *
                      generalize hby : bv 3988292384#32 j = bY at *
                      have HBX := Aside0.mk hbx
                      have HBY2 := Aside0.mk hby
                      clear hbx hby
                      have hm0 : 0 ≤ b0 * bY ∧ b0 * bY ≤ 1 := by
                        rcases (show b0 = 0 ∨ b0 = 1 by omega) with h | h <;> subst h <;> omega
                      obtain ⟨hm0, hm1⟩ := hm0
                      generalize hmv : b0 * bY = bm at *
                      have HMV := Aside0.mk hmv
                      have hw1 : IntKind.i64.wrap (b0 * bY) = bm := by rw [hmv, IntKind.wrap_i64]; omega
                      clear hmv
                      go_wp2
                      go_region
                      go_wp2
                      go_roundw
                      case rel =>
                        refine ⟨j + 1, by omega, by go_num, ⟨?_⟩, ⟨Kd.R_drew (R_other HP.out hne _)⟩, ⟨below_drew (below_set HB.out hg)⟩⟩
                        refine Kd.R_drew ?_
                        have h2 := R_putN HO.out j ((bx + bm) % 2)
                        rw [row32_set] at h2
                        refine (show _ = _ from row32_congr ?_) ▸ h2
                        intro i hi
                        by_cases he : i = j
                        · subst he
                          rw [if_pos rfl, if_pos (by omega), bv_step_low _ _ hjt, HBX.out, HBY2.out, HB0V.out, HMV.out]
                        · simp only [if_neg he]
                          by_cases hl : i < j
                          · rw [if_pos hl, if_pos (by omega)]
                          · rw [if_neg hl, if_neg (by omega)]
                      case measure => simp [intOf]; omega
                    · obtain rfl : j = 31 := by omega
                      clear hj hjt
                      obtain ⟨hc1, hf1⟩ := R_cellN HO.out 31 (by omega)
                      obtain ⟨hc2, _⟩ := R_cellN HP.out 31 (by omega)
                      rw [row32_at _ _ (by omega)] at hc1 hc2
                      rw [poly_bv _ (by omega)] at hc2
                      have hb2 := bv_range 3988292384#32 31
                      obtain ⟨h20, h21⟩ := hb2
                      generalize hby : bv 3988292384#32 31 = bY at *
                      have HBY2 := Aside0.mk hby
                      clear hby
                      have hm0 : 0 ≤ b0 * bY ∧ b0 * bY ≤ 1 := by
                        rcases (show b0 = 0 ∨ b0 = 1 by omega) with h | h <;> subst h <;> omega
                      obtain ⟨hm0, hm1⟩ := hm0
                      generalize hmv : b0 * bY = bm at *
                      have HMV := Aside0.mk hmv
                      have hw1 : IntKind.i64.wrap (b0 * bY) = bm := by rw [hmv, IntKind.wrap_i64]; omega
                      clear hmv
                      go_wp2
                      go_roundw
                      case rel =>
                        refine ⟨m + 1, by omega, by go_num, ⟨?_⟩, ⟨R_other HP.out hne _⟩, ⟨below_set HB.out hg⟩⟩
                        have h2 := R_putN HO.out 31 bm
                        rw [row32_set] at h2
                        rw [stepN_succ, HT.out]
                        refine (show _ = _ from row32_congr ?_) ▸ h2
                        intro i hi
                        by_cases he : i = 31
                        · subst he
                          rw [if_pos rfl, bv_step_top, HBY2.out, HB0V.out, HMV.out]
                        · rw [if_neg he, if_pos (by omega)]
                      case measure => simp [intOf]; omega
                · obtain rfl : m = 8 := by omega
                  clear hm8 hmt
                  go_wp2
                  go_roundw
                  case rel =>
                    refine ⟨k + 1, by omega, by go_num, ⟨?_⟩, HP, HB⟩
                    rw [crcTo_succ l k hlt, HX.out]
                    unfold upd
                    rw [HS.out]
                    exact HO.out
                  case measure => simp [intOf]; omega
        · obtain rfl : k = l.length := by omega
          go_wp2
          go_loopw [12, 13, 14] (fun v12 v13 v14 w' => ∃ j : Nat, j ≤ 32 ∧ v14 = .int .i64 j ∧ v13 = .int .i64 (2 ^ j) ∧ v12 = .int .i64 (part (~~~ crc l) j) ∧ Aside0 ((Kd.int .i64).R 3 w' w.heap.size (fun _ => True) (.slice (some ⟨g, 0, none⟩) 32 cap) (row32 (bv (crc l)))) ∧ Aside0 (Below w.heap.size w w')) (fun _ _ v14 _ => 32 - (intOf v14).toNat)
          case atStart =>
            refine ⟨0, Nat.zero_le _, rfl, rfl, ?_, ⟨?_⟩, HB⟩
            · simp [part, Nat.mod_one]
            · have e : crcTo l l.length = crc l := by unfold crcTo; rw [List.take_length]
              rw [← e]; exact HO.out
          case round =>
            clear HO HP HB
            obtain ⟨j, hj, rfl, rfl, rfl, HO, HB⟩ := hrel
            by_cases hjt : j < 32
            · obtain ⟨hc, hf⟩ := R_cellN HO.out j hjt
              rw [row32_at _ _ hjt] at hc
              have hbr := bv_range (crc l) j
              obtain ⟨hb10, hb11⟩ := hbr
              obtain ⟨hpr0, hpr1⟩ := part_range (~~~ crc l) j hj
              have hps := part_succ (crc l) j hjt
              have hpw : (2 : Int) ^ j ≤ 4294967296 := by
                have h1 : (2 : Nat) ^ j ≤ 4294967296 := Nat.le_trans (Nat.pow_le_pow_right (by decide) hj) (by decide)
                have h2 : ((2 ^ j : Nat) : Int) ≤ 4294967296 := by omega
                rw [Int.natCast_pow] at h2
                exact h2
              have hpw0 : (0 : Int) < 2 ^ j := Int.pow_pos (by omega)
              have hsx : (2 : Int) ^ (j + 1) = 2 * 2 ^ j := by rw [Int.pow_succ]; omega
              generalize hbx : bv (crc l) j = bx at *
              generalize hdx : (2 : Int) ^ j = d at *
              generalize hpx : part (~~~ crc l) j = p at *
              have hm0 : 0 ≤ d * (1 - bx) ∧ d * (1 - bx) ≤ 4294967296 := by
                rcases (show bx = 0 ∨ bx = 1 by omega) with h | h <;> subst h <;> omega
              obtain ⟨hm0, hm1⟩ := hm0
              generalize hmv : d * (1 - bx) = bm at *
              have hw1 : IntKind.i64.wrap (d * (1 - bx)) = bm := by rw [hmv, IntKind.wrap_i64]; omega
              have HPS := Aside0.mk hps
              have HSX := Aside0.mk hsx
              clear hps hsx hbx hdx hpx hmv
              go_wp2
              go_roundw
              case rel =>
                refine ⟨j + 1, by omega, by go_num, ?_, ?_, HO, HB⟩
                · rw [HSX.out]
                · rw [HPS.out]
              case measure => simp [intOf]; omega
            · obtain rfl : j = 32 := by omega
              go_wp2
              go_ret
              refine ⟨?_, HB.out⟩
              rw [part_end]
              rfl

end Go.Proofs.Ytohgmpkehncopaa.A
