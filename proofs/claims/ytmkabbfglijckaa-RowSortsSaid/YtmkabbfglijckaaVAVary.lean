/- Numbers as bytes. -/
import Derived.Test.YtmkabbfglijckaaVAClone
namespace Go.Proofs.Ytmkabbfglijckaa.A.V
open Go.RowKit Go.Proofs.YtmkabbfglijckaaW.PrintWords Go.Proofs.YtmkabbfglijckaaW.PrintLast Go.Proofs.YtmkabbfglijckaaW.PrintMore
attribute [local go_sem] max2_int min2_int max_two min_two
set_option linter.unusedVariables false
set_option linter.unusedSimpArgs false

/-- A number's bytes. -/
def vnat (n : Nat) : List Int := if h : n < 128 then [(n : Int)] else ((n % 128 + 128 : Nat) : Int) :: vnat (n / 128)
termination_by n
decreasing_by omega
def vput (n : Int) : List Int := vnat n.toNat
theorem vnat_small {n : Nat} (h : n < 128) : vnat n = [(n : Int)] := by rw [vnat, dif_pos h]
theorem vnat_big {n : Nat} (h : ¬ n < 128) : vnat n = ((n % 128 + 128 : Nat) : Int) :: vnat (n / 128) := by rw [vnat, dif_neg h]
theorem or128_all : ∀ r : Fin 256, bits .or .u8 (r.val : Int) 128 = (r.val : Int) % 128 + 128 := by decide +kernel
theorem or128 (x : Int) (h0 : 0 ≤ x) (h1 : x < 256) : bits .or .u8 x 128 = x % 128 + 128 := by
  obtain ⟨n, rfl⟩ := Int.eq_ofNat_of_zero_le h0
  exact or128_all ⟨n, by omega⟩

theorem vnat_pos (n : Nat) : 1 ≤ (vnat n).length := by
  rw [vnat]
  split <;> simp
theorem byte_mod (n : Nat) (h : n < 128) : (n : Int) % 256 = n := by omega
theorem vstep (m : Nat) (h : ¬ m < 128) (cur : List Int) : (cur ++ [bits .or .u8 ((m : Int) % 256) 128]) ++ vnat (m / 128) = cur ++ vnat m := by
  rw [vnat_big h, or128 _ (by omega) (by omega), List.append_assoc]
  have e : (m : Int) % 256 % 128 + 128 = ((m % 128 + 128 : Nat) : Int) := by omega
  rw [e]
  rfl
set_option maxRecDepth 100000 in
set_option maxHeartbeats 1000000 in
theorem put_calls (A : Option Addr) (n c : Nat) (b : List Int) (A1 : Option Addr) (n1 c1 : Nat) (l : List Int) (w : World) (hr : U8.C w A n b) (hc : n ≤ c) (hr1 : (Kd.int .i64).C w A1 n1 l) (hc1 : n1 ≤ c1) (hb : ∀ x ∈ l, x ≤ 9223372036854775807) (hl : b.length + (l.flatMap vput).length ≤ 140737488000000) :
    Calls Try.prog 41 #[.slice A n c, .slice A1 n1 c1] w fun e w' => ∃ v, e = .returned v ∧ OB w' w.heap.size v (b ++ l.flatMap vput) ∧ Below w.heap.size w w' := by
  have hn1 := hr1.1
  subst hn1
  have hm : l.length ≤ 9223372036854775807 := hr1.2.1
  have HR1 := Aside0.mk hr1
  have HL := Aside0.mk hl
  have HBX := Aside0.mk hb
  have hnb : n ≤ 140737488000000 := by
    have := hr.1
    omega
  have HR := Aside0.mk hr
  clear hr hr1 hl hb
  go_enter Try.func41, Try.ntmps41
  go_wp2_with fail
  (with_reducible refine (cloneN_calls _ _ _ b _ HR.out hc hnb).mono ?_)
  rintro e w1 ⟨v1, rfl, HO1, hb1⟩
  have HO := Aside0.mk HO1
  have HB := Aside0.mk hb1
  clear HO1 hb1 HR
  go_wp2
  go_loopw [0, 11] (fun v0 v11 w' => ∃ k : Nat, k ≤ l.length ∧ v11 = .int .i64 k ∧ Aside0 (OB w' w.heap.size v0 (b ++ (l.take k).flatMap vput)) ∧ Aside0 (Below w.heap.size w w')) (fun _ v11 _ => l.length - (intOf v11).toNat)
  case atStart => exact ⟨0, Nat.zero_le _, rfl, ⟨by simpa using HO.out⟩, HB⟩
  case round =>
    clear HO HB
    obtain ⟨k, hk, rfl, HO, HB⟩ := hrel
    by_cases hlt : k < l.length
    · obtain ⟨ad, rfl, hcell0⟩ := C_at HR1.out k hlt
      have hcell := pw_cell_below HB.out hcell0
      have hfl := flat_take vput l 0 k hlt
      have hle := flat_le vput l (k + 1)
      have hL := HL.out
      rw [hfl, List.length_append] at hle
      have hxm : l.getD k 0 ≤ 9223372036854775807 := by
        have : l.getD k 0 = l[k] := by simp [List.getD_eq_getElem?_getD, hlt]
        rw [this]
        exact HBX.out _ (List.getElem_mem hlt)
      generalize hx : l.getD k 0 = x at *
      generalize hp : (l.take k).flatMap vput = pre at *
      obtain ⟨m, hmx⟩ : ∃ m : Nat, (if x < 0 then 0 else x) = (m : Int) := ⟨x.toNat, by split <;> omega⟩
      have hmx2 : m = x.toNat := by split at hmx <;> omega
      have hmm : m ≤ 9223372036854775807 := by omega
      have hvx : vput x = vnat m := by rw [hmx2]; rfl
      rw [hvx] at hle hfl
      have hvl : b.length + pre.length + (vnat m).length ≤ 140737488000000 := by omega
      have HX := Aside0.mk hfl
      clear hx hfl hle hL hcell0 hp hvx
      have HMX2 := Aside0.mk hmx2
      have HVL := Aside0.mk hvl
      clear hmx2 hvl
      go_wp2
      go_loopw [0, 6] (fun v0 v6 w' => ∃ (m' : Nat) (cur : List Int), m' ≤ m ∧ v6 = .int .i64 m' ∧ Aside0 (cur ++ vnat m' = b ++ pre ++ vnat m) ∧ Aside0 (OB w' w.heap.size v0 cur) ∧ Aside0 (Below w.heap.size w w')) (fun _ v6 _ => (intOf v6).toNat)
      case atStart => exact ⟨m, b ++ pre, Nat.le_refl _, rfl, ⟨rfl⟩, HO, HB⟩
      case round =>
        clear HO HB hcell hmx hxm
        obtain ⟨m', cur, hm', rfl, HE, HO, HB⟩ := hrel
        have hcl : cur.length + (vnat m').length ≤ 140737488000000 := by
          have := congrArg List.length HE.out
          have h2 := HVL.out
          simp only [List.length_append] at this
          omega
        have hp1 := vnat_pos m'
        have HCL := Aside0.mk (show cur.length + 1 ≤ 140737488000000 by omega)
        clear hcl hp1
        by_cases hs : m' < 128
        · have hs' := byte_mod m' hs
          have HS := Aside0.mk hs'
          clear hs'
          go_wp2_with ((with_reducible refine gate_dst (N := 31) rfl ?_); refine app_byte rfl rfl rfl ?_ HO.out HB.out.size ?_ ?_; go_simp; (have := HCL.out; omega); intro v2 w2 HO2 hb2 _)
          go_roundw
          case rel =>
            refine ⟨k + 1, hlt, rfl, ⟨?_⟩, ⟨HB.out.trans hb2⟩⟩
            rw [HX.out, ← List.append_assoc, ← HE.out, vnat_small hs]
            exact HO2
          case measure => simp [intOf]; omega
        · go_wp2_with ((with_reducible refine gate_dst (N := 26) rfl ?_); refine app_byte rfl rfl rfl ?_ HO.out HB.out.size ?_ ?_; go_simp; (have := HCL.out; omega); intro v2 w2 HO2 hb2 _)
          go_roundw
          case rel =>
            refine ⟨m' / 128, _, by omega, rfl, ⟨?_⟩, ⟨HO2⟩, ⟨HB.out.trans hb2⟩⟩
            rw [vstep _ hs]
            exact HE.out
          case measure => simp [intOf]; omega
    · obtain rfl : k = l.length := by omega
      go_wp2
      go_ret
      refine ⟨_, rfl, ?_, HB.out⟩
      have := HO.out
      rwa [List.take_length] at this

end Go.Proofs.Ytmkabbfglijckaa.A.V
