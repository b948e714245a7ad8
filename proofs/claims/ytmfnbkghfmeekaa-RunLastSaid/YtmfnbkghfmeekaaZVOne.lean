/- VOne -/
import Derived.Test.YtmfnbkghfmeekaaZABytes
import Derived.Lib.SliceRun
import Derived.Deep.RegionHeld
namespace Go.Proofs.Ytmfnbkghfmeekaa.A.V
open Go.RowKit Go.Proofs.YtmfnbkghfmeekaaW.PrintWords Go.Proofs.YtmfnbkghfmeekaaW.PrintLast Go.Proofs.YtmfnbkghfmeekaaW.PrintMore
set_option linter.unusedVariables false
set_option linter.unusedSimpArgs false
set_option maxHeartbeats 800000 in
theorem cloneN_calls (A : Option Addr) (n c : Nat) (l : List Int) (w : World) (hr : U8.C w A n l) (hc : n ≤ c) (hl : n ≤ 140737488000000) :
    Calls Try.prog 62 #[.slice A n c] w fun e w' => ∃ v, e = .returned v ∧ OB w' w.heap.size v l ∧ Below w.heap.size w w' := by
  have hn := hr.1
  subst hn
  have HR := Aside0.mk hr
  clear hr
  have hq := fun (w : World) (a : Option Addr) (n c : Nat) => Lib.run_eql_slice_nil (P := Try.prog) w 31 5 a n c 0 0 Try.underlying31
  cases A with
  | none =>
    have h0 : l = [] := by
      rcases l with _ | ⟨x, l⟩
      · rfl
      · obtain ⟨ad, h, _⟩ := HR.out.2.2 (by simp)
        cases h
    subst h0
    go_enter Try.func62, Try.ntmps62
    go_wp2
    go_ret
    exact ⟨_, rfl, OB_nil _ _, Below.refl _ _⟩
  | some ad =>
    go_enter Try.func62, Try.ntmps62
    go_wp2_with ((with_reducible refine gate_dst (N := 7) rfl ?_); refine app_bytes rfl rfl rfl rfl (OB_lit [] (Nat.le_refl _) (by simp)) (Kd.C_alloc HR.out _) (by simp) (by simp; omega) ?_; intro v1 w1 HO1 hb1 _ _)
    go_ret
    exact ⟨_, rfl, by simpa using HO1, ((Below.refl _ _).alloc (Nat.le_refl _) _).trans hb1⟩
end Go.Proofs.Ytmfnbkghfmeekaa.A.V
namespace Go.Proofs.Ytmfnbkghfmeekaa.A.V
open Go.RowKit Go.Proofs.YtmfnbkghfmeekaaW.PrintWords Go.Proofs.YtmfnbkghfmeekaaW.PrintLast Go.Proofs.YtmfnbkghfmeekaaW.PrintMore
attribute [local go_sem] max2_int min2_int max_two min_two
set_option linter.unusedVariables false
set_option linter.unusedSimpArgs false
def vnat (n : Nat) : List Int := if h : n < 128 then [(n : Int)] else ((n % 128 + 128 : Nat) : Int) :: vnat (n / 128)
termination_by n
decreasing_by omega
def vput (n : Int) : List Int := vnat n.toNat
theorem vnat_small {n : Nat} (h : n < 128) : vnat n = [(n : Int)] := by rw [vnat, dif_pos h]
theorem vnat_big {n : Nat} (h : ¬ n < 128) : vnat n = ((n % 128 + 128 : Nat) : Int) :: vnat (n / 128) := by rw [vnat, dif_neg h]
theorem or128_all : ∀ r : Fin 256, bits .or .u8 (r.val : Int) 128 = (r.val : Int) % 128 + 128 := by decide +kernel
theorem or128 (x : Int) (h0 : 0 ≤ x) (h1 : x < 256) : bits .or .u8 x 128 = x % 128 + 128 := by
  obtain ⟨n, rfl⟩ := Int.eq_ofNat_of_zero_le h0
  exact or128_all ⟨n, by omega⟩
theorem vnat_pos (n : Nat) : 1 ≤ (vnat n).length := by
  rw [vnat]
  split <;> simp
theorem byte_mod (n : Nat) (h : n < 128) : (n : Int) % 256 = n := by omega
theorem vstep (m : Nat) (h : ¬ m < 128) (cur : List Int) : (cur ++ [bits .or .u8 ((m : Int) % 256) 128]) ++ vnat (m / 128) = cur ++ vnat m := by
  rw [vnat_big h, or128 _ (by omega) (by omega), List.append_assoc]
  have e : (m : Int) % 256 % 128 + 128 = ((m % 128 + 128 : Nat) : Int) := by omega
  rw [e]
  rfl
set_option maxRecDepth 100000 in
set_option maxHeartbeats 1000000 in
theorem put_calls (A : Option Addr) (n c : Nat) (b : List Int) (A1 : Option Addr) (n1 c1 : Nat) (l : List Int) (w : World) (hr : U8.C w A n b) (hc : n ≤ c) (hr1 : (Kd.int .i64).C w A1 n1 l) (hc1 : n1 ≤ c1) (hb : ∀ x ∈ l, x ≤ 9223372036854775807) (hl : b.length + (l.flatMap vput).length ≤ 140737488000000) :
    Calls Try.prog 31 #[.slice A n c, .slice A1 n1 c1] w fun e w' => ∃ v, e = .returned v ∧ OB w' w.heap.size v (b ++ l.flatMap vput) ∧ Below w.heap.size w w' := by
  have hn1 := hr1.1
  subst hn1
  have hm : l.length ≤ 9223372036854775807 := hr1.2.1
  have HR1 := Aside0.mk hr1
  have HL := Aside0.mk hl
  have HBX := Aside0.mk hb
  have hnb : n ≤ 140737488000000 := by
    have := hr.1
    omega
  have HR := Aside0.mk hr
  clear hr hr1 hl hb
  go_enter Try.func31, Try.ntmps31
  go_wp2_with fail
  (with_reducible refine (cloneN_calls _ _ _ b _ HR.out hc hnb).mono ?_)
  rintro e w1 ⟨v1, rfl, HO1, hb1⟩
  have HO := Aside0.mk HO1
  have HB := Aside0.mk hb1
  clear HO1 hb1 HR
  go_wp2
  go_loopw [0, 11] (fun v0 v11 w' => ∃ k : Nat, k ≤ l.length ∧ v11 = .int .i64 k ∧ Aside0 (OB w' w.heap.size v0 (b ++ (l.take k).flatMap vput)) ∧ Aside0 (Below w.heap.size w w')) (fun _ v11 _ => l.length - (intOf v11).toNat)
  case atStart => exact ⟨0, Nat.zero_le _, rfl, ⟨by simpa using HO.out⟩, HB⟩
  case round =>
    clear HO HB
    obtain ⟨k, hk, rfl, HO, HB⟩ := hrel
    by_cases hlt : k < l.length
    · obtain ⟨ad, rfl, hcell0⟩ := C_at HR1.out k hlt
      have hcell := pw_cell_below HB.out hcell0
      have hfl := flat_take vput l 0 k hlt
      have hle := flat_le vput l (k + 1)
      have hL := HL.out
      rw [hfl, List.length_append] at hle
      have hxm : l.getD k 0 ≤ 9223372036854775807 := by
        have : l.getD k 0 = l[k] := by simp [List.getD_eq_getElem?_getD, hlt]
        rw [this]
        exact HBX.out _ (List.getElem_mem hlt)
      generalize hx : l.getD k 0 = x at *
      generalize hp : (l.take k).flatMap vput = pre at *
      obtain ⟨m, hmx⟩ : ∃ m : Nat, (if x < 0 then 0 else x) = (m : Int) := ⟨x.toNat, by split <;> omega⟩
      have hmx2 : m = x.toNat := by split at hmx <;> omega
      have hmm : m ≤ 9223372036854775807 := by omega
      have hvx : vput x = vnat m := by rw [hmx2]; rfl
      rw [hvx] at hle hfl
      have hvl : b.length + pre.length + (vnat m).length ≤ 140737488000000 := by omega
      have HX := Aside0.mk hfl
      clear hx hfl hle hL hcell0 hp hvx
      have HMX2 := Aside0.mk hmx2
      have HVL := Aside0.mk hvl
      clear hmx2 hvl
      go_wp2
      go_loopw [0, 6] (fun v0 v6 w' => ∃ (m' : Nat) (cur : List Int), m' ≤ m ∧ v6 = .int .i64 m' ∧ Aside0 (cur ++ vnat m' = b ++ pre ++ vnat m) ∧ Aside0 (OB w' w.heap.size v0 cur) ∧ Aside0 (Below w.heap.size w w')) (fun _ v6 _ => (intOf v6).toNat)
      case atStart => exact ⟨m, b ++ pre, Nat.le_refl _, rfl, ⟨rfl⟩, HO, HB⟩
      case round =>
        clear HO HB hcell hmx hxm
        obtain ⟨m', cur, hm', rfl, HE, HO, HB⟩ := hrel
        have hcl : cur.length + (vnat m').length ≤ 140737488000000 := by
          have := congrArg List.length HE.out
          have h2 := HVL.out
          simp only [List.length_append] at this
          omega
        have hp1 := vnat_pos m'
        have HCL := Aside0.mk (show cur.length + 1 ≤ 140737488000000 by omega)
        clear hcl hp1
        by_cases hs : m' < 128
        · have hs' := byte_mod m' hs
          have HS := Aside0.mk hs'
          clear hs'
          go_wp2_with ((with_reducible refine gate_dst (N := 31) rfl ?_); refine app_byte rfl rfl rfl ?_ HO.out HB.out.size ?_ ?_; go_simp; (have := HCL.out; omega); intro v2 w2 HO2 hb2 _)
          go_roundw
          case rel =>
            refine ⟨k + 1, hlt, rfl, ⟨?_⟩, ⟨HB.out.trans hb2⟩⟩
            rw [HX.out, ← List.append_assoc, ← HE.out, vnat_small hs]
            exact HO2
          case measure => simp [intOf]; omega
        · go_wp2_with ((with_reducible refine gate_dst (N := 26) rfl ?_); refine app_byte rfl rfl rfl ?_ HO.out HB.out.size ?_ ?_; go_simp; (have := HCL.out; omega); intro v2 w2 HO2 hb2 _)
          go_roundw
          case rel =>
            refine ⟨m' / 128, _, by omega, rfl, ⟨?_⟩, ⟨HO2⟩, ⟨HB.out.trans hb2⟩⟩
            rw [vstep _ hs]
            exact HE.out
          case measure => simp [intOf]; omega
    · obtain rfl : k = l.length := by omega
      go_wp2
      go_ret
      refine ⟨_, rfl, ?_, HB.out⟩
      have := HO.out
      rwa [List.take_length] at this
end Go.Proofs.Ytmfnbkghfmeekaa.A.V
namespace Go.Proofs.Ytmfnbkghfmeekaa.A.V
open Go.RowKit Go.Proofs.YtmfnbkghfmeekaaW.PrintWords Go.Proofs.YtmfnbkghfmeekaaW.PrintLast Go.Proofs.YtmfnbkghfmeekaaW.PrintMore
set_option linter.unusedVariables false
set_option linter.unusedSimpArgs false
theorem vnat_mono : ∀ (b a : Nat), a ≤ b → (vnat a).length ≤ (vnat b).length := by
  intro b
  induction b using Nat.strongRecOn with
  | ind b ih =>
    intro a h
    by_cases hb : b < 128
    · rw [vnat_small hb, vnat_small (show a < 128 by omega)]
      exact Nat.le_refl _
    · rw [vnat_big hb]
      by_cases ha : a < 128
      · rw [vnat_small ha]
        simp
      · rw [vnat_big ha]
        simp only [List.length_cons]
        have := ih (b / 128) (by omega) (a / 128) (by omega)
        omega
theorem vnat_le (n : Nat) (h : n ≤ 9223372036854775807) : (vnat n).length ≤ 9 := by
  refine Nat.le_trans (vnat_mono 9223372036854775807 n h) ?_
  have e : (vnat 9223372036854775807).length = 9 := by
    have h2 : ∀ k m : Nat, ¬ m < 128 → (vnat (m / 128)).length = k → (vnat m).length = k + 1 := by
      intro k m hm hk
      rw [vnat_big hm, List.length_cons, hk]
    iterate 8 (refine h2 _ _ (by decide) ?_)
    rw [vnat_small (by decide)]
    rfl
  omega
theorem vput_le (n : Int) (h : n ≤ 9223372036854775807) : (vput n).length ≤ 9 := vnat_le _ (by omega)
theorem vput_nat (n : Nat) : vput (n : Int) = vnat n := by simp [vput]
theorem vput1 (n : Int) : [n].flatMap vput = vput n := by simp
theorem put1_calls (A : Option Addr) (n c : Nat) (b : List Int) (x : Int) (w : World) (e : Nat) (hr : U8.C w A n b) (hc : n ≤ c) (hx : x ≤ 9223372036854775807) (hl : n + 9 ≤ 140737488000000) :
    Calls Try.prog 31 #[.slice A n c, .slice (some ⟨w.heap.size, 0, none⟩) 1 1] (w.alloc (.cells #[.int .i64 x] e)) fun e w' => ∃ v, e = .returned v ∧ OB w' w.heap.size v (b ++ vput x) ∧ Below w.heap.size w w' := by
  have h9 := vput_le x hx
  have hn := hr.1
  refine (put_calls A n c b _ 1 1 [x] _ (Kd.C_alloc hr _) hc (lit_CK w [x] e (by simp) (0, 0)) (by omega) (by simpa using hx) (by rw [vput1]; omega)).mono ?_
  rintro e w' ⟨v, rfl, HO, hb⟩
  rw [vput1] at HO
  exact ⟨v, rfl, Kd.R_lower HO (by simp), below_step (below_alloc (Below.refl _ _) _) hb⟩
end Go.Proofs.Ytmfnbkghfmeekaa.A.V
namespace Go.Proofs.Ytmfnbkghfmeekaa.A.V
open Go.RowKit Go.Proofs.YtmfnbkghfmeekaaW.PrintWords Go.Proofs.YtmfnbkghfmeekaaW.PrintLast Go.Proofs.YtmfnbkghfmeekaaW.PrintMore
attribute [local go_sem] max2_int min2_int max_two min_two
set_option linter.unusedVariables false
set_option linter.unusedSimpArgs false
theorem C_atT {A : Option Addr} {l : List ByteArray} {w : World} (h : Kd.string.C w A l.length l) (i : Nat) (hi : i < l.length) : ∃ ad, A = some ad ∧ w.cell? (ad.add i) = some (.string (l.getD i default)) := by
  obtain ⟨ad, e, hc⟩ := h.2.2 (by omega)
  obtain ⟨c, h1, h2, h3⟩ := hc i _ (List.getElem?_eq_getElem hi)
  have h2' : c = [Value.string l[i]] := h2
  subst h2'
  refine ⟨ad, e, ?_⟩
  have := h3 0 _ rfl
  simpa [Kd.string, Kd.scalar, List.getD_eq_getElem?_getD, hi] using this
theorem lit_CT (W : World) (l : List ByteArray) (e : Nat) (hl : l.length ≤ 9223372036854775807) (fr : Nat × Nat) : Kd.string.C (W.alloc (.cells (l.map Value.string).toArray e fr)) (some ⟨W.heap.size, 0, none⟩) l.length l := by
  refine ⟨rfl, hl, fun _ => ⟨_, rfl, fun j p hj => ⟨[.string p], rfl, rfl, fun i u hu => ?_⟩⟩⟩
  have hi : i = 0 := by
    have := (List.getElem?_eq_some_iff.1 hu).1
    simpa using this
  subst hi
  have hu' : u = .string p := by simpa using hu.symm
  subst hu'
  rw [add_plain, cell_of_row _ _ _ (l.map Value.string).toArray e fr (heap_alloc_new W _)]
  simp [Kd.string, Kd.scalar, hj]
def vtext (s : ByteArray) : List Int := vput s.size ++ bytesOf s
theorem vtext_len (s : ByteArray) : (vtext s).length = (vput s.size).length + s.size := by rw [vtext, List.length_append, bytesOf_length]
set_option maxRecDepth 100000 in
set_option maxHeartbeats 1000000 in
theorem text_calls (A : Option Addr) (n c : Nat) (b : List Int) (A1 : Option Addr) (n1 c1 : Nat) (l : List ByteArray) (w : World) (hr : U8.C w A n b) (hc : n ≤ c) (hr1 : Kd.string.C w A1 n1 l) (hc1 : n1 ≤ c1) (hl : b.length + (l.flatMap vtext).length ≤ 140737000000000) :
    Calls Try.prog 34 #[.slice A n c, .slice A1 n1 c1] w fun e w' => ∃ v, e = .returned v ∧ OB w' w.heap.size v (b ++ l.flatMap vtext) ∧ Below w.heap.size w w' := by
  have hn1 := hr1.1
  subst hn1
  have hm : l.length ≤ 9223372036854775807 := hr1.2.1
  have HR1 := Aside0.mk hr1
  have HL := Aside0.mk hl
  have hnb : n ≤ 140737000000000 := by
    have := hr.1
    omega
  have HR := Aside0.mk hr
  clear hr hr1 hl
  go_enter Try.func34, Try.ntmps34
  go_wp2_with fail
  (with_reducible refine (cloneN_calls _ _ _ b _ HR.out hc (by omega)).mono ?_)
  rintro e w1 ⟨v1, rfl, HO1, hb1⟩
  have HO := Aside0.mk HO1
  have HB := Aside0.mk hb1
  clear HO1 hb1 HR
  go_wp2
  go_loopw [0, 11] (fun v0 v11 w' => ∃ k : Nat, k ≤ l.length ∧ v11 = .int .i64 k ∧ Aside0 (OB w' w.heap.size v0 (b ++ (l.take k).flatMap vtext)) ∧ Aside0 (Below w.heap.size w w')) (fun _ v11 _ => l.length - (intOf v11).toNat)
  case atStart => exact ⟨0, Nat.zero_le _, rfl, ⟨by simpa using HO.out⟩, HB⟩
  case round =>
    clear HO HB
    obtain ⟨k, hk, rfl, HO, HB⟩ := hrel
    by_cases hlt : k < l.length
    · obtain ⟨ad, rfl, hcell0⟩ := C_atT HR1.out k hlt
      have hcell := pw_cell_below HB.out hcell0
      have hfl := flat_take vtext l default k hlt
      have hle := flat_le vtext l (k + 1)
      have hL := HL.out
      rw [hfl, List.length_append, vtext_len] at hle
      generalize hx : l.getD k default = x at *
      generalize hp : (l.take k).flatMap vtext = pre at *
      obtain ⟨n0, hn0⟩ : ∃ n0, (b ++ pre).length = n0 := ⟨_, rfl⟩
      have hn0' : n0 = b.length + pre.length := by rw [← hn0, List.length_append]
      obtain ⟨A0, cp0, rfl, hcp0, HC0⟩ := OB_readn HO.out n0 hn0
      have HC := Aside0.mk HC0
      have HX := Aside0.mk hfl
      have hxs : x.size ≤ 140737000000000 := by omega
      have hxt : n0 + 9 + x.size ≤ 140737488000000 := by omega
      have h9 := vput_le (x.size : Int) (by omega)
      clear hx hfl hle hL hcell0 hp HC0 hn0 hn0'
      go_wp2_with fail
      (with_reducible refine (put1_calls _ _ _ (b ++ pre) _ _ _ HC.out hcp0 (by omega) (by omega)).mono ?_)
      rintro e w2 ⟨v2, rfl, HO2, hb2⟩
      have hlen2 : (b ++ pre ++ vput (x.size : Int)).length ≤ n0 + 9 := by
        have := HC.out.1
        rw [List.length_append, this]
        omega
      have HO3 := Aside0.mk (Kd.R_lower HO2 HB.out.size)
      have HB3 := Aside0.mk (below_step HB.out hb2)
      clear HO HB HO2 hb2 HC hcell
      go_wp2_with ((with_reducible refine gate_dst (N := 21) rfl ?_); refine app_str rfl rfl rfl rfl HO3.out HB3.out.size (by omega) ?_; intro v4 w4 HO4 hb4 _)
      go_roundw
      case rel =>
        refine ⟨k + 1, hlt, rfl, ⟨?_⟩, ⟨HB3.out.trans hb4⟩⟩
        rw [HX.out, ← List.append_assoc, vtext, ← List.append_assoc]
        exact HO4
      case measure => simp [intOf]; omega
    · obtain rfl : k = l.length := by omega
      go_wp2
      go_ret
      refine ⟨_, rfl, ?_, HB.out⟩
      have := HO.out
      rwa [List.take_length] at this
end Go.Proofs.Ytmfnbkghfmeekaa.A.V
namespace Go.Proofs.Ytmfnbkghfmeekaa.A.V
open Go.RowKit Go.Proofs.YtmfnbkghfmeekaaW.PrintWords Go.Proofs.YtmfnbkghfmeekaaW.PrintLast Go.Proofs.YtmfnbkghfmeekaaW.PrintMore
set_option linter.unusedVariables false
set_option linter.unusedSimpArgs false
set_option maxRecDepth 100000 in
set_option maxHeartbeats 1000000 in
theorem refput_nat : ∀ (N n : Nat) (x : Int) (w : World), n ≤ N → x = n → n ≤ 9223372036854775807 →
    Calls Try.prog 47 #[.int .i64 x] w fun e w' => ∃ v, e = .returned v ∧ OB w' w.heap.size v (vnat n) ∧ Below w.heap.size w w' := by
  intro N
  induction N using Nat.strongRecOn with
  | ind N ih =>
    intro n x w hnN hx hn
    subst hx
    have IH := Aside0.mk ih
    clear ih
    by_cases h : n < 128
    · have hE := vnat_small h
      rw [hE]
      clear hE
      go_enter Try.func47, Try.ntmps47
      go_wp2
      go_ret
      exact ⟨_, rfl, OB_lit [(n : Int)] (Nat.le_refl _) (by simp), below_alloc (Below.refl _ _) _⟩
    · have hE := vnat_big h
      have h9 := vnat_le n hn
      rw [hE, List.length_cons] at h9
      rw [hE]
      clear hE
      have hc : ((n % 128 + 128 : Nat) : Int) = (n : Int) % 128 + 128 := by omega
      rw [hc]
      clear hc
      go_enter Try.func47, Try.ntmps47
      go_wp2_with fail
      (with_reducible refine (IH.out (n / 128) (by omega) (n / 128) _ _ (Nat.le_refl _) (by omega) (by omega)).mono ?_)
      rintro e w2 ⟨v2, rfl, HO2, hb2⟩
      obtain ⟨n2, hn2, hn9⟩ : ∃ n2, (vnat (n / 128)).length = n2 ∧ n2 ≤ 8 := ⟨_, rfl, by omega⟩
      obtain ⟨A2, c2, rfl, hc2, HC2⟩ := OB_readn HO2 n2 hn2
      have HC := Aside0.mk HC2
      have HO := Aside0.mk (Kd.R_below (OB_lit (W := w) [(n : Int) % 128 + 128] (Nat.le_refl _) (by simp)) hb2)
      have HB := Aside0.mk (below_step (w := w) (below_alloc (Below.refl _ _) _) hb2)
      clear HO2 hb2 HC2 hn2
      go_wp2_with ((with_reducible refine gate_dst (N := 20) rfl ?_); refine app_bytes rfl rfl rfl rfl HO.out HC.out HB.out.size (by simp; omega) ?_; intro v4 w4 HO4 hb4 _ _)
      go_ret
      exact ⟨_, rfl, HO4, HB.out.trans hb4⟩
set_option maxRecDepth 100000 in
theorem refput_calls (x : Int) (w : World) (h1 : x ≤ 9223372036854775807) :
    Calls Try.prog 47 #[.int .i64 x] w fun e w' => ∃ v, e = .returned v ∧ OB w' w.heap.size v (vput x) ∧ Below w.heap.size w w' := by
  by_cases h : 0 ≤ x
  · exact refput_nat x.toNat x.toNat x w (Nat.le_refl _) (by omega) (by omega)
  · have hE : vput x = [0] := by
      have : x.toNat = 0 := by omega
      rw [vput, this, vnat_small (by decide)]
      rfl
    rw [hE]
    clear hE
    have hx : x < 0 := by omega
    go_enter Try.func47, Try.ntmps47
    go_wp2
    go_ret
    exact ⟨_, rfl, OB_lit [0] (Nat.le_refl _) (by simp), below_alloc (Below.refl _ _) _⟩
theorem reftext_calls (s : ByteArray) (w : World) (h1 : s.size ≤ 140737000000000) :
    Calls Try.prog 46 #[.string s] w fun e w' => ∃ v, e = .returned v ∧ OB w' w.heap.size v (vtext s) ∧ Below w.heap.size w w' := by
  have h9 := vput_le (s.size : Int) (by omega)
  go_enter Try.func46, Try.ntmps46
  go_wp2_with fail
  (with_reducible refine (refput_calls _ _ (by omega)).mono ?_)
  rintro e w2 ⟨v2, rfl, HO2, hb2⟩
  have HO := Aside0.mk HO2
  have HB := Aside0.mk hb2
  clear HO2 hb2
  go_wp2_with ((with_reducible refine gate_dst (N := 7) rfl ?_); refine app_str rfl rfl rfl rfl HO.out HB.out.size (by omega) ?_; intro v4 w4 HO4 hb4 _)
  go_ret
  exact ⟨_, rfl, HO4, HB.out.trans hb4⟩
end Go.Proofs.Ytmfnbkghfmeekaa.A.V
namespace Go.Proofs.Ytmfnbkghfmeekaa.A.V
open Go.RowKit Go.Proofs.YtmfnbkghfmeekaaW.PrintWords Go.Proofs.YtmfnbkghfmeekaaW.PrintLast Go.Proofs.YtmfnbkghfmeekaaW.PrintMore
set_option linter.unusedVariables false
set_option linter.unusedSimpArgs false
theorem flat_put_len (L : List Int) (h : ∀ y ∈ L, y ≤ 9223372036854775807) : (L.flatMap vput).length ≤ 9 * L.length := by
  induction L with
  | nil => simp
  | cons x L ih =>
    rw [List.flatMap_cons, List.length_append, List.length_cons]
    have h1 := vput_le x (h x (by simp))
    have h2 := ih (fun y hy => h y (by simp [hy]))
    omega
theorem text1_calls (A : Option Addr) (n c : Nat) (b : List Int) (x : ByteArray) (w : World) (e : Nat) (hr : U8.C w A n b) (hc : n ≤ c) (hx : x.size ≤ 100000) (hl : n ≤ 100000) :
    Calls Try.prog 34 #[.slice A n c, .slice (some ⟨w.heap.size, 0, none⟩) 1 1] (w.alloc (.cells #[.string x] e)) fun e w' => ∃ v, e = .returned v ∧ OB w' w.heap.size v (b ++ vtext x) ∧ Below w.heap.size w w' := by
  have h9 := vput_le x.size (by omega)
  have hn := hr.1
  have ht := vtext_len x
  have hf : [x].flatMap vtext = vtext x := by simp
  refine (text_calls A n c b _ 1 1 [x] _ (Kd.C_alloc hr _) hc (lit_CT w [x] e (by simp) (0, 0)) (by omega) (by rw [hf]; omega)).mono ?_
  rintro e w' ⟨v, rfl, HO, hb⟩
  rw [hf] at HO
  exact ⟨v, rfl, Kd.R_lower HO (by simp), below_step (below_alloc (Below.refl _ _) _) hb⟩
end Go.Proofs.Ytmfnbkghfmeekaa.A.V
