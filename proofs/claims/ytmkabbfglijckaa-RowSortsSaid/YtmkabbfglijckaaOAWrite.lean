/- A tuple's bytes: the program's. -/
import Derived.Test.YtmkabbfglijckaaOACut
import Derived.Laws.BitsAllLaws
namespace Go.Proofs.Ytmkabbfglijckaa.A.O
open Go.RowKit Go.Proofs.YtmkabbfglijckaaW.PrintWords Go.Proofs.YtmkabbfglijckaaW.PrintLast Go.Proofs.YtmkabbfglijckaaW.PrintMore
set_option linter.unusedVariables false
set_option linter.unusedSimpArgs false

def wtextB (b : Int) : List Int := if b = 0 then [0, 255] else [b]
def wtext (s : ByteArray) : List Int := (bytesOf s).flatMap wtextB ++ [0, 1]
/-- 8 bytes of a number, the highest first. -/
def num8 (u : Int) : List Int := [u / 72057594037927936 % 256, u / 281474976710656 % 256, u / 1099511627776 % 256, u / 4294967296 % 256, u / 16777216 % 256, u / 65536 % 256, u / 256 % 256, u % 256]
def wpart (p : Pt) : List Int := if p.t then [2] ++ wtext p.s else [1] ++ num8 (p.n + 9223372036854775808)
def writeL (l : List Pt) : List Int := l.flatMap wpart
theorem wtextB_len (b : Int) : (wtextB b).length ≤ 2 := by
  unfold wtextB
  split <;> simp
theorem flat_text_len (x : List Int) : (x.flatMap wtextB).length ≤ 2 * x.length := by
  induction x with
  | nil => simp
  | cons b x ih =>
    rw [List.flatMap_cons, List.length_append, List.length_cons]
    have := wtextB_len b
    omega
theorem wpart_len (p : Pt) : (wpart p).length ≤ 2 * p.s.size + 9 := by
  unfold wpart
  split
  · have := flat_text_len (bytesOf p.s)
    rw [bytesOf_length] at this
    simp only [wtext, List.length_append, List.length_cons, List.length_nil]
    omega
  · simp [num8]
theorem writeL_len (l : List Pt) (m : Nat) (h : ∀ p ∈ l, p.s.size ≤ m) : (writeL l).length ≤ (2 * m + 9) * l.length := by
  unfold writeL
  induction l with
  | nil => simp
  | cons p l ih =>
    rw [List.flatMap_cons, List.length_append, List.length_cons, Nat.mul_succ]
    have h1 := wpart_len p
    have h2 := h p (by simp)
    have h3 := ih (fun q hq => h q (by simp [hq]))
    omega
theorem bytesOf_at (s : ByteArray) (j : Nat) (h : j < s.size) : (bytesOf s).getD j 0 = (s[j].toNat : Int) := by
  have h2 : j < s.data.size := h
  simp only [bytesOf, List.getD_eq_getElem?_getD, List.getElem?_map, Array.getElem?_toList]
  rw [show s.data[j]? = some s.data[j] from Array.getElem?_eq_getElem h2]
  rfl
/-- A box of a part: its cells; it stays when a row grows. -/
theorem box_cells {w : World} {g T : Nat} {t : Bool} {n : Int} {s : ByteArray} (h : w.heap[g]? = some (.cells #[.bool t, .int .i64 n, .string s] T (0, 0))) : w.cell? ⟨g, 0, none⟩ = some (.bool t) ∧ w.cell? ⟨g, 1, none⟩ = some (.int .i64 n) ∧ w.cell? ⟨g, 2, none⟩ = some (.string s) := by
  refine ⟨?_, ?_, ?_⟩
  · rw [cell_of_row _ _ _ _ _ _ h]; rfl
  · rw [cell_of_row _ _ _ _ _ _ h]; rfl
  · rw [cell_of_row _ _ _ _ _ _ h]; rfl
theorem box_grown {W w1 : World} {g : Nat} {o : Obj} {row : Option Nat} (h : W.heap[g]? = some o) (hg : W.grownBy w1 row) (hne : some g ≠ row) : w1.heap[g]? = some o :=
  (hg.block g (Array.getElem?_eq_some_iff.1 h).1 hne).trans h

theorem R_lt_ne {α : Type} {d : Kd α} {e : Nat} {W : World} {B : Nat} {ok : Nat → Prop} {v : Value} {xs : List α} (h : d.R e W B ok v xs) : some W.heap.size ≠ v.ownBlock := by
  intro e1
  obtain ⟨_, inner, ho, _⟩ := h
  have := own_lt ho _ e1.symm
  omega
theorem top_lt (m : Nat) (h : m < 2 ^ 63) : m ^^^ 2 ^ 63 = 2 ^ 63 + m := by
  apply Nat.eq_of_testBit_eq
  intro i
  rw [Nat.testBit_xor, Nat.testBit_two_pow]
  rcases Nat.lt_trichotomy i 63 with hi | hi | hi
  · rw [Nat.testBit_two_pow_add_gt hi, decide_eq_false (by omega), Bool.xor_false]
  · subst hi
    rw [Nat.testBit_two_pow_add_eq, decide_eq_true rfl, Bool.xor_true]
  · rw [decide_eq_false (by omega), Bool.xor_false]
    have h1 : m < 2 ^ i := Nat.lt_of_lt_of_le h (Nat.pow_le_pow_right (by omega) (by omega))
    have h2 : 2 ^ 63 + m < 2 ^ i := by
      have : 2 ^ 64 ≤ 2 ^ i := Nat.pow_le_pow_right (by omega) (by omega)
      omega
    rw [Nat.testBit_lt_two_pow h1, Nat.testBit_lt_two_pow h2]
theorem xor_top (n : Int) (h0 : -9223372036854775808 ≤ n) (h1 : n ≤ 9223372036854775807) : bits .xor .u64 (IntKind.u64.wrap n) 9223372036854775808 = n + 9223372036854775808 := by
  rw [IntKind.wrap_u64]
  obtain ⟨m, hm⟩ : ∃ m : Nat, n % 18446744073709551616 = (m : Int) := ⟨(n % 18446744073709551616).toNat, by omega⟩
  rw [hm]
  have h2 := u64_xor_nat m 9223372036854775808 (by omega) (by omega)
  rw [show (9223372036854775808 : Int) = ((9223372036854775808 : Nat) : Int) from rfl, h2]
  have e : (9223372036854775808 : Nat) = 2 ^ 63 := rfl
  by_cases h : m < 2 ^ 63
  · rw [e, top_lt m h]
    omega
  · obtain ⟨k, rfl⟩ : ∃ k, m = 2 ^ 63 + k := ⟨m - 2 ^ 63, by omega⟩
    have hk : k < 2 ^ 63 := by omega
    rw [e, ← top_lt k hk, Nat.xor_assoc, Nat.xor_self, Nat.xor_zero]
    omega
theorem num8_len (u : Int) : (num8 u).length = 8 := rfl

set_option maxRecDepth 100000 in
set_option maxHeartbeats 4000000 in
theorem write_calls (A : Option Addr) (n c : Nat) (l : List Pt) (w : World) (hr : KPt.C w A n l) (hc : n ≤ c) (hok : ∀ p ∈ l, p.ok) (hs : ∀ p ∈ l, p.s.size ≤ 100000) (hn : n ≤ 1000) :
    Calls Try.prog 60 #[.slice A n c] w fun e w' => ∃ v, e = .returned v ∧ OB w' w.heap.size v (writeL l) ∧ Below w.heap.size w w' := by
  have hnl : n = l.length := hr.1.symm
  have HN := Aside0.mk hnl
  have HR := Aside0.mk hr
  have HOK := Aside0.mk hok
  have HS := Aside0.mk hs
  clear hnl hr hok hs
  go_enter Try.func60, Try.ntmps60
  go_wp2
  go_loopw [3, 11] (fun v3 v11 w' => ∃ k : Nat, k ≤ n ∧ v11 = .int .i64 k ∧ Aside0 (OB w' w.heap.size v3 ((l.take k).flatMap wpart)) ∧ Aside0 (Below w.heap.size w w')) (fun _ v11 _ => n - (intOf v11).toNat)
  case atStart => exact ⟨0, Nat.zero_le _, rfl, ⟨Kd.R_nil _ _ _ _ _⟩, ⟨Below.refl _ _⟩⟩
  case round =>
    obtain ⟨k, hk, rfl, HO, HB⟩ := hrel
    by_cases hlt : k < n
    · obtain ⟨ad, rfl, p0, p1, p2⟩ := C_atPt HR.out k hlt
      have p0 := pw_cell_below HB.out p0
      have p1 := pw_cell_below HB.out p1
      have p2 := pw_cell_below HB.out p2
      have hfl := flat_take wpart l default k (by rw [← HN.out]; exact hlt)
      have hpre := writeL_len (l.take k) 100000 (fun p hp => HS.out p (List.mem_of_mem_take hp))
      have hpo : (l.getD k default).ok ∧ (l.getD k default).s.size ≤ 100000 := by
        have e : l.getD k default = l[k]'(by rw [← HN.out]; exact hlt) := by simp [List.getD_eq_getElem?_getD, show k < l.length by rw [← HN.out]; exact hlt]
        rw [e]
        exact ⟨HOK.out _ (List.getElem_mem _), HS.out _ (List.getElem_mem _)⟩
      unfold writeL at hpre
      rw [List.length_take, ← HN.out] at hpre
      have hpl : ((l.take k).flatMap wpart).length ≤ 300000000 := by omega
      generalize l.getD k default = p at *
      generalize (l.take k).flatMap wpart = pre at *
      obtain ⟨pt, pn, ps⟩ := p
      obtain ⟨⟨⟨hn0, hn1⟩, _⟩, hps⟩ := hpo
      dsimp only at p0 p1 p2 hps hn0 hn1
      have hn0' : -9223372036854775808 ≤ pn := hn0
      have hn1' : pn ≤ 9223372036854775807 := hn1
      have HFL := Aside0.mk hfl
      clear hfl hpre hn0 hn1
      cases pt with
      | true =>
        go_wp2_with ((with_reducible refine gate_dst (N := 19) rfl ?_); refine app_byte rfl rfl rfl ?_ (Kd.R_alloc HO.out _) (below_alloc HB.out _).size (by omega) ?_; go_simp; intro v2 w2 HO2 hb2 hg2; have HX2 := Aside0.mk (box_grown (heap_alloc_new wr _) hg2 (R_lt_ne HO.out)); obtain ⟨b0, b1, b2⟩ := box_cells HX2.out; have HP2 := Aside0.mk HO2; have HB2 := Aside0.mk ((below_alloc HB.out _).trans hb2); clear hb2 hg2 HO2 p0 p1 p2)
        clear HO HB b0 b1 b2
        generalize wr.heap.size = g at *
        go_loopw [3, 23] (fun v3 v23 w' => ∃ j : Nat, j ≤ ps.size ∧ v23 = .int .i64 j ∧ Aside0 (OB w' w.heap.size v3 (pre ++ [2] ++ ((bytesOf ps).take j).flatMap wtextB)) ∧ Aside0 (w'.heap[g]? = some (.cells #[.bool true, .int .i64 pn, .string ps] 78 (0, 0))) ∧ Aside0 (Below w.heap.size w w')) (fun _ v23 _ => ps.size - (intOf v23).toNat)
        case atStart => exact ⟨0, Nat.zero_le _, rfl, ⟨by simpa using HP2.out⟩, HX2, HB2⟩
        case round =>
          clear HP2 HB2 HX2
          obtain ⟨j, hj, rfl, HO, HX, HB⟩ := hrel
          obtain ⟨b0, b1, b2⟩ := box_cells HX.out
          by_cases hlj : j < ps.size
          · have i1 : (0 : Int) ≤ (j : Int) := by omega
            have i2 : (j : Int) < (ps.size : Int) := by omega
            have hfb := flat_take wtextB (bytesOf ps) 0 j (by rw [bytesOf_length]; exact hlj)
            rw [bytesOf_at ps j hlj] at hfb
            have hfl := flat_text_len ((bytesOf ps).take j)
            rw [List.length_take, bytesOf_length] at hfl
            have hb255 : ps[j].toNat < 256 := UInt8.toNat_lt _
            generalize ((bytesOf ps).take j).flatMap wtextB = mid at *
            have hml : (pre ++ [2] ++ mid).length ≤ 300200001 := by rw [List.length_append, List.length_append, List.length_singleton]; omega
            have hml2 : (pre ++ [2] ++ mid ++ [0]).length ≤ 300200002 := by rw [List.length_append, List.length_singleton]; omega
            have HFB := Aside0.mk hfb
            clear hfb hfl
            by_cases hz : ps[j].toNat = 0
            · go_wp2_with (first
                | ((with_reducible refine gate_dst (N := 32) rfl ?_); refine app_byte rfl rfl rfl rfl HO.out HB.out.size (by omega) ?_; intro v4 w4 HO4 hb4 hg4; have HX4 := Aside0.mk (box_grown HX.out hg4 (Kd.R_ne HO.out HX.out (by decide))); have HP4 := Aside0.mk HO4; have HB4 := Aside0.mk (HB.out.trans hb4); obtain ⟨c0, c1, c2⟩ := box_cells HX4.out; clear hb4 hg4 HO4 HO HB HX b0 b1 b2)
                | ((with_reducible refine gate_dst (N := 40) rfl ?_); refine app_byte rfl rfl rfl rfl HP4.out HB4.out.size (by omega) ?_; intro v5 w5 HO5 hb5 hg5; have HX5 := Aside0.mk (box_grown HX4.out hg5 (Kd.R_ne HP4.out HX4.out (by decide)))))
              go_roundw
              case rel =>
                refine ⟨j + 1, hlj, rfl, ⟨?_⟩, HX5, ⟨HB4.out.trans hb5⟩⟩
                rw [HFB.out, hz]
                simpa [wtextB] using HO5
              case measure => simp [intOf]; omega
            · have hz2 : ¬ (ps[j].toNat : Int) = 0 := by omega
              go_wp2_with ((with_reducible refine gate_dst (N := 32) rfl ?_); refine app_byte rfl rfl rfl rfl HO.out HB.out.size (by omega) ?_; intro v4 w4 HO4 hb4 hg4; have HX4 := Aside0.mk (box_grown HX.out hg4 (Kd.R_ne HO.out HX.out (by decide))); obtain ⟨c0, c1, c2⟩ := box_cells HX4.out)
              go_roundw
              case rel =>
                refine ⟨j + 1, hlj, rfl, ⟨?_⟩, HX4, ⟨HB.out.trans hb4⟩⟩
                rw [HFB.out, show wtextB (ps[j].toNat : Int) = [(ps[j].toNat : Int)] by unfold wtextB; rw [if_neg hz2], ← List.append_assoc]
                exact HO4
              case measure => simp [intOf]; omega
          · obtain rfl : j = ps.size := by omega
            have hfl := flat_text_len (bytesOf ps)
            rw [bytesOf_length] at hfl
            have HO2 := HO.out
            rw [List.take_of_length_le (by rw [bytesOf_length]; exact Nat.le_refl _)] at HO2
            have HP2 := Aside0.mk HO2
            have hml : (pre ++ [2] ++ (bytesOf ps).flatMap wtextB).length ≤ 300200001 := by rw [List.length_append, List.length_append, List.length_singleton]; omega
            clear HO HO2 hfl b0 b1 b2
            go_wp2_with ((with_reducible refine gate_dst (N := 44) rfl ?_); refine app_bytes rfl rfl rfl rfl (Kd.R_alloc HP2.out _) (lit_C [0, 1] (by simp)) (below_alloc HB.out _).size (by omega) ?_; intro v4 w4 HO4 hb4 hg4 _)
            go_roundw
            case rel =>
              refine ⟨k + 1, hlt, rfl, ⟨?_⟩, ⟨(below_alloc HB.out _).trans hb4⟩⟩
              rw [HFL.out]
              simpa [wpart, wtext] using HO4
            case measure => simp [intOf]; omega
      | false =>
        have hx := xor_top pn hn0' hn1'
        have HXT := Aside0.mk hx
        clear hx
        go_wp2_with ((with_reducible refine gate_dst (N := 47) rfl ?_); refine app_byte rfl rfl rfl ?_ (Kd.R_alloc HO.out _) (below_alloc HB.out _).size (by omega) ?_; go_simp; intro v2 w2 HO2 hb2 hg2; have HX2 := Aside0.mk (box_grown (heap_alloc_new wr _) hg2 (R_lt_ne HO.out)); obtain ⟨b0, b1, b2⟩ := box_cells HX2.out; have HP2 := Aside0.mk HO2; have HB2 := Aside0.mk ((below_alloc HB.out _).trans hb2); clear hb2 hg2 HO2 p0 p1 p2)
        rw [HXT.out]
        clear HO HB b0 b1 b2 HX2
        obtain ⟨u, hu⟩ : ∃ u, pn + 9223372036854775808 = u := ⟨_, rfl⟩
        have HU := Aside0.mk hu
        have hu0 : 0 ≤ u := by omega
        have hu1 : u < 18446744073709551616 := by omega
        rw [hu]
        clear hu HXT
        go_loopw [3, 8] (fun v3 v8 w' => ∃ (j : Nat) (i : Int), j ≤ 8 ∧ i = 7 - (j : Int) ∧ v8 = .int .i64 i ∧ Aside0 (OB w' w.heap.size v3 (pre ++ [1] ++ (num8 u).take j)) ∧ Aside0 (Below w.heap.size w w')) (fun _ v8 _ => (intOf v8 + 1).toNat)
        case atStart => exact ⟨0, 7, by omega, by omega, rfl, ⟨by simpa using HP2.out⟩, HB2⟩
        case round =>
          clear HP2 HB2
          obtain ⟨j, i, hj, hi, rfl, HO, HB⟩ := hrel
          have hml : (pre ++ [1] ++ (num8 u).take j).length ≤ 300000020 := by
            rw [List.length_append, List.length_append, List.length_singleton, List.length_take, num8_len]
            omega
          rcases (by omega : j = 0 ∨ j = 1 ∨ j = 2 ∨ j = 3 ∨ j = 4 ∨ j = 5 ∨ j = 6 ∨ j = 7 ∨ j = 8) with rfl | rfl | rfl | rfl | rfl | rfl | rfl | rfl | rfl
          · obtain rfl : i = 7 := hi
            go_wp2_with ((with_reducible refine gate_dst (N := 63) rfl ?_); refine app_byte rfl rfl rfl rfl HO.out HB.out.size (by omega) ?_; intro v4 w4 HO4 hb4 hg4)
            go_roundw
            case rel =>
              refine ⟨1, 6, by omega, by omega, rfl, ⟨?_⟩, ⟨HB.out.trans hb4⟩⟩
              simpa [num8, show u / 72057594037927936 % 256 = u / 72057594037927936 by omega] using HO4
            case measure => simp [intOf]
          · obtain rfl : i = 6 := hi
            go_wp2_with ((with_reducible refine gate_dst (N := 63) rfl ?_); refine app_byte rfl rfl rfl rfl HO.out HB.out.size (by omega) ?_; intro v4 w4 HO4 hb4 hg4)
            go_roundw
            case rel =>
              refine ⟨2, 5, by omega, by omega, rfl, ⟨?_⟩, ⟨HB.out.trans hb4⟩⟩
              simpa [num8] using HO4
            case measure => simp [intOf]
          · obtain rfl : i = 5 := hi
            go_wp2_with ((with_reducible refine gate_dst (N := 63) rfl ?_); refine app_byte rfl rfl rfl rfl HO.out HB.out.size (by omega) ?_; intro v4 w4 HO4 hb4 hg4)
            go_roundw
            case rel =>
              refine ⟨3, 4, by omega, by omega, rfl, ⟨?_⟩, ⟨HB.out.trans hb4⟩⟩
              simpa [num8] using HO4
            case measure => simp [intOf]
          · obtain rfl : i = 4 := hi
            go_wp2_with ((with_reducible refine gate_dst (N := 63) rfl ?_); refine app_byte rfl rfl rfl rfl HO.out HB.out.size (by omega) ?_; intro v4 w4 HO4 hb4 hg4)
            go_roundw
            case rel =>
              refine ⟨4, 3, by omega, by omega, rfl, ⟨?_⟩, ⟨HB.out.trans hb4⟩⟩
              simpa [num8] using HO4
            case measure => simp [intOf]
          · obtain rfl : i = 3 := hi
            go_wp2_with ((with_reducible refine gate_dst (N := 63) rfl ?_); refine app_byte rfl rfl rfl rfl HO.out HB.out.size (by omega) ?_; intro v4 w4 HO4 hb4 hg4)
            go_roundw
            case rel =>
              refine ⟨5, 2, by omega, by omega, rfl, ⟨?_⟩, ⟨HB.out.trans hb4⟩⟩
              simpa [num8] using HO4
            case measure => simp [intOf]
          · obtain rfl : i = 2 := hi
            go_wp2_with ((with_reducible refine gate_dst (N := 63) rfl ?_); refine app_byte rfl rfl rfl rfl HO.out HB.out.size (by omega) ?_; intro v4 w4 HO4 hb4 hg4)
            go_roundw
            case rel =>
              refine ⟨6, 1, by omega, by omega, rfl, ⟨?_⟩, ⟨HB.out.trans hb4⟩⟩
              simpa [num8] using HO4
            case measure => simp [intOf]
          · obtain rfl : i = 1 := hi
            go_wp2_with ((with_reducible refine gate_dst (N := 63) rfl ?_); refine app_byte rfl rfl rfl rfl HO.out HB.out.size (by omega) ?_; intro v4 w4 HO4 hb4 hg4)
            go_roundw
            case rel =>
              refine ⟨7, 0, by omega, by omega, rfl, ⟨?_⟩, ⟨HB.out.trans hb4⟩⟩
              simpa [num8] using HO4
            case measure => simp [intOf]
          · obtain rfl : i = 0 := hi
            go_wp2_with ((with_reducible refine gate_dst (N := 63) rfl ?_); refine app_byte rfl rfl rfl rfl HO.out HB.out.size (by omega) ?_; intro v4 w4 HO4 hb4 hg4)
            go_roundw
            case rel =>
              refine ⟨8, -1, by omega, by omega, rfl, ⟨?_⟩, ⟨HB.out.trans hb4⟩⟩
              simpa [num8] using HO4
            case measure => simp [intOf]
          · obtain rfl : i = -1 := hi
            go_wp2_with fail
            go_roundw
            case rel =>
              refine ⟨k + 1, hlt, rfl, ⟨?_⟩, HB⟩
              rw [HFL.out]
              have := HO.out
              rw [List.take_of_length_le (by rw [num8_len]; omega), ← HU.out] at this
              simpa [wpart] using this
            case measure => simp [intOf]; omega
    · obtain rfl : k = n := by omega
      go_wp2_with fail
      go_ret
      refine ⟨_, rfl, ?_, HB.out⟩
      have := HO.out
      rwa [List.take_of_length_le (by rw [← HN.out]; omega)] at this

end Go.Proofs.Ytmkabbfglijckaa.A.O
