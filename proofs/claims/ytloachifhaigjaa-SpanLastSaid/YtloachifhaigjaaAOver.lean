/- Pieces with one over them: the program's. -/
import Derived.Test.YtloachifhaigjaaAInsPc
import Derived.Test.YtloachifhaigjaaAMade
namespace Go.Proofs.Ytloachifhaigjaa.A
open Go.RowKit Go.Proofs.YtloachifhaigjaaW.PrintWords Go.Proofs.YtloachifhaigjaaW.PrintLast Go.Proofs.YtloachifhaigjaaW.PrintMore
set_option linter.unusedVariables false
set_option linter.unusedSimpArgs false

/-- Where the first piece begins that lies behind. -/
def firstAt (t : Int) : List Pc → Nat
  | [] => 0
  | q :: l => if t ≤ q.f then 0 else firstAt t l + 1
theorem firstAt_le (t : Int) (l : List Pc) : firstAt t l ≤ l.length := by
  induction l with
  | nil => simp [firstAt]
  | cons q l ih =>
    unfold firstAt
    split <;> simp <;> omega
theorem over_first (p : Pc) (l : List Pc) : overGo p l false = l.take (firstAt p.t l) ++ p :: l.drop (firstAt p.t l) := by
  induction l with
  | nil => rfl
  | cons q l ih =>
    unfold overGo firstAt
    by_cases h : p.t ≤ q.f
    · simp [h, over_true]
    · simp [h, ih]
theorem over1_calls (g : Nat) (f t : Int) (v : ByteArray) (qf qt : Int) (qv : ByteArray) (w : World) (hb : w.heap[g]? = some (pcBox f t v)) :
    Calls Try.prog 34 #[.agg #[.int .i64 qf, .int .i64 qt, .string qv], .pointer (some ⟨g, 0, none⟩)] w fun e w' => e = .returned (.bool (decide (t ≤ qf))) ∧ Below w.heap.size w w' := by
  obtain ⟨x0, x1, x2⟩ := pc_cells hb
  have hlt := blk_lt hb
  clear hb
  go_enter Try.func34, Try.ntmps34
  go_wp2
  go_ret
  exact ⟨rfl, by repeat (with_reducible first | exact Below.refl _ _ | apply below_alloc)⟩
set_option maxRecDepth 100000 in
set_option maxHeartbeats 1000000 in
theorem idx_calls (A : Option Addr) (n c g : Nat) (l : List Pc) (f t : Int) (v : ByteArray) (w : World) (hr : KPc.C w A n l) (hc : n ≤ c) (hb : w.heap[g]? = some (pcBox f t v)) :
    Calls Try.prog 33 #[.slice A n c, .func (.func 34) #[] #[.pointer (some ⟨g, 0, none⟩)]] w fun e w' => e = .returned (.int .i64 (if firstAt t l < n then (firstAt t l : Int) else -1)) ∧ Below w.heap.size w w' := by
  have HR := Aside0.mk hr
  have HN := Aside0.mk hr.1
  have HX := Aside0.mk hb
  have hm : n ≤ 9223372036854775807 := hr.2.1
  obtain ⟨rv, hrv⟩ : ∃ rv, (if firstAt t l < n then (firstAt t l : Int) else -1) = rv := ⟨_, rfl⟩
  rw [hrv]
  have HRV := Aside0.mk hrv
  clear hr hb hrv
  go_enter Try.func33, Try.ntmps33
  go_wp2_with fail
  go_loopw [8] (fun v8 w' => ∃ k : Nat, k ≤ n ∧ v8 = .int .i64 k ∧ Aside0 (firstAt t l = k + firstAt t (l.drop k)) ∧ Aside0 (Below w.heap.size w w')) (fun v8 _ => n - (intOf v8).toNat)
  case atStart => exact ⟨0, Nat.zero_le _, rfl, ⟨by simp⟩, ⟨Below.refl _ _⟩⟩
  case round =>
    obtain ⟨k, hk, rfl, HE, HB⟩ := hrel
    by_cases hlt : k < n
    · obtain ⟨ad, rfl, q0, q1, q2⟩ := C_atPc HR.out k hlt
      have p0 := pw_cell_below HB.out q0
      have p1 := pw_cell_below HB.out q1
      have p2 := pw_cell_below HB.out q2
      have hE := HE.out
      rw [drop_pc l k (by rw [HN.out]; exact hlt), firstAt] at hE
      clear q0 q1 q2 HE
      generalize l.getD k default = p at *
      obtain ⟨qf, qt, qv⟩ := p
      simp only at p0 p1 p2 hE
      have i1 : (k : Int) < (n : Int) := by omega
      have i2 : (0 : Int) ≤ (k : Int) := by omega
      by_cases hh : t ≤ qf
      · rw [if_pos hh] at hE
        have HD := Aside0.mk hE
        have HH := Aside0.mk (decide_eq_true hh)
        clear hE
        go_wp2_with fail
        (with_reducible refine (over1_calls g f t v qf qt qv _ (box_keep HX.out HB.out)).mono ?_)
        rw [HH.out]
        rintro e w1 ⟨rfl, hb1⟩
        have HB2 := Aside0.mk (below_step HB.out hb1)
        clear hb1
        go_wp2_with fail
        go_ret
        exact ⟨by rw [← HRV.out, HD.out, if_pos (by omega)]; rfl, HB2.out⟩
      · rw [if_neg hh] at hE
        have HD := Aside0.mk hE
        have HH := Aside0.mk (decide_eq_false hh)
        clear hE hh
        go_wp2_with fail
        (with_reducible refine (over1_calls g f t v qf qt qv _ (box_keep HX.out HB.out)).mono ?_)
        rw [HH.out]
        rintro e w1 ⟨rfl, hb1⟩
        have HB2 := Aside0.mk (below_step HB.out hb1)
        clear hb1
        go_wp2_with fail
        go_roundw
        case rel => exact ⟨k + 1, hlt, rfl, ⟨by rw [HD.out]; omega⟩, HB2⟩
        case measure => simp [intOf]; omega
    · obtain rfl : k = n := by omega
      have hE := HE.out
      rw [List.drop_of_length_le (by rw [HN.out]; omega), firstAt] at hE
      have HD := Aside0.mk hE
      clear hE HE
      go_wp2_with fail
      go_ret
      exact ⟨by rw [← HRV.out, HD.out, if_neg (by omega)]; rfl, HB.out⟩
set_option maxRecDepth 100000 in
set_option maxHeartbeats 2000000 in
theorem over_calls (A : Option Addr) (n c : Nat) (l : List Pc) (f t : Int) (v : ByteArray) (w : World) (hr : KPc.C w A n l) (hc : n ≤ c) (hn : n ≤ 5000) (hm : Sp.may ⟨f, t⟩ = true) :
    Calls Try.prog 27 #[.slice A n c, .agg #[.int .i64 f, .int .i64 t, .string v]] w fun e w' => ∃ v', e = .returned v' ∧ OPc w' w.heap.size v' (overL l ⟨f, t, v⟩) ∧ Below w.heap.size w w' := by
  rw [overL_true (p := ⟨f, t, v⟩) hm, over_first]
  have HR := Aside0.mk hr
  have HM := Aside0.mk hm
  have hlen := wo_len ⟨f, t⟩ l
  rw [hr.1] at hlen
  clear hr
  go_enter Try.func27, Try.ntmps27
  go_wp2_with fail
  (with_reducible refine (may_calls _ _ _).mono ?_)
  rw [HM.out]
  rintro e w1 ⟨rfl, rfl⟩
  have HB1 := Aside0.mk (below_alloc (below_alloc (Below.refl _ w) (pcBox f t v)) (spBox f t))
  have HX1 : Aside0 (((w.alloc (pcBox f t v)).alloc (spBox f t)).heap[w.heap.size]? = some (pcBox f t v)) := ⟨box_keep (heap_alloc_new w _) (below_alloc (Below.refl _ _) _)⟩
  go_wp2_with fail
  (with_reducible refine (without_calls _ _ _ l f t _ (Kd.C_below HR.out HB1.out) hc hn hm).mono ?_)
  rintro e w2 ⟨v2, rfl, HO2, hb2⟩
  obtain ⟨m, hm2⟩ : ∃ m, (l.flatMap (wo ⟨f, t⟩)).length = m := ⟨_, rfl⟩
  rw [hm2] at hlen
  obtain ⟨A2, c2, rfl, hc2, HC20⟩ := OPc_readn HO2 m hm2
  have HC2 := Aside0.mk HC20
  have HX2 := Aside0.mk (box_keep HX1.out hb2)
  have HB2 := Aside0.mk (below_step HB1.out hb2)
  have HO := Aside0.mk (Kd.R_lower HO2 (show w.heap.size ≤ _ from HB1.out.size))
  have hfl := firstAt_le t (l.flatMap (wo ⟨f, t⟩))
  rw [hm2] at hfl
  generalize hL : l.flatMap (wo ⟨f, t⟩) = L at *
  have HN := Aside0.mk hm2
  have HL := Aside0.mk hL
  clear HO2 hb2 HC20 HX1 HB1 hm hm2 hL
  go_wp2_with fail
  (with_reducible refine (idx_calls A2 m c2 w.heap.size L f t v _ HC2.out hc2 HX2.out).mono ?_)
  rintro e w3 ⟨rfl, hb3⟩
  have HX3 := Aside0.mk (box_keep HX2.out hb3)
  have HB3 := Aside0.mk (below_step HB2.out hb3)
  have HO3 := Aside0.mk (Kd.R_below HO.out hb3)
  obtain ⟨x0, x1, x2⟩ := pc_cells HX3.out
  clear hb3 HC2 HX2 HB2 HO
  generalize hK : firstAt t L = k at *
  have HK := Aside0.mk hK
  clear hK
  by_cases hk : k < m
  · rw [if_pos hk]
    have i1 : (0 : Int) ≤ (k : Int) := by omega
    go_wp2_with fail
    (with_reducible refine (ins_calls A2 c2 m k L f t v w3 w.heap.size HO3.out HB3.out.size (by omega) hfl).mono ?_)
    rintro e w4 ⟨v4, rfl, HO4, hb4⟩
    have HO5 := Aside0.mk HO4
    have HB5 := Aside0.mk (HB3.out.trans hb4)
    clear HO4 hb4
    go_wp2_with fail
    go_ret
    exact ⟨_, rfl, by have h := HO5.out; rw [← HK.out, ← HL.out] at h; exact h, HB5.out⟩
  · rw [if_neg hk]
    obtain rfl : k = m := by omega
    go_wp2_with fail
    (with_reducible refine (ins_calls A2 c2 k k L f t v w3 w.heap.size HO3.out HB3.out.size (by omega) (Nat.le_refl _)).mono ?_)
    rintro e w4 ⟨v4, rfl, HO4, hb4⟩
    have HO5 := Aside0.mk HO4
    have HB5 := Aside0.mk (HB3.out.trans hb4)
    clear HO4 hb4
    go_wp2_with fail
    go_ret
    exact ⟨_, rfl, by have h := HO5.out; rw [← HK.out, ← HL.out] at h; exact h, HB5.out⟩
set_option maxRecDepth 100000 in
theorem over0_calls (A : Option Addr) (n c : Nat) (l : List Pc) (f t : Int) (v : ByteArray) (w : World) (hr : KPc.C w A n l) (hc : n ≤ c) (hn : n ≤ 5000) (hm : Sp.may ⟨f, t⟩ = false) :
    Calls Try.prog 27 #[.slice A n c, .agg #[.int .i64 f, .int .i64 t, .string v]] w fun e w' => ∃ v', e = .returned v' ∧ OPc w' w.heap.size v' (overL l ⟨f, t, v⟩) ∧ Below w.heap.size w w' := by
  have e0 : overL l ⟨f, t, v⟩ = l := if_neg (by simp [hm])
  rw [e0]
  have HR := Aside0.mk hr
  have HM := Aside0.mk hm
  clear hr hm e0
  go_enter Try.func27, Try.ntmps27
  go_wp2_with fail
  (with_reducible refine (may_calls _ _ _).mono ?_)
  rw [HM.out]
  rintro e w1 ⟨rfl, rfl⟩
  have HB := Aside0.mk (below_alloc (below_alloc (Below.refl _ w) (pcBox f t v)) (spBox f t))
  go_wp2_with fail
  (with_reducible refine (clonePc_calls _ _ _ l _ (Kd.C_below HR.out HB.out) hc hn).mono ?_)
  rintro e w2 ⟨v2, rfl, HO2, hb2⟩
  have HO := Aside0.mk (Kd.R_lower HO2 HB.out.size)
  have HB2 := Aside0.mk (below_step HB.out hb2)
  clear HO2 hb2
  go_wp2_with fail
  go_ret
  exact ⟨_, rfl, HO.out, HB2.out⟩
/-- span.Over. -/
theorem overP_calls (A : Option Addr) (n c : Nat) (l : List Pc) (p : Pc) (w : World) (hr : KPc.C w A n l) (hc : n ≤ c) (hn : n ≤ 5000) :
    Calls Try.prog 27 #[.slice A n c, .agg #[.int .i64 p.f, .int .i64 p.t, .string p.v]] w fun e w' => ∃ v', e = .returned v' ∧ OPc w' w.heap.size v' (overL l p) ∧ Below w.heap.size w w' := by
  obtain ⟨f, t, v⟩ := p
  cases hm : Sp.may ⟨f, t⟩ with
  | true => exact over_calls A n c l f t v w hr hc hn hm
  | false => exact over0_calls A n c l f t v w hr hc hn hm
end Go.Proofs.Ytloachifhaigjaa.A
