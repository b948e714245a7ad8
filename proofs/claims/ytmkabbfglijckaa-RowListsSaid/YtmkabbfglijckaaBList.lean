/- Versions' bytes: row.List, and the document's. -/
import Derived.Test.YtmkabbfglijckaaBVrs
namespace Go.Proofs.Ytmkabbfglijckaa.A
open Go.RowKit Go.Proofs.YtmkabbfglijckaaW.PrintWords Go.Proofs.YtmkabbfglijckaaW.PrintLast Go.Proofs.YtmkabbfglijckaaW.PrintMore
set_option linter.unusedVariables false
set_option linter.unusedSimpArgs false

/-- Versions' bytes, the count ahead. -/
def bytesL (l : List Vr) : List Int := V.vput l.length ++ l.flatMap bytesV
def allB (l : List Vr) : Bool := l.all mayV
def listE (l : List Vr) : Int := if allB l then 0 else 1
def listB (l : List Vr) : List Int := if allB l then bytesL l else []
def smallL (l : List Vr) : Prop := ∀ p ∈ l, p.k.size ≤ 110 ∧ p.v.size ≤ 210
theorem flat_len (l : List Vr) (h : ∀ p ∈ l, mayV p = true) : (l.flatMap bytesV).length ≤ 400 * l.length := by
  induction l with
  | nil => simp
  | cons p l ih =>
    have h1 := bytesV_len p (h p (by simp))
    have h2 := ih (fun q hq => h q (by simp [hq]))
    rw [List.flatMap_cons, List.length_append, List.length_cons]
    omega
theorem take_getD (l : List Vr) (k : Nat) (hk : k < l.length) : l.take (k + 1) = l.take k ++ [l.getD k default] := by
  rw [List.take_succ_eq_append_getElem hk]
  simp [List.getD_eq_getElem?_getD, hk]
theorem drop_getD (l : List Vr) (k : Nat) (hk : k < l.length) : l.drop k = l.getD k default :: l.drop (k + 1) := by
  rw [List.drop_eq_getElem_cons hk]
  simp [List.getD_eq_getElem?_getD, hk]
theorem getD_mem (l : List Vr) (k : Nat) (hk : k < l.length) : l.getD k default ∈ l := by
  have e : l.getD k default = l[k] := by simp [List.getD_eq_getElem?_getD, hk]
  rw [e]
  exact List.getElem_mem hk
theorem allB_iff (l : List Vr) : allB l = true ↔ ∀ p ∈ l, mayV p = true := by unfold allB; rw [List.all_eq_true]
theorem bytesL_range (l : List Vr) : ∀ x ∈ bytesL l, 0 ≤ x ∧ x ≤ 255 := by
  intro x hx
  unfold bytesL at hx
  rcases List.mem_append.1 hx with hx | hx
  · exact vput_range _ x hx
  · obtain ⟨p, _, hx⟩ := List.mem_flatMap.1 hx
    exact bytesV_range p x hx
theorem bytesL_len (l : List Vr) (h : ∀ p ∈ l, mayV p = true) (hn : l.length ≤ 6) : (bytesL l).length ≤ 3000 := by
  have h1 := flat_len l h
  have h2 := V.vput_le (l.length : Int) (by omega)
  unfold bytesL
  rw [List.length_append]
  omega
theorem grow_len (l : List Vr) (k n : Nat) (hn : l.length = n) (h6 : n ≤ 6) (hk : k ≤ n) (h : ∀ p ∈ l.take k, mayV p = true) : (V.vput (n : Int) ++ (l.take k).flatMap bytesV).length ≤ 3000 := by
  have h1 := flat_len (l.take k) h
  have h2 := V.vput_le (n : Int) (by omega)
  have h3 : (l.take k).length = k := by rw [List.length_take]; omega
  rw [List.length_append]
  omega
set_option maxRecDepth 100000 in
set_option maxHeartbeats 4000000 in
theorem list_calls (A : Option Addr) (n c : Nat) (l : List Vr) (w : World) (hr : KVr.C w A n l) (hc : n ≤ c) (h6 : n ≤ 6) (hs : smallL l) :
    Calls Try.prog 20 #[.slice A n c] w fun e w' => ∃ u, e = .returned (.tuple #[u, .int .i64 (listE l)]) ∧ OB w' w.heap.size u (listB l) ∧ Below w.heap.size w w' := by
  have HR := Aside0.mk hr
  have HS := Aside0.mk hs
  have HN := Aside0.mk hr.1
  clear hr hs
  go_enter Try.func20, Try.ntmps20
  go_wp2_with fail
  (with_reducible refine (V.put1_calls none 0 0 [] n w _ (Kd.C_nil _ _) (Nat.le_refl _) (by omega) (by omega)).mono ?_)
  rintro e w1 ⟨v1, rfl, hO1, hb1⟩
  rw [List.nil_append] at hO1
  have HO1 := Aside0.mk hO1
  have HB1 := Aside0.mk hb1
  clear hO1 hb1
  go_wp2_with fail
  go_loopw [4, 13] (fun v4 v13 w' => ∃ k : Nat, k ≤ n ∧ v13 = .int .i64 k ∧ Aside0 (OB w' w.heap.size v4 (V.vput (n : Int) ++ (l.take k).flatMap bytesV)) ∧ Aside0 (∀ p ∈ l.take k, mayV p = true) ∧ Aside0 (Below w.heap.size w w')) (fun _ v13 _ => n - (intOf v13).toNat)
  case atStart => exact ⟨0, Nat.zero_le _, rfl, ⟨by simpa using HO1.out⟩, ⟨by simp⟩, HB1⟩
  case round =>
    obtain ⟨k, hk, rfl, HO, HMY, HB⟩ := hrel
    by_cases hlt : k < n
    · have HX := Aside0.mk (C_atVr (Kd.C_below HR.out HB.out) k hlt)
      have htk := take_getD l k (by rw [HN.out]; exact hlt)
      have hml := getD_mem l k (by rw [HN.out]; exact hlt)
      obtain ⟨m, hm⟩ : ∃ m, (V.vput (n : Int) ++ (l.take k).flatMap bytesV).length = m := ⟨_, rfl⟩
      have hm3 : m ≤ 3000 := by rw [← hm]; exact grow_len l k n HN.out h6 hk HMY.out
      obtain ⟨A4, c4, rfl, hc4, HC4'⟩ := OB_readn HO.out m hm
      have HC4 := Aside0.mk HC4'
      have HSM := Aside0.mk (HS.out _ hml)
      have HTK := Aside0.mk htk
      have HML := Aside0.mk hml
      clear htk hml HC4' hm
      generalize l.getD k default = q at *
      obtain ⟨qk, qbr, qep, qsq, qf, qt, qv, qg⟩ := q
      obtain ⟨hk1, hk2⟩ := HSM.out
      simp only at hk1 hk2
      obtain ⟨ad, rfl, p0, p1, p2, p3, p4, p5, p6, p7⟩ := HX.out
      clear HX HSM
      have i1 : (k : Int) < (n : Int) := by omega
      have i2 : (0 : Int) ≤ (k : Int) := by omega
      go_wp2_with fail
      have hal := below_alloc (Below.refl wr.heap.size wr) (vrBox qk qbr qep qsq qf qt qv qg)
      have HXa : Aside0 ((wr.alloc (vrBox qk qbr qep qsq qf qt qv qg)).heap[wr.heap.size]? = some (vrBox qk qbr qep qsq qf qt qv qg)) := ⟨heap_alloc_new wr _⟩
      have HCa := Aside0.mk (Kd.C_below HC4.out hal)
      have HBa := Aside0.mk (below_step HB.out hal)
      clear hal HO HC4 HB p0 p1 p2 p3 p4 p5 p6 p7
      (with_reducible refine (may_calls qk qbr qep qsq qf qt qv qg _ (by omega) (by omega)).mono ?_)
      rintro e w2 ⟨rfl, hb2⟩
      have HX2 := Aside0.mk (box_keep HXa.out hb2)
      have HC2 := Aside0.mk (Kd.C_below HCa.out hb2)
      have HB2 := Aside0.mk (below_step HBa.out hb2)
      obtain ⟨x0, x1, x2, x3, x4, x5, x6, x7⟩ := vr_cells HX2.out
      clear hb2 HXa HCa HBa
      cases hmv : mayV ⟨qk, qbr, qep, qsq, qf, qt, qv, qg⟩ with
      | false =>
        have HF : Aside0 (allB l = false) := ⟨by
          cases h : allB l with
          | false => rfl
          | true => rw [(allB_iff l).1 h _ HML.out] at hmv; cases hmv⟩
        clear hmv
        go_wp2_with fail
        go_ret2
        exact ⟨_, by unfold listE; rw [HF.out]; rfl, by unfold listB; rw [HF.out]; exact OB_nil _ _, HB2.out⟩
      | true =>
        have HMV := Aside0.mk hmv
        clear hmv
        go_wp2_with fail
        (with_reducible refine (put_calls A4 m c4 (V.vput (n : Int) ++ (l.take k).flatMap bytesV) qk qbr qep qsq qf qt qv qg w2 HC2.out hc4 (by omega) HMV.out (by omega)).mono ?_)
        rintro e w3 ⟨u, rfl, hO3, hb3⟩
        have HO3 := Aside0.mk (Kd.R_lower hO3 HB2.out.size)
        have HB3 := Aside0.mk (below_step HB2.out hb3)
        clear hO3 hb3
        go_wp2_with fail
        go_roundw
        case rel => exact ⟨k + 1, hlt, rfl, ⟨by rw [HTK.out, List.flatMap_append, List.flatMap_singleton, ← List.append_assoc]; exact HO3.out⟩, ⟨by rw [HTK.out]; intro p hp; rcases List.mem_append.1 hp with hp | hp; exact HMY.out p hp; rw [List.mem_singleton.1 hp]; exact HMV.out⟩, HB3⟩
        case measure => simp [intOf]; omega
    · obtain rfl : k = n := by omega
      have HF : Aside0 (allB l = true) := ⟨(allB_iff l).2 (by have h := HMY.out; rw [List.take_of_length_le (by rw [HN.out]; exact Nat.le_refl _)] at h; exact h)⟩
      have hO' := HO.out
      rw [List.take_of_length_le (by rw [HN.out]; exact Nat.le_refl _), ← HN.out] at hO'
      have HO' := Aside0.mk hO'
      clear hO'
      go_wp2_with fail
      go_ret2
      exact ⟨_, by unfold listE; rw [HF.out]; rfl, by unfold listB; rw [HF.out]; exact HO'.out, HB.out⟩
set_option maxRecDepth 100000 in
set_option maxHeartbeats 4000000 in
theorem reflist_calls (A : Option Addr) (n c : Nat) (l : List Vr) (w : World) (hr : KVr.C w A n l) (hc : n ≤ c) (h6 : n ≤ 6) (hm : ∀ p ∈ l, mayV p = true) :
    Calls Try.prog 23 #[.slice A n c] w fun e w' => ∃ u, e = .returned u ∧ OB w' w.heap.size u (bytesL l) ∧ Below w.heap.size w w' := by
  have HR := Aside0.mk hr
  have HM := Aside0.mk hm
  have HN := Aside0.mk hr.1
  clear hr hm
  go_enter Try.func23, Try.ntmps23
  go_wp2_with fail
  (with_reducible refine (V.refput_calls n w (by omega)).mono ?_)
  rintro e w1 ⟨v1, rfl, hO1, hb1⟩
  have HO1 := Aside0.mk hO1
  have HB1 := Aside0.mk hb1
  clear hO1 hb1
  go_wp2_with fail
  go_loopw [3, 4] (fun v3 v4 w' => ∃ k : Nat, k ≤ n ∧ v4 = .int .i64 k ∧ Aside0 (OB w' w.heap.size v3 (V.vput (n : Int) ++ (l.take k).flatMap bytesV)) ∧ Aside0 (Below w.heap.size w w')) (fun _ v4 _ => n - (intOf v4).toNat)
  case atStart => exact ⟨0, Nat.zero_le _, rfl, ⟨by simpa using HO1.out⟩, HB1⟩
  case round =>
    obtain ⟨k, hk, rfl, HO, HB⟩ := hrel
    by_cases hlt : k < n
    · have HX := Aside0.mk (C_atVr (Kd.C_below HR.out HB.out) k hlt)
      have HTK := Aside0.mk (take_getD l k (by rw [HN.out]; exact hlt))
      have HML := Aside0.mk (HM.out _ (getD_mem l k (by rw [HN.out]; exact hlt)))
      have hm3 : (V.vput (n : Int) ++ (l.take k).flatMap bytesV).length ≤ 3000 := grow_len l k n HN.out h6 hk (fun p hp => HM.out p (List.mem_of_mem_take hp))
      have HM3 := Aside0.mk hm3
      clear hm3
      generalize l.getD k default = q at *
      obtain ⟨qk, qbr, qep, qsq, qf, qt, qv, qg⟩ := q
      have hbl := bytesV_len _ HML.out
      obtain ⟨ad, rfl, p0, p1, p2, p3, p4, p5, p6, p7⟩ := HX.out
      clear HX
      have i1 : (k : Int) < (n : Int) := by omega
      have i2 : (0 : Int) ≤ (k : Int) := by omega
      go_wp2_with fail
      (with_reducible refine (refwrite_calls qk qbr qep qsq qf qt qv qg wr HML.out).mono ?_)
      rintro e w2 ⟨u, rfl, hO2, hb2⟩
      obtain ⟨p, hp⟩ : ∃ p, (bytesV ⟨qk, qbr, qep, qsq, qf, qt, qv, qg⟩).length = p := ⟨_, rfl⟩
      obtain ⟨A2, c2, rfl, hc2, hC2⟩ := OB_readn hO2 p hp
      have HC2 := Aside0.mk hC2
      have HO2 := Aside0.mk (Kd.R_below HO.out hb2)
      have HB2 := Aside0.mk (below_step HB.out hb2)
      rw [hp] at hbl
      clear hC2 hO2 hb2 hp HO HB p0 p1 p2 p3 p4 p5 p6 p7
      go_wp2_with ((with_reducible refine gate_dst (N := 20) rfl ?_); refine app_bytes rfl rfl rfl rfl HO2.out HC2.out HB2.out.size (by have := HM3.out; omega) ?_; intro v4 w4 HO4 hb4 _ _)
      go_roundw
      case rel => exact ⟨k + 1, hlt, rfl, ⟨by rw [HTK.out, List.flatMap_append, List.flatMap_singleton, ← List.append_assoc]; exact HO4⟩, ⟨HB2.out.trans hb4⟩⟩
      case measure => simp [intOf]; omega
    · obtain rfl : k = n := by omega
      have hO' := HO.out
      rw [List.take_of_length_le (by rw [HN.out]; exact Nat.le_refl _), ← HN.out] at hO'
      have HO' := Aside0.mk hO'
      clear hO'
      go_wp2_with fail
      go_ret
      exact ⟨_, rfl, HO'.out, HB.out⟩
end Go.Proofs.Ytmkabbfglijckaa.A
