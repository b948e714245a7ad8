/- RThree -/
import Derived.Test.YtmfnbkghfmeekaaZRTwo
import Derived.Deep.RegionHeld
namespace Go.Proofs.Ytmfnbkghfmeekaa.A.R
open Go.RowKit Go.Proofs.YtmfnbkghfmeekaaW.PrintWords Go.Proofs.YtmfnbkghfmeekaaW.PrintLast Go.Proofs.YtmfnbkghfmeekaaW.PrintMore
set_option linter.unusedVariables false
set_option linter.unusedSimpArgs false
def cutS (s : ByteArray) (n : Nat) : ByteArray := if n < s.size then s.extract 0 n else s
def cutV (p : Vr) : Vr := ⟨cutS p.k 110, p.br, p.ep, p.sq, p.f, p.t, cutS p.v 210, p.g⟩
theorem cutS_size (s : ByteArray) (n : Nat) : (cutS s n).size ≤ n := by
  unfold cutS
  split
  · rw [ByteArray.size_extract]; omega
  · omega
set_option maxRecDepth 100000 in
set_option maxHeartbeats 2000000 in
theorem cut_calls (k : ByteArray) (br ep sq f t : Int) (v : ByteArray) (g : Bool) (w : World) (hk : k.size ≤ 9223372036854775807) (hv : v.size ≤ 9223372036854775807) :
    Calls Try.prog 10 #[.agg #[.string k, .int .i64 br, .int .i64 ep, .int .i64 sq, .int .i64 f, .int .i64 t, .string v, .bool g]] w fun e w' => e = .returned (.agg #[.string (cutS k 110), .int .i64 br, .int .i64 ep, .int .i64 sq, .int .i64 f, .int .i64 t, .string (cutS v 210), .bool g]) ∧ Below w.heap.size w w' := by
  have fin : ∀ (k' v' : ByteArray), cutS k 110 = k' → cutS v 210 = v' → True := fun _ _ _ _ => trivial
  by_cases h1 : 110 < k.size
  · by_cases h2 : 210 < v.size
    · have e1 : cutS k 110 = k.extract 0 110 := if_pos h1
      have e2 : cutS v 210 = v.extract 0 210 := if_pos h2
      rw [e1, e2]
      have i1 : (110 : Int) < (k.size : Int) := by omega
      have i2 : (210 : Int) < (v.size : Int) := by omega
      clear e1 e2
      go_enter Try.func10, Try.ntmps10
      go_wp2
      exact bodyPost_ret (v := .agg #[.string (k.extract 0 110), .int .i64 br, .int .i64 ep, .int .i64 sq, .int .i64 f, .int .i64 t, .string (v.extract 0 210), .bool g]) (by simp [results, Try.results10, go_sem]) rfl ⟨rfl, by repeat (with_reducible first | exact Below.refl _ _ | apply below_alloc)⟩
    · have e1 : cutS k 110 = k.extract 0 110 := if_pos h1
      have e2 : cutS v 210 = v := if_neg h2
      rw [e1, e2]
      have i1 : (110 : Int) < (k.size : Int) := by omega
      have i2 : ¬ (210 : Int) < (v.size : Int) := by omega
      clear e1 e2
      go_enter Try.func10, Try.ntmps10
      go_wp2
      exact bodyPost_ret (v := .agg #[.string (k.extract 0 110), .int .i64 br, .int .i64 ep, .int .i64 sq, .int .i64 f, .int .i64 t, .string v, .bool g]) (by simp [results, Try.results10, go_sem]) rfl ⟨rfl, by repeat (with_reducible first | exact Below.refl _ _ | apply below_alloc)⟩
  · by_cases h2 : 210 < v.size
    · have e1 : cutS k 110 = k := if_neg h1
      have e2 : cutS v 210 = v.extract 0 210 := if_pos h2
      rw [e1, e2]
      have i1 : ¬ (110 : Int) < (k.size : Int) := by omega
      have i2 : (210 : Int) < (v.size : Int) := by omega
      clear e1 e2
      go_enter Try.func10, Try.ntmps10
      go_wp2
      exact bodyPost_ret (v := .agg #[.string k, .int .i64 br, .int .i64 ep, .int .i64 sq, .int .i64 f, .int .i64 t, .string (v.extract 0 210), .bool g]) (by simp [results, Try.results10, go_sem]) rfl ⟨rfl, by repeat (with_reducible first | exact Below.refl _ _ | apply below_alloc)⟩
    · have e1 : cutS k 110 = k := if_neg h1
      have e2 : cutS v 210 = v := if_neg h2
      rw [e1, e2]
      have i1 : ¬ (110 : Int) < (k.size : Int) := by omega
      have i2 : ¬ (210 : Int) < (v.size : Int) := by omega
      clear e1 e2
      go_enter Try.func10, Try.ntmps10
      go_wp2
      exact bodyPost_ret (v := .agg #[.string k, .int .i64 br, .int .i64 ep, .int .i64 sq, .int .i64 f, .int .i64 t, .string v, .bool g]) (by simp [results, Try.results10, go_sem]) rfl ⟨rfl, by repeat (with_reducible first | exact Below.refl _ _ | apply below_alloc)⟩
end Go.Proofs.Ytmfnbkghfmeekaa.A.R
namespace Go.Proofs.Ytmfnbkghfmeekaa.A.R
open Go.RowKit Go.Proofs.YtmfnbkghfmeekaaW.PrintWords Go.Proofs.YtmfnbkghfmeekaaW.PrintLast Go.Proofs.YtmfnbkghfmeekaaW.PrintMore
open Go.Op (bytesLess)
set_option linter.unusedVariables false
set_option linter.unusedSimpArgs false
theorem firstL_neg (l : List Int) : firstL (l.map fun x => -x) = - firstL l := by
  induction l with
  | nil => rfl
  | cons x l ih =>
    rw [List.map_cons, firstL, firstL, ih]
    by_cases h : x = 0
    · rw [if_pos h, if_pos (by omega)]
    · rw [if_neg h, if_neg (by omega)]
theorem cmpV_swap (a b : Vr) : cmpV b a = - cmpV a b := by
  unfold cmpV
  rw [← firstL_neg, O.cmpS_swap, O.cmpI_swap a.br, O.cmpI_swap a.ep, O.cmpI_swap a.sq, O.cmpI_swap a.f]
  rfl
theorem cmpS_self (x : ByteArray) : O.cmpS x x = 0 := by unfold O.cmpS; rw [O.bl_self]; simp
theorem cmpI_self (x : Int) : O.cmpI x x = 0 := by unfold O.cmpI; simp
theorem cmpI_ne {x y : Int} (h : ¬ x = y) : O.cmpI x y = if x < y then -1 else 1 := by unfold O.cmpI; rw [if_neg h]
theorem cmpS_ne {x y : ByteArray} (h : ¬ x = y) : O.cmpS x y = if bytesLess x.toList y.toList then -1 else 1 := by unfold O.cmpS; rw [if_neg (str_ne h)]
theorem firstL_zero (l : List Int) : firstL (0 :: l) = firstL l := rfl
theorem firstL_ite (c : Prop) [Decidable c] (l : List Int) : firstL ((if c then -1 else 1) :: l) = if c then -1 else 1 := by
  by_cases h : c <;> simp [firstL, h]
theorem ite_neg (c : Prop) [Decidable c] : decide ((if c then (-1 : Int) else 1) = -1) = decide c := by
  by_cases h : c <;> simp [h]
theorem less_cmp (a b : Vr) : lessV a b = decide (cmpV a b = -1) := by
  unfold lessV cmpV
  by_cases hk : a.k = b.k
  · rw [if_pos hk, hk, cmpS_self, firstL_zero]
    by_cases hb : a.br = b.br
    · rw [if_pos hb, hb, cmpI_self, firstL_zero]
      by_cases he : a.ep = b.ep
      · rw [if_pos he, he, cmpI_self, firstL_zero]
        by_cases hs : a.sq = b.sq
        · rw [if_pos hs, hs, cmpI_self, firstL_zero]
          by_cases hf : a.f = b.f
          · rw [hf, cmpI_self]
            simp [firstL]
          · rw [cmpI_ne hf, firstL_ite, ite_neg]
        · rw [if_neg hs, cmpI_ne hs, firstL_ite, ite_neg]
      · rw [if_neg he, cmpI_ne he, firstL_ite, ite_neg]
    · rw [if_neg hb, cmpI_ne hb, firstL_ite, ite_neg]
  · rw [if_neg hk, cmpS_ne hk, firstL_ite, ite_neg]
    simp
theorem firstL_range (l : List Int) (h : ∀ x ∈ l, -1 ≤ x ∧ x ≤ 1) : -1 ≤ firstL l ∧ firstL l ≤ 1 := by
  induction l with
  | nil => simp [firstL]
  | cons x l ih =>
    unfold firstL
    split
    · exact ih (fun y hy => h y (List.mem_cons_of_mem _ hy))
    · exact h x (List.mem_cons_self ..)
theorem cmpV_range (a b : Vr) : -1 ≤ cmpV a b ∧ cmpV a b ≤ 1 := by
  refine firstL_range _ fun x hx => ?_
  simp only [List.mem_cons, List.not_mem_nil, or_false] at hx
  rcases hx with rfl | rfl | rfl | rfl | rfl
  · exact O.cmpS_range _ _
  · exact O.cmpI_range _ _
  · exact O.cmpI_range _ _
  · exact O.cmpI_range _ _
  · exact O.cmpI_range _ _
def Vr.fits (p : Vr) : Prop := p.k.size ≤ maxLen ∧ p.v.size ≤ maxLen
set_option maxRecDepth 100000 in
theorem opens_spn : Opens 26 (Kd.pair (Kd.int .i64) (Kd.int .i64)) (fun _ => True) := by
  intro H enc w base spare held fuel cs x h
  obtain ⟨xs, n, rfl, rfl, hl, hx, hf⟩ := DataW.trod_struct Try.underlying26 h
  have hl2 : cs.length = 2 := hl.trans (by kernel_rfl)
  match cs, hl2 with
  | [c0, c1], _ =>
    have f0 := hf 0 _ rfl
    have f1 := hf 1 _ rfl
    have hx2 : xs.length = 2 := hx
    match xs, hx2 with
    | [x0, x1], _ =>
      obtain ⟨a, ha, _, _⟩ := DataW.trod_int (x := x0) Try.underlying3 f0
      obtain ⟨b, hb, _, _⟩ := DataW.trod_int (x := x1) Try.underlying3 f1
      have hci : Try.prog.cellsOf 3 = 1 := by kernel_rfl
      have ha' : c0 = .int .i64 a := by simpa [hci] using ha
      have hb' : c1 = .int .i64 b := by simpa [hci] using hb
      subst ha' hb'
      exact ⟨(a, b), ⟨[.int .i64 a], [.int .i64 b], rfl, rfl, rfl⟩, trivial⟩
set_option maxRecDepth 100000 in
theorem opens_stp : Opens 24 (Kd.pair (Kd.int .i64) (Kd.pair (Kd.int .i64) (Kd.int .i64))) (fun _ => True) := by
  intro H enc w base spare held fuel cs x h
  obtain ⟨xs, n, rfl, rfl, hl, hx, hf⟩ := DataW.trod_struct Try.underlying24 h
  have hl2 : cs.length = 3 := hl.trans (by kernel_rfl)
  match cs, hl2 with
  | [c0, c1, c2], _ =>
    have f0 := hf 0 _ rfl
    have f1 := hf 1 _ rfl
    have f2 := hf 2 _ rfl
    have hx2 : xs.length = 3 := hx
    match xs, hx2 with
    | [x0, x1, x2], _ =>
      obtain ⟨a, ha, _, _⟩ := DataW.trod_int (x := x0) Try.underlying3 f0
      obtain ⟨b, hb, _, _⟩ := DataW.trod_int (x := x1) Try.underlying3 f1
      obtain ⟨c, hc, _, _⟩ := DataW.trod_int (x := x2) Try.underlying3 f2
      have hci : Try.prog.cellsOf 3 = 1 := by kernel_rfl
      have ha' : c0 = .int .i64 a := by simpa [hci] using ha
      have hb' : c1 = .int .i64 b := by simpa [hci] using hb
      have hc' : c2 = .int .i64 c := by simpa [hci] using hc
      subst ha' hb' hc'
      exact ⟨(a, b, c), ⟨[.int .i64 a], [.int .i64 b, .int .i64 c], rfl, rfl, ⟨[.int .i64 b], [.int .i64 c], rfl, rfl, rfl⟩⟩, trivial⟩
set_option maxRecDepth 100000 in
theorem opens_version : Opens 28 KVr Vr.fits := by
  intro H enc w base spare held fuel cs x h
  obtain ⟨xs, n, rfl, rfl, hl, hx, hf⟩ := DataW.trod_struct Try.underlying28 h
  have hl2 : cs.length = 8 := hl.trans (by kernel_rfl)
  match cs, hl2 with
  | [c0, c1, c2, c3, c4, c5, c6, c7], _ =>
    have f0 := hf 0 _ rfl
    have f1 := hf 1 _ rfl
    have f2 := hf 2 _ rfl
    have f3 := hf 3 _ rfl
    have f4 := hf 4 _ rfl
    have hx2 : xs.length = 5 := hx
    match xs, hx2 with
    | [x0, x1, x2, x3, x4], _ =>
      obtain ⟨s, hs, _, hsw⟩ := DataW.trod_string (x := x0) Try.underlying9 f0
      obtain ⟨⟨a, b, c⟩, hk1, _⟩ := opens_stp _ _ _ _ _ _ _ _ _ f1
      obtain ⟨⟨d, e⟩, hk2, _⟩ := opens_spn _ _ _ _ _ _ _ _ _ f2
      obtain ⟨v, hv, _, hvw⟩ := DataW.trod_string (x := x3) Try.underlying9 f3
      obtain ⟨g, hg, _⟩ := DataW.trod_bool (x := x4) Try.underlying4 f4
      have hcs : Try.prog.cellsOf 9 = 1 := by kernel_rfl
      have hct : Try.prog.cellsOf 24 = 3 := by kernel_rfl
      have hcp : Try.prog.cellsOf 26 = 2 := by kernel_rfl
      have hcb : Try.prog.cellsOf 4 = 1 := by kernel_rfl
      have hs' : c0 = .string s := by simpa [hcs, hct, hcp, hcb] using hs
      have hv' : c6 = .string v := by simpa [hcs, hct, hcp, hcb] using hv
      have hg' : c7 = .bool g := by simpa [hcs, hct, hcp, hcb] using hg
      obtain ⟨_, _, e1, rfl, ⟨_, _, rfl, rfl, rfl⟩⟩ := hk1
      obtain ⟨_, _, e2, rfl, rfl⟩ := hk2
      have e1' : c1 = .int .i64 a ∧ c2 = .int .i64 b ∧ c3 = .int .i64 c := by simpa [hcs, hct, hcp, hcb] using e1
      have e2' : c4 = .int .i64 d ∧ c5 = .int .i64 e := by simpa [hcs, hct, hcp, hcb] using e2
      obtain ⟨rfl, rfl, rfl⟩ := e1'
      obtain ⟨rfl, rfl⟩ := e2'
      subst hs' hv' hg'
      exact ⟨⟨s, a, b, c, d, e, v, g⟩, KVr_K _ _, hsw, hvw⟩
end Go.Proofs.Ytmfnbkghfmeekaa.A.R
namespace Go.Proofs.Ytmfnbkghfmeekaa.A.R
open Go.RowKit Go.Proofs.YtmfnbkghfmeekaaW.PrintWords Go.Proofs.YtmfnbkghfmeekaaW.PrintLast Go.Proofs.YtmfnbkghfmeekaaW.PrintMore
open Go.Op (bytesLess)
set_option linter.unusedVariables false
set_option linter.unusedSimpArgs false
theorem cmpS_iff (x y : ByteArray) : (O.cmpS x y ≤ 0 ↔ ¬ bytesLess y.toList x.toList = true) ∧ (O.cmpS x y = 0 ↔ x = y) := by
  unfold O.cmpS
  rcases O.bl_tri x.toList y.toList with ⟨h1, h2, h3⟩ | h | ⟨h1, h2, h3⟩
  · simp only [h1, h2, if_true]
    refine ⟨by simp, by simp; rintro rfl; exact h3 rfl⟩
  · rw [h]
    have e : x = y := by
      apply Classical.byContradiction
      intro hn
      exact str_ne hn h
    subst e
    simp [O.bl_self]
  · simp only [h1, h2, h3, if_false, Bool.false_eq_true]
    refine ⟨by simp, by simp; rintro rfl; exact h3 rfl⟩
theorem bl_trans : ∀ x y z : List UInt8, bytesLess x y = true → bytesLess y z = true → bytesLess x z = true
  | [], [], _, h, _ => by simp [bytesLess] at h
  | [], _ :: _, [], _, h => by simp [bytesLess] at h
  | [], _ :: _, _ :: _, _, _ => by simp [bytesLess]
  | _ :: _, [], _, h, _ => by simp [bytesLess] at h
  | _ :: _, _ :: _, [], _, h => by simp [bytesLess] at h
  | a :: x, b :: y, c :: z, h1, h2 => by
    simp only [bytesLess, Bool.or_eq_true, Bool.and_eq_true, decide_eq_true_eq, beq_iff_eq] at h1 h2 ⊢
    rcases h1 with h1 | ⟨rfl, h1⟩
    · rcases h2 with h2 | ⟨rfl, h2⟩
      · left
        rw [UInt8.lt_iff_toNat_lt] at *
        omega
      · exact .inl h1
    · rcases h2 with h2 | ⟨rfl, h2⟩
      · exact .inl h2
      · exact .inr ⟨rfl, bl_trans x y z h1 h2⟩
def Lx (p q r : Int) : Prop := (p ≤ 0 → q ≤ 0 → r ≤ 0) ∧ (p = 0 → q = 0 → r = 0) ∧ (p < 0 → q ≤ 0 → r < 0) ∧ (p ≤ 0 → q < 0 → r < 0)
theorem lx_I (x y z : Int) : Lx (O.cmpI x y) (O.cmpI y z) (O.cmpI x z) := by
  unfold Lx O.cmpI
  by_cases h1 : x < y <;> by_cases h2 : x = y <;> by_cases h3 : y < z <;> by_cases h4 : y = z <;> by_cases h5 : x < z <;> by_cases h6 : x = z <;> simp only [h1, h2, h3, h4, h5, h6, if_true, if_false] <;> omega
theorem lx_S (x y z : ByteArray) : Lx (O.cmpS x y) (O.cmpS y z) (O.cmpS x z) := by
  have key : ∀ a b : ByteArray, (O.cmpS a b = -1 ∧ bytesLess a.toList b.toList = true) ∨ (O.cmpS a b = 0 ∧ a = b) ∨ (O.cmpS a b = 1 ∧ bytesLess b.toList a.toList = true) := by
    intro a b
    unfold O.cmpS
    rcases O.bl_tri a.toList b.toList with ⟨h1, h2, h3⟩ | h | ⟨h1, h2, h3⟩
    · left; simp [h1]
    · right; left
      have e : a = b := Classical.byContradiction fun hn => str_ne hn h
      subst e
      simp [O.bl_self]
    · right; right; simp [h1, h2, h3]
  have irr : ∀ a b : ByteArray, bytesLess a.toList b.toList = true → bytesLess b.toList a.toList = true → False := by
    intro a b h1 h2
    have := bl_trans _ _ _ h1 h2
    rw [O.bl_self] at this
    cases this
  unfold Lx
  rcases key x y with ⟨e1, h1⟩ | ⟨e1, rfl⟩ | ⟨e1, h1⟩
  · rcases key y z with ⟨e2, h2⟩ | ⟨e2, rfl⟩ | ⟨e2, h2⟩
    · have h := bl_trans _ _ _ h1 h2
      have e3 : O.cmpS x z = -1 := by unfold O.cmpS; rw [if_pos h]
      omega
    · omega
    · omega
  · omega
  · omega
theorem lx_first {p q r : Int} {ps qs rs : List Int} (h : Lx p q r) (ht : firstL ps ≤ 0 → firstL qs ≤ 0 → firstL rs ≤ 0) : firstL (p :: ps) ≤ 0 → firstL (q :: qs) ≤ 0 → firstL (r :: rs) ≤ 0 := by
  unfold Lx at h
  simp only [firstL]
  by_cases hp : p = 0 <;> by_cases hq : q = 0 <;> by_cases hr : r = 0 <;> simp only [hp, hq, hr, if_true, if_false] <;> intro h1 h2
  all_goals first | exact ht h1 h2 | omega
theorem cmpV_trans (a b c : Vr) (h1 : cmpV a b ≤ 0) (h2 : cmpV b c ≤ 0) : cmpV a c ≤ 0 := by
  unfold cmpV at *
  exact lx_first (lx_S _ _ _) (lx_first (lx_I _ _ _) (lx_first (lx_I _ _ _) (lx_first (lx_I _ _ _) (lx_first (lx_I _ _ _) (fun h _ => h))))) h1 h2
end Go.Proofs.Ytmfnbkghfmeekaa.A.R
namespace Go.Proofs.Ytmfnbkghfmeekaa.A.R
open Go.RowKit Go.Proofs.YtmfnbkghfmeekaaW.PrintWords Go.Proofs.YtmfnbkghfmeekaaW.PrintLast Go.Proofs.YtmfnbkghfmeekaaW.PrintMore
set_option linter.unusedVariables false
set_option linter.unusedSimpArgs false
theorem eqT24 (d : Nat) (w : World) (x0 y0 : Int) (x1 y1 : Int) (x2 y2 : Int) :
    (Op.equalIn (d + 2) 24 (.agg #[.int .i64 x0, .int .i64 x1, .int .i64 x2]) (.agg #[.int .i64 y0, .int .i64 y1, .int .i64 y2])).run Try.prog w = .ok (x0 == y0 && (x1 == y1 && (x2 == y2))) w := by
  refine eqA_of Try.underlying24 (by kernel_rfl) ?_
  refine eqf_cons (by rfl) (by go_simp; rfl) (by go_simp; rfl) (by go_simp) ?_
  refine eqf_cons (by rfl) (by go_simp; rfl) (by go_simp; rfl) (by go_simp) ?_
  exact eqf_last (by rfl) (by go_simp; rfl) (by go_simp; rfl) (by go_simp)
theorem eqT26 (d : Nat) (w : World) (x0 y0 : Int) (x1 y1 : Int) :
    (Op.equalIn (d + 2) 26 (.agg #[.int .i64 x0, .int .i64 x1]) (.agg #[.int .i64 y0, .int .i64 y1])).run Try.prog w = .ok (x0 == y0 && (x1 == y1)) w := by
  refine eqA_of Try.underlying26 (by kernel_rfl) ?_
  refine eqf_cons (by rfl) (by go_simp; rfl) (by go_simp; rfl) (by go_simp) ?_
  exact eqf_last (by rfl) (by go_simp; rfl) (by go_simp; rfl) (by go_simp)
def eqV (a b : Vr) : Bool := a.k.toList == b.k.toList && ((a.br == b.br && (a.ep == b.ep && a.sq == b.sq)) && ((a.f == b.f && a.t == b.t) && (a.v.toList == b.v.toList && a.g == b.g)))
theorem eqA28 (d : Nat) (w : World) (k1 : ByteArray) (br1 ep1 sq1 f1 t1 : Int) (v1 : ByteArray) (g1 : Bool) (k2 : ByteArray) (br2 ep2 sq2 f2 t2 : Int) (v2 : ByteArray) (g2 : Bool) :
    (Op.equalIn (d + 3) 28 (.agg #[.string k1, .int .i64 br1, .int .i64 ep1, .int .i64 sq1, .int .i64 f1, .int .i64 t1, .string v1, .bool g1]) (.agg #[.string k2, .int .i64 br2, .int .i64 ep2, .int .i64 sq2, .int .i64 f2, .int .i64 t2, .string v2, .bool g2])).run Try.prog w = .ok (eqV ⟨k1, br1, ep1, sq1, f1, t1, v1, g1⟩ ⟨k2, br2, ep2, sq2, f2, t2, v2, g2⟩) w := by
  unfold eqV
  refine eqA_of Try.underlying28 (by kernel_rfl) ?_
  refine eqf_cons (by rfl) (by go_simp; rfl) (by go_simp; rfl) (by go_simp) ?_
  refine eqf_cons (by rfl) (by go_simp) (by go_simp) (eqT24 d w br1 br2 ep1 ep2 sq1 sq2) ?_
  refine eqf_cons (by rfl) (by go_simp) (by go_simp) (eqT26 d w f1 f2 t1 t2) ?_
  refine eqf_cons (by rfl) (by go_simp; rfl) (by go_simp; rfl) (by go_simp) ?_
  exact eqf_last (by rfl) (by go_simp; rfl) (by go_simp; rfl) (by go_simp)
theorem toList_inj {x y : ByteArray} (h : x.toList = y.toList) : x = y := Classical.byContradiction fun hn => str_ne hn h
theorem eqV_iff (a b : Vr) : eqV a b = true ↔ a = b := by
  obtain ⟨k1, br1, ep1, sq1, f1, t1, v1, g1⟩ := a
  obtain ⟨k2, br2, ep2, sq2, f2, t2, v2, g2⟩ := b
  unfold eqV
  simp only [Bool.and_eq_true, beq_iff_eq, Vr.mk.injEq]
  constructor
  · rintro ⟨h1, ⟨h2, h3, h4⟩, ⟨h5, h6⟩, h7, h8⟩
    exact ⟨toList_inj h1, h2, h3, h4, h5, h6, toList_inj h7, h8⟩
  · rintro ⟨rfl, rfl, rfl, rfl, rfl, rfl, rfl, rfl⟩
    exact ⟨rfl, ⟨rfl, rfl, rfl⟩, ⟨rfl, rfl⟩, rfl, rfl⟩
theorem strOfNums_inj {x y : List Int} (hx : ∀ z ∈ x, 0 ≤ z ∧ z ≤ 255) (hy : ∀ z ∈ y, 0 ≤ z ∧ z ≤ 255) (h : strOfNums x = strOfNums y) : x = y := by
  have e : ∀ l : List Int, (∀ z ∈ l, 0 ≤ z ∧ z ≤ 255) → bytesOf (strOfNums l) = l := by
    intro l hl
    exact O.bytesOf_str l hl
  rw [← e x hx, ← e y hy, h]
end Go.Proofs.Ytmfnbkghfmeekaa.A.R
namespace Go.Proofs.Ytmfnbkghfmeekaa.A.R
open Go.RowKit Go.Proofs.YtmfnbkghfmeekaaW.PrintWords Go.Proofs.YtmfnbkghfmeekaaW.PrintLast Go.Proofs.YtmfnbkghfmeekaaW.PrintMore
set_option linter.unusedVariables false
set_option linter.unusedSimpArgs false
theorem OVr_nil (w : World) (B : Nat) : OVr w B (.slice none 0 0) [] := Kd.R_nil _ _ _ _ _
theorem OVr_readn {w : World} {B : Nat} {v : Value} {l : List Vr} (h : OVr w B v l) (n : Nat) (hn : l.length = n) : ∃ A c, v = .slice A n c ∧ n ≤ c ∧ KVr.C w A n l := by
  subst hn
  exact Kd.R_reads h
section
variable {ops : Array Oper} {rest : List Oper} {o : Oper} {a : Act} {Q : Exit → Act → World → Prop} {W : World} {B : Nat}
theorem app_vr {s x : Operand} (hgd : o.guard = none) (ho : o.op = .call { callee := .builtin .append, args := #[s, x], argTypes := #[22, 22] }) {v : Value} {xs : List Vr} {k : ByteArray} {br ep sq f t : Int} {vv : ByteArray} {g : Bool}
    (hs : a.eval s = v) (hx : a.eval x = .slice (some ⟨W.heap.size, 0, none⟩) 1 1) (HO : OVr W B v xs) (hB : B ≤ W.heap.size) (hl : xs.length ≤ 1000000)
    (h : ∀ v1 w1, OVr w1 B v1 (xs ++ [⟨k, br, ep, sq, f, t, vv, g⟩]) → Below B W w1 → W.grownBy w1 v.ownBlock → wpList Try.prog ops Q rest (a.put o.dst v1) w1) : wpList Try.prog ops Q (o :: rest) a (W.alloc (.cells #[.string k, .int .i64 br, .int .i64 ep, .int .i64 sq, .int .i64 f, .int .i64 t, .string vv, .bool g] 28)) :=
  app_one KVr 22 28 (.agg #[.string ByteArray.empty, .int .i64 0, .int .i64 0, .int .i64 0, .int .i64 0, .int .i64 0, .string ByteArray.empty, .bool false]) 80 Try.underlying22 infoVr rfl (by decide) (by decide) hgd ho hs hx (fun okp => KVr_M W B okp ⟨k, br, ep, sq, f, t, vv, g⟩) HO hB (by omega) h
end
theorem add_fieldV (ad : Addr) (m j : Nat) : ad.add (m + (j + 1)) = ⟨(ad.add m).block, (ad.add m).off + (j + 1), none⟩ := by
  rw [← Go.Deep.add_add]
  unfold Addr.add
  rw [if_neg (by omega)]
theorem C_atVr {A : Option Addr} {n : Nat} {l : List Vr} {w : World} (h : KVr.C w A n l) (i : Nat) (hi : i < n) :
    ∃ ad, A = some ad ∧ w.cell? (ad.add (i * 8)) = some (.string (l.getD i default).k) ∧ w.cell? ⟨(ad.add (i * 8)).block, (ad.add (i * 8)).off + 1, none⟩ = some (.int .i64 (l.getD i default).br) ∧ w.cell? ⟨(ad.add (i * 8)).block, (ad.add (i * 8)).off + 2, none⟩ = some (.int .i64 (l.getD i default).ep) ∧ w.cell? ⟨(ad.add (i * 8)).block, (ad.add (i * 8)).off + 3, none⟩ = some (.int .i64 (l.getD i default).sq) ∧ w.cell? ⟨(ad.add (i * 8)).block, (ad.add (i * 8)).off + 4, none⟩ = some (.int .i64 (l.getD i default).f) ∧ w.cell? ⟨(ad.add (i * 8)).block, (ad.add (i * 8)).off + 5, none⟩ = some (.int .i64 (l.getD i default).t) ∧ w.cell? ⟨(ad.add (i * 8)).block, (ad.add (i * 8)).off + 6, none⟩ = some (.string (l.getD i default).v) ∧ w.cell? ⟨(ad.add (i * 8)).block, (ad.add (i * 8)).off + 7, none⟩ = some (.bool (l.getD i default).g) := by
  have hn := h.1
  subst hn
  obtain ⟨ad, e, hc⟩ := h.2.2 (by omega)
  obtain ⟨c, h1, hK, h3⟩ := hc i _ (List.getElem?_eq_getElem hi)
  have e2 : l.getD i default = l[i] := by simp [List.getD_eq_getElem?_getD, hi]
  rw [e2]
  have hcc := KVr_of hK
  subst hcc
  have a1 := h3 1 _ rfl
  have a2 := h3 2 _ rfl
  have a3 := h3 3 _ rfl
  have a4 := h3 4 _ rfl
  have a5 := h3 5 _ rfl
  have a6 := h3 6 _ rfl
  have a7 := h3 7 _ rfl
  rw [show KVr.sz = 8 from rfl, add_fieldV] at a1 a2 a3 a4 a5 a6 a7
  exact ⟨ad, e, h3 0 _ rfl, a1, a2, a3, a4, a5, a6, a7⟩
set_option maxRecDepth 100000 in
set_option maxHeartbeats 4000000 in
theorem same_calls (A B : Option Addr) (n c d : Nat) (l : List Vr) (w : World) (hr : KVr.C w A n l) (hs : KVr.C w B n l) (hc : n ≤ c) (hd : n ≤ d) :
    Calls Try.prog 16 #[.slice A n c, .slice B n d] w fun e w' => e = .returned (.bool true) ∧ Below w.heap.size w w' := by
  have hq := eqA28
  have HR := Aside0.mk hr
  have HS := Aside0.mk hs
  have hm : n ≤ 9223372036854775807 := hr.2.1
  clear hr hs
  go_enter Try.func16, Try.ntmps16
  go_wp2_with fail
  go_loopw [5] (fun v5 w' => ∃ k : Nat, k ≤ n ∧ v5 = .int .i64 k ∧ Aside0 (Below w.heap.size w w')) (fun v5 _ => n - (intOf v5).toNat)
  case atStart => exact ⟨0, Nat.zero_le _, rfl, ⟨Below.refl _ _⟩⟩
  case round =>
    obtain ⟨k, hk, rfl, HB⟩ := hrel
    by_cases hlt : k < n
    · obtain ⟨ad, rfl, q0, q1, q2, q3, q4, q5, q6, q7⟩ := C_atVr HR.out k hlt
      obtain ⟨bd, rfl, r0, r1, r2, r3, r4, r5, r6, r7⟩ := C_atVr HS.out k hlt
      have p0 := pw_cell_below HB.out q0
      have p1 := pw_cell_below HB.out q1
      have p2 := pw_cell_below HB.out q2
      have p3 := pw_cell_below HB.out q3
      have p4 := pw_cell_below HB.out q4
      have p5 := pw_cell_below HB.out q5
      have p6 := pw_cell_below HB.out q6
      have p7 := pw_cell_below HB.out q7
      have s0 := pw_cell_below HB.out r0
      have s1 := pw_cell_below HB.out r1
      have s2 := pw_cell_below HB.out r2
      have s3 := pw_cell_below HB.out r3
      have s4 := pw_cell_below HB.out r4
      have s5 := pw_cell_below HB.out r5
      have s6 := pw_cell_below HB.out r6
      have s7 := pw_cell_below HB.out r7
      clear q0 q1 q2 q3 q4 q5 q6 q7 r0 r1 r2 r3 r4 r5 r6 r7
      generalize l.getD k default = q at *
      obtain ⟨qk, qbr, qep, qsq, qf, qt, qv, qg⟩ := q
      simp only at p0 p1 p2 p3 p4 p5 p6 p7 s0 s1 s2 s3 s4 s5 s6 s7
      have hself : eqV ⟨qk, qbr, qep, qsq, qf, qt, qv, qg⟩ ⟨qk, qbr, qep, qsq, qf, qt, qv, qg⟩ = true := (eqV_iff _ _).2 rfl
      have i1 : (k : Int) < (n : Int) := by omega
      have i2 : (0 : Int) ≤ (k : Int) := by omega
      go_wp2_with fail
      go_quiet (fail)
      have hbr : Below wr.heap.size wr (wr.drewN nq) := by repeat (with_reducible first | exact Below.refl _ _ | apply pw_below_drewN)
      have HBn := Aside0.mk (below_step HB.out hbr)
      clear hbr HB p0 p1 p2 p3 p4 p5 p6 p7 s0 s1 s2 s3 s4 s5 s6 s7 hq
      go_wp2_with fail
      go_roundw
      case rel => exact ⟨k + 1, hlt, rfl, HBn⟩
      case measure => simp [intOf]; omega
    · obtain rfl : k = n := by omega
      go_wp2_with fail
      go_ret
      exact ⟨rfl, HB.out⟩
end Go.Proofs.Ytmfnbkghfmeekaa.A.R
namespace Go.Proofs.Ytmfnbkghfmeekaa.A.R
open Go.RowKit Go.Proofs.YtmfnbkghfmeekaaW.PrintWords Go.Proofs.YtmfnbkghfmeekaaW.PrintLast Go.Proofs.YtmfnbkghfmeekaaW.PrintMore
set_option linter.unusedVariables false
set_option linter.unusedSimpArgs false
def allB (l : List Vr) : Bool := l.all mayV
theorem take_getD (l : List Vr) (k : Nat) (hk : k < l.length) : l.take (k + 1) = l.take k ++ [l.getD k default] := by
  rw [List.take_succ_eq_append_getElem hk]
  simp [List.getD_eq_getElem?_getD, hk]
theorem getD_mem (l : List Vr) (k : Nat) (hk : k < l.length) : l.getD k default ∈ l := by
  have e : l.getD k default = l[k] := by simp [List.getD_eq_getElem?_getD, hk]
  rw [e]
  exact List.getElem_mem hk
end Go.Proofs.Ytmfnbkghfmeekaa.A.R
