/- OOne -/
import Derived.Test.YtmfnbkghfmeekaaZABytes
import Derived.Test.YtmfnbkghfmeekaaZAOpen
import Derived.Deep.Slices
import Derived.Laws.Cover1
import Derived.StillTailTactics
import Derived.Laws.BitsAllLaws
namespace Go.Proofs.Ytmfnbkghfmeekaa.A.O
open Go.RowKit Go.Proofs.YtmfnbkghfmeekaaW.PrintWords Go.Proofs.YtmfnbkghfmeekaaW.PrintLast Go.Proofs.YtmfnbkghfmeekaaW.PrintMore
set_option linter.unusedVariables false
set_option linter.unusedSimpArgs false
structure Pt where
  t : Bool
  n : Int
  s : ByteArray
instance : Inhabited Pt := ⟨⟨false, 0, ByteArray.empty⟩⟩
abbrev Pt.val (p : Pt) : Value := .agg #[.bool p.t, .int .i64 p.n, .string p.s]
def Pt.ok (p : Pt) : Prop := (IntKind.i64.min ≤ p.n ∧ p.n ≤ IntKind.i64.max) ∧ p.s.size ≤ maxLen
def KPt : Kd Pt := Kd.iso (Kd.pair Kd.bool (Kd.pair (Kd.int .i64) Kd.string)) (fun p => (p.t, p.n, p.s))
theorem KPt_M (w : World) (B : Nat) (ok : Nat → Prop) (t : Bool) (n : Int) (s : ByteArray) : KPt.M w B ok ⟨t, n, s⟩ [.bool t, .int .i64 n, .string s] := ⟨[.bool t], [.int .i64 n, .string s], rfl, rfl, ⟨[.int .i64 n], [.string s], rfl, rfl, rfl⟩⟩
theorem KPt_K (w : World) (t : Bool) (n : Int) (s : ByteArray) : KPt.K w ⟨t, n, s⟩ [.bool t, .int .i64 n, .string s] := ⟨[.bool t], [.int .i64 n, .string s], rfl, rfl, ⟨[.int .i64 n], [.string s], rfl, rfl, rfl⟩⟩
theorem infoPt : (Try.prog.info? 94).map (fun i => (i.zero, i.size, i.bytes)) = some (some (.agg #[.bool false, .int .i64 0, .string ByteArray.empty]), 3, 32) := by kernel_rfl
abbrev OPt (w : World) (B : Nat) (v : Value) (l : List Pt) : Prop := OR KPt 94 w B v l
section
variable {ops : Array Oper} {rest : List Oper} {o : Oper} {a : Act} {Q : Exit → Act → World → Prop} {W : World} {B : Nat}
theorem app_pt {s x : Operand} (hgd : o.guard = none) (ho : o.op = .call { callee := .builtin .append, args := #[s, x], argTypes := #[95, 95] }) {v : Value} {xs : List Pt} {pt : Bool} {pn : Int} {ps : ByteArray}
    (hs : a.eval s = v) (hx : a.eval x = .slice (some ⟨W.heap.size, 0, none⟩) 1 1) (HO : OPt W B v xs) (hB : B ≤ W.heap.size) (hl : xs.length ≤ 1000000)
    (h : ∀ v1 w1, OPt w1 B v1 (xs ++ [⟨pt, pn, ps⟩]) → Below B W w1 → W.grownBy w1 v.ownBlock → wpList Try.prog ops Q rest (a.put o.dst v1) w1) : wpList Try.prog ops Q (o :: rest) a (W.alloc (.cells #[.bool pt, .int .i64 pn, .string ps] 94)) :=
  app_one KPt 95 94 (.agg #[.bool false, .int .i64 0, .string ByteArray.empty]) 32 Try.underlying95 infoPt rfl (by decide) (by decide) hgd ho hs hx (fun okp => KPt_M W B okp pt pn ps) HO hB (by omega) h
end
theorem add_field (ad : Addr) (m j : Nat) : ad.add (m + (j + 1)) = ⟨(ad.add m).block, (ad.add m).off + (j + 1), none⟩ := by
  rw [← Go.Deep.add_add]
  unfold Addr.add
  rw [if_neg (by omega)]
theorem C_atPt {A : Option Addr} {n : Nat} {l : List Pt} {w : World} (h : KPt.C w A n l) (i : Nat) (hi : i < n) :
    ∃ ad, A = some ad ∧ w.cell? (ad.add (i * 3)) = some (.bool (l.getD i default).t) ∧ w.cell? ⟨(ad.add (i * 3)).block, (ad.add (i * 3)).off + 1, none⟩ = some (.int .i64 (l.getD i default).n) ∧ w.cell? ⟨(ad.add (i * 3)).block, (ad.add (i * 3)).off + 2, none⟩ = some (.string (l.getD i default).s) := by
  have hn := h.1
  subst hn
  obtain ⟨ad, e, hc⟩ := h.2.2 (by omega)
  obtain ⟨c, h1, ⟨_, _, rfl, rfl, ⟨_, _, rfl, rfl, rfl⟩⟩, h3⟩ := hc i _ (List.getElem?_eq_getElem hi)
  have e2 : l.getD i default = l[i] := by simp [List.getD_eq_getElem?_getD, hi]
  rw [e2]
  have a1 := h3 1 _ rfl
  have a2 := h3 2 _ rfl
  rw [show KPt.sz = 3 from rfl, add_field] at a1 a2
  exact ⟨ad, e, h3 0 _ rfl, a1, a2⟩
end Go.Proofs.Ytmfnbkghfmeekaa.A.O
namespace Go.Proofs.Ytmfnbkghfmeekaa.A.O
open Go.Op (bytesLess)
set_option linter.unusedVariables false
set_option linter.unusedSimpArgs false
theorem bl_self : ∀ x : List UInt8, bytesLess x x = false
  | [] => rfl
  | a :: x => by simp [bytesLess, bl_self x]
theorem bl_tri : ∀ x y : List UInt8, (bytesLess x y = true ∧ bytesLess y x = false ∧ x ≠ y) ∨ x = y ∨ (bytesLess x y = false ∧ bytesLess y x = true ∧ x ≠ y)
  | [], [] => .inr (.inl rfl)
  | [], b :: y => .inl ⟨rfl, rfl, by simp⟩
  | a :: x, [] => .inr (.inr ⟨rfl, rfl, by simp⟩)
  | a :: x, b :: y => by
    simp only [bytesLess]
    by_cases h1 : a < b
    · have h2 : ¬ b < a := by rw [UInt8.lt_iff_toNat_lt] at *; omega
      have h3 : a ≠ b := by rintro rfl; exact h2 h1
      have h4 : ¬ b = a := fun e => h3 e.symm
      left
      simp [h1, h2, h3, h4]
    · by_cases h2 : b < a
      · have h3 : a ≠ b := by rintro rfl; exact h1 h2
        have h4 : ¬ b = a := fun e => h3 e.symm
        right; right
        simp [h1, h2, h3, h4]
      · have h3 : a = b := by
          apply UInt8.toNat_inj.1
          rw [UInt8.lt_iff_toNat_lt] at *
          omega
        subst h3
        simpa [h1] using bl_tri x y
def cmpS (x y : ByteArray) : Int := if bytesLess x.toList y.toList then -1 else if x.toList = y.toList then 0 else 1
def cmpI (x y : Int) : Int := if x < y then -1 else if x = y then 0 else 1
theorem cmpS_swap (x y : ByteArray) : cmpS y x = - cmpS x y := by
  unfold cmpS
  rcases bl_tri x.toList y.toList with ⟨h1, h2, h3⟩ | h | ⟨h1, h2, h3⟩
  · have h4 : ¬ y.toList = x.toList := fun e => h3 e.symm
    simp [h1, h2, h3, h4]
  · rw [h]
    simp [bl_self]
  · have h4 : ¬ y.toList = x.toList := fun e => h3 e.symm
    simp [h1, h2, h3, h4]
theorem cmpI_swap (x y : Int) : cmpI y x = - cmpI x y := by
  unfold cmpI
  rcases Int.lt_trichotomy x y with h | h | h
  · rw [if_pos h, if_neg (by omega), if_neg (by omega)]; rfl
  · rw [h, if_neg (by omega), if_pos rfl]; rfl
  · rw [if_pos h, if_neg (by omega), if_neg (by omega)]
theorem cmpS_range (x y : ByteArray) : -1 ≤ cmpS x y ∧ cmpS x y ≤ 1 := by
  unfold cmpS
  split
  · omega
  · split <;> omega
theorem cmpI_range (x y : Int) : -1 ≤ cmpI x y ∧ cmpI x y ≤ 1 := by
  unfold cmpI
  split
  · omega
  · split <;> omega
end Go.Proofs.Ytmfnbkghfmeekaa.A.O
namespace Go.Proofs.Ytmfnbkghfmeekaa.A.O
open Go.RowKit Go.Proofs.YtmfnbkghfmeekaaW.PrintWords Go.Proofs.YtmfnbkghfmeekaaW.PrintLast Go.Proofs.YtmfnbkghfmeekaaW.PrintMore
open Go.Op (bytesLess)
set_option linter.unusedVariables false
set_option linter.unusedSimpArgs false
theorem nanS_calls (x : ByteArray) (w : World) : Calls Try.prog 102 #[.string x] w fun e w' => e = .returned (.bool false) ∧ w = w' := by
  go_enter Try.func102, Try.ntmps102
  go_wp2
  go_ret
  exact ⟨by first | rfl | simp, rfl⟩
theorem nanI_calls (x : Int) (w : World) : Calls Try.prog 103 #[.int .i64 x] w fun e w' => e = .returned (.bool false) ∧ w = w' := by
  go_enter Try.func103, Try.ntmps103
  go_wp2
  go_ret
  exact ⟨by first | rfl | simp, rfl⟩
theorem cmpS_calls (x y : ByteArray) (w : World) : Calls Try.prog 85 #[.string x, .string y] w fun e w' => e = .returned (.int .i64 (cmpS x y)) ∧ w = w' := by
  have hs : (bytesLess x.toList y.toList = true ∧ cmpS x y = -1) ∨ ((bytesLess x.toList y.toList = false ∧ bytesLess y.toList y.toList = false) ∧ x.toList = y.toList ∧ cmpS x y = 0) ∨ ((bytesLess x.toList y.toList = false ∧ (x.toList == y.toList) = false) ∧ ¬ x.toList = y.toList ∧ cmpS x y = 1) := by
    unfold cmpS
    rcases bl_tri x.toList y.toList with ⟨h1, h2, h3⟩ | h | ⟨h1, h2, h3⟩
    · simp [h1]
    · rw [h]
      simp [bl_self]
    · simp [h1, h2, h3]
  rcases hs with ⟨h1, h2⟩ | ⟨⟨h1, h4⟩, h2, h3⟩ | ⟨⟨h1, h4⟩, h2, h3⟩
  · rw [h2]
    clear h2
    go_enter Try.func85, Try.ntmps85
    go_wp2_with ((go_at_call 102); (with_reducible refine (nanS_calls _ _).mono ?_); rintro e w1 ⟨rfl, rfl⟩)
    go_ret
    exact ⟨rfl, rfl⟩
  · rw [h3]
    clear h3
    go_enter Try.func85, Try.ntmps85
    go_wp2_with ((go_at_call 102); (with_reducible refine (nanS_calls _ _).mono ?_); rintro e w1 ⟨rfl, rfl⟩)
    go_ret
    exact ⟨rfl, rfl⟩
  · rw [h3]
    clear h3
    go_enter Try.func85, Try.ntmps85
    go_wp2_with ((go_at_call 102); (with_reducible refine (nanS_calls _ _).mono ?_); rintro e w1 ⟨rfl, rfl⟩)
    go_ret
    exact ⟨rfl, rfl⟩
theorem cmpI_calls (x y : Int) (w : World) : Calls Try.prog 86 #[.int .i64 x, .int .i64 y] w fun e w' => e = .returned (.int .i64 (cmpI x y)) ∧ w = w' := by
  unfold cmpI
  rcases Int.lt_trichotomy x y with h | h | h
  · rw [if_pos h]
    go_enter Try.func86, Try.ntmps86
    go_wp2_with ((go_at_call 103); (with_reducible refine (nanI_calls _ _).mono ?_); rintro e w1 ⟨rfl, rfl⟩)
    go_ret
    exact ⟨rfl, rfl⟩
  · subst h
    rw [if_neg (by omega), if_pos rfl]
    go_enter Try.func86, Try.ntmps86
    go_wp2_with ((go_at_call 103); (with_reducible refine (nanI_calls _ _).mono ?_); rintro e w1 ⟨rfl, rfl⟩)
    go_ret
    exact ⟨rfl, rfl⟩
  · rw [if_neg (by omega), if_neg (by omega)]
    have h2 : ¬ x < y := by omega
    go_enter Try.func86, Try.ntmps86
    go_wp2_with ((go_at_call 103); (with_reducible refine (nanI_calls _ _).mono ?_); rintro e w1 ⟨rfl, rfl⟩)
    go_ret
    exact ⟨rfl, rfl⟩
end Go.Proofs.Ytmfnbkghfmeekaa.A.O
namespace Go.Proofs.Ytmfnbkghfmeekaa.A.O
open Go.RowKit Go.Proofs.YtmfnbkghfmeekaaW.PrintWords Go.Proofs.YtmfnbkghfmeekaaW.PrintLast Go.Proofs.YtmfnbkghfmeekaaW.PrintMore
set_option linter.unusedVariables false
set_option linter.unusedSimpArgs false
end Go.Proofs.Ytmfnbkghfmeekaa.A.O
namespace Go.Proofs.Ytmfnbkghfmeekaa.A.O
open Go.RowKit Go.Proofs.YtmfnbkghfmeekaaW.PrintWords Go.Proofs.YtmfnbkghfmeekaaW.PrintLast Go.Proofs.YtmfnbkghfmeekaaW.PrintMore
set_option linter.unusedVariables false
set_option linter.unusedSimpArgs false
end Go.Proofs.Ytmfnbkghfmeekaa.A.O
namespace Go.Proofs.Ytmfnbkghfmeekaa.A.O
open Go.RowKit Go.Proofs.YtmfnbkghfmeekaaW.PrintWords Go.Proofs.YtmfnbkghfmeekaaW.PrintLast Go.Proofs.YtmfnbkghfmeekaaW.PrintMore
set_option linter.unusedVariables false
set_option linter.unusedSimpArgs false
def wtextB (b : Int) : List Int := if b = 0 then [0, 255] else [b]
def wtext (s : ByteArray) : List Int := (bytesOf s).flatMap wtextB ++ [0, 1]
def num8 (u : Int) : List Int := [u / 72057594037927936 % 256, u / 281474976710656 % 256, u / 1099511627776 % 256, u / 4294967296 % 256, u / 16777216 % 256, u / 65536 % 256, u / 256 % 256, u % 256]
def wpart (p : Pt) : List Int := if p.t then [2] ++ wtext p.s else [1] ++ num8 (p.n + 9223372036854775808)
def writeL (l : List Pt) : List Int := l.flatMap wpart
theorem wtextB_len (b : Int) : (wtextB b).length ≤ 2 := by
  unfold wtextB
  split <;> simp
theorem flat_text_len (x : List Int) : (x.flatMap wtextB).length ≤ 2 * x.length := by
  induction x with
  | nil => simp
  | cons b x ih =>
    rw [List.flatMap_cons, List.length_append, List.length_cons]
    have := wtextB_len b
    omega
theorem wpart_len (p : Pt) : (wpart p).length ≤ 2 * p.s.size + 9 := by
  unfold wpart
  split
  · have := flat_text_len (bytesOf p.s)
    rw [bytesOf_length] at this
    simp only [wtext, List.length_append, List.length_cons, List.length_nil]
    omega
  · simp [num8]
theorem writeL_len (l : List Pt) (m : Nat) (h : ∀ p ∈ l, p.s.size ≤ m) : (writeL l).length ≤ (2 * m + 9) * l.length := by
  unfold writeL
  induction l with
  | nil => simp
  | cons p l ih =>
    rw [List.flatMap_cons, List.length_append, List.length_cons, Nat.mul_succ]
    have h1 := wpart_len p
    have h2 := h p (by simp)
    have h3 := ih (fun q hq => h q (by simp [hq]))
    omega
theorem bytesOf_at (s : ByteArray) (j : Nat) (h : j < s.size) : (bytesOf s).getD j 0 = (s[j].toNat : Int) := by
  have h2 : j < s.data.size := h
  simp only [bytesOf, List.getD_eq_getElem?_getD, List.getElem?_map, Array.getElem?_toList]
  rw [show s.data[j]? = some s.data[j] from Array.getElem?_eq_getElem h2]
  rfl
theorem box_cells {w : World} {g T : Nat} {t : Bool} {n : Int} {s : ByteArray} (h : w.heap[g]? = some (.cells #[.bool t, .int .i64 n, .string s] T (0, 0))) : w.cell? ⟨g, 0, none⟩ = some (.bool t) ∧ w.cell? ⟨g, 1, none⟩ = some (.int .i64 n) ∧ w.cell? ⟨g, 2, none⟩ = some (.string s) := by
  refine ⟨?_, ?_, ?_⟩
  · rw [cell_of_row _ _ _ _ _ _ h]; rfl
  · rw [cell_of_row _ _ _ _ _ _ h]; rfl
  · rw [cell_of_row _ _ _ _ _ _ h]; rfl
theorem box_grown {W w1 : World} {g : Nat} {o : Obj} {row : Option Nat} (h : W.heap[g]? = some o) (hg : W.grownBy w1 row) (hne : some g ≠ row) : w1.heap[g]? = some o :=
  (hg.block g (Array.getElem?_eq_some_iff.1 h).1 hne).trans h
theorem R_lt_ne {α : Type} {d : Kd α} {e : Nat} {W : World} {B : Nat} {ok : Nat → Prop} {v : Value} {xs : List α} (h : d.R e W B ok v xs) : some W.heap.size ≠ v.ownBlock := by
  intro e1
  obtain ⟨_, inner, ho, _⟩ := h
  have := own_lt ho _ e1.symm
  omega
theorem top_lt (m : Nat) (h : m < 2 ^ 63) : m ^^^ 2 ^ 63 = 2 ^ 63 + m := by
  apply Nat.eq_of_testBit_eq
  intro i
  rw [Nat.testBit_xor, Nat.testBit_two_pow]
  rcases Nat.lt_trichotomy i 63 with hi | hi | hi
  · rw [Nat.testBit_two_pow_add_gt hi, decide_eq_false (by omega), Bool.xor_false]
  · subst hi
    rw [Nat.testBit_two_pow_add_eq, decide_eq_true rfl, Bool.xor_true]
  · rw [decide_eq_false (by omega), Bool.xor_false]
    have h1 : m < 2 ^ i := Nat.lt_of_lt_of_le h (Nat.pow_le_pow_right (by omega) (by omega))
    have h2 : 2 ^ 63 + m < 2 ^ i := by
      have : 2 ^ 64 ≤ 2 ^ i := Nat.pow_le_pow_right (by omega) (by omega)
      omega
    rw [Nat.testBit_lt_two_pow h1, Nat.testBit_lt_two_pow h2]
theorem xor_top (n : Int) (h0 : -9223372036854775808 ≤ n) (h1 : n ≤ 9223372036854775807) : bits .xor .u64 (IntKind.u64.wrap n) 9223372036854775808 = n + 9223372036854775808 := by
  rw [IntKind.wrap_u64]
  obtain ⟨m, hm⟩ : ∃ m : Nat, n % 18446744073709551616 = (m : Int) := ⟨(n % 18446744073709551616).toNat, by omega⟩
  rw [hm]
  have h2 := u64_xor_nat m 9223372036854775808 (by omega) (by omega)
  rw [show (9223372036854775808 : Int) = ((9223372036854775808 : Nat) : Int) from rfl, h2]
  have e : (9223372036854775808 : Nat) = 2 ^ 63 := rfl
  by_cases h : m < 2 ^ 63
  · rw [e, top_lt m h]
    omega
  · obtain ⟨k, rfl⟩ : ∃ k, m = 2 ^ 63 + k := ⟨m - 2 ^ 63, by omega⟩
    have hk : k < 2 ^ 63 := by omega
    rw [e, ← top_lt k hk, Nat.xor_assoc, Nat.xor_self, Nat.xor_zero]
    omega
theorem num8_len (u : Int) : (num8 u).length = 8 := rfl
set_option maxRecDepth 100000 in
set_option maxHeartbeats 4000000 in
theorem write_calls (A : Option Addr) (n c : Nat) (l : List Pt) (w : World) (hr : KPt.C w A n l) (hc : n ≤ c) (hok : ∀ p ∈ l, p.ok) (hs : ∀ p ∈ l, p.s.size ≤ 100000) (hn : n ≤ 1000) :
    Calls Try.prog 109 #[.slice A n c] w fun e w' => ∃ v, e = .returned v ∧ OB w' w.heap.size v (writeL l) ∧ Below w.heap.size w w' := by
  have hnl : n = l.length := hr.1.symm
  have HN := Aside0.mk hnl
  have HR := Aside0.mk hr
  have HOK := Aside0.mk hok
  have HS := Aside0.mk hs
  clear hnl hr hok hs
  go_enter Try.func109, Try.ntmps109
  go_wp2
  go_loopw [3, 11] (fun v3 v11 w' => ∃ k : Nat, k ≤ n ∧ v11 = .int .i64 k ∧ Aside0 (OB w' w.heap.size v3 ((l.take k).flatMap wpart)) ∧ Aside0 (Below w.heap.size w w')) (fun _ v11 _ => n - (intOf v11).toNat)
  case atStart => exact ⟨0, Nat.zero_le _, rfl, ⟨Kd.R_nil _ _ _ _ _⟩, ⟨Below.refl _ _⟩⟩
  case round =>
    obtain ⟨k, hk, rfl, HO, HB⟩ := hrel
    by_cases hlt : k < n
    · obtain ⟨ad, rfl, p0, p1, p2⟩ := C_atPt HR.out k hlt
      have p0 := pw_cell_below HB.out p0
      have p1 := pw_cell_below HB.out p1
      have p2 := pw_cell_below HB.out p2
      have hfl := flat_take wpart l default k (by rw [← HN.out]; exact hlt)
      have hpre := writeL_len (l.take k) 100000 (fun p hp => HS.out p (List.mem_of_mem_take hp))
      have hpo : (l.getD k default).ok ∧ (l.getD k default).s.size ≤ 100000 := by
        have e : l.getD k default = l[k]'(by rw [← HN.out]; exact hlt) := by simp [List.getD_eq_getElem?_getD, show k < l.length by rw [← HN.out]; exact hlt]
        rw [e]
        exact ⟨HOK.out _ (List.getElem_mem _), HS.out _ (List.getElem_mem _)⟩
      unfold writeL at hpre
      rw [List.length_take, ← HN.out] at hpre
      have hpl : ((l.take k).flatMap wpart).length ≤ 300000000 := by omega
      generalize l.getD k default = p at *
      generalize (l.take k).flatMap wpart = pre at *
      obtain ⟨pt, pn, ps⟩ := p
      obtain ⟨⟨⟨hn0, hn1⟩, _⟩, hps⟩ := hpo
      dsimp only at p0 p1 p2 hps hn0 hn1
      have hn0' : -9223372036854775808 ≤ pn := hn0
      have hn1' : pn ≤ 9223372036854775807 := hn1
      have HFL := Aside0.mk hfl
      clear hfl hpre hn0 hn1
      cases pt with
      | true =>
        go_wp2_with ((with_reducible refine gate_dst (N := 19) rfl ?_); refine app_byte rfl rfl rfl ?_ (Kd.R_alloc HO.out _) (below_alloc HB.out _).size (by omega) ?_; go_simp; intro v2 w2 HO2 hb2 hg2; have HX2 := Aside0.mk (box_grown (heap_alloc_new wr _) hg2 (R_lt_ne HO.out)); obtain ⟨b0, b1, b2⟩ := box_cells HX2.out; have HP2 := Aside0.mk HO2; have HB2 := Aside0.mk ((below_alloc HB.out _).trans hb2); clear hb2 hg2 HO2 p0 p1 p2)
        clear HO HB b0 b1 b2
        generalize wr.heap.size = g at *
        go_loopw [3, 23] (fun v3 v23 w' => ∃ j : Nat, j ≤ ps.size ∧ v23 = .int .i64 j ∧ Aside0 (OB w' w.heap.size v3 (pre ++ [2] ++ ((bytesOf ps).take j).flatMap wtextB)) ∧ Aside0 (w'.heap[g]? = some (.cells #[.bool true, .int .i64 pn, .string ps] 94 (0, 0))) ∧ Aside0 (Below w.heap.size w w')) (fun _ v23 _ => ps.size - (intOf v23).toNat)
        case atStart => exact ⟨0, Nat.zero_le _, rfl, ⟨by simpa using HP2.out⟩, HX2, HB2⟩
        case round =>
          clear HP2 HB2 HX2
          obtain ⟨j, hj, rfl, HO, HX, HB⟩ := hrel
          obtain ⟨b0, b1, b2⟩ := box_cells HX.out
          by_cases hlj : j < ps.size
          · have i1 : (0 : Int) ≤ (j : Int) := by omega
            have i2 : (j : Int) < (ps.size : Int) := by omega
            have hfb := flat_take wtextB (bytesOf ps) 0 j (by rw [bytesOf_length]; exact hlj)
            rw [bytesOf_at ps j hlj] at hfb
            have hfl := flat_text_len ((bytesOf ps).take j)
            rw [List.length_take, bytesOf_length] at hfl
            have hb255 : ps[j].toNat < 256 := UInt8.toNat_lt _
            generalize ((bytesOf ps).take j).flatMap wtextB = mid at *
            have hml : (pre ++ [2] ++ mid).length ≤ 300200001 := by rw [List.length_append, List.length_append, List.length_singleton]; omega
            have hml2 : (pre ++ [2] ++ mid ++ [0]).length ≤ 300200002 := by rw [List.length_append, List.length_singleton]; omega
            have HFB := Aside0.mk hfb
            clear hfb hfl
            by_cases hz : ps[j].toNat = 0
            · go_wp2_with (first
                | ((with_reducible refine gate_dst (N := 32) rfl ?_); refine app_byte rfl rfl rfl rfl HO.out HB.out.size (by omega) ?_; intro v4 w4 HO4 hb4 hg4; have HX4 := Aside0.mk (box_grown HX.out hg4 (Kd.R_ne HO.out HX.out (by decide))); have HP4 := Aside0.mk HO4; have HB4 := Aside0.mk (HB.out.trans hb4); obtain ⟨c0, c1, c2⟩ := box_cells HX4.out; clear hb4 hg4 HO4 HO HB HX b0 b1 b2)
                | ((with_reducible refine gate_dst (N := 40) rfl ?_); refine app_byte rfl rfl rfl rfl HP4.out HB4.out.size (by omega) ?_; intro v5 w5 HO5 hb5 hg5; have HX5 := Aside0.mk (box_grown HX4.out hg5 (Kd.R_ne HP4.out HX4.out (by decide)))))
              go_roundw
              case rel =>
                refine ⟨j + 1, hlj, rfl, ⟨?_⟩, HX5, ⟨HB4.out.trans hb5⟩⟩
                rw [HFB.out, hz]
                simpa [wtextB] using HO5
              case measure => simp [intOf]; omega
            · have hz2 : ¬ (ps[j].toNat : Int) = 0 := by omega
              go_wp2_with ((with_reducible refine gate_dst (N := 32) rfl ?_); refine app_byte rfl rfl rfl rfl HO.out HB.out.size (by omega) ?_; intro v4 w4 HO4 hb4 hg4; have HX4 := Aside0.mk (box_grown HX.out hg4 (Kd.R_ne HO.out HX.out (by decide))); obtain ⟨c0, c1, c2⟩ := box_cells HX4.out)
              go_roundw
              case rel =>
                refine ⟨j + 1, hlj, rfl, ⟨?_⟩, HX4, ⟨HB.out.trans hb4⟩⟩
                rw [HFB.out, show wtextB (ps[j].toNat : Int) = [(ps[j].toNat : Int)] by unfold wtextB; rw [if_neg hz2], ← List.append_assoc]
                exact HO4
              case measure => simp [intOf]; omega
          · obtain rfl : j = ps.size := by omega
            have hfl := flat_text_len (bytesOf ps)
            rw [bytesOf_length] at hfl
            have HO2 := HO.out
            rw [List.take_of_length_le (by rw [bytesOf_length]; exact Nat.le_refl _)] at HO2
            have HP2 := Aside0.mk HO2
            have hml : (pre ++ [2] ++ (bytesOf ps).flatMap wtextB).length ≤ 300200001 := by rw [List.length_append, List.length_append, List.length_singleton]; omega
            clear HO HO2 hfl b0 b1 b2
            go_wp2_with ((with_reducible refine gate_dst (N := 44) rfl ?_); refine app_bytes rfl rfl rfl rfl (Kd.R_alloc HP2.out _) (lit_C [0, 1] (by simp)) (below_alloc HB.out _).size (by omega) ?_; intro v4 w4 HO4 hb4 hg4 _)
            go_roundw
            case rel =>
              refine ⟨k + 1, hlt, rfl, ⟨?_⟩, ⟨(below_alloc HB.out _).trans hb4⟩⟩
              rw [HFL.out]
              simpa [wpart, wtext] using HO4
            case measure => simp [intOf]; omega
      | false =>
        have hx := xor_top pn hn0' hn1'
        have HXT := Aside0.mk hx
        clear hx
        go_wp2_with ((with_reducible refine gate_dst (N := 47) rfl ?_); refine app_byte rfl rfl rfl ?_ (Kd.R_alloc HO.out _) (below_alloc HB.out _).size (by omega) ?_; go_simp; intro v2 w2 HO2 hb2 hg2; have HX2 := Aside0.mk (box_grown (heap_alloc_new wr _) hg2 (R_lt_ne HO.out)); obtain ⟨b0, b1, b2⟩ := box_cells HX2.out; have HP2 := Aside0.mk HO2; have HB2 := Aside0.mk ((below_alloc HB.out _).trans hb2); clear hb2 hg2 HO2 p0 p1 p2)
        rw [HXT.out]
        clear HO HB b0 b1 b2 HX2
        obtain ⟨u, hu⟩ : ∃ u, pn + 9223372036854775808 = u := ⟨_, rfl⟩
        have HU := Aside0.mk hu
        have hu0 : 0 ≤ u := by omega
        have hu1 : u < 18446744073709551616 := by omega
        rw [hu]
        clear hu HXT
        go_loopw [3, 8] (fun v3 v8 w' => ∃ (j : Nat) (i : Int), j ≤ 8 ∧ i = 7 - (j : Int) ∧ v8 = .int .i64 i ∧ Aside0 (OB w' w.heap.size v3 (pre ++ [1] ++ (num8 u).take j)) ∧ Aside0 (Below w.heap.size w w')) (fun _ v8 _ => (intOf v8 + 1).toNat)
        case atStart => exact ⟨0, 7, by omega, by omega, rfl, ⟨by simpa using HP2.out⟩, HB2⟩
        case round =>
          clear HP2 HB2
          obtain ⟨j, i, hj, hi, rfl, HO, HB⟩ := hrel
          have hml : (pre ++ [1] ++ (num8 u).take j).length ≤ 300000020 := by
            rw [List.length_append, List.length_append, List.length_singleton, List.length_take, num8_len]
            omega
          rcases (by omega : j = 0 ∨ j = 1 ∨ j = 2 ∨ j = 3 ∨ j = 4 ∨ j = 5 ∨ j = 6 ∨ j = 7 ∨ j = 8) with rfl | rfl | rfl | rfl | rfl | rfl | rfl | rfl | rfl
          · obtain rfl : i = 7 := hi
            go_wp2_with ((with_reducible refine gate_dst (N := 63) rfl ?_); refine app_byte rfl rfl rfl rfl HO.out HB.out.size (by omega) ?_; intro v4 w4 HO4 hb4 hg4)
            go_roundw
            case rel =>
              refine ⟨1, 6, by omega, by omega, rfl, ⟨?_⟩, ⟨HB.out.trans hb4⟩⟩
              simpa [num8, show u / 72057594037927936 % 256 = u / 72057594037927936 by omega] using HO4
            case measure => simp [intOf]
          · obtain rfl : i = 6 := hi
            go_wp2_with ((with_reducible refine gate_dst (N := 63) rfl ?_); refine app_byte rfl rfl rfl rfl HO.out HB.out.size (by omega) ?_; intro v4 w4 HO4 hb4 hg4)
            go_roundw
            case rel =>
              refine ⟨2, 5, by omega, by omega, rfl, ⟨?_⟩, ⟨HB.out.trans hb4⟩⟩
              simpa [num8] using HO4
            case measure => simp [intOf]
          · obtain rfl : i = 5 := hi
            go_wp2_with ((with_reducible refine gate_dst (N := 63) rfl ?_); refine app_byte rfl rfl rfl rfl HO.out HB.out.size (by omega) ?_; intro v4 w4 HO4 hb4 hg4)
            go_roundw
            case rel =>
              refine ⟨3, 4, by omega, by omega, rfl, ⟨?_⟩, ⟨HB.out.trans hb4⟩⟩
              simpa [num8] using HO4
            case measure => simp [intOf]
          · obtain rfl : i = 4 := hi
            go_wp2_with ((with_reducible refine gate_dst (N := 63) rfl ?_); refine app_byte rfl rfl rfl rfl HO.out HB.out.size (by omega) ?_; intro v4 w4 HO4 hb4 hg4)
            go_roundw
            case rel =>
              refine ⟨4, 3, by omega, by omega, rfl, ⟨?_⟩, ⟨HB.out.trans hb4⟩⟩
              simpa [num8] using HO4
            case measure => simp [intOf]
          · obtain rfl : i = 3 := hi
            go_wp2_with ((with_reducible refine gate_dst (N := 63) rfl ?_); refine app_byte rfl rfl rfl rfl HO.out HB.out.size (by omega) ?_; intro v4 w4 HO4 hb4 hg4)
            go_roundw
            case rel =>
              refine ⟨5, 2, by omega, by omega, rfl, ⟨?_⟩, ⟨HB.out.trans hb4⟩⟩
              simpa [num8] using HO4
            case measure => simp [intOf]
          · obtain rfl : i = 2 := hi
            go_wp2_with ((with_reducible refine gate_dst (N := 63) rfl ?_); refine app_byte rfl rfl rfl rfl HO.out HB.out.size (by omega) ?_; intro v4 w4 HO4 hb4 hg4)
            go_roundw
            case rel =>
              refine ⟨6, 1, by omega, by omega, rfl, ⟨?_⟩, ⟨HB.out.trans hb4⟩⟩
              simpa [num8] using HO4
            case measure => simp [intOf]
          · obtain rfl : i = 1 := hi
            go_wp2_with ((with_reducible refine gate_dst (N := 63) rfl ?_); refine app_byte rfl rfl rfl rfl HO.out HB.out.size (by omega) ?_; intro v4 w4 HO4 hb4 hg4)
            go_roundw
            case rel =>
              refine ⟨7, 0, by omega, by omega, rfl, ⟨?_⟩, ⟨HB.out.trans hb4⟩⟩
              simpa [num8] using HO4
            case measure => simp [intOf]
          · obtain rfl : i = 0 := hi
            go_wp2_with ((with_reducible refine gate_dst (N := 63) rfl ?_); refine app_byte rfl rfl rfl rfl HO.out HB.out.size (by omega) ?_; intro v4 w4 HO4 hb4 hg4)
            go_roundw
            case rel =>
              refine ⟨8, -1, by omega, by omega, rfl, ⟨?_⟩, ⟨HB.out.trans hb4⟩⟩
              simpa [num8] using HO4
            case measure => simp [intOf]
          · obtain rfl : i = -1 := hi
            go_wp2_with fail
            go_roundw
            case rel =>
              refine ⟨k + 1, hlt, rfl, ⟨?_⟩, HB⟩
              rw [HFL.out]
              have := HO.out
              rw [List.take_of_length_le (by rw [num8_len]; omega), ← HU.out] at this
              simpa [wpart] using this
            case measure => simp [intOf]; omega
    · obtain rfl : k = n := by omega
      go_wp2_with fail
      go_ret
      refine ⟨_, rfl, ?_, HB.out⟩
      have := HO.out
      rwa [List.take_of_length_le (by rw [← HN.out]; omega)] at this
end Go.Proofs.Ytmfnbkghfmeekaa.A.O
namespace Go.Proofs.Ytmfnbkghfmeekaa.A.O
open Go.RowKit Go.Proofs.YtmfnbkghfmeekaaW.PrintWords Go.Proofs.YtmfnbkghfmeekaaW.PrintLast Go.Proofs.YtmfnbkghfmeekaaW.PrintMore
set_option linter.unusedVariables false
set_option linter.unusedSimpArgs false
theorem lit_CPt2 (W : World) (te : Nat) (pt : Bool) (pn : Int) (ps : ByteArray) (qt : Bool) (qn : Int) (qs : ByteArray) : KPt.C (W.alloc (.cells #[.bool pt, .int .i64 pn, .string ps, .bool qt, .int .i64 qn, .string qs] te)) (some ⟨W.heap.size, 0, none⟩) 2 [⟨pt, pn, ps⟩, ⟨qt, qn, qs⟩] := by
  refine ⟨rfl, by omega, fun _ => ⟨_, rfl, fun j x hj => ?_⟩⟩
  have hj2 : j < 2 := by
    have := (List.getElem?_eq_some_iff.1 hj).1
    simpa using this
  rcases (by omega : j = 0 ∨ j = 1) with rfl | rfl
  · have hx : (⟨pt, pn, ps⟩ : Pt) = x := by simpa using hj
    subst hx
    refine ⟨[.bool pt, .int .i64 pn, .string ps], rfl, KPt_K _ _ _ _, fun i u hu => ?_⟩
    rw [add_plain, cell_of_row _ _ _ _ te (0, 0) (heap_alloc_new W _)]
    match i, hu with
    | 0, hu => simpa using hu
    | 1, hu => simpa using hu
    | 2, hu => simpa using hu
  · have hx : (⟨qt, qn, qs⟩ : Pt) = x := by simpa using hj
    subst hx
    refine ⟨[.bool qt, .int .i64 qn, .string qs], rfl, KPt_K _ _ _ _, fun i u hu => ?_⟩
    rw [add_plain, cell_of_row _ _ _ _ te (0, 0) (heap_alloc_new W _)]
    match i, hu with
    | 0, hu => simpa [show KPt.sz = 3 from rfl] using hu
    | 1, hu => simpa [show KPt.sz = 3 from rfl] using hu
    | 2, hu => simpa [show KPt.sz = 3 from rfl] using hu
def keyParts (t : Int) (s : ByteArray) : List Pt := [⟨false, t, ({ data := #[] } : ByteArray)⟩, ⟨true, 0, s⟩]
def keyErr (t : Int) (s : ByteArray) : Int := if t < 0 ∨ 4 ≤ t then 1 else if 40 < s.size then 5 else 0
def keyStr (t : Int) (s : ByteArray) : ByteArray := if keyErr t s = 0 then strOfNums (writeL (keyParts t s)) else ({ data := #[] } : ByteArray)
set_option maxRecDepth 100000 in
set_option maxHeartbeats 1000000 in
theorem key_calls (t : Int) (s : ByteArray) (w : World) (hs : s.size ≤ 9223372036854775807) :
    Calls Try.prog 101 #[.int .i64 t, .string s] w fun e w' => e = .returned (.tuple #[.string (keyStr t s), .int .i64 (keyErr t s)]) ∧ Below w.heap.size w w' := by
  rcases Int.lt_or_le t 0 with h1 | h1
  · have e1 : keyErr t s = 1 := by unfold keyErr; rw [if_pos (.inl h1)]
    have e2 : keyStr t s = ({ data := #[] } : ByteArray) := by unfold keyStr; rw [e1]; rfl
    rw [e1, e2]
    clear e1 e2
    go_enter Try.func101, Try.ntmps101
    go_wp2
    go_ret2
    exact ⟨rfl, Below.refl _ _⟩
  · rcases Int.lt_or_le t 4 with h2 | h2
    · rcases Nat.lt_or_ge 40 s.size with h3 | h3
      · have e1 : keyErr t s = 5 := by unfold keyErr; rw [if_neg (by omega), if_pos h3]
        have e2 : keyStr t s = ({ data := #[] } : ByteArray) := by unfold keyStr; rw [e1]; rfl
        rw [e1, e2]
        have h4 : (40 : Int) < (s.size : Int) := by omega
        clear e1 e2
        go_enter Try.func101, Try.ntmps101
        go_wp2
        go_ret2
        exact ⟨rfl, Below.refl _ _⟩
      · have e1 : keyErr t s = 0 := by unfold keyErr; rw [if_neg (by omega), if_neg (by omega)]
        have e2 : keyStr t s = strOfNums (writeL (keyParts t s)) := by unfold keyStr; rw [if_pos e1]
        rw [e1, e2]
        have h4 : ¬ (40 : Int) < (s.size : Int) := by omega
        clear e1 e2
        go_enter Try.func101, Try.ntmps101
        go_wp2_with fail
        have hok : ∀ p ∈ keyParts t s, p.ok := by
          intro p hp
          simp only [keyParts, List.mem_cons, List.not_mem_nil, or_false] at hp
          rcases hp with rfl | rfl
          · exact ⟨⟨by show -9223372036854775808 ≤ t; omega, by show t ≤ 9223372036854775807; omega⟩, by show (0 : Nat) ≤ _; omega⟩
          · exact ⟨⟨by show -9223372036854775808 ≤ (0 : Int); omega, by show (0 : Int) ≤ 9223372036854775807; omega⟩, hs⟩
        have hsz : ∀ p ∈ keyParts t s, p.s.size ≤ 100000 := by
          intro p hp
          simp only [keyParts, List.mem_cons, List.not_mem_nil, or_false] at hp
          rcases hp with rfl | rfl
          · show (0 : Nat) ≤ _
            omega
          · show s.size ≤ _
            omega
        (with_reducible refine (write_calls _ _ _ (keyParts t s) _ (lit_CPt2 w _ false t ({ data := #[] } : ByteArray) true 0 s) (Nat.le_refl _) hok hsz (by omega)).mono ?_)
        rintro e w2 ⟨v2, rfl, HO2, hb2⟩
        have E2 := OB_string HO2
        have HB2 := Aside0.mk (below_step (below_alloc (Below.refl w.heap.size w) _) hb2)
        clear HO2 hb2 hok hsz
        go_wp2
        go_ret2
        exact ⟨rfl, HB2.out⟩
    · have e1 : keyErr t s = 1 := by unfold keyErr; rw [if_pos (.inr h2)]
      have e2 : keyStr t s = ({ data := #[] } : ByteArray) := by unfold keyStr; rw [e1]; rfl
      rw [e1, e2]
      have h3 : ¬ t < 0 := by omega
      clear e1 e2
      go_enter Try.func101, Try.ntmps101
      go_wp2
      go_ret2
      exact ⟨rfl, Below.refl _ _⟩
end Go.Proofs.Ytmfnbkghfmeekaa.A.O
namespace Go.Proofs.Ytmfnbkghfmeekaa.A.O
open Go.RowKit Go.Proofs.YtmfnbkghfmeekaaW.PrintWords Go.Proofs.YtmfnbkghfmeekaaW.PrintLast Go.Proofs.YtmfnbkghfmeekaaW.PrintMore
set_option linter.unusedVariables false
set_option linter.unusedSimpArgs false
theorem OPt_readn {w : World} {B : Nat} {v : Value} {l : List Pt} (h : OPt w B v l) (n : Nat) (hn : l.length = n) : ∃ A c, v = .slice A n c ∧ n ≤ c ∧ KPt.C w A n l := by
  subst hn
  exact Kd.R_reads h
end Go.Proofs.Ytmfnbkghfmeekaa.A.O
namespace Go.Proofs.Ytmfnbkghfmeekaa.A.O
open Go.RowKit Go.Proofs.YtmfnbkghfmeekaaW.PrintWords Go.Proofs.YtmfnbkghfmeekaaW.PrintLast Go.Proofs.YtmfnbkghfmeekaaW.PrintMore
open Go.Op (bytesLess)
set_option linter.unusedVariables false
set_option linter.unusedSimpArgs false
def numK : Nat → Int → List Int
  | 0, _ => []
  | k + 1, u => numK k (u / 256) ++ [u % 256]
theorem num8_K (u : Int) : num8 u = numK 8 u := by
  have e1 : u / 256 / 256 = u / 65536 := by omega
  have e2 : u / 65536 / 256 = u / 16777216 := by omega
  have e3 : u / 16777216 / 256 = u / 4294967296 := by omega
  have e4 : u / 4294967296 / 256 = u / 1099511627776 := by omega
  have e5 : u / 1099511627776 / 256 = u / 281474976710656 := by omega
  have e6 : u / 281474976710656 / 256 = u / 72057594037927936 := by omega
  simp only [numK, List.nil_append, List.append_assoc, List.cons_append, e1, e2, e3, e4, e5, e6]
  rfl
theorem bytesOf_range (s : ByteArray) : ∀ b ∈ bytesOf s, 0 ≤ b ∧ b ≤ 255 := by
  intro b hb
  obtain ⟨c, _, rfl⟩ := List.mem_map.1 hb
  have := UInt8.toNat_lt c
  omega
theorem wpart_cons (p : Pt) : ∃ c r, wpart p = c :: r := by
  unfold wpart
  split
  · exact ⟨_, _, rfl⟩
  · exact ⟨_, _, rfl⟩
theorem bytesOf_str (L : List Int) (h : ∀ x ∈ L, 0 ≤ x ∧ x ≤ 255) : bytesOf (strOfNums L) = L := by
  unfold bytesOf
  rw [strOfNums_data, List.map_map]
  refine (List.map_congr_left (g := id) fun x hx => ?_).trans (List.map_id _)
  have := h x hx
  show ((UInt8.ofNat x.toNat).toNat : Int) = x
  rw [UInt8.toNat_ofNat']
  omega
theorem wtextB_range (b : Int) (h : 0 ≤ b ∧ b ≤ 255) : ∀ x ∈ wtextB b, 0 ≤ x ∧ x ≤ 255 := by
  unfold wtextB
  split
  · intro x hx
    simp only [List.mem_cons, List.not_mem_nil, or_false] at hx
    rcases hx with rfl | rfl <;> omega
  · intro x hx
    rw [List.mem_singleton] at hx
    rw [hx]
    exact h
theorem wpart_range (p : Pt) : ∀ x ∈ wpart p, 0 ≤ x ∧ x ≤ 255 := by
  intro x hx
  unfold wpart at hx
  split at hx
  · rw [List.mem_append, List.mem_singleton] at hx
    rcases hx with rfl | hx
    · omega
    · unfold wtext at hx
      rw [List.mem_append] at hx
      rcases hx with hx | hx
      · obtain ⟨b, hb, hx⟩ := List.mem_flatMap.1 hx
        exact wtextB_range b (bytesOf_range _ b hb) x hx
      · simp only [List.mem_cons, List.not_mem_nil, or_false] at hx
        rcases hx with rfl | rfl <;> omega
  · rw [List.mem_append, List.mem_singleton] at hx
    rcases hx with rfl | hx
    · omega
    · simp only [num8, List.mem_cons, List.not_mem_nil, or_false] at hx
      rcases hx with rfl | rfl | rfl | rfl | rfl | rfl | rfl | rfl <;> omega
theorem write_range (l : List Pt) : ∀ x ∈ writeL l, 0 ≤ x ∧ x ≤ 255 := by
  intro x hx
  obtain ⟨p, _, hx⟩ := List.mem_flatMap.1 hx
  exact wpart_range p x hx
theorem byte_of {l : List Int} (hb : ∀ x ∈ l, 0 ≤ x ∧ x ≤ 255) (i : Nat) : 0 ≤ l.getD i 0 ∧ l.getD i 0 ≤ 255 := by
  rw [List.getD_eq_getElem?_getD]
  cases h : l[i]? with
  | none => simp
  | some x => exact hb x (List.mem_of_getElem? h)
theorem C_atN {k : IntKind} {A : Option Addr} {n : Nat} {l : List Int} {w : World} (h : Kd.C (Kd.int k) w A n l) (i : Nat) (hi : i < n) : ∃ ad, A = some ad ∧ w.cell? (ad.add i) = some (.int k (l.getD i 0)) := by
  have hn := h.1
  subst hn
  exact C_at h i hi
end Go.Proofs.Ytmfnbkghfmeekaa.A.O
