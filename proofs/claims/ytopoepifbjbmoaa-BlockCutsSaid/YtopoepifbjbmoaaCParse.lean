/- A block out of bytes, by definition; rows of bytes compared. -/
import Derived.Test.YtopoepifbjbmoaaCWriteB
import Derived.Deep.QuietTactic
import Derived.StillTailTactics
namespace Go.Proofs.Ytopoepifbjbmoaa.A
open Go.RowKit Go.Proofs.YtopoepifbjbmoaaW.PrintWords Go.Proofs.YtopoepifbjbmoaaW.PrintLast Go.Proofs.YtopoepifbjbmoaaW.PrintMore
open R
set_option linter.unusedVariables false
set_option linter.unusedSimpArgs false

/-- How many bytes of the key ahead are taken. -/
def cutN (key : ByteArray) (same : Int) : Nat := (if (key.size : Int) < same then (key.size : Int) else same).toNat
def keyB (key : ByteArray) (s : St) : ByteArray := key.extract 0 (cutN key (numS s).1) ++ (textS 200 (numS s).2).1
def s0B (s : St) : St := (textS 200 (numS s).2).2
def s1B (s : St) : St := (numS (s0B s)).2
def s2B (s : St) : St := (numS (s1B s)).2
def s3B (s : St) : St := (numS (s2B s)).2
def s4B (s : St) : St := (numS (s3B s)).2
def s5B (s : St) : St := (numS (s4B s)).2
def s6B (s : St) : St := (numS (s5B s)).2
/-- A version behind a key, and what is left. -/
def oneB (key : ByteArray) (s : St) : Vr × St := (⟨keyB key s, (numS (s0B s)).1, (numS (s1B s)).1, (numS (s2B s)).1, (numS (s3B s)).1, (numS (s3B s)).1 + (numS (s4B s)).1, (textS 200 (s6B s)).1, decide ((numS (s5B s)).1 = 1)⟩, (textS 200 (s6B s)).2)
def rb : Nat → Int → Nat → ByteArray → St → List Vr × St
  | 0, _, _, _, s => ([], s)
  | f + 1, N, c, key, s => if s.2 = 0 ∧ (c : Int) < N then ((oneB key s).1 :: (rb f N (c + 1) (oneB key s).1.k (oneB key s).2).1, (rb f N (c + 1) (oneB key s).1.k (oneB key s).2).2) else ([], s)
def rbAll (bs : List Int) : List Vr × St := rb (bs.length + 2) (numS (bs, 0)).1 0 { data := #[] } (numS (bs, 0)).2
/-- The block of bytes, the error. -/
def readB (bs : List Int) : List Vr × Int := if (rbAll bs).2.2 ≠ 0 then ([], (rbAll bs).2.2) else if mayBl (rbAll bs).1 && decide (blockB (rbAll bs).1 = bs) then ((rbAll bs).1, 0) else ([], 2)
/-- How many rounds there may be more. -/
def muS (s : St) : Nat := if s.2 = 0 then s.1.length + 1 else 0
theorem numG_lt : ∀ (bs : List Int) (i : Nat) (n : Int), (V.numG i n bs).2.2 = 0 → (V.numG i n bs).2.1.length < bs.length
  | [], i, n, h => by
    unfold V.numG at h
    split at h <;> simp at h
  | c :: r, i, n, h => by
    unfold V.numG at h ⊢
    split at h
    · simp at h
    · rename_i h9
      rw [if_neg h9]
      split at h
      · rename_i h1
        rw [if_pos h1]
        have := numG_lt r (i + 1) _ h
        simp only [List.length_cons]
        omega
      · rename_i h1
        rw [if_neg h1]
        split at h
        · simp at h
        · rename_i h2
          rw [if_neg h2]
          simp
theorem numS_ok {s : St} (h : (numS s).2.2 = 0) : s.2 = 0 ∧ (numS s).2.1.length < s.1.length := by
  by_cases h0 : s.2 = 0
  · refine ⟨h0, ?_⟩
    unfold numS at h ⊢
    rw [if_pos h0] at h ⊢
    exact numG_lt _ _ _ h
  · unfold numS at h
    rw [if_neg h0] at h
    exact absurd h h0
theorem textS_ok {most : Int} {s : St} (h : (textS most s).2.2 = 0) : (numS s).2.2 = 0 := by
  unfold textS at h
  split at h
  · exact h
  · rename_i h1
    simpa using h1
theorem len_num {s : St} (h : okS s) : (numS s).2.1.length ≤ s.1.length := by
  obtain ⟨_, _, k, hk⟩ := okS_num h
  rw [hk, List.length_drop]
  omega
theorem len_text {s : St} (most : Int) (h : okS s) : (textS most s).1.size + (textS most s).2.1.length ≤ s.1.length := by
  have h1 := len_num h
  obtain ⟨_, ⟨h2, _⟩, _⟩ := okS_num h
  unfold textS
  split
  · simp only
    have : ({ data := #[] } : ByteArray).size = 0 := rfl
    omega
  · split
    · simp only [List.length_nil]
      have : ({ data := #[] } : ByteArray).size = 0 := rfl
      omega
    · split
      · simp only [List.length_nil]
        have : ({ data := #[] } : ByteArray).size = 0 := rfl
        omega
      · simp only [strOfNums_size, List.length_take, List.length_drop]
        omega
theorem okB {s : St} (h : okS s) : okS (numS s).2 ∧ okS (s0B s) ∧ okS (s1B s) ∧ okS (s2B s) ∧ okS (s3B s) ∧ okS (s4B s) ∧ okS (s5B s) ∧ okS (s6B s) ∧ okS (textS 200 (s6B s)).2 := by
  have a0 := (okS_num h).1
  have a1 := (okS_text 200 a0).1
  have a2 := (okS_num a1).1
  have a3 := (okS_num a2).1
  have a4 := (okS_num a3).1
  have a5 := (okS_num a4).1
  have a6 := (okS_num a5).1
  have a7 := (okS_num a6).1
  exact ⟨a0, a1, a2, a3, a4, a5, a6, a7, (okS_text 200 a7).1⟩
theorem lenB {key : ByteArray} {s : St} (h : okS s) : (textS 200 (numS s).2).1.size + (s0B s).1.length ≤ s.1.length ∧ (oneB key s).2.1.length ≤ (s0B s).1.length := by
  obtain ⟨a0, a1, a2, a3, a4, a5, a6, a7, a8⟩ := okB h
  have b0 := len_num h
  have b1 := len_text 200 a0
  have b2 : (s1B s).1.length ≤ _ := len_num a1
  have b3 : (s2B s).1.length ≤ _ := len_num a2
  have b4 : (s3B s).1.length ≤ _ := len_num a3
  have b5 : (s4B s).1.length ≤ _ := len_num a4
  have b6 : (s5B s).1.length ≤ _ := len_num a5
  have b7 : (s6B s).1.length ≤ _ := len_num a6
  have b8 := len_text 200 a7
  have e : (oneB key s).2 = (textS 200 (s6B s)).2 := rfl
  rw [e]
  have e0 : s0B s = (textS 200 (numS s).2).2 := rfl
  rw [← e0] at b1
  omega
theorem mu_lt {s : St} (key : ByteArray) (h : okS s) (h0 : s.2 = 0) : muS (oneB key s).2 < muS s := by
  have hm : muS s = s.1.length + 1 := by unfold muS; rw [if_pos h0]
  rw [hm]
  unfold muS
  split
  · rename_i h1
    have c7 := textS_ok (show (textS 200 (s6B s)).2.2 = 0 from h1)
    have d6 : (s6B s).2 = 0 := (numS_ok c7).1
    have d5 : (s5B s).2 = 0 := (numS_ok d6).1
    have d4 : (s4B s).2 = 0 := (numS_ok d5).1
    have d3 : (s3B s).2 = 0 := (numS_ok d4).1
    have d2 : (s2B s).2 = 0 := (numS_ok d3).1
    have d1 : (s1B s).2 = 0 := (numS_ok d2).1
    have d0 : (s0B s).2 = 0 := (numS_ok d1).1
    have c0 := (numS_ok (textS_ok d0)).1
    have e0 := (numS_ok c0).2
    have h2 := lenB (key := key) h
    have h3 := len_text 200 (okB h).1
    have e1 : s0B s = (textS 200 (numS s).2).2 := rfl
    rw [← e1] at h3
    omega
  · omega
theorem rb_go {f : Nat} {N : Int} {c : Nat} {key : ByteArray} {s : St} (h0 : s.2 = 0) (hc : (c : Int) < N) : rb (f + 1) N c key s = ((oneB key s).1 :: (rb f N (c + 1) (oneB key s).1.k (oneB key s).2).1, (rb f N (c + 1) (oneB key s).1.k (oneB key s).2).2) := by
  rw [rb, if_pos ⟨h0, hc⟩]
theorem rb_stop {f : Nat} {N : Int} {c : Nat} {key : ByteArray} {s : St} (h : ¬ (s.2 = 0 ∧ (c : Int) < N)) : rb f N c key s = ([], s) := by
  cases f with
  | zero => rfl
  | succ f => rw [rb, if_neg h]
theorem keyB_size {key : ByteArray} {s : St} (h : okS s) : (keyB key s).size + (oneB key s).2.1.length ≤ key.size + s.1.length := by
  have h1 := lenB (key := key) h
  unfold keyB
  rw [ByteArray.size_append, ByteArray.size_extract]
  omega

theorem take_next {x : List Int} {k : Nat} (hk : k < x.length) : x.take (k + 1) = x.take k ++ [x.getD k 0] := by
  rw [List.take_succ_eq_append_getElem hk]
  simp [List.getD_eq_getElem?_getD, hk]
theorem C_atN8 {A : Option Addr} {n : Nat} {l : List Int} {w : World} (h : U8.C w A n l) (i : Nat) (hi : i < n) : ∃ ad, A = some ad ∧ w.cell? (ad.add i) = some (.int .u8 (l.getD i 0)) := by
  have hn := h.1
  subst hn
  exact C_at h i hi
set_option maxRecDepth 100000 in
set_option maxHeartbeats 4000000 in
/-- slices.Equal at bytes. -/
theorem equal_calls (A B : Option Addr) (n m c d : Nat) (x y : List Int) (w : World) (hr : U8.C w A n x) (hs : U8.C w B m y) (hc : n ≤ c) (hd : m ≤ d) :
    Calls Try.prog 28 #[.slice A n c, .slice B m d] w fun e w' => e = .returned (.bool (decide (x = y))) ∧ Below w.heap.size w w' := by
  have HR := Aside0.mk hr
  have HS := Aside0.mk hs
  have HN := Aside0.mk hr.1
  have HM := Aside0.mk hs.1
  have hm : n ≤ 9223372036854775807 := hr.2.1
  have hm2 : m ≤ 9223372036854775807 := hs.2.1
  clear hr hs
  by_cases hnm : n = m
  · subst hnm
    go_enter Try.func28, Try.ntmps28
    go_wp2_with fail
    go_loopw [13] (fun v13 w' => ∃ k : Nat, k ≤ n ∧ v13 = .int .i64 k ∧ Aside0 (x.take k = y.take k) ∧ Aside0 (Below w.heap.size w w')) (fun v13 _ => n - (intOf v13).toNat)
    case atStart => exact ⟨0, Nat.zero_le _, rfl, ⟨rfl⟩, ⟨Below.refl _ _⟩⟩
    case round =>
      obtain ⟨k, hk, rfl, HE, HB⟩ := hrel
      by_cases hlt : k < n
      · have HBd := Aside0.mk (below_drew1 HB.out)
        obtain ⟨ad, rfl, p1⟩ := C_atN8 (Kd.C_below HR.out HBd.out) k hlt
        obtain ⟨bd, rfl, p2⟩ := C_atN8 (Kd.C_below HS.out HBd.out) k hlt
        have HX := Aside0.mk (take_next (x := x) (k := k) (by rw [HN.out]; exact hlt))
        have HY := Aside0.mk (take_next (x := y) (k := k) (by rw [HM.out]; exact hlt))
        have i1 : (k : Int) < (n : Int) := by omega
        have i2 : (0 : Int) ≤ (k : Int) := by omega
        generalize x.getD k 0 = a at *
        generalize y.getD k 0 = b at *
        by_cases hab : a = b
        · subst hab
          have hq : (a != a) = false := by simp
          go_wp2_with fail
          go_still (by kernel_rfl)
          go_wp2_with fail
          go_roundw
          case rel => exact ⟨k + 1, hlt, rfl, ⟨by rw [HX.out, HY.out, HE.out]⟩, HBd⟩
          case measure => simp [intOf]; omega
        · have hq : (a == b) = false := beq_eq_false_iff_ne.2 hab
          have hq2 : (a != b) = true := bne_iff_ne.2 hab
          have HNE : Aside0 (decide (x = y) = false) := ⟨decide_eq_false (fun e => hab (by
            have h1 := HX.out
            have h2 := HY.out
            rw [e, h2] at h1
            have := List.append_inj_right' h1 rfl
            simpa using this.symm))⟩
          clear hab
          go_wp2_with fail
          go_still (by kernel_rfl)
          go_wp2_with fail
          go_ret
          exact ⟨by rw [HNE.out]; rfl, HBd.out⟩
      · obtain rfl : k = n := by omega
        have HEQ : Aside0 (decide (x = y) = true) := ⟨decide_eq_true (by have h := HE.out; rwa [List.take_of_length_le (by rw [HN.out]; exact Nat.le_refl _), List.take_of_length_le (by rw [HM.out]; exact Nat.le_refl _)] at h)⟩
        go_wp2_with fail
        go_ret
        exact ⟨by rw [HEQ.out]; rfl, HB.out⟩
  · have HNE : Aside0 (decide (x = y) = false) := ⟨decide_eq_false (fun e => hnm (by rw [← HN.out, ← HM.out, e]))⟩
    have hq : ((n : Int) == (m : Int)) = false := beq_eq_false_iff_ne.2 (by omega)
    have hq2 : ((n : Int) != (m : Int)) = true := bne_iff_ne.2 (by omega)
    go_enter Try.func28, Try.ntmps28
    go_wp2_with fail
    go_ret
    exact ⟨by rw [HNE.out]; rfl, Below.refl _ _⟩
end Go.Proofs.Ytopoepifbjbmoaa.A
