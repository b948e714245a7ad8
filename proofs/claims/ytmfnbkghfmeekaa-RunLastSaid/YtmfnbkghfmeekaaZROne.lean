/- ROne -/
import Derived.Test.YtmfnbkghfmeekaaZAOpen
import Derived.Test.YtmfnbkghfmeekaaZOOne
import Derived.Test.YtmfnbkghfmeekaaZSOne
import Derived.Test.YtmfnbkghfmeekaaZW
import Derived.Deep.Slices
import Derived.Deep.RegionHeld
import Derived.Test.YtmfnbkghfmeekaaZOFour
import Derived.Test.YtmfnbkghfmeekaaZVOne
namespace Go.Proofs.Ytmfnbkghfmeekaa.A.R
open Go.RowKit Go.Proofs.YtmfnbkghfmeekaaW.PrintWords Go.Proofs.YtmfnbkghfmeekaaW.PrintLast Go.Proofs.YtmfnbkghfmeekaaW.PrintMore
open Go.Op (bytesLess)
set_option linter.unusedVariables false
set_option linter.unusedSimpArgs false
structure Vr where
  k : ByteArray
  br : Int
  ep : Int
  sq : Int
  f : Int
  t : Int
  v : ByteArray
  g : Bool
instance : Inhabited Vr := ⟨⟨ByteArray.empty, 0, 0, 0, 0, 0, ByteArray.empty, false⟩⟩
abbrev vrCells (p : Vr) : List Value := [.string p.k, .int .i64 p.br, .int .i64 p.ep, .int .i64 p.sq, .int .i64 p.f, .int .i64 p.t, .string p.v, .bool p.g]
def KVr : Kd Vr := Kd.iso (Kd.pair Kd.string (Kd.pair (Kd.int .i64) (Kd.pair (Kd.int .i64) (Kd.pair (Kd.int .i64) (Kd.pair (Kd.int .i64) (Kd.pair (Kd.int .i64) (Kd.pair Kd.string Kd.bool))))))) (fun p => (p.k, p.br, p.ep, p.sq, p.f, p.t, p.v, p.g))
theorem KVr_M (w : World) (B : Nat) (ok : Nat → Prop) (p : Vr) : KVr.M w B ok p (vrCells p) := ⟨[.string p.k], _, rfl, rfl, ⟨[.int .i64 p.br], _, rfl, rfl, ⟨[.int .i64 p.ep], _, rfl, rfl, ⟨[.int .i64 p.sq], _, rfl, rfl, ⟨[.int .i64 p.f], _, rfl, rfl, ⟨[.int .i64 p.t], _, rfl, rfl, ⟨[.string p.v], [.bool p.g], rfl, rfl, rfl⟩⟩⟩⟩⟩⟩⟩
theorem KVr_K (w : World) (p : Vr) : KVr.K w p (vrCells p) := ⟨[.string p.k], _, rfl, rfl, ⟨[.int .i64 p.br], _, rfl, rfl, ⟨[.int .i64 p.ep], _, rfl, rfl, ⟨[.int .i64 p.sq], _, rfl, rfl, ⟨[.int .i64 p.f], _, rfl, rfl, ⟨[.int .i64 p.t], _, rfl, rfl, ⟨[.string p.v], [.bool p.g], rfl, rfl, rfl⟩⟩⟩⟩⟩⟩⟩
theorem KVr_of {w : World} {p : Vr} {c : List Value} (h : KVr.K w p c) : c = vrCells p := by
  obtain ⟨_, _, rfl, rfl, ⟨_, _, rfl, rfl, ⟨_, _, rfl, rfl, ⟨_, _, rfl, rfl, ⟨_, _, rfl, rfl, ⟨_, _, rfl, rfl, ⟨_, _, rfl, rfl, rfl⟩⟩⟩⟩⟩⟩⟩ := h
  rfl
theorem infoVr : (Try.prog.info? 28).map (fun i => (i.zero, i.size, i.bytes)) = some (some (.agg #[.string ByteArray.empty, .int .i64 0, .int .i64 0, .int .i64 0, .int .i64 0, .int .i64 0, .string ByteArray.empty, .bool false]), 8, 80) := by kernel_rfl
abbrev OVr (w : World) (B : Nat) (v : Value) (l : List Vr) : Prop := OR KVr 28 w B v l
abbrev vrBox (k : ByteArray) (br ep sq f t : Int) (v : ByteArray) (g : Bool) : Obj := .cells #[.string k, .int .i64 br, .int .i64 ep, .int .i64 sq, .int .i64 f, .int .i64 t, .string v, .bool g] 28
abbrev vrB (p : Vr) : Obj := vrBox p.k p.br p.ep p.sq p.f p.t p.v p.g
theorem box_keep {W w1 : World} {g : Nat} {o : Obj} (h : W.heap[g]? = some o) (hb : Below W.heap.size W w1) : w1.heap[g]? = some o :=
  (hb.block g (Array.getElem?_eq_some_iff.1 h).1).trans h
theorem vr_cells {w : World} {x : Nat} {k : ByteArray} {br ep sq f t : Int} {v : ByteArray} {g : Bool} (h : w.heap[x]? = some (vrBox k br ep sq f t v g)) :
    w.cell? ⟨x, 0, none⟩ = some (.string k) ∧ w.cell? ⟨x, 1, none⟩ = some (.int .i64 br) ∧ w.cell? ⟨x, 2, none⟩ = some (.int .i64 ep) ∧ w.cell? ⟨x, 3, none⟩ = some (.int .i64 sq) ∧ w.cell? ⟨x, 4, none⟩ = some (.int .i64 f) ∧ w.cell? ⟨x, 5, none⟩ = some (.int .i64 t) ∧ w.cell? ⟨x, 6, none⟩ = some (.string v) ∧ w.cell? ⟨x, 7, none⟩ = some (.bool g) := by
  refine ⟨?_, ?_, ?_, ?_, ?_, ?_, ?_, ?_⟩ <;> (rw [cell_of_row _ _ _ _ _ _ h]; rfl)
def firstL : List Int → Int
  | [] => 0
  | n :: l => if n = 0 then firstL l else n
theorem drop_int (l : List Int) (k : Nat) (hk : k < l.length) : l.drop k = l.getD k 0 :: l.drop (k + 1) := by
  rw [List.drop_eq_getElem_cons hk]
  simp [List.getD_eq_getElem?_getD, hk]
set_option maxRecDepth 100000 in
theorem first_calls (A : Option Addr) (n c : Nat) (l : List Int) (w : World) (hr : (Kd.int .i64).C w A n l) (hc : n ≤ c) :
    Calls Try.prog 84 #[.slice A n c] w fun e w' => e = .returned (.int .i64 (firstL l)) ∧ w' = w := by
  have HR := Aside0.mk hr
  have HN := Aside0.mk hr.1
  have hm : n ≤ 9223372036854775807 := hr.2.1
  clear hr
  go_enter Try.func84, Try.ntmps84
  go_wp2_with fail
  go_loopw [7] (fun v7 w' => ∃ k : Nat, k ≤ n ∧ v7 = .int .i64 k ∧ Aside0 (firstL (l.drop k) = firstL l) ∧ w' = w) (fun v7 _ => n - (intOf v7).toNat)
  case atStart => exact ⟨0, Nat.zero_le _, rfl, ⟨rfl⟩, rfl⟩
  case round =>
    obtain ⟨k, hk, rfl, HE, rfl⟩ := hrel
    by_cases hlt : k < n
    · have hrr := HR.out
      have hnn := HN.out
      subst hnn
      obtain ⟨ad, rfl, p0⟩ := C_at hrr k hlt
      have hE := HE.out
      rw [drop_int l k hlt] at hE
      clear hrr HE
      generalize l.getD k 0 = x at *
      rw [firstL] at hE
      have i1 : (k : Int) < (l.length : Int) := by omega
      have i2 : (0 : Int) ≤ (k : Int) := by omega
      by_cases hx : x = 0
      · rw [if_pos hx] at hE
        subst hx
        have HD := Aside0.mk hE
        clear hE
        go_wp2_with fail
        go_roundw
        case rel => exact ⟨k + 1, hlt, rfl, HD, trivial⟩
        case measure => simp [intOf]; omega
      · rw [if_neg hx] at hE
        have HD := Aside0.mk hE
        clear hE
        go_wp2_with fail
        go_ret
        exact ⟨by rw [← HD.out]; rfl, rfl⟩
    · obtain rfl : k = n := by omega
      have hE := HE.out
      rw [List.drop_of_length_le (by rw [HN.out]; omega), firstL] at hE
      have HD := Aside0.mk hE
      clear hE HE
      go_wp2_with fail
      go_ret
      exact ⟨by rw [← HD.out]; rfl, rfl⟩
def cmpV (a b : Vr) : Int := firstL [O.cmpS a.k b.k, O.cmpI a.br b.br, O.cmpI a.ep b.ep, O.cmpI a.sq b.sq, O.cmpI a.f b.f]
set_option maxRecDepth 100000 in
set_option maxHeartbeats 4000000 in
theorem compare_calls (k1 : ByteArray) (br1 ep1 sq1 f1 t1 : Int) (v1 : ByteArray) (g1 : Bool) (k2 : ByteArray) (br2 ep2 sq2 f2 t2 : Int) (v2 : ByteArray) (g2 : Bool) (w : World) :
    Calls Try.prog 59 #[.agg #[.string k1, .int .i64 br1, .int .i64 ep1, .int .i64 sq1, .int .i64 f1, .int .i64 t1, .string v1, .bool g1], .agg #[.string k2, .int .i64 br2, .int .i64 ep2, .int .i64 sq2, .int .i64 f2, .int .i64 t2, .string v2, .bool g2]] w fun e w' => e = .returned (.int .i64 (cmpV ⟨k1, br1, ep1, sq1, f1, t1, v1, g1⟩ ⟨k2, br2, ep2, sq2, f2, t2, v2, g2⟩)) ∧ Below w.heap.size w w' := by
  unfold cmpV
  simp only
  go_enter Try.func59, Try.ntmps59
  go_wp2_with fail
  have hX1 : ((w.alloc (vrBox k1 br1 ep1 sq1 f1 t1 v1 g1)).alloc (vrBox k2 br2 ep2 sq2 f2 t2 v2 g2)).heap[w.heap.size]? = some (vrBox k1 br1 ep1 sq1 f1 t1 v1 g1) := box_keep (heap_alloc_new w _) (below_alloc (Below.refl _ _) _)
  have hX2 : ((w.alloc (vrBox k1 br1 ep1 sq1 f1 t1 v1 g1)).alloc (vrBox k2 br2 ep2 sq2 f2 t2 v2 g2)).heap[w.heap.size + 1]? = some (vrBox k2 br2 ep2 sq2 f2 t2 v2 g2) := by
    have h := heap_alloc_new (w.alloc (vrBox k1 br1 ep1 sq1 f1 t1 v1 g1)) (vrBox k2 br2 ep2 sq2 f2 t2 v2 g2)
    rw [World.size_alloc] at h
    exact h
  have hB : Below w.heap.size w ((w.alloc (vrBox k1 br1 ep1 sq1 f1 t1 v1 g1)).alloc (vrBox k2 br2 ep2 sq2 f2 t2 v2 g2)) := below_alloc (below_alloc (Below.refl _ _) _) _
  generalize (w.alloc (vrBox k1 br1 ep1 sq1 f1 t1 v1 g1)).alloc (vrBox k2 br2 ep2 sq2 f2 t2 v2 g2) = w1 at *
  obtain ⟨x0, x1, x2, x3, x4, _⟩ := vr_cells hX1
  obtain ⟨y0, y1, y2, y3, y4, _⟩ := vr_cells hX2
  have HB := below_drew1 hB
  clear hX1 hX2 hB
  go_region_held (fun w' => w'.cell? ⟨w.heap.size, 0, none⟩ = some (.string k1) ∧ w'.cell? ⟨w.heap.size, 1, none⟩ = some (.int .i64 br1) ∧ w'.cell? ⟨w.heap.size, 2, none⟩ = some (.int .i64 ep1) ∧ w'.cell? ⟨w.heap.size, 3, none⟩ = some (.int .i64 sq1) ∧ w'.cell? ⟨w.heap.size, 4, none⟩ = some (.int .i64 f1) ∧ w'.cell? ⟨w.heap.size + 1, 0, none⟩ = some (.string k2) ∧ w'.cell? ⟨w.heap.size + 1, 1, none⟩ = some (.int .i64 br2) ∧ w'.cell? ⟨w.heap.size + 1, 2, none⟩ = some (.int .i64 ep2) ∧ w'.cell? ⟨w.heap.size + 1, 3, none⟩ = some (.int .i64 sq2) ∧ w'.cell? ⟨w.heap.size + 1, 4, none⟩ = some (.int .i64 f2) ∧ Below w.heap.size w w')
    (first
      | (go_split_ands; exact ⟨by assumption, by assumption, by assumption, by assumption, by assumption, by assumption, by assumption, by assumption, by assumption, by assumption, by assumption⟩)
      | (go_split_ands; exact ⟨pw_cell_below (below_alloc (Below.refl _ _) _) (by assumption), pw_cell_below (below_alloc (Below.refl _ _) _) (by assumption), pw_cell_below (below_alloc (Below.refl _ _) _) (by assumption), pw_cell_below (below_alloc (Below.refl _ _) _) (by assumption), pw_cell_below (below_alloc (Below.refl _ _) _) (by assumption), pw_cell_below (below_alloc (Below.refl _ _) _) (by assumption), pw_cell_below (below_alloc (Below.refl _ _) _) (by assumption), pw_cell_below (below_alloc (Below.refl _ _) _) (by assumption), pw_cell_below (below_alloc (Below.refl _ _) _) (by assumption), pw_cell_below (below_alloc (Below.refl _ _) _) (by assumption), below_alloc (by assumption) _⟩))
    (first
      | ((go_at_call 85); (with_reducible refine (O.cmpS_calls _ _ _).mono ?_); rintro e w2 ⟨rfl, rfl⟩)
      | ((go_at_call 86); (with_reducible refine (O.cmpI_calls _ _ _).mono ?_); rintro e w2 ⟨rfl, rfl⟩)
      | ((go_at_call 84); (with_reducible refine (first_calls _ 5 5 [_, _, _, _, _] _ (lit_CK _ [_, _, _, _, _] _ (by simp) _) (Nat.le_refl _)).mono ?_); rintro e w2 ⟨rfl, rfl⟩))
  all_goals go_wp2
  all_goals go_ret
  all_goals exact ⟨rfl, by go_split_ands; assumption⟩
def lessV (a b : Vr) : Bool :=
  if a.k = b.k then
    if a.br = b.br then
      if a.ep = b.ep then
        if a.sq = b.sq then decide (a.f < b.f) else decide (a.sq < b.sq)
      else decide (a.ep < b.ep)
    else decide (a.br < b.br)
  else bytesLess a.k.toList b.k.toList
theorem str_ne {x y : ByteArray} (h : ¬ x = y) : ¬ x.toList = y.toList := by
  intro e
  rw [ByteArray.toList_eq, ByteArray.toList_eq] at e
  apply h
  apply ByteArray.ext
  exact Array.toList_inj.1 e
set_option maxRecDepth 100000 in
set_option maxHeartbeats 4000000 in
theorem less_calls (k1 : ByteArray) (br1 ep1 sq1 f1 t1 : Int) (v1 : ByteArray) (g1 : Bool) (k2 : ByteArray) (br2 ep2 sq2 f2 t2 : Int) (v2 : ByteArray) (g2 : Bool) (w : World) :
    Calls Try.prog 28 #[.agg #[.string k1, .int .i64 br1, .int .i64 ep1, .int .i64 sq1, .int .i64 f1, .int .i64 t1, .string v1, .bool g1], .agg #[.string k2, .int .i64 br2, .int .i64 ep2, .int .i64 sq2, .int .i64 f2, .int .i64 t2, .string v2, .bool g2]] w fun e w' => e = .returned (.bool (lessV ⟨k1, br1, ep1, sq1, f1, t1, v1, g1⟩ ⟨k2, br2, ep2, sq2, f2, t2, v2, g2⟩)) ∧ Below w.heap.size w w' := by
  unfold lessV
  simp only
  by_cases hk : k1 = k2
  · rw [if_pos hk]
    subst hk
    by_cases hb : br1 = br2
    · rw [if_pos hb]
      subst hb
      by_cases he : ep1 = ep2
      · rw [if_pos he]
        subst he
        by_cases hs : sq1 = sq2
        · rw [if_pos hs]
          subst hs
          go_enter Try.func28, Try.ntmps28
          go_wp2
          go_ret
          exact ⟨rfl, by repeat (with_reducible first | exact Below.refl _ _ | apply below_alloc)⟩
        · rw [if_neg hs]
          have hd : (sq1 == sq2) = false := beq_eq_false_iff_ne.2 hs
          go_enter Try.func28, Try.ntmps28
          go_wp2
          go_ret
          exact ⟨rfl, by repeat (with_reducible first | exact Below.refl _ _ | apply below_alloc)⟩
      · rw [if_neg he]
        have hd : (ep1 == ep2) = false := beq_eq_false_iff_ne.2 he
        go_enter Try.func28, Try.ntmps28
        go_wp2
        go_ret
        exact ⟨rfl, by repeat (with_reducible first | exact Below.refl _ _ | apply below_alloc)⟩
    · rw [if_neg hb]
      have hd : (br1 == br2) = false := beq_eq_false_iff_ne.2 hb
      go_enter Try.func28, Try.ntmps28
      go_wp2
      go_ret
      exact ⟨rfl, by repeat (with_reducible first | exact Below.refl _ _ | apply below_alloc)⟩
  · rw [if_neg hk]
    have hd : (k1.toList == k2.toList) = false := beq_eq_false_iff_ne.2 (str_ne hk)
    clear hk
    go_enter Try.func28, Try.ntmps28
    go_wp2
    go_ret
    exact ⟨rfl, by repeat (with_reducible first | exact Below.refl _ _ | apply below_alloc)⟩
end Go.Proofs.Ytmfnbkghfmeekaa.A.R
namespace Go.Proofs.Ytmfnbkghfmeekaa.A.R
open Go.RowKit Go.Proofs.YtmfnbkghfmeekaaW.PrintWords Go.Proofs.YtmfnbkghfmeekaaW.PrintLast Go.Proofs.YtmfnbkghfmeekaaW.PrintMore
set_option linter.unusedVariables false
set_option linter.unusedSimpArgs false
def inB (n lo hi : Int) : Bool := decide (lo ≤ n ∧ n ≤ hi)
theorem in_calls (n lo hi : Int) (w : World) : Calls Try.prog 82 #[.int .i64 n, .int .i64 lo, .int .i64 hi] w fun e w' => e = .returned (.bool (inB n lo hi)) ∧ w' = w := by
  by_cases h1 : lo ≤ n
  · by_cases h2 : n ≤ hi
    · have e : inB n lo hi = true := by simp [inB, h1, h2]
      rw [e]
      go_enter Try.func82, Try.ntmps82
      go_wp2
      go_ret
      exact ⟨rfl, rfl⟩
    · have e : inB n lo hi = false := by simp [inB, h2]
      rw [e]
      have hd : decide (n ≤ hi) = false := decide_eq_false h2
      go_enter Try.func82, Try.ntmps82
      go_wp2
      go_ret
      exact ⟨rfl, rfl⟩
  · have e : inB n lo hi = false := by simp [inB, h1]
    rw [e]
    have hd : decide (lo ≤ n) = false := decide_eq_false h1
    go_enter Try.func82, Try.ntmps82
    go_wp2
    go_ret
    exact ⟨rfl, rfl⟩
def stampV (p : Vr) : Bool := inB p.br 0 15 && inB p.ep 1 10000 && inB p.sq 1 100000
def mayV (p : Vr) : Bool := decide ((O.splitK p.k).2.2 = 0) && stampV p && S.Sp.may ⟨p.f, p.t⟩ && decide (p.v.size ≤ 200) && (!p.g || decide (p.v.size = 0))
theorem empty_of {v : ByteArray} (h : v.size = 0) : v = { data := #[] } := by
  apply ByteArray.ext
  exact Array.eq_empty_of_size_eq_zero h
theorem ne_empty {v : ByteArray} (h : ¬ v.size = 0) : (v.toList == ({ data := #[] } : ByteArray).toList) = false := by
  refine beq_eq_false_iff_ne.2 (str_ne fun e => h ?_)
  rw [e]
  rfl
theorem ne_nil {v : ByteArray} (h : ¬ v.size = 0) : ¬ v.toList = [] := by
  have := ne_empty h
  rw [beq_eq_false_iff_ne] at this
  intro e
  exact this (e.trans (by rw [ByteArray.toList_eq]))
theorem smay_calls (a b : Int) (w : World) : Calls Try.prog 83 #[.agg #[.int .i64 a, .int .i64 b]] w fun e w' => e = .returned (.bool (S.Sp.may ⟨a, b⟩)) ∧ Below w.heap.size w w' := by
  refine (S.may_calls a b w).mono ?_
  rintro e w' ⟨rfl, rfl⟩
  exact ⟨rfl, below_alloc (Below.refl _ _) _⟩
theorem rmay_calls (a b : Int) (w : World) : Calls Try.prog 57 #[.agg #[.int .i64 a, .int .i64 b]] w fun e w' => e = .returned (.bool (S.Sp.may ⟨a, b⟩)) ∧ Below w.heap.size w w' := by
  refine (S.rmay_calls a b w).mono ?_
  rintro e w' ⟨rfl, rfl⟩
  exact ⟨rfl, below_alloc (Below.refl _ _) _⟩
set_option maxRecDepth 100000 in
set_option maxHeartbeats 4000000 in
theorem may_calls (k : ByteArray) (br ep sq f t : Int) (v : ByteArray) (g : Bool) (w : World) (hk : k.size ≤ 100000) (hv : v.size ≤ 9223372036854775807) :
    Calls Try.prog 58 #[.agg #[.string k, .int .i64 br, .int .i64 ep, .int .i64 sq, .int .i64 f, .int .i64 t, .string v, .bool g]] w fun e w' => e = .returned (.bool (mayV ⟨k, br, ep, sq, f, t, v, g⟩)) ∧ Below w.heap.size w w' := by
  obtain ⟨M, hM⟩ : ∃ M, mayV ⟨k, br, ep, sq, f, t, v, g⟩ = M := ⟨_, rfl⟩
  rw [hM]
  unfold mayV stampV at hM
  simp only at hM
  have HM := Aside0.mk hM
  clear hM
  go_enter Try.func58, Try.ntmps58
  go_wp2_with fail
  (with_reducible refine (O.split_calls k _ hk).mono ?_)
  rintro e w1 ⟨rfl, hb1⟩
  have hX := box_keep (heap_alloc_new w (vrBox k br ep sq f t v g)) hb1
  have HX := Aside0.mk hX
  have HB := Aside0.mk (below_step (below_alloc (Below.refl w.heap.size w) (vrBox k br ep sq f t v g)) hb1)
  obtain ⟨x0, x1, x2, x3, x4, x5, x6, x7⟩ := vr_cells hX
  clear hX hb1
  generalize hsk : O.splitK k = sk at *
  obtain ⟨s1, s2, er⟩ := sk
  have HSK := Aside0.mk hsk
  clear hsk
  go_wp2_with fail
  (with_reducible refine (in_calls br 0 15 _).mono ?_)
  rintro e _ ⟨rfl, rfl⟩
  generalize h1 : inB br 0 15 = b1 at *
  have H1 := Aside0.mk h1
  clear h1
  cases b1 with
  | false =>
    by_cases he : er = 0
    · subst he
      go_wp2_with fail
      go_ret
      exact ⟨by rw [← HM.out]; simp [H1.out], HB.out⟩
    · have hd : (er == 0) = false := beq_eq_false_iff_ne.2 he
      have HE := Aside0.mk he
      clear he
      go_wp2_with fail
      go_ret
      exact ⟨by rw [← HM.out]; simp [H1.out, HE.out], HB.out⟩
  | true =>
    go_wp2_with fail
    (with_reducible refine (in_calls ep 1 10000 _).mono ?_)
    rintro e _ ⟨rfl, rfl⟩
    generalize h2 : inB ep 1 10000 = b2 at *
    have H2 := Aside0.mk h2
    clear h2
    cases b2 with
    | false =>
      by_cases he : er = 0
      · subst he
        go_wp2_with fail
        go_ret
        exact ⟨by rw [← HM.out]; simp [H1.out, H2.out], HB.out⟩
      · have hd : (er == 0) = false := beq_eq_false_iff_ne.2 he
        have HE := Aside0.mk he
        clear he
        go_wp2_with fail
        go_ret
        exact ⟨by rw [← HM.out]; simp [H1.out, H2.out, HE.out], HB.out⟩
    | true =>
      go_wp2_with fail
      (with_reducible refine (in_calls sq 1 100000 _).mono ?_)
      rintro e _ ⟨rfl, rfl⟩
      generalize h3 : inB sq 1 100000 = b3 at *
      have H3 := Aside0.mk h3
      clear h3
      cases b3 with
      | false =>
        by_cases he : er = 0
        · subst he
          go_wp2_with fail
          go_ret
          exact ⟨by rw [← HM.out]; simp [H1.out, H2.out, H3.out], HB.out⟩
        · have hd : (er == 0) = false := beq_eq_false_iff_ne.2 he
          have HE := Aside0.mk he
          clear he
          go_wp2_with fail
          go_ret
          exact ⟨by rw [← HM.out]; simp [H1.out, H2.out, H3.out, HE.out], HB.out⟩
      | true =>
        by_cases he : er = 0
        · subst he
          go_wp2_with fail
          (with_reducible refine (smay_calls f t _).mono ?_)
          rintro e w2 ⟨rfl, hb2⟩
          have HX2 := Aside0.mk (box_keep HX.out hb2)
          have HB2 := Aside0.mk (below_step HB.out hb2)
          obtain ⟨x0, x1, x2, x3, x4, x5, x6, x7⟩ := vr_cells HX2.out
          clear hb2 HX HB
          generalize h4 : S.Sp.may ⟨f, t⟩ = b4 at *
          have H4 := Aside0.mk h4
          clear h4
          have HB := HB2
          cases b4 with
          | false =>
            go_wp2_with fail
            go_ret
            exact ⟨by rw [← HM.out]; simp [H1.out, H2.out, H3.out, H4.out], HB.out⟩
          | true =>
            by_cases hv2 : v.size ≤ 200
            · have HV := Aside0.mk hv2
              have hv3 : (v.size : Int) ≤ 200 := by omega
              clear hv2
              cases g with
              | false =>
                go_wp2_with fail
                go_ret
                exact ⟨by rw [← HM.out]; simp [H1.out, H2.out, H3.out, H4.out, HV.out], HB.out⟩
              | true =>
                by_cases h0 : v.size = 0
                · have h5 := empty_of h0
                  subst h5
                  go_wp2_with fail
                  go_ret
                  exact ⟨by rw [← HM.out]; simp [H1.out, H2.out, H3.out, H4.out, HV.out]; rfl, HB.out⟩
                · have h6 := ne_empty h0
                  have H0 := Aside0.mk h0
                  clear h0
                  go_wp2_with fail
                  go_ret
                  exact ⟨by rw [← HM.out]; simp [H1.out, H2.out, H3.out, H4.out, HV.out, H0.out]; exact ne_nil H0.out, HB.out⟩
            · have HV := Aside0.mk hv2
              have hv3 : ¬ (v.size : Int) ≤ 200 := by omega
              have hv4 : decide ((v.size : Int) ≤ 200) = false := decide_eq_false hv3
              clear hv2
              go_wp2_with fail
              go_ret
              exact ⟨by rw [← HM.out]; simp [H1.out, H2.out, H3.out, H4.out, HV.out], HB.out⟩
        · have hd : (er == 0) = false := beq_eq_false_iff_ne.2 he
          have HE := Aside0.mk he
          clear he
          go_wp2_with fail
          go_ret
          exact ⟨by rw [← HM.out]; simp [H1.out, H2.out, H3.out, HE.out], HB.out⟩
end Go.Proofs.Ytmfnbkghfmeekaa.A.R
namespace Go.Proofs.Ytmfnbkghfmeekaa.A.R
open Go.RowKit Go.Proofs.YtmfnbkghfmeekaaW.PrintWords Go.Proofs.YtmfnbkghfmeekaaW.PrintLast Go.Proofs.YtmfnbkghfmeekaaW.PrintMore
set_option linter.unusedVariables false
set_option linter.unusedSimpArgs false
set_option maxRecDepth 100000 in
set_option maxHeartbeats 4000000 in
theorem may6_calls (k : ByteArray) (br ep sq f t : Int) (v : ByteArray) (g : Bool) (w : World) (hk : k.size ≤ 100000) (hv : v.size ≤ 9223372036854775807) :
    Calls Try.prog 27 #[.agg #[.string k, .int .i64 br, .int .i64 ep, .int .i64 sq, .int .i64 f, .int .i64 t, .string v, .bool g]] w fun e w' => e = .returned (.bool (mayV ⟨k, br, ep, sq, f, t, v, g⟩)) ∧ Below w.heap.size w w' := by
  obtain ⟨M, hM⟩ : ∃ M, mayV ⟨k, br, ep, sq, f, t, v, g⟩ = M := ⟨_, rfl⟩
  rw [hM]
  unfold mayV stampV at hM
  simp only at hM
  have HM := Aside0.mk hM
  clear hM
  go_enter Try.func27, Try.ntmps27
  go_wp2_with fail
  (with_reducible refine (O.refsplit_calls k _ hk).mono ?_)
  rintro e w1 ⟨rfl, hb1⟩
  have hX := box_keep (heap_alloc_new w (vrBox k br ep sq f t v g)) hb1
  have HX := Aside0.mk hX
  have HB1 := Aside0.mk (below_step (below_alloc (Below.refl w.heap.size w) (vrBox k br ep sq f t v g)) hb1)
  obtain ⟨x0, x1, x2, x3, x4, x5, x6, x7⟩ := vr_cells hX
  clear hX hb1
  generalize hsk : O.splitK k = sk at *
  obtain ⟨s1, s2, er⟩ := sk
  have HSK := Aside0.mk hsk
  clear hsk
  go_wp2_with fail
  (with_reducible refine (rmay_calls f t _).mono ?_)
  rintro e w2 ⟨rfl, hb2⟩
  have HX2 := Aside0.mk (box_keep HX.out hb2)
  have HB := Aside0.mk (below_step HB1.out hb2)
  clear x0 x1 x2 x3 x4 x5 x6 x7 hb2 HX HB1
  obtain ⟨x0, x1, x2, x3, x4, x5, x6, x7⟩ := vr_cells HX2.out
  generalize h4 : S.Sp.may ⟨f, t⟩ = b4 at *
  have H4 := Aside0.mk h4
  clear h4
  by_cases he : er = 0
  · subst he
    cases b4 with
    | false =>
      go_wp2_with fail
      go_ret
      exact ⟨by rw [← HM.out]; simp [H4.out], HB.out⟩
    | true =>
      by_cases hv2 : v.size ≤ 200
      · have HV := Aside0.mk hv2
        have hv3 : (v.size : Int) ≤ 200 := by omega
        clear hv2
        cases g with
        | false =>
          by_cases c1 : 0 ≤ br
          · have C1 := Aside0.mk c1
            by_cases c2 : br ≤ 15
            · have C2 := Aside0.mk c2
              by_cases c3 : 1 ≤ ep
              · have C3 := Aside0.mk c3
                by_cases c4 : ep ≤ 10000
                · have C4 := Aside0.mk c4
                  by_cases c5 : 1 ≤ sq
                  · have C5 := Aside0.mk c5
                    by_cases c6 : sq ≤ 100000
                    · have C6 := Aside0.mk c6
                      go_wp2_with fail
                      go_ret
                      exact ⟨by rw [← HM.out]; simp [H4.out, HV.out, inB, C1.out, C2.out, C3.out, C4.out, C5.out, C6.out] <;> omega, HB.out⟩
                    · have C6 := Aside0.mk c6
                      have hd5 : decide (sq ≤ 100000) = false := decide_eq_false c6
                      go_wp2_with fail
                      go_ret
                      exact ⟨by rw [← HM.out]; simp [H4.out, HV.out, inB, C1.out, C2.out, C3.out, C4.out, C5.out, C6.out] <;> omega, HB.out⟩
                  · have C5 := Aside0.mk c5
                    have hd4 : decide (1 ≤ sq) = false := decide_eq_false c5
                    go_wp2_with fail
                    go_ret
                    exact ⟨by rw [← HM.out]; simp [H4.out, HV.out, inB, C1.out, C2.out, C3.out, C4.out, C5.out] <;> omega, HB.out⟩
                · have C4 := Aside0.mk c4
                  have hd3 : decide (ep ≤ 10000) = false := decide_eq_false c4
                  go_wp2_with fail
                  go_ret
                  exact ⟨by rw [← HM.out]; simp [H4.out, HV.out, inB, C1.out, C2.out, C3.out, C4.out] <;> omega, HB.out⟩
              · have C3 := Aside0.mk c3
                have hd2 : decide (1 ≤ ep) = false := decide_eq_false c3
                go_wp2_with fail
                go_ret
                exact ⟨by rw [← HM.out]; simp [H4.out, HV.out, inB, C1.out, C2.out, C3.out] <;> omega, HB.out⟩
            · have C2 := Aside0.mk c2
              have hd1 : decide (br ≤ 15) = false := decide_eq_false c2
              go_wp2_with fail
              go_ret
              exact ⟨by rw [← HM.out]; simp [H4.out, HV.out, inB, C1.out, C2.out] <;> omega, HB.out⟩
          · have C1 := Aside0.mk c1
            have hd0 : decide (0 ≤ br) = false := decide_eq_false c1
            go_wp2_with fail
            go_ret
            exact ⟨by rw [← HM.out]; simp [H4.out, HV.out, inB, C1.out] <;> omega, HB.out⟩
        | true =>
          by_cases h0 : v.size = 0
          · have h5 := empty_of h0
            subst h5
            by_cases c1 : 0 ≤ br
            · have C1 := Aside0.mk c1
              by_cases c2 : br ≤ 15
              · have C2 := Aside0.mk c2
                by_cases c3 : 1 ≤ ep
                · have C3 := Aside0.mk c3
                  by_cases c4 : ep ≤ 10000
                  · have C4 := Aside0.mk c4
                    by_cases c5 : 1 ≤ sq
                    · have C5 := Aside0.mk c5
                      by_cases c6 : sq ≤ 100000
                      · have C6 := Aside0.mk c6
                        go_wp2_with fail
                        go_ret
                        exact ⟨by rw [← HM.out]; simp [H4.out, HV.out, inB, C1.out, C2.out, C3.out, C4.out, C5.out, C6.out] <;> first | omega | rfl, HB.out⟩
                      · have C6 := Aside0.mk c6
                        have hd5 : decide (sq ≤ 100000) = false := decide_eq_false c6
                        go_wp2_with fail
                        go_ret
                        exact ⟨by rw [← HM.out]; simp [H4.out, HV.out, inB, C1.out, C2.out, C3.out, C4.out, C5.out, C6.out] <;> omega, HB.out⟩
                    · have C5 := Aside0.mk c5
                      have hd4 : decide (1 ≤ sq) = false := decide_eq_false c5
                      go_wp2_with fail
                      go_ret
                      exact ⟨by rw [← HM.out]; simp [H4.out, HV.out, inB, C1.out, C2.out, C3.out, C4.out, C5.out] <;> omega, HB.out⟩
                  · have C4 := Aside0.mk c4
                    have hd3 : decide (ep ≤ 10000) = false := decide_eq_false c4
                    go_wp2_with fail
                    go_ret
                    exact ⟨by rw [← HM.out]; simp [H4.out, HV.out, inB, C1.out, C2.out, C3.out, C4.out] <;> omega, HB.out⟩
                · have C3 := Aside0.mk c3
                  have hd2 : decide (1 ≤ ep) = false := decide_eq_false c3
                  go_wp2_with fail
                  go_ret
                  exact ⟨by rw [← HM.out]; simp [H4.out, HV.out, inB, C1.out, C2.out, C3.out] <;> omega, HB.out⟩
              · have C2 := Aside0.mk c2
                have hd1 : decide (br ≤ 15) = false := decide_eq_false c2
                go_wp2_with fail
                go_ret
                exact ⟨by rw [← HM.out]; simp [H4.out, HV.out, inB, C1.out, C2.out] <;> omega, HB.out⟩
            · have C1 := Aside0.mk c1
              have hd0 : decide (0 ≤ br) = false := decide_eq_false c1
              go_wp2_with fail
              go_ret
              exact ⟨by rw [← HM.out]; simp [H4.out, HV.out, inB, C1.out] <;> omega, HB.out⟩
          · have h6 := ne_empty h0
            have h8 : (v.toList == ([] : List UInt8)) = false := beq_eq_false_iff_ne.2 (ne_nil h0)
            have h9 : ¬ v.toList = [] := ne_nil h0
            have H0 := Aside0.mk h0
            clear h0
            go_wp2_with fail
            go_ret
            exact ⟨by rw [← HM.out]; simp [H4.out, HV.out, H0.out], HB.out⟩
      · have HV := Aside0.mk hv2
        have hv3 : ¬ (v.size : Int) ≤ 200 := by omega
        have hv4 : (200 : Int) < (v.size : Int) := by omega
        clear hv2
        go_wp2_with fail
        go_ret
        exact ⟨by rw [← HM.out]; simp [H4.out, HV.out], HB.out⟩
  · have hd : (er == 0) = false := beq_eq_false_iff_ne.2 he
    have hd2 : (er != 0) = true := bne_iff_ne.2 he
    have HE := Aside0.mk he
    clear he
    go_wp2_with fail
    go_ret
    exact ⟨by rw [← HM.out]; simp [HE.out], HB.out⟩
end Go.Proofs.Ytmfnbkghfmeekaa.A.R
namespace Go.Proofs.Ytmfnbkghfmeekaa.A.R
open Go.RowKit Go.Proofs.YtmfnbkghfmeekaaW.PrintWords Go.Proofs.YtmfnbkghfmeekaaW.PrintLast Go.Proofs.YtmfnbkghfmeekaaW.PrintMore
set_option linter.unusedVariables false
set_option linter.unusedSimpArgs false
theorem lit_CKn {k : IntKind} (W : World) (l : List Int) (e : Nat) (hl : l.length ≤ 9223372036854775807) (fr : Nat × Nat) (n : Nat) (hn : W.heap.size = n) : (Kd.int k).C (W.alloc (.cells (l.map (Value.int k)).toArray e fr)) (some ⟨n, 0, none⟩) l.length l := by
  subst hn
  exact lit_CK W l e hl fr
def goneI (g : Bool) : Int := if g then 1 else 0
def bytesV (p : Vr) : List Int := [p.br, p.ep, p.sq, p.f, p.t - p.f, goneI p.g].flatMap V.vput ++ (V.vtext p.k ++ V.vtext p.v)
theorem stampV_iff (p : Vr) : stampV p = true ↔ ((0 ≤ p.br ∧ p.br ≤ 15) ∧ (1 ≤ p.ep ∧ p.ep ≤ 10000)) ∧ (1 ≤ p.sq ∧ p.sq ≤ 100000) := by simp [stampV, inB]
theorem mayV_iff (p : Vr) : mayV p = true ↔ (O.splitK p.k).2.2 = 0 ∧ (((0 ≤ p.br ∧ p.br ≤ 15) ∧ (1 ≤ p.ep ∧ p.ep ≤ 10000)) ∧ (1 ≤ p.sq ∧ p.sq ≤ 100000)) ∧ (0 ≤ p.f ∧ p.f < p.t ∧ p.t ≤ 1099511627776) ∧ p.v.size ≤ 200 ∧ (p.g = true → p.v.size = 0) := by
  unfold mayV
  rw [Bool.and_eq_true, Bool.and_eq_true, Bool.and_eq_true, Bool.and_eq_true, stampV_iff, S.may_iff, decide_eq_true_iff, decide_eq_true_iff]
  cases p.g <;> simp [and_assoc]
end Go.Proofs.Ytmfnbkghfmeekaa.A.R
