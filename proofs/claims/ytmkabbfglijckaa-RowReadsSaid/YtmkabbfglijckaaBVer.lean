/- Versions: eight cells; their order. -/
import Derived.Test.YtmkabbfglijckaaAOpen
import Derived.Test.YtmkabbfglijckaaOOne
import Derived.Test.YtmkabbfglijckaaSOne
import Derived.Test.YtmkabbfglijckaaWEqStruct
import Derived.Deep.Slices
import Derived.Deep.RegionHeld
namespace Go.Proofs.Ytmkabbfglijckaa.A
open Go.RowKit Go.Proofs.YtmkabbfglijckaaW.PrintWords Go.Proofs.YtmkabbfglijckaaW.PrintLast Go.Proofs.YtmkabbfglijckaaW.PrintMore
open Go.Op (bytesLess)
set_option linter.unusedVariables false
set_option linter.unusedSimpArgs false

structure Vr where
  k : ByteArray
  br : Int
  ep : Int
  sq : Int
  f : Int
  t : Int
  v : ByteArray
  g : Bool
instance : Inhabited Vr := ⟨⟨ByteArray.empty, 0, 0, 0, 0, 0, ByteArray.empty, false⟩⟩
abbrev vrCells (p : Vr) : List Value := [.string p.k, .int .i64 p.br, .int .i64 p.ep, .int .i64 p.sq, .int .i64 p.f, .int .i64 p.t, .string p.v, .bool p.g]
def KVr : Kd Vr := Kd.iso (Kd.pair Kd.string (Kd.pair (Kd.int .i64) (Kd.pair (Kd.int .i64) (Kd.pair (Kd.int .i64) (Kd.pair (Kd.int .i64) (Kd.pair (Kd.int .i64) (Kd.pair Kd.string Kd.bool))))))) (fun p => (p.k, p.br, p.ep, p.sq, p.f, p.t, p.v, p.g))
theorem KVr_M (w : World) (B : Nat) (ok : Nat → Prop) (p : Vr) : KVr.M w B ok p (vrCells p) := ⟨[.string p.k], _, rfl, rfl, ⟨[.int .i64 p.br], _, rfl, rfl, ⟨[.int .i64 p.ep], _, rfl, rfl, ⟨[.int .i64 p.sq], _, rfl, rfl, ⟨[.int .i64 p.f], _, rfl, rfl, ⟨[.int .i64 p.t], _, rfl, rfl, ⟨[.string p.v], [.bool p.g], rfl, rfl, rfl⟩⟩⟩⟩⟩⟩⟩
theorem KVr_K (w : World) (p : Vr) : KVr.K w p (vrCells p) := ⟨[.string p.k], _, rfl, rfl, ⟨[.int .i64 p.br], _, rfl, rfl, ⟨[.int .i64 p.ep], _, rfl, rfl, ⟨[.int .i64 p.sq], _, rfl, rfl, ⟨[.int .i64 p.f], _, rfl, rfl, ⟨[.int .i64 p.t], _, rfl, rfl, ⟨[.string p.v], [.bool p.g], rfl, rfl, rfl⟩⟩⟩⟩⟩⟩⟩
theorem KVr_of {w : World} {p : Vr} {c : List Value} (h : KVr.K w p c) : c = vrCells p := by
  obtain ⟨_, _, rfl, rfl, ⟨_, _, rfl, rfl, ⟨_, _, rfl, rfl, ⟨_, _, rfl, rfl, ⟨_, _, rfl, rfl, ⟨_, _, rfl, rfl, ⟨_, _, rfl, rfl, rfl⟩⟩⟩⟩⟩⟩⟩ := h
  rfl
theorem infoVr : (Try.prog.info? 27).map (fun i => (i.zero, i.size, i.bytes)) = some (some (.agg #[.string ByteArray.empty, .int .i64 0, .int .i64 0, .int .i64 0, .int .i64 0, .int .i64 0, .string ByteArray.empty, .bool false]), 8, 80) := by kernel_rfl
abbrev OVr (w : World) (B : Nat) (v : Value) (l : List Vr) : Prop := OR KVr 27 w B v l
abbrev vrBox (k : ByteArray) (br ep sq f t : Int) (v : ByteArray) (g : Bool) : Obj := .cells #[.string k, .int .i64 br, .int .i64 ep, .int .i64 sq, .int .i64 f, .int .i64 t, .string v, .bool g] 27
/-- A version's box. -/
abbrev vrB (p : Vr) : Obj := vrBox p.k p.br p.ep p.sq p.f p.t p.v p.g
theorem box_keep {W w1 : World} {g : Nat} {o : Obj} (h : W.heap[g]? = some o) (hb : Below W.heap.size W w1) : w1.heap[g]? = some o :=
  (hb.block g (Array.getElem?_eq_some_iff.1 h).1).trans h
theorem vr_cells {w : World} {x : Nat} {k : ByteArray} {br ep sq f t : Int} {v : ByteArray} {g : Bool} (h : w.heap[x]? = some (vrBox k br ep sq f t v g)) :
    w.cell? ⟨x, 0, none⟩ = some (.string k) ∧ w.cell? ⟨x, 1, none⟩ = some (.int .i64 br) ∧ w.cell? ⟨x, 2, none⟩ = some (.int .i64 ep) ∧ w.cell? ⟨x, 3, none⟩ = some (.int .i64 sq) ∧ w.cell? ⟨x, 4, none⟩ = some (.int .i64 f) ∧ w.cell? ⟨x, 5, none⟩ = some (.int .i64 t) ∧ w.cell? ⟨x, 6, none⟩ = some (.string v) ∧ w.cell? ⟨x, 7, none⟩ = some (.bool g) := by
  refine ⟨?_, ?_, ?_, ?_, ?_, ?_, ?_, ?_⟩ <;> (rw [cell_of_row _ _ _ _ _ _ h]; rfl)
/-- The first number that is not 0. -/
def firstL : List Int → Int
  | [] => 0
  | n :: l => if n = 0 then firstL l else n
theorem drop_int (l : List Int) (k : Nat) (hk : k < l.length) : l.drop k = l.getD k 0 :: l.drop (k + 1) := by
  rw [List.drop_eq_getElem_cons hk]
  simp [List.getD_eq_getElem?_getD, hk]
set_option maxRecDepth 100000 in
theorem first_calls (A : Option Addr) (n c : Nat) (l : List Int) (w : World) (hr : (Kd.int .i64).C w A n l) (hc : n ≤ c) :
    Calls Try.prog 26 #[.slice A n c] w fun e w' => e = .returned (.int .i64 (firstL l)) ∧ w' = w := by
  have HR := Aside0.mk hr
  have HN := Aside0.mk hr.1
  have hm : n ≤ 9223372036854775807 := hr.2.1
  clear hr
  go_enter Try.func26, Try.ntmps26
  go_wp2_with fail
  go_loopw [7] (fun v7 w' => ∃ k : Nat, k ≤ n ∧ v7 = .int .i64 k ∧ Aside0 (firstL (l.drop k) = firstL l) ∧ w' = w) (fun v7 _ => n - (intOf v7).toNat)
  case atStart => exact ⟨0, Nat.zero_le _, rfl, ⟨rfl⟩, rfl⟩
  case round =>
    obtain ⟨k, hk, rfl, HE, rfl⟩ := hrel
    by_cases hlt : k < n
    · have hrr := HR.out
      have hnn := HN.out
      subst hnn
      obtain ⟨ad, rfl, p0⟩ := C_at hrr k hlt
      have hE := HE.out
      rw [drop_int l k hlt] at hE
      clear hrr HE
      generalize l.getD k 0 = x at *
      rw [firstL] at hE
      have i1 : (k : Int) < (l.length : Int) := by omega
      have i2 : (0 : Int) ≤ (k : Int) := by omega
      by_cases hx : x = 0
      · rw [if_pos hx] at hE
        subst hx
        have HD := Aside0.mk hE
        clear hE
        go_wp2_with fail
        go_roundw
        case rel => exact ⟨k + 1, hlt, rfl, HD, trivial⟩
        case measure => simp [intOf]; omega
      · rw [if_neg hx] at hE
        have HD := Aside0.mk hE
        clear hE
        go_wp2_with fail
        go_ret
        exact ⟨by rw [← HD.out]; rfl, rfl⟩
    · obtain rfl : k = n := by omega
      have hE := HE.out
      rw [List.drop_of_length_le (by rw [HN.out]; omega), firstL] at hE
      have HD := Aside0.mk hE
      clear hE HE
      go_wp2_with fail
      go_ret
      exact ⟨by rw [← HD.out]; rfl, rfl⟩
/-- The order of two versions. -/
def cmpV (a b : Vr) : Int := firstL [O.cmpS a.k b.k, O.cmpI a.br b.br, O.cmpI a.ep b.ep, O.cmpI a.sq b.sq, O.cmpI a.f b.f]
set_option maxRecDepth 100000 in
set_option maxHeartbeats 4000000 in
theorem compare_calls (k1 : ByteArray) (br1 ep1 sq1 f1 t1 : Int) (v1 : ByteArray) (g1 : Bool) (k2 : ByteArray) (br2 ep2 sq2 f2 t2 : Int) (v2 : ByteArray) (g2 : Bool) (w : World) :
    Calls Try.prog 13 #[.agg #[.string k1, .int .i64 br1, .int .i64 ep1, .int .i64 sq1, .int .i64 f1, .int .i64 t1, .string v1, .bool g1], .agg #[.string k2, .int .i64 br2, .int .i64 ep2, .int .i64 sq2, .int .i64 f2, .int .i64 t2, .string v2, .bool g2]] w fun e w' => e = .returned (.int .i64 (cmpV ⟨k1, br1, ep1, sq1, f1, t1, v1, g1⟩ ⟨k2, br2, ep2, sq2, f2, t2, v2, g2⟩)) ∧ Below w.heap.size w w' := by
  unfold cmpV
  simp only
  go_enter Try.func13, Try.ntmps13
  go_wp2_with fail
  have hX1 : ((w.alloc (vrBox k1 br1 ep1 sq1 f1 t1 v1 g1)).alloc (vrBox k2 br2 ep2 sq2 f2 t2 v2 g2)).heap[w.heap.size]? = some (vrBox k1 br1 ep1 sq1 f1 t1 v1 g1) := box_keep (heap_alloc_new w _) (below_alloc (Below.refl _ _) _)
  have hX2 : ((w.alloc (vrBox k1 br1 ep1 sq1 f1 t1 v1 g1)).alloc (vrBox k2 br2 ep2 sq2 f2 t2 v2 g2)).heap[w.heap.size + 1]? = some (vrBox k2 br2 ep2 sq2 f2 t2 v2 g2) := by
    have h := heap_alloc_new (w.alloc (vrBox k1 br1 ep1 sq1 f1 t1 v1 g1)) (vrBox k2 br2 ep2 sq2 f2 t2 v2 g2)
    rw [World.size_alloc] at h
    exact h
  have hB : Below w.heap.size w ((w.alloc (vrBox k1 br1 ep1 sq1 f1 t1 v1 g1)).alloc (vrBox k2 br2 ep2 sq2 f2 t2 v2 g2)) := below_alloc (below_alloc (Below.refl _ _) _) _
  generalize (w.alloc (vrBox k1 br1 ep1 sq1 f1 t1 v1 g1)).alloc (vrBox k2 br2 ep2 sq2 f2 t2 v2 g2) = w1 at *
  obtain ⟨x0, x1, x2, x3, x4, _⟩ := vr_cells hX1
  obtain ⟨y0, y1, y2, y3, y4, _⟩ := vr_cells hX2
  have HB := below_drew1 hB
  clear hX1 hX2 hB
  go_region_held (fun w' => w'.cell? ⟨w.heap.size, 0, none⟩ = some (.string k1) ∧ w'.cell? ⟨w.heap.size, 1, none⟩ = some (.int .i64 br1) ∧ w'.cell? ⟨w.heap.size, 2, none⟩ = some (.int .i64 ep1) ∧ w'.cell? ⟨w.heap.size, 3, none⟩ = some (.int .i64 sq1) ∧ w'.cell? ⟨w.heap.size, 4, none⟩ = some (.int .i64 f1) ∧ w'.cell? ⟨w.heap.size + 1, 0, none⟩ = some (.string k2) ∧ w'.cell? ⟨w.heap.size + 1, 1, none⟩ = some (.int .i64 br2) ∧ w'.cell? ⟨w.heap.size + 1, 2, none⟩ = some (.int .i64 ep2) ∧ w'.cell? ⟨w.heap.size + 1, 3, none⟩ = some (.int .i64 sq2) ∧ w'.cell? ⟨w.heap.size + 1, 4, none⟩ = some (.int .i64 f2) ∧ Below w.heap.size w w')
    (first
      | (go_split_ands; exact ⟨by assumption, by assumption, by assumption, by assumption, by assumption, by assumption, by assumption, by assumption, by assumption, by assumption, by assumption⟩)
      | (go_split_ands; exact ⟨pw_cell_below (below_alloc (Below.refl _ _) _) (by assumption), pw_cell_below (below_alloc (Below.refl _ _) _) (by assumption), pw_cell_below (below_alloc (Below.refl _ _) _) (by assumption), pw_cell_below (below_alloc (Below.refl _ _) _) (by assumption), pw_cell_below (below_alloc (Below.refl _ _) _) (by assumption), pw_cell_below (below_alloc (Below.refl _ _) _) (by assumption), pw_cell_below (below_alloc (Below.refl _ _) _) (by assumption), pw_cell_below (below_alloc (Below.refl _ _) _) (by assumption), pw_cell_below (below_alloc (Below.refl _ _) _) (by assumption), pw_cell_below (below_alloc (Below.refl _ _) _) (by assumption), below_alloc (by assumption) _⟩))
    (first
      | ((go_at_call 27); (with_reducible refine (O.cmpS_calls _ _ _).mono ?_); rintro e w2 ⟨rfl, rfl⟩)
      | ((go_at_call 28); (with_reducible refine (O.cmpI_calls _ _ _).mono ?_); rintro e w2 ⟨rfl, rfl⟩)
      | ((go_at_call 26); (with_reducible refine (first_calls _ 5 5 [_, _, _, _, _] _ (lit_CK _ [_, _, _, _, _] _ (by simp) _) (Nat.le_refl _)).mono ?_); rintro e w2 ⟨rfl, rfl⟩))
  all_goals go_wp2
  all_goals go_ret
  all_goals exact ⟨rfl, by go_split_ands; assumption⟩
/-- Is a version ahead of another one? -/
def lessV (a b : Vr) : Bool :=
  if a.k = b.k then
    if a.br = b.br then
      if a.ep = b.ep then
        if a.sq = b.sq then decide (a.f < b.f) else decide (a.sq < b.sq)
      else decide (a.ep < b.ep)
    else decide (a.br < b.br)
  else bytesLess a.k.toList b.k.toList
theorem str_ne {x y : ByteArray} (h : ¬ x = y) : ¬ x.toList = y.toList := by
  intro e
  rw [ByteArray.toList_eq, ByteArray.toList_eq] at e
  apply h
  apply ByteArray.ext
  exact Array.toList_inj.1 e
set_option maxRecDepth 100000 in
set_option maxHeartbeats 4000000 in
theorem less_calls (k1 : ByteArray) (br1 ep1 sq1 f1 t1 : Int) (v1 : ByteArray) (g1 : Bool) (k2 : ByteArray) (br2 ep2 sq2 f2 t2 : Int) (v2 : ByteArray) (g2 : Bool) (w : World) :
    Calls Try.prog 12 #[.agg #[.string k1, .int .i64 br1, .int .i64 ep1, .int .i64 sq1, .int .i64 f1, .int .i64 t1, .string v1, .bool g1], .agg #[.string k2, .int .i64 br2, .int .i64 ep2, .int .i64 sq2, .int .i64 f2, .int .i64 t2, .string v2, .bool g2]] w fun e w' => e = .returned (.bool (lessV ⟨k1, br1, ep1, sq1, f1, t1, v1, g1⟩ ⟨k2, br2, ep2, sq2, f2, t2, v2, g2⟩)) ∧ Below w.heap.size w w' := by
  unfold lessV
  simp only
  by_cases hk : k1 = k2
  · rw [if_pos hk]
    subst hk
    by_cases hb : br1 = br2
    · rw [if_pos hb]
      subst hb
      by_cases he : ep1 = ep2
      · rw [if_pos he]
        subst he
        by_cases hs : sq1 = sq2
        · rw [if_pos hs]
          subst hs
          go_enter Try.func12, Try.ntmps12
          go_wp2
          go_ret
          exact ⟨rfl, by repeat (with_reducible first | exact Below.refl _ _ | apply below_alloc)⟩
        · rw [if_neg hs]
          have hd : (sq1 == sq2) = false := beq_eq_false_iff_ne.2 hs
          go_enter Try.func12, Try.ntmps12
          go_wp2
          go_ret
          exact ⟨rfl, by repeat (with_reducible first | exact Below.refl _ _ | apply below_alloc)⟩
      · rw [if_neg he]
        have hd : (ep1 == ep2) = false := beq_eq_false_iff_ne.2 he
        go_enter Try.func12, Try.ntmps12
        go_wp2
        go_ret
        exact ⟨rfl, by repeat (with_reducible first | exact Below.refl _ _ | apply below_alloc)⟩
    · rw [if_neg hb]
      have hd : (br1 == br2) = false := beq_eq_false_iff_ne.2 hb
      go_enter Try.func12, Try.ntmps12
      go_wp2
      go_ret
      exact ⟨rfl, by repeat (with_reducible first | exact Below.refl _ _ | apply below_alloc)⟩
  · rw [if_neg hk]
    have hd : (k1.toList == k2.toList) = false := beq_eq_false_iff_ne.2 (str_ne hk)
    clear hk
    go_enter Try.func12, Try.ntmps12
    go_wp2
    go_ret
    exact ⟨rfl, by repeat (with_reducible first | exact Below.refl _ _ | apply below_alloc)⟩
end Go.Proofs.Ytmkabbfglijckaa.A
