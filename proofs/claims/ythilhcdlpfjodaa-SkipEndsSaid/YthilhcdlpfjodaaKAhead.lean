/- Of each row the last node ahead of a key. -/
import Derived.Test.YthilhcdlpfjodaaKNew
import Derived.Test.YthilhcdlpfjodaaKGoto
namespace Go.Proofs.Ythilhcdlpfjodaa.A
open Go.RowKit Go.Proofs.YthilhcdlpfjodaaW.PrintWords Go.Proofs.YthilhcdlpfjodaaW.PrintLast Go.Proofs.YthilhcdlpfjodaaW.PrintMore
set_option linter.unusedVariables false
set_option linter.unusedSimpArgs false

abbrev arrBox (f : Nat → Option Nat) : Obj := .cells ((List.range 8).map fun r => pv (f r)).toArray 62
abbrev arr0 : Obj := .cells #[.pointer none, .pointer none, .pointer none, .pointer none, .pointer none, .pointer none, .pointer none, .pointer none] 62
theorem arr0_eq : arr0 = arrBox (fun _ => none) := rfl
def aheadV (xs : List Nd) (p : Nat) : Value := .agg ((List.range 8).map fun r => pv (some (xs.getD (la xs (p + 1) r) default).b)).toArray
theorem tail_at (xs : List Nd) (j : Nat) : (xs.getD (j + 1) default).it = (xs.tail.map Nd.it).getD j default := by
  rw [List.getD_eq_getElem?_getD, List.getD_eq_getElem?_getD, List.getElem?_map, List.getElem?_tail]
  cases xs[j + 1]? <;> rfl
theorem tail_len (xs : List Nd) : (xs.tail.map Nd.it).length = xs.length - 1 := by rw [List.length_map, List.length_tail]
/-- What a step along a row finds. -/
theorem ahead_step {W : World} {L : Nat} {xs : List Nd} (h : SK W L xs) (key : ByteArray) (i r : Nat) (hi : i < xs.length) (hip : i ≤ atS (xs.tail.map Nd.it) key) (hr : r < (xs.getD i default).it.lv) :
    (∃ j, i < j ∧ j < xs.length ∧ j ≤ atS (xs.tail.map Nd.it) key ∧ r < (xs.getD j default).it.lv ∧ nx xs i r = some (xs.getD j default).b ∧ Go.Op.bytesLess (xs.getD j default).it.k.toList key.toList = true) ∨
    (la xs (atS (xs.tail.map Nd.it) key + 1) r = i ∧ (nx xs i r = none ∨ ∃ j, j < xs.length ∧ nx xs i r = some (xs.getD j default).b ∧ Go.Op.bytesLess (xs.getD j default).it.k.toList key.toList = false)) := by
  obtain ⟨hs1, hs2⟩ := h.2
  have hpl := atS_le (xs.tail.map Nd.it) key
  rw [tail_len] at hpl
  have hx0 : 0 < xs.length := h.1.2.1
  rcases nxt_some xs r _ (i + 1) rfl (by omega) with ⟨h1, h2⟩ | ⟨j, h1, h2, h3, h4, h5⟩
  · refine .inr ⟨la_is xs r _ i (by omega) hr (fun k hk1 hk2 => h2 k hk1 (by omega)), .inl h1⟩
  · obtain ⟨j', rfl⟩ : ∃ j', j = j' + 1 := ⟨j - 1, by omega⟩
    have hiff := srt_iff hs2 key j' (by rw [tail_len]; omega)
    rw [← tail_at] at hiff
    cases hlt : Go.Op.bytesLess (xs.getD (j' + 1) default).it.k.toList key.toList with
    | true => exact .inl ⟨j' + 1, by omega, h2, by have := hiff.1 hlt; omega, h4, h3, hlt⟩
    | false =>
      refine .inr ⟨la_is xs r _ i (by omega) hr (fun k hk1 hk2 => h5 k hk1 ?_), .inr ⟨j' + 1, h2, h3, hlt⟩⟩
      have : ¬ j' < atS (xs.tail.map Nd.it) key := fun hc => by have h9 : Go.Op.bytesLess (xs.getD (j' + 1) default).it.k.toList key.toList = true := hiff.2 hc; rw [hlt] at h9; cases h9
      omega
/-- What is told of the rows from n on. -/
def outG (xs : List Nd) (p n : Nat) (r : Nat) : Option Nat := if n ≤ r then some (xs.getD (la xs (p + 1) r) default).b else none
theorem out_set {W : World} {g p r b : Nat} {xs : List Nd} (h : W.heap[g]? = some (arrBox (outG xs p (r + 1)))) (hr : r < 8) (hb : (xs.getD (la xs (p + 1) r) default).b = b) : (W.setCell ⟨g, r, none⟩ (.pointer (some ⟨b, 0, none⟩))).heap[g]? = some (arrBox (outG xs p r)) := by
  rw [show (Value.pointer (some ⟨b, 0, none⟩)) = pv (some b) from rfl, heap_set_row h, row_set 8 r (outG xs p (r + 1)) (some b) hr]
  have e : ((List.range 8).map fun r' => pv (if r' = r then some b else outG xs p (r + 1) r')) = ((List.range 8).map fun r' => pv (outG xs p r r')) := List.map_congr_left fun r' _ => by
    by_cases e : r' = r
    · subst e
      rw [if_pos rfl]
      unfold outG
      rw [if_pos (Nat.le_refl _), hb]
    · rw [if_neg e]
      unfold outG
      by_cases h2 : r ≤ r'
      · rw [if_pos h2, if_pos (by omega)]
      · rw [if_neg h2, if_neg (by omega)]
  rw [e]
theorem arr_cell {W : World} {g : Nat} {f : Nat → Option Nat} (h : W.heap[g]? = some (arrBox f)) (r : Nat) (hr : r < 8) : W.cell? ⟨g, r, none⟩ = some (pv (f r)) ∧ W.frozen? ⟨g, r, none⟩ = false := by
  refine ⟨?_, plain_frozen h r⟩
  rw [cell_of_row _ _ _ _ _ _ h]
  simp [hr]
theorem below_row {B g : Nat} {w0 W : World} (hb : Below B w0 W) (hg : B ≤ g) (cs : Array Value) : Below B w0 (W.setRow g cs) :=
  ⟨hb.os, hb.tape, hb.output, by rw [size_setRow]; exact hb.size, fun k hk => (setRow_other W g k cs (by omega)).trans (hb.block k hk)⟩
theorem infoArr : (Try.prog.info? 62).map (·.size) = some 8 := by kernel_rfl
/-- Where a node stands, by its block. -/
def posB : List Nd → Nat → Nat
  | [], _ => 0
  | n :: l, b => if n.b = b then 0 else posB l b + 1
theorem posB_is : ∀ (xs : List Nd) (b i : Nat), i < xs.length → (xs.getD i default).b = b → (∀ j, j < i → (xs.getD j default).b ≠ b) → posB xs b = i
  | [], _, i, h, _, _ => by simp at h
  | n :: xs, b, 0, _, h, _ => by
    rw [posB, if_pos (by simpa using h)]
  | n :: xs, b, i + 1, hi, h, hn => by
    have h0 := hn 0 (by omega)
    rw [posB, if_neg (by simpa using h0), posB_is xs b i (by simpa using hi) (by simpa using h) (fun j hj => by have := hn (j + 1) (by omega); simpa using this)]
theorem posB_at {xs : List Nd} (h : (blks xs).Nodup) (i : Nat) (hi : i < xs.length) : posB xs (xs.getD i default).b = i :=
  posB_is xs _ i hi rfl (fun j hj e => by have := (blks_apart h j i (by omega) hi).2.2 e; omega)
def ptrB : Value → Nat
  | .pointer (some a) => a.block
  | _ => 0
set_option maxRecDepth 100000 in
set_option maxHeartbeats 4000000 in
theorem ahead_calls (w : World) (L : Nat) (xs : List Nd) (key : ByteArray) (h : SK w L xs) :
    Calls Try.prog 27 #[.pointer (some ⟨L, 0, none⟩), .string key] w fun e w' => e = .returned (aheadV xs (atS (xs.tail.map Nd.it) key)) ∧ Below w.heap.size w w' := by
  have hl := SL_list h.1
  have hx0 : 0 < xs.length := h.1.2.1
  have c0 : w.cell? ⟨L, 0, none⟩ = some (.pointer (some ⟨(xs.getD 0 default).b, 0, none⟩)) := by rw [cell_of_row _ _ _ _ _ _ hl]; rfl
  have hlt : L < w.heap.size := (Array.getElem?_eq_some_iff.1 hl).1
  have hlv0 : (xs.getD 0 default).it.lv = 8 := by rw [h.2.1]
  have HS := Aside0.mk h
  obtain ⟨b0, hb0⟩ : ∃ b, (xs.getD 0 default).b = b := ⟨_, rfl⟩
  rw [hb0] at c0
  obtain ⟨g, hg⟩ : ∃ g, w.heap.size = g := ⟨_, rfl⟩
  obtain ⟨w2, hw2⟩ : ∃ w2, (w.alloc arr0).alloc arr0 = w2 := ⟨_, rfl⟩
  have hb2 : Below w.heap.size w w2 := by rw [← hw2]; exact below_alloc (below_alloc (Below.refl _ _) _) _
  have hg4 : w2.heap[g]? = some arr0 := by
    rw [← hw2, ← hg]
    exact ((below_alloc (Below.refl (w.alloc arr0).heap.size (w.alloc arr0)) arr0).block _ (by rw [World.size_alloc]; omega)).trans (heap_alloc_new w arr0)
  have hg5 : w2.heap[g + 1]? = some arr0 := by
    have h9 := heap_alloc_new (w.alloc arr0) arr0
    rw [World.size_alloc, hw2, hg] at h9
    exact h9
  have c2 := pw_cell_below hb2 c0
  have HB2 := Aside0.mk hb2
  have HG4 := Aside0.mk hg4
  have HG5 := Aside0.mk hg5
  clear hb2 hg4 hg5 c0
  obtain ⟨p, hp⟩ : ∃ p, atS (xs.tail.map Nd.it) key = p := ⟨_, rfl⟩
  have HP := Aside0.mk hp
  rw [hp]
  clear h hl hp
  go_enter Try.func27, Try.ntmps27
  go_wp2_with fail
  refine Go.wp_scope_goto2 0 (fun a' w' => ∃ (i r b : Nat) (u8 u9 u10 u11 u12 u13 u14 u15 u16 u17 u18 u19 u20 u21 u22 u23 u24 u25 u26 u27 u28 u29 u30 u31 u32 u33 u34 u35 u36 u37 u38 : Value), a' = { tmps := #[.pointer (some ⟨L, 0, none⟩), .string key, undef, undef, .pointer (some ⟨g, 0, none⟩), .pointer (some ⟨g + 1, 0, none⟩), .pointer (some ⟨b, 0, none⟩), .int .i64 r, u8, u9, u10, u11, u12, u13, u14, u15, u16, u17, u18, u19, u20, u21, u22, u23, u24, u25, u26, u27, u28, u29, u30, u31, u32, u33, u34, u35, u36, u37, u38], defers := [] } ∧ r < 8 ∧ Aside0 (i < xs.length ∧ i ≤ p ∧ r < (xs.getD i default).it.lv ∧ (xs.getD i default).b = b) ∧
      w'.heap[g]? = some (arrBox fun _ => none) ∧ w'.heap[g + 1]? = some (arrBox (outG xs p (r + 1))) ∧ Aside0 (Below w.heap.size w w')) (fun a' _ => (intOf (a'.tmps.getD 7 undef)).toNat * (xs.length + 1) + (xs.length - posB xs (ptrB (a'.tmps.getD 6 undef)))) ?hf ?first ?pass
  case hf => rfl
  case first =>
    intro X Q1 hX
    go_wp2
    refine hX _ _ ⟨0, 7, b0, _, _, _, _, _, _, _, _, _, _, _, _, _, _, _, _, _, _, _, _, _, _, _, _, _, _, _, _, _, _, _, rfl, by omega, ⟨hx0, Nat.zero_le _, by rw [hlv0]; omega, hb0⟩, HG4.out, ?_, HB2⟩
    rw [HG5.out]
    refine congrArg some (show arrBox (fun _ => none) = arrBox _ from ?_)
    unfold arrBox
    have e : ((List.range 8).map fun r => pv (none : Option Nat)) = ((List.range 8).map fun r' => pv (outG xs p (7 + 1) r')) := List.map_congr_left fun r hr => by unfold outG; rw [if_neg (by have := List.mem_range.1 hr; omega)]
    rw [e]
  case pass =>
    rintro a' w' ⟨i, r, b, u8, u9, u10, u11, u12, u13, u14, u15, u16, u17, u18, u19, u20, u21, u22, u23, u24, u25, u26, u27, u28, u29, u30, u31, u32, u33, u34, u35, u36, u37, u38, rfl, hr8, HI, hb4, hb5, HB⟩
    have HSK : Aside0 (SK w' L xs) := ⟨SL_below HS.out.1 HB.out, HS.out.2⟩
    obtain ⟨hi, hip, hri, hbi⟩ := HI.out
    have hn := SL_node HSK.out.1 i hi
    obtain ⟨-, -, n2⟩ := node_cells hn
    have hrow := node_row hn r hri
    have hst := ahead_step HSK.out key i r hi (by rw [HP.out]; exact hip) hri
    rw [HP.out] at hst
    obtain ⟨nb, hnb⟩ : ∃ nb, (xs.getD i default).nb = nb := ⟨_, rfl⟩
    obtain ⟨lv, hlv⟩ : ∃ lv, (xs.getD i default).it.lv = lv := ⟨_, rfl⟩
    rw [hbi, hnb, hlv] at n2
    rw [hnb] at hrow
    rw [hlv] at hri
    have HLV := Aside0.mk hlv
    have H4 := Aside0.mk hb4
    have H5 := Aside0.mk hb5
    have hpi := posB_at (List.nodup_cons.1 HSK.out.1.2.2.2).2 i hi
    rw [hbi] at hpi
    have HPI := Aside0.mk hpi
    have HBI := Aside0.mk hbi
    have j1 : (0 : Int) ≤ (r : Int) := by omega
    have j2 : (r : Int) < (lv : Int) := by omega
    have HII := Aside0.mk (show i < xs.length ∧ i ≤ p from ⟨hi, hip⟩)
    clear hb4 hb5 hpi hbi hnb hlv HI hn hi hip
    rcases hst with ⟨j, h1, h2, h3, h4, h5, h6⟩ | ⟨h1, h2⟩
    · rw [h5] at hrow
      obtain ⟨m0, -, -⟩ := node_cells (SL_node HSK.out.1 j h2)
      have hpj := posB_at (List.nodup_cons.1 HSK.out.1.2.2.2).2 j h2
      have HJ := Aside0.mk (show i < j ∧ j < xs.length ∧ j ≤ p ∧ r < (xs.getD j default).it.lv from ⟨h1, h2, h3, h4⟩)
      obtain ⟨bj, hbj⟩ : ∃ bj, (xs.getD j default).b = bj := ⟨_, rfl⟩
      obtain ⟨kj, hkj⟩ : ∃ kj, (xs.getD j default).it.k = kj := ⟨_, rfl⟩
      rw [hbj] at hrow m0 hpj
      rw [hkj] at m0 h6
      have hrow' : w'.cell? ⟨nb, r, none⟩ = some (.pointer (some ⟨bj, 0, none⟩)) := hrow
      have HPJ := Aside0.mk hpj
      have HBJ := Aside0.mk hbj
      clear hrow h1 h2 h3 h4 h5 hpj hbj hkj
      go_wp2_with fail
      go_step3
      refine ⟨rfl, ⟨j, r, bj, _, _, _, _, _, _, _, _, _, _, _, _, _, _, _, _, _, _, _, _, _, _, _, _, _, _, _, _, _, _, _, rfl, hr8, ⟨HJ.out.2.1, HJ.out.2.2.1, HJ.out.2.2.2, HBJ.out⟩, H4.out, H5.out, HB⟩, ?_⟩
      obtain ⟨q1, q2, q3, q4⟩ := HJ.out
      have e6 : posB xs (ptrB (.pointer (some ⟨bj, 0, none⟩))) = j := HPJ.out
      have e7 : posB xs (ptrB (.pointer (some ⟨b, 0, none⟩))) = i := HPI.out
      show (intOf (.int .i64 (r : Int))).toNat * (xs.length + 1) + (xs.length - posB xs (ptrB (.pointer (some ⟨bj, 0, none⟩)))) < (intOf (.int .i64 (r : Int))).toNat * (xs.length + 1) + (xs.length - posB xs (ptrB (.pointer (some ⟨b, 0, none⟩))))
      rw [e6, e7]
      exact Nat.add_lt_add_left (by omega) _
    · rcases h2 with h2 | ⟨j, h2, h3, h4⟩
      · rw [h2] at hrow
        have hrow' : w'.cell? ⟨nb, r, none⟩ = some (.pointer none) := hrow
        clear hrow h2
        obtain ⟨x5, f5⟩ := arr_cell H5.out r hr8
        have hwb : Below w.heap.size w (w'.setCell ⟨g + 1, r, none⟩ (.pointer (some ⟨b, 0, none⟩))) := below_set HB.out (by omega)
        have hs5 := out_set H5.out hr8 (show (xs.getD (la xs (p + 1) r) default).b = b by rw [h1]; exact HBI.out)
        have hs4 : (w'.setCell ⟨g + 1, r, none⟩ (.pointer (some ⟨b, 0, none⟩))).heap[g]? = some (arrBox fun _ => none) := (Below.heap_setCell w' _ _ _ (by show g ≠ g + 1; omega)).trans H4.out
        obtain ⟨W3, hW3⟩ : ∃ W3, w'.setCell ⟨g + 1, r, none⟩ (.pointer (some ⟨b, 0, none⟩)) = W3 := ⟨_, rfl⟩
        rw [hW3] at hwb hs5 hs4
        have HWB := Aside0.mk hwb
        have HS5 := Aside0.mk hs5
        have HS4 := Aside0.mk hs4
        clear hwb hs5 hs4 h1
        cases r with
        | zero =>
          go_wp2_with first
            | ((with_reducible refine gate_dst (N := 38) rfl ?_); refine wpList_load_row rfl 62 (.tmp 5) rfl (g + 1) rfl _ _ _ _ HS5.out Try.underlying62 rfl infoArr ?_)
            | (refine wpList_store_row rfl 62 (.tmp 4) (.tmp 38) rfl g _ rfl rfl _ _ HS4.out infoArr rfl (by simp [Value.oneCell', pv]) ?_)
          simp only [Exit.jump]
          refine bodyPost_ret (results_cell_row rfl _ _ g _ #[pv (outG xs p 0 0), pv (outG xs p 0 1), pv (outG xs p 0 2), pv (outG xs p 0 3), pv (outG xs p 0 4), pv (outG xs p 0 5), pv (outG xs p 0 6), pv (outG xs p 0 7)] _ _ rfl (setRow_heap W3 g _ _ _ _ HS4.out) Try.underlying62 rfl infoArr) rfl ?_
          refine ⟨?_, below_row HWB.out (by omega) _⟩
          unfold aheadV outG
          simp
          rfl
        | succ r' =>
          go_wp2_with fail
          go_step3
          refine ⟨rfl, ⟨i, r', b, _, _, _, _, _, _, _, _, _, _, _, _, _, _, _, _, _, _, _, _, _, _, _, _, _, _, _, _, _, _, _, rfl, by omega, ⟨HII.out.1, HII.out.2, by rw [HLV.out]; omega, HBI.out⟩, HS4.out, HS5.out, HWB⟩, ?_⟩
          show r' * (xs.length + 1) + (xs.length - posB xs b) < (r' + 1) * (xs.length + 1) + (xs.length - posB xs b)
          rw [Nat.succ_mul]
          generalize r' * (xs.length + 1) = X
          omega
      · rw [h3] at hrow
        obtain ⟨m0, -, -⟩ := node_cells (SL_node HSK.out.1 j h2)
        obtain ⟨bj, hbj⟩ : ∃ bj, (xs.getD j default).b = bj := ⟨_, rfl⟩
        obtain ⟨kj, hkj⟩ : ∃ kj, (xs.getD j default).it.k = kj := ⟨_, rfl⟩
        rw [hbj] at hrow m0
        rw [hkj] at m0 h4
        have hrow' : w'.cell? ⟨nb, r, none⟩ = some (.pointer (some ⟨bj, 0, none⟩)) := hrow
        clear hrow h2 h3 hbj hkj
        obtain ⟨x5, f5⟩ := arr_cell H5.out r hr8
        have hwb : Below w.heap.size w (w'.setCell ⟨g + 1, r, none⟩ (.pointer (some ⟨b, 0, none⟩))) := below_set HB.out (by omega)
        have hs5 := out_set H5.out hr8 (show (xs.getD (la xs (p + 1) r) default).b = b by rw [h1]; exact HBI.out)
        have hs4 : (w'.setCell ⟨g + 1, r, none⟩ (.pointer (some ⟨b, 0, none⟩))).heap[g]? = some (arrBox fun _ => none) := (Below.heap_setCell w' _ _ _ (by show g ≠ g + 1; omega)).trans H4.out
        obtain ⟨W3, hW3⟩ : ∃ W3, w'.setCell ⟨g + 1, r, none⟩ (.pointer (some ⟨b, 0, none⟩)) = W3 := ⟨_, rfl⟩
        rw [hW3] at hwb hs5 hs4
        have HWB := Aside0.mk hwb
        have HS5 := Aside0.mk hs5
        have HS4 := Aside0.mk hs4
        clear hwb hs5 hs4 h1
        cases r with
        | zero =>
          go_wp2_with first
            | ((with_reducible refine gate_dst (N := 38) rfl ?_); refine wpList_load_row rfl 62 (.tmp 5) rfl (g + 1) rfl _ _ _ _ HS5.out Try.underlying62 rfl infoArr ?_)
            | (refine wpList_store_row rfl 62 (.tmp 4) (.tmp 38) rfl g _ rfl rfl _ _ HS4.out infoArr rfl (by simp [Value.oneCell', pv]) ?_)
          simp only [Exit.jump]
          refine bodyPost_ret (results_cell_row rfl _ _ g _ #[pv (outG xs p 0 0), pv (outG xs p 0 1), pv (outG xs p 0 2), pv (outG xs p 0 3), pv (outG xs p 0 4), pv (outG xs p 0 5), pv (outG xs p 0 6), pv (outG xs p 0 7)] _ _ rfl (setRow_heap W3 g _ _ _ _ HS4.out) Try.underlying62 rfl infoArr) rfl ?_
          refine ⟨?_, below_row HWB.out (by omega) _⟩
          unfold aheadV outG
          simp
          rfl
        | succ r' =>
          go_wp2_with fail
          go_step3
          refine ⟨rfl, ⟨i, r', b, _, _, _, _, _, _, _, _, _, _, _, _, _, _, _, _, _, _, _, _, _, _, _, _, _, _, _, _, _, _, _, rfl, by omega, ⟨HII.out.1, HII.out.2, by rw [HLV.out]; omega, HBI.out⟩, HS4.out, HS5.out, HWB⟩, ?_⟩
          show r' * (xs.length + 1) + (xs.length - posB xs b) < (r' + 1) * (xs.length + 1) + (xs.length - posB xs b)
          rw [Nat.succ_mul]
          generalize r' * (xs.length + 1) = X
          omega
end Go.Proofs.Ythilhcdlpfjodaa.A
