/- slices.Insert of one version into a row of one's own. -/
import Derived.Test.YtheoodbkjgfdfaaAIns
import Derived.Test.YtheoodbkjgfdfaaNClone
import Derived.Deep.RegionLaw
import Derived.Shelf.RegionOpenPlain
namespace Go.Proofs.Ytheoodbkjgfdfaa.A
open R
open Go.RowKit Go.Proofs.YtheoodbkjgfdfaaW.PrintWords Go.Proofs.YtheoodbkjgfdfaaW.PrintLast Go.Proofs.YtheoodbkjgfdfaaW.PrintMore
set_option linter.unusedVariables false
set_option linter.unusedSimpArgs false

theorem flatVr : FlatK KVr := fun w w' b b' ok ok' x c h => h
theorem infoVr1 : (Try.prog.info? 35).map (·.size) = some 8 := by kernel_rfl
theorem C_lit1 {W : World} {gv : Nat} {p : Vr} (h : W.heap[gv]? = some (vrB p)) : KVr.C W (some ⟨gv, 0, none⟩) 1 [p] := by
  have hO : OVr W 0 (.slice (some ⟨gv, 0, none⟩) 1 1) [p] := OR_mk (w0 := W) (B0 := 0) (ok0 := fun k => True) flatVr h (Nat.zero_le _) rfl (Nat.le_refl _) (by unfold maxLen; omega) rfl (inner := vrCells p) rfl (reps_one1 (KVr_M _ _ _ p) rfl)
  exact (Kd.R_reads' hO).2.2
/-- Behind all: a piece appended. -/
theorem insend_calls (A : Option Addr) (c n : Nat) (l : List Vr) (p : Vr) (W : World) (B gv : Nat) (hv1 : W.heap[gv]? = some (vrB p)) (HO : OVr W B (.slice A n c) l) (hB : B ≤ W.heap.size) (hn : l.length = n) (hl : n ≤ 100000) :
    Calls Try.prog 31 #[.slice A n c, .int .i64 n, .slice (some ⟨gv, 0, none⟩) 1 1] W fun e w' => ∃ v', e = .returned v' ∧ OVr w' B v' (l ++ [p]) ∧ Below B W w' := by
  have hnc : n ≤ c := (Kd.R_reads' HO).2.1
  have hcm : c ≤ 9223372036854775807 := by
    obtain ⟨_, _, ho, _⟩ := HO
    rcases ho.2 with ⟨h, _⟩ | ⟨g, cap, _, h, _, _, _, h2, _⟩
    · injection h with _ _ h; omega
    · injection h with _ _ h; rw [h]; exact h2
  have HOn := Aside0.mk HO
  have HV := Aside0.mk (C_lit1 hv1)
  clear hv1
  have hl1 : l.length + 1 ≤ 1000000 := by omega
  have i1 : (n : Int) ≤ (c : Int) := by omega
  clear HO hn
  by_cases hcn : c = n
  · subst hcn
    go_enter Try.func31, Try.ntmps31
    go_wp2_with ((with_reducible refine gate_dst (N := 25) rfl ?_); refine app_vrs rfl rfl rfl rfl HOn.out HV.out hB (by omega) ?_; intro v4 w4 HO4 hb4 _)
    go_ret
    exact ⟨_, rfl, HO4, hb4⟩
  · have hcn2 : n < c := by omega
    go_enter Try.func31, Try.ntmps31
    go_wp2_with ((with_reducible refine gate_dst (N := 25) rfl ?_); refine app_vrs rfl rfl rfl rfl HOn.out HV.out hB (by omega) ?_; intro v4 w4 HO4 hb4 _)
    go_ret
    exact ⟨_, rfl, HO4, hb4⟩
theorem heap_of_drew (X : World) : X.drew.heap = X.heap := rfl
theorem shape_of {w : World} {g : Nat} {cur : Array Value} {e : TypeId} (h : w.heap[g]? = some (.cells cur e (0, 0))) : w.shape? g = some (e, cur.size) := by
  simp [World.shape?, h]
set_option maxRecDepth 100000 in
set_option maxHeartbeats 4000000 in
/-- In place. -/
theorem insroom_calls (g c n i : Nat) (l : List Vr) (p : Vr) (W : World) (B gv : Nat) (hv1 : W.heap[gv]? = some (vrB p)) (hgv : gv ≠ g) (HO : OVr W B (.slice (some ⟨g, 0, none⟩) n c) l) (hB : B ≤ W.heap.size) (hl : n ≤ 100000) (hi : i < n) (hroom : n + 1 ≤ c) :
    Calls Try.prog 31 #[.slice (some ⟨g, 0, none⟩) n c, .int .i64 i, .slice (some ⟨gv, 0, none⟩) 1 1] W fun e w' => ∃ v', e = .returned v' ∧ OVr w' B v' (l.take i ++ p :: l.drop i) ∧ Below B W w' := by
  obtain ⟨cur, hh, hbg, hln, hnc, hcm, hcs, hr⟩ := OR_cur HO
  have hgl : g < W.heap.size := blk_lt hh
  have hh1 : W.heap[g]? = some (.cells cur 35 (0, 0)) := hh
  have hcs3 : cur.size = c * 8 := hcs
  have h63 : c ≤ 9223372036854775807 := hcm
  have hov : ∀ lb cb, (callFunc 56 #[.slice (some ⟨gv, 0, none⟩) 1 1, .slice (some ⟨g, (i + 1) * 8, none⟩) lb cb]).run Try.prog W = .ok (.value (.bool false)) W := fun lb cb => by
    rw [run_callFunc_extern Try.func56 (by kernel_rfl) (by kernel_rfl) (by kernel_rfl) (e := Extern.SlicesOverlaps.overlaps #[24, 24] #[4]) (by kernel_rfl),
      Lib.run_overlaps_apart W 24 4 35 Try.underlying24 8 Try.sizeOf35 ⟨gv, 0, none⟩ ⟨g, (i + 1) * 8, none⟩ 1 1 lb cb (by simp; omega) _ _ _ _ (shape_of hv1) (shape_of hh1) (by omega) (blk_frozen hv1 _) (blk_frozen hv1 _)]
    rfl
  have hmv : cur.toList.length = c * 8 := by rw [Array.length_toList]; exact hcs3
  obtain ⟨cs, hcse⟩ : ∃ cs, cs = (cur.toList.take (n * 8)).drop (i * 8) := ⟨_, rfl⟩
  have hcl : cs.length = (n - i) * 8 := by rw [hcse, List.length_drop, List.length_take, hmv]; omega
  have hone : ∀ u ∈ cs, u.oneCell' = true := fun u hu => OR_cells1 hr u (List.mem_of_mem_drop (hcse ▸ hu))
  have hsrc : ∀ j v, cs[j]? = some v → W.cell? ((⟨g, i * 8, none⟩ : Addr).add j) = some v := by
    intro j v hj
    have hj3 : j < (n - i) * 8 := by
      rcases Nat.lt_or_ge j cs.length with h | h
      · omega
      · rw [List.getElem?_eq_none h] at hj; cases hj
    rw [Addr.add_lit, cell_of_row W g _ cur _ (0, 0) hh1, ← Array.getElem?_toList]
    rw [hcse, List.getElem?_drop, List.getElem?_take] at hj
    rw [if_pos (by omega)] at hj
    exact hj
  have hcellin : ∀ q, q < c * 8 → (W.cell? ⟨g, q, none⟩).isSome = true := by
    intro q hq
    rw [cell_of_row W g _ cur _ (0, 0) hh1, Array.getElem?_eq_getElem (by omega)]
    rfl
  have hcp1 : ∀ ty dc sc, (Builtin.copy_ #[24, 24] ty #[.slice (some ⟨g, (i + 1) * 8, none⟩) (n - i) dc, .slice (some ⟨g, i * 8, none⟩) (n + 1 - i) sc]).run Try.prog W.drew = .ok (goInt (n - i : Nat)) (W.drew.setCells g ((i + 1) * 8) cs) := fun ty dc sc =>
    run_copy_K W.drew _ _ ty 35 8 g ((i + 1) * 8) (n - i) dc ⟨g, i * 8, none⟩ (n + 1 - i) sc (n - i) cs Try.underlying24 infoVr1 (by show min _ _ = _; omega) hcl hsrc
      (fun j hj => hcellin _ (by omega)) (fun j hj => blk_frozen hh1 _) hone
  obtain ⟨W2, hW2⟩ : ∃ W2, W2 = W.drew.setCells g ((i + 1) * 8) cs := ⟨_, rfl⟩
  obtain ⟨cur2, hh2, hs2, hl2⟩ := setCells_row cs ((i + 1) * 8) W.drew cur hh1 (by omega)
  have hfar2 : ∀ k, k ≠ g → W2.heap[k]? = W.heap[k]? := fun k hk => by rw [hW2]; exact setCells_far cs _ k hk
  have hv2 : W2.heap[gv]? = some (vrB p) := (hfar2 _ (by omega)).trans hv1
  rw [← hW2] at hh2
  have hcp2 : ∀ ty dc, (Builtin.copy_ #[24, 24] ty #[.slice (some ⟨g, i * 8, none⟩) (n + 1 - i) dc, .slice (some ⟨gv, 0, none⟩) 1 1]).run Try.prog W2 = .ok (goInt (1 : Nat)) (W2.setCells g (i * 8) (vrCells p)) := fun ty dc =>
    run_copy_K W2 _ _ ty 35 8 g (i * 8) (n + 1 - i) dc ⟨gv, 0, none⟩ 1 1 1 (vrCells p) Try.underlying24 infoVr1 (by show min _ _ = _; omega) rfl
      (fun j v hj => by
        obtain ⟨x0, x1, x2, x3, x4, x5, x6, x7⟩ := vr_cells hv2
        rw [Addr.add_lit, Nat.zero_add]
        rcases j with _ | _ | _ | _ | _ | _ | _ | _ | j
        · simp at hj; subst hj; exact x0
        · simp at hj; subst hj; exact x1
        · simp at hj; subst hj; exact x2
        · simp at hj; subst hj; exact x3
        · simp at hj; subst hj; exact x4
        · simp at hj; subst hj; exact x5
        · simp at hj; subst hj; exact x6
        · simp at hj; subst hj; exact x7
        · simp at hj)
      (fun j hj => by
        have hj3 : j < 8 := hj
        rw [cell_of_row W2 g _ cur2 _ (0, 0) hh2, Array.getElem?_eq_getElem (by omega)]
        rfl)
      (fun j hj => blk_frozen hh2 _) (fun v hv => by simp at hv; rcases hv with rfl | rfl | rfl | rfl | rfl | rfl | rfl | rfl <;> rfl)
  obtain ⟨cur3, hh3, hs3, hl3⟩ := setCells_row (vrCells p) (i * 8) W2 cur2 hh2 (by simp; omega)
  have hfin : OVr (W2.setCells g (i * 8) (vrCells p)) B (.slice (some ⟨g, 0, none⟩) (n + 1) c) (l.take i ++ p :: l.drop i) := by
    refine OR_mk (w0 := W) (B0 := B) (ok0 := fun k => True ∧ some k ≠ (Value.slice (some ⟨g, 0, none⟩) n c).ownBlock) flatVr hh3 hbg ?_ (by omega) hcm (by rw [hs3, hs2]; exact hcs) ?_ (inner := (cur.toList.take (n * 8)).take (i * 8) ++ vrCells p ++ (cur.toList.take (n * 8)).drop (i * 8)) ?_
    · rw [List.length_append, List.length_take, List.length_cons, List.length_drop]; omega
    · rw [hl3, hl2, hcse]
      exact ins_cells 8 i n cur.toList (vrCells p) rfl (by omega) (by omega)
    · have h1 := Kd.reps_take (m := i) hr (by omega)
      have h2 := Kd.reps_drop (m := i) hr
      have h3 := Kd.reps_append (Kd.reps_append h1 (reps_one1 (R := fun x q => KVr.M W B (fun k => True ∧ some k ≠ (Value.slice (some ⟨g, 0, none⟩) n c).ownBlock) x q) (size := KVr.sz) (p := p) (c := vrCells p) (KVr_M _ _ _ p) rfl)) h2
      rw [List.append_assoc] at h3
      exact h3
  have hbel : Below B W (W2.setCells g (i * 8) (vrCells p)) := by
    obtain ⟨a1, a2, a3, a4⟩ := setCells_same g cs ((i + 1) * 8) W.drew
    obtain ⟨b1, b2, b3, b4⟩ := setCells_same g (vrCells p) (i * 8) W2
    have hbA : Below B W W := Below.refl B W
    refine hbA.drew.trans ⟨by rw [b1, hW2, a1], by rw [b2, hW2, a2], by rw [b3, hW2, a3], by rw [b4, hW2, a4]; exact Nat.le_refl _, fun k hk => ?_⟩
    rw [setCells_far _ _ k (by omega), hfar2 k (by omega)]
    rfl
  rw [← hW2] at hcp1
  have hw1 : IntKind.i64.wrap ((i : Int) + 1) = (i : Int) + 1 := by rw [IntKind.wrap_i64]; omega
  have hb1 : (0 : Int) ≤ (i : Int) + 1 := by omega
  have hin : i ≤ n := by omega
  have htn : ((i : Int) + 1).toNat = i + 1 := by omega
  have hb2 : ¬ (c = i + 1) := by omega
  have hb3 : (i : Int) ≤ (n : Int) + 1 := by omega
  have hb4 : ¬ (c = i) := by omega
  have hz2 : ¬ ((i : Int) = (n : Int)) := by omega
  have hroomI : (n : Int) + 1 ≤ (c : Int) := by omega
  have HF := Aside0.mk hfin
  have HB := Aside0.mk hbel
  clear hfin hbel hh hh1 hv1 hh2 hv2 hh3 hl2 hl3 hs2 hs3 hcs hcs3 hcl hone hsrc hcellin hcse hmv hfar2 hr HO hW2 hln
  go_enter Try.func31, Try.ntmps31
  go_wp2_with (simp only [hov])
  go_region_law (refine step_copy_runI rfl _ _ 24 24 rfl _ _ (by simp [Act.eval, Act.put]) (by simp [Act.eval, Act.put]) (hcp1 _ _ _) ?_)
  go_wp2_with (at_builtin; refine wpList_copy_runI _ rfl _ _ 24 24 rfl _ _ rfl rfl (hcp2 _ _) ?_)
  go_ret
  exact ⟨_, rfl, HF.out, HB.out⟩
set_option maxRecDepth 100000 in
set_option maxHeartbeats 4000000 in
/-- In a new row. -/
theorem insgrow_calls (g c n i : Nat) (l : List Vr) (p : Vr) (W : World) (B gv : Nat) (hv1 : W.heap[gv]? = some (vrB p)) (hgv : gv ≠ g) (HO : OVr W B (.slice (some ⟨g, 0, none⟩) n c) l) (hB : B ≤ W.heap.size) (hl : n ≤ 100000) (hi : i < n) (hroom : c < n + 1) :
    Calls Try.prog 31 #[.slice (some ⟨g, 0, none⟩) n c, .int .i64 i, .slice (some ⟨gv, 0, none⟩) 1 1] W fun e w' => ∃ v', e = .returned v' ∧ OVr w' B v' (l.take i ++ p :: l.drop i) ∧ Below B W w' := by
  obtain ⟨cur, hh, hbg, hln, hnc, hcm, hcs, hr⟩ := OR_cur HO
  have hgl : g < W.heap.size := blk_lt hh
  obtain rfl : c = n := by omega
  have hh1 : W.heap[g]? = some (.cells cur 35 (0, 0)) := hh
  have hbA : Below B W W := Below.refl B W
  have hsz1 : gv < W.heap.size := blk_lt hv1
  have hcs3 : cur.size = c * 8 := hcs
  have hmv : cur.toList.length = c * 8 := by rw [Array.length_toList]; exact hcs3
  have htk : cur.toList.take (c * 8) = cur.toList := List.take_of_length_le (by omega)
  obtain ⟨cs, hcse⟩ : ∃ cs, cs = cur.toList.drop (i * 8) := ⟨_, rfl⟩
  have hcl : cs.length = (c - i) * 8 := by rw [hcse, List.length_drop, hmv]; omega
  have hr' := hr
  rw [show c * KVr.sz = c * 8 from rfl, htk] at hr'
  have hone : ∀ u ∈ cs, u.oneCell' = true := fun u hu => OR_cells1 hr' u (List.mem_of_mem_drop (hcse ▸ hu))
  have hkk : (c : Int) + 1 - (i : Int) = ((c + 1 - i : Nat) : Int) := by omega
  have hik : i + (c + 1 - i) = c + 1 := by omega
  obtain ⟨i0, hi0, hz0, hzs, hzb⟩ := info_parts infoVr
  have hold : (Builtin.firstCells i0.size i (.slice (some ⟨g, 0, none⟩) i c)).run Try.prog W.drew = .ok (cur.toList.take (i * 8)).toArray W.drew := by
    rw [hzs]
    refine run_firstCells_some W.drew 8 i ⟨g, 0, none⟩ i c (cur.toList.take (i * 8)) (by rw [List.length_take, hmv]; omega) (fun j v hj => ?_)
    rw [Addr.add_lit, Nat.zero_add, cell_of_row W.drew g _ cur _ (0, 0) hh1, ← Array.getElem?_toList]
    rw [List.getElem?_take] at hj
    split at hj
    · exact hj
    · cases hj
  obtain ⟨G, hG⟩ : ∃ G, G = grownCap W (c + 1) c 35 := ⟨_, rfl⟩
  have hGn : c + 1 ≤ G := by rw [hG]; exact grownCap_ge W _ _ _
  have hG63 : G ≤ 9223372036854775807 := by
    have := grownCap_le_maxLen W (c + 1) c 35 (by unfold maxLen; omega)
    rw [← hG] at this
    unfold maxLen at this
    omega
  obtain ⟨ROW, hROW⟩ : ∃ ROW : Array Value, ROW = (cur.toList.take (i * 8)).toArray ++ Builtin.zeroCells (Value.agg #[.string ByteArray.empty, .int .i64 0, .int .i64 0, .int .i64 0, .int .i64 0, .int .i64 0, .string ByteArray.empty, .bool false]).cells (c + 1 - i) ++ Builtin.zeroCells (Value.agg #[.string ByteArray.empty, .int .i64 0, .int .i64 0, .int .i64 0, .int .i64 0, .int .i64 0, .string ByteArray.empty, .bool false]).cells (G - (c + 1)) := ⟨_, rfl⟩
  have hrz : ∀ ty, (Builtin.append_ #[24, 3] ty #[.slice (some ⟨g, 0, none⟩) i c, .int .i64 ((c : Int) + 1 - (i : Int))]).run Try.prog W =
      .ok (.slice (some ⟨W.heap.size, 0, none⟩) (c + 1) G) (W.drew.alloc (.cells ROW 35)) := fun ty => by
    have h := Lib.run_append_grow_zeros W 24 3 ty 35 i0 _ .i64 .i64 Try.underlying24 Try.underlying3 hi0 hz0 (some ⟨g, 0, none⟩) i c (cur.toList.take (i * 8)) hold (c + 1 - i) (by omega) (by omega) (by omega) (by omega) (by rw [hzb]; omega) (by rw [hzb, hik]; exact growslice_fits (by omega) (by omega))
    rw [hik] at h
    rw [hkk, h, hROW, hG]
  have hRs : ROW.size = G * 8 := by
    rw [hROW]
    simp [Builtin.zeroCells, Value.cells]
    omega
  obtain ⟨W2, hW2⟩ : ∃ W2, W2 = W.drew.alloc (.cells ROW 35) := ⟨_, rfl⟩
  rw [← hW2] at hrz
  have hn2 : W2.heap[W.heap.size]? = some (.cells ROW 35 (0, 0)) := by rw [hW2]; exact heap_alloc_new W.drew _
  have ho2 : ∀ k, k < W.heap.size → W2.heap[k]? = W.heap[k]? := fun k hk => by rw [hW2]; exact heap_alloc_old W.drew _ hk
  have hcpA : ∀ (W' : World), W'.heap = W2.heap → ∀ ty dc, (Builtin.copy_ #[24, 24] ty #[.slice (some ⟨W.heap.size, i * 8, none⟩) (c + 1 - i) dc, .slice (some ⟨gv, 0, none⟩) 1 1]).run Try.prog W' = .ok (goInt (1 : Nat)) (W'.setCells W.heap.size (i * 8) (vrCells p)) := fun W' hW' ty dc =>
    run_copy_K W' _ _ ty 35 8 W.heap.size (i * 8) (c + 1 - i) dc ⟨gv, 0, none⟩ 1 1 1 (vrCells p) Try.underlying24 infoVr1 (by show min _ _ = _; omega) rfl
      (fun j v hj => by
        obtain ⟨x0, x1, x2, x3, x4, x5, x6, x7⟩ := vr_cells (w := W') (by rw [hW']; exact (ho2 _ hsz1).trans hv1)
        rw [Addr.add_lit, Nat.zero_add]
        rcases j with _ | _ | _ | _ | _ | _ | _ | _ | j
        · simp at hj; subst hj; exact x0
        · simp at hj; subst hj; exact x1
        · simp at hj; subst hj; exact x2
        · simp at hj; subst hj; exact x3
        · simp at hj; subst hj; exact x4
        · simp at hj; subst hj; exact x5
        · simp at hj; subst hj; exact x6
        · simp at hj; subst hj; exact x7
        · simp at hj)
      (fun j hj => by
        have hj3 : j < 8 := hj
        rw [cell_of_row W' _ _ ROW _ (0, 0) (by rw [hW']; exact hn2), Array.getElem?_eq_getElem (by omega)]
        rfl)
      (fun j hj => blk_frozen (by rw [hW']; exact hn2) _) (fun v hv => by simp at hv; rcases hv with rfl | rfl | rfl | rfl | rfl | rfl | rfl | rfl <;> rfl)
  obtain ⟨cur3, hh3, hs3, hl3⟩ := setCells_row (vrCells p) (i * 8) W2 ROW hn2 (by simp; omega)
  obtain ⟨W3, hW3⟩ : ∃ W3, W3 = W2.setCells W.heap.size (i * 8) (vrCells p) := ⟨_, rfl⟩
  rw [← hW3] at hh3
  have ho3 : ∀ k, k < W.heap.size → W3.heap[k]? = W.heap[k]? := fun k hk => by rw [hW3, setCells_far _ _ k (by omega)]; exact ho2 k hk
  have hcpB : ∀ (W' : World), W'.heap = W3.heap → ∀ ty dc sc, (Builtin.copy_ #[24, 24] ty #[.slice (some ⟨W.heap.size, (i + 1) * 8, none⟩) (c - i) dc, .slice (some ⟨g, i * 8, none⟩) (c - i) sc]).run Try.prog W' = .ok (goInt (c - i : Nat)) (W'.setCells W.heap.size ((i + 1) * 8) cs) := fun W' hW' ty dc sc =>
    run_copy_K W' _ _ ty 35 8 W.heap.size ((i + 1) * 8) (c - i) dc ⟨g, i * 8, none⟩ (c - i) sc (c - i) cs Try.underlying24 infoVr1 (by show min _ _ = _; omega) hcl
      (fun j v hj => by
        rw [Addr.add_lit, cell_of_row W' g _ cur _ (0, 0) (by rw [hW']; exact (ho3 _ (by omega)).trans hh1), ← Array.getElem?_toList]
        rw [hcse, List.getElem?_drop] at hj
        exact hj)
      (fun j hj => by
        rw [cell_of_row W' _ _ cur3 _ (0, 0) (by rw [hW']; exact hh3), Array.getElem?_eq_getElem (by omega)]
        rfl)
      (fun j hj => blk_frozen (by rw [hW']; exact hh3) _) hone
  obtain ⟨cur4, hh4, hs4, hl4⟩ := setCells_row cs ((i + 1) * 8) W3 cur3 hh3 (by omega)
  have hTl : (cur.toList.take (i * 8)).length = i * 8 := by rw [List.length_take, hmv]; omega
  have hfin : ∀ W' : World, W'.heap = (W3.setCells W.heap.size ((i + 1) * 8) cs).heap → W'.os = W.os → W'.tape = W.tape → W'.output = W.output → OVr W' B (.slice (some ⟨W.heap.size, 0, none⟩) (c + 1) G) (l.take i ++ p :: l.drop i) ∧ Below B W W' := by
    intro W' hW' h1 h2 h3
    refine ⟨OR_mk (w0 := W) (B0 := B) (ok0 := fun k => True ∧ some k ≠ (Value.slice (some ⟨g, 0, none⟩) c c).ownBlock) flatVr (by rw [hW']; exact hh4) (by omega) ?_ hGn hG63 (by rw [hs4, hs3, hRs]; rfl) ?_ (inner := cur.toList.take (i * 8) ++ vrCells p ++ cur.toList.drop (i * 8)) ?_, ?_⟩
    · rw [List.length_append, List.length_take, List.length_cons, List.length_drop]; omega
    · rw [hl4, hl3, hROW]
      have e0 : ((cur.toList.take (i * 8)).toArray ++ Builtin.zeroCells (Value.agg #[.string ByteArray.empty, .int .i64 0, .int .i64 0, .int .i64 0, .int .i64 0, .int .i64 0, .string ByteArray.empty, .bool false]).cells (c + 1 - i) ++ Builtin.zeroCells (Value.agg #[.string ByteArray.empty, .int .i64 0, .int .i64 0, .int .i64 0, .int .i64 0, .int .i64 0, .string ByteArray.empty, .bool false]).cells (G - (c + 1))).toList = cur.toList.take (i * 8) ++ ((Builtin.zeroCells (Value.agg #[.string ByteArray.empty, .int .i64 0, .int .i64 0, .int .i64 0, .int .i64 0, .int .i64 0, .string ByteArray.empty, .bool false]).cells (c + 1 - i)).toList ++ (Builtin.zeroCells (Value.agg #[.string ByteArray.empty, .int .i64 0, .int .i64 0, .int .i64 0, .int .i64 0, .int .i64 0, .string ByteArray.empty, .bool false]).cells (G - (c + 1))).toList) := by
        rw [Array.toList_append, Array.toList_append, List.append_assoc]
      rw [e0]
      generalize (Builtin.zeroCells (Value.agg #[.string ByteArray.empty, .int .i64 0, .int .i64 0, .int .i64 0, .int .i64 0, .int .i64 0, .string ByteArray.empty, .bool false]).cells (c + 1 - i)).toList ++ (Builtin.zeroCells (Value.agg #[.string ByteArray.empty, .int .i64 0, .int .i64 0, .int .i64 0, .int .i64 0, .int .i64 0, .string ByteArray.empty, .bool false]).cells (G - (c + 1))).toList = Z
      have h := ins_new (cur.toList.take (i * 8)) Z (vrCells p) cs
      rw [hTl] at h
      have e1 : (vrCells p).length = 8 := rfl
      rw [e1] at h
      have e2 : (i + 1) * 8 = i * 8 + 8 := by omega
      have e3 : (c + 1) * KVr.sz = i * 8 + 8 + cs.length := by rw [hcl]; show (c + 1) * 8 = _; omega
      rw [e1, e3, e2, h, hcse]
    · have h1 := Kd.reps_take (m := i) hr' (by omega)
      have h2 := Kd.reps_drop (m := i) hr'
      have h3 := Kd.reps_append (Kd.reps_append h1 (reps_one1 (R := fun x q => KVr.M W B (fun k => True ∧ some k ≠ (Value.slice (some ⟨g, 0, none⟩) c c).ownBlock) x q) (size := KVr.sz) (p := p) (c := vrCells p) (KVr_M _ _ _ p) rfl)) h2
      rw [List.append_assoc] at h3
      exact h3
    · refine hbA.trans ⟨h1, h2, h3, ?_, fun k hk => ?_⟩
      · obtain ⟨_, _, _, b4⟩ := setCells_same W.heap.size cs ((i + 1) * 8) W3
        obtain ⟨_, _, _, a4⟩ := setCells_same W.heap.size (vrCells p) (i * 8) W2
        rw [hW', b4, hW3, a4, hW2, World.size_alloc]
        exact Nat.le_succ _
      · rw [hW', setCells_far _ _ k (by omega), ho3 k (by omega)]
  have hos : W2.os = W.os ∧ W2.tape = W.tape ∧ W2.output = W.output := by rw [hW2]; exact ⟨rfl, rfl, rfl⟩
  have hcpA2 : ∀ ty dc, (Builtin.copy_ #[24, 24] ty #[.slice (some ⟨W.heap.size, i * 8, none⟩) (c + 1 - i) dc, .slice (some ⟨gv, 0, none⟩) 1 1]).run Try.prog W2 = .ok (goInt (1 : Nat)) W3 := fun ty dc => by
    rw [hW3]
    exact hcpA W2 rfl ty dc
  have HOS : Aside0 (W3.os = W.os ∧ W3.tape = W.tape ∧ W3.output = W.output) := ⟨by
    obtain ⟨b1, b2, b3, _⟩ := setCells_same W.heap.size (vrCells p) (i * 8) W2
    rw [hW3]
    exact ⟨b1.trans hos.1, b2.trans hos.2.1, b3.trans hos.2.2⟩⟩
  have hw1 : IntKind.i64.wrap ((i : Int) + 1) = (i : Int) + 1 := by rw [IntKind.wrap_i64]; omega
  have hb1 : (0 : Int) ≤ (i : Int) + 1 := by omega
  have hin : i ≤ c := by omega
  have htn : ((i : Int) + 1).toNat = i + 1 := by omega
  have hb3 : (i : Int) ≤ (c : Int) := by omega
  have hGi : ¬ (G = i) := by omega
  have hGim : ¬ (G = i + 1) := by omega
  have hci : ¬ (c = i) := by omega
  have hz2 : ¬ ((i : Int) = (c : Int)) := by omega
  have HFIN := Aside0.mk hfin
  have HFH := Aside0.mk (setCells_heap W.heap.size cs ((i + 1) * 8) (heap_of_drew W3))
  clear hfin hh hh1 hv1 hh3 hh4 hl3 hl4 hs3 hs4 hcs hcs3 hcl hone hcse hmv hr HO hW2 hW3 hln hbA hsz1 htk hr' hkk hik hold hG hROW hRs hn2 ho2 ho3 hTl hi0 hz0 hzs hzb hos hcpA
  go_enter Try.func31, Try.ntmps31
  go_wp2_with (first
    | (at_builtin; refine Lib.wpList_append_run _ rfl _ _ _ _ rfl _ _ rfl rfl _ _ (hrz _) ?_)
    | (at_builtin; refine wpList_copy_runI _ rfl _ _ 24 24 rfl _ _ rfl rfl (hcpA2 _ _) ?_))
  go_region_law (refine step_copy_runI rfl _ _ 24 24 rfl (.slice (some ⟨W.heap.size, (i + 1) * 8, none⟩) (c - i) (G - (i + 1))) (.slice (some ⟨g, i * 8, none⟩) (c - i) (c - i)) (by simp [Act.eval, Act.put]) (by simp [Act.eval, Act.put]) (hcpB W3.drew (heap_of_drew W3) 3 (G - (i + 1)) (c - i)) ?_)
  go_wp2
  go_ret
  obtain ⟨a1, a2, a3, _⟩ := setCells_same W.heap.size cs ((i + 1) * 8) W3.drew
  obtain ⟨r1, r2⟩ := HFIN.out _ HFH.out (a1.trans HOS.out.1) (a2.trans HOS.out.2.1) (a3.trans HOS.out.2.2)
  exact ⟨_, rfl, r1, r2⟩
theorem lit_take (l : List Vr) (p : Vr) : l.take l.length ++ p :: l.drop l.length = l ++ [p] := by rw [List.take_length, List.drop_length]
/-- slices.Insert of one piece. -/
theorem ins_calls (A : Option Addr) (c n i : Nat) (l : List Vr) (p : Vr) (W : World) (B gv : Nat) (hv1 : W.heap[gv]? = some (vrB p)) (hgv : ∀ b, A = some ⟨b, 0, none⟩ → gv ≠ b) (HO : OVr W B (.slice A n c) l) (hB : B ≤ W.heap.size) (hl : n ≤ 100000) (hi : i ≤ n) :
    Calls Try.prog 31 #[.slice A n c, .int .i64 i, .slice (some ⟨gv, 0, none⟩) 1 1] W fun e w' => ∃ v', e = .returned v' ∧ OVr w' B v' (l.take i ++ p :: l.drop i) ∧ Below B W w' := by
  have hn : n = l.length := (Kd.R_reads' HO).1
  rcases Nat.lt_or_ge i n with hlt | hge
  · obtain ⟨g, cap, e, _⟩ := Kd.R_form HO (by omega)
    injection e with e1 e2 e3
    subst e1 e3
    rcases Nat.lt_or_ge c (n + 1) with hr | hr
    · exact insgrow_calls g c n i l p W B gv hv1 (hgv g rfl) HO hB hl hlt hr
    · exact insroom_calls g c n i l p W B gv hv1 (hgv g rfl) HO hB hl hlt hr
  · obtain rfl : i = n := by omega
    subst hn
    rw [lit_take]
    exact insend_calls A c l.length l p W B gv hv1 HO hB rfl hl
end Go.Proofs.Ytheoodbkjgfdfaa.A
