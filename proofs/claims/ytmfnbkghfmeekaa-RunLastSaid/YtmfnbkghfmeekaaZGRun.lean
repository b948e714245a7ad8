/- GRun -/
import Derived.Test.YtmfnbkghfmeekaaZGPick
import Derived.Test.YtmfnbkghfmeekaaZGSome
import Derived.Test.YtmfnbkghfmeekaaZGSomeR
namespace Go.Proofs.Ytmfnbkghfmeekaa.A
open Go Go.RowKit Go.Proofs.YtmfnbkghfmeekaaW.PrintWords Go.Proofs.YtmfnbkghfmeekaaW.PrintLast Go.Proofs.YtmfnbkghfmeekaaW.PrintMore
open R C
open Go.Op (bytesLess)
set_option linter.unusedVariables false
set_option linter.unusedSimpArgs false
structure RnG (w : World) (r : Nat) (cs : List (List Vr)) : Prop where
  rn : RnI w r cs
  may : ∀ c ∈ cs, mayBl c = true
  srt : SrtV cs.flatten
  len : cs.flatten.length ≤ 5000
theorem RnG.below {w w1 : World} {r : Nat} {cs : List (List Vr)} (h : RnG w r cs) (hb : Below w.heap.size w w1) : RnG w1 r cs := ⟨RnI_below h.rn hb, h.may, h.srt, h.len⟩
theorem RnG.ne {w : World} {r : Nat} {cs : List (List Vr)} (h : RnG w r cs) : ∀ c ∈ cs, 1 ≤ c.length := fun c hc => (mayBl_all (h.may c hc)).2.1
theorem RnG.many {w : World} {r : Nat} {cs : List (List Vr)} (h : RnG w r cs) : cs.length ≤ 5000 := Nat.le_trans (flat_count cs h.ne) h.len
theorem RnG.place {w : World} {r : Nat} {cs : List (List Vr)} (h : RnG w r cs) (key : ByteArray) : ∃ i, i ≤ cs.length ∧ (∀ j, j < i → bytesLess ((cs.map (fun c => (c.getD 0 default).k)).getD j ByteArray.empty).toList key.toList = true) ∧ (∀ j, i ≤ j → j < cs.length → bytesLess ((cs.map (fun c => (c.getD 0 default).k)).getD j ByteArray.empty).toList key.toList = false) := by
  have h1 := place_ex key _ (heads_srt cs (srt_key h.srt) h.ne)
  rwa [List.length_map] at h1
theorem all_calls (w : World) (r : Nat) (cs : List (List Vr)) (h : RnG w r cs) : Calls Try.prog 17 #[.pointer (some ⟨r, 0, none⟩)] w fun e w' => ∃ v, e = .returned v ∧ OVr w' w.heap.size v cs.flatten ∧ Below w.heap.size w w' := by
  have HS := Aside0.mk (someAll_calls w r cs h.rn h.may h.many h.len ⟨#[]⟩ 0 (Nat.zero_le _) (fun j hj => absurd hj (by omega)) (fun j _ _ => lt_nil _))
  rw [pick_all] at HS
  clear h
  go_enter Try.func17, Try.ntmps17
  go_wp2_with fail
  (with_reducible refine HS.out.mono ?_)
  rintro e w1 ⟨v, rfl, h1, h2⟩
  go_wp2_with fail
  go_ret
  exact ⟨_, rfl, h1, h2⟩
theorem of_calls (w : World) (r : Nat) (cs : List (List Vr)) (h : RnG w r cs) (key : ByteArray) : Calls Try.prog 22 #[.pointer (some ⟨r, 0, none⟩), .string key] w fun e w' => ∃ v, e = .returned v ∧ OVr w' w.heap.size v (ofR cs.flatten key) ∧ Below w.heap.size w w' := by
  have hb : Below w.heap.size w (w.alloc (sB key)) := below_alloc (Below.refl _ _) _
  have hg := heap_alloc_new w (sB key)
  have h1 := h.below hb
  obtain ⟨i0, a1, a2, a3⟩ := h1.place key
  have HS := Aside0.mk (someOf_calls (w.alloc (sB key)) r cs h1.rn h1.may h1.many h1.len key i0 a1 a2 a3 w.heap.size key hg)
  rw [pick_of h1.srt h1.ne a1 a2] at HS
  have HE : Aside0 (cs.flatten.filter (fun p => (p.k.toList == key.toList) && true) = ofR cs.flatten key) := ⟨List.filter_congr fun p _ => Bool.and_true _⟩
  rw [HE.out] at HS
  have HB := Aside0.mk hb
  obtain ⟨c0, f0⟩ := one_cell hg
  clear h hb hg h1 a1 a2 a3
  go_enter Try.func22, Try.ntmps22
  go_wp2_with fail
  (with_reducible refine HS.out.mono ?_)
  rintro e w1 ⟨v, rfl, h1, h2⟩
  go_wp2_with fail
  go_ret
  exact ⟨_, rfl, Kd.R_lower h1 (by rw [World.size_alloc]; omega), below_step HB.out h2⟩
theorem range_calls (w : World) (r : Nat) (cs : List (List Vr)) (h : RnG w r cs) (key til : ByteArray) : Calls Try.prog 24 #[.pointer (some ⟨r, 0, none⟩), .string key, .string til] w fun e w' => ∃ v, e = .returned v ∧ OVr w' w.heap.size v (rangeR cs.flatten key til) ∧ Below w.heap.size w w' := by
  have hb : Below w.heap.size w (w.alloc (sB til)) := below_alloc (Below.refl _ _) _
  have hg := heap_alloc_new w (sB til)
  have h1 := h.below hb
  obtain ⟨i0, a1, a2, a3⟩ := h1.place key
  have HS := Aside0.mk (someRange_calls (w.alloc (sB til)) r cs h1.rn h1.may h1.many h1.len key i0 a1 a2 a3 w.heap.size til hg)
  rw [pick_range h1.srt h1.ne a1 a2] at HS
  have HB := Aside0.mk hb
  clear h hb hg h1 a1 a2 a3
  go_enter Try.func24, Try.ntmps24
  go_wp2_with fail
  (with_reducible refine HS.out.mono ?_)
  rintro e w1 ⟨v, rfl, h1, h2⟩
  go_wp2_with fail
  go_ret
  exact ⟨_, rfl, Kd.R_lower h1 (by rw [World.size_alloc]; omega), below_step HB.out h2⟩
theorem len_calls (w : World) (r : Nat) (cs : List (List Vr)) (h : RnI w r cs) : Calls Try.prog 19 #[.pointer (some ⟨r, 0, none⟩)] w fun e w' => e = .returned (.int .i64 (cs.flatten.length : Int)) ∧ w = w' := by
  obtain ⟨Ab, cb, Af, cf, hs, h1, -⟩ := h
  obtain ⟨m, hm⟩ : ∃ m, cs.flatten.length = m := ⟨_, rfl⟩
  rw [hm] at h1 ⊢
  obtain ⟨x0, x1, x2, x3⟩ := rn_cells h1
  clear h1 x3 hm
  go_enter Try.func19, Try.ntmps19
  go_wp2_with fail
  go_ret
  exact ⟨rfl, rfl⟩
def lastV (l : List Vr) : Vr := l.getD (l.length - 1) zeroV
theorem results_cellS {fn : Func} {p q : Tmp} (h : fn.results = #[.cell p 28, .tmp q]) (tmps : Array Value) (w : World) (g : Nat) (x : Vr) (b : Bool) (hp : tmps.getD p undef = .pointer (some ⟨g, 0, none⟩)) (hq : tmps.getD q undef = .bool b) (hg : w.heap[g]? = some (vrB x)) :
    (results fn tmps).run Try.prog w = .ok (.tuple #[vrV x, .bool b]) w := by
  have hp' : tmps[p]?.getD undef = .pointer (some ⟨g, 0, none⟩) := by simpa using hp
  have hq' : tmps[q]?.getD undef = .bool b := by simpa using hq
  obtain ⟨c0, c1, c2, c3, c4, c5, c6, c7⟩ := vr_cells8 hg
  have hu := Try.underlying28
  simp [results, h, hp', hq', asAddr, go_sem, c0, c1, c2, c3, c4, c5, c6, c7, hu]
set_option maxHeartbeats 1000000 in
theorem last_calls (w : World) (r : Nat) (cs : List (List Vr)) (h : RnG w r cs) (key : ByteArray) (br ep : Int) : Calls Try.prog 21 #[.pointer (some ⟨r, 0, none⟩), .string key, .int .i64 br, .int .i64 ep] w fun e w' => e = .returned (.tuple #[vrV (lastV (lastsR cs.flatten key br ep)), .bool (decide (lastsR cs.flatten key br ep ≠ []))]) ∧ Below w.heap.size w w' := by
  obtain ⟨g, hg⟩ : ∃ g, w.heap.size = g := ⟨_, rfl⟩
  have hb4 : Below w.heap.size w ((((w.alloc (sB key)).alloc (inB br)).alloc (inB ep)).alloc (vrB zeroV)) := below_alloc (below_alloc (below_alloc (below_alloc (Below.refl _ _) _) _) _) _
  have ha : ∀ (V : World) (o : Obj) (k : Nat), V.heap.size = k → (V.alloc o).heap[k]? = some o := fun V o k e => by rw [← e]; exact heap_alloc_new V o
  have hk : ∀ {V : World} {k : Nat} {o o1 : Obj}, V.heap[k]? = some o → (V.alloc o1).heap[k]? = some o := fun hv => blk_keep hv (below_alloc (Below.refl _ _) _)
  have k0 : ((((w.alloc (sB key)).alloc (inB br)).alloc (inB ep)).alloc (vrB zeroV)).heap[g]? = some (sB key) := hk (hk (hk (ha _ _ _ hg)))
  have k1 : ((((w.alloc (sB key)).alloc (inB br)).alloc (inB ep)).alloc (vrB zeroV)).heap[g + 1]? = some (inB br) := hk (hk (ha _ _ _ (by simp only [World.size_alloc, hg])))
  have k2 : ((((w.alloc (sB key)).alloc (inB br)).alloc (inB ep)).alloc (vrB zeroV)).heap[g + 1 + 1]? = some (inB ep) := hk (ha _ _ _ (by simp only [World.size_alloc, hg]))
  have k3 : ((((w.alloc (sB key)).alloc (inB br)).alloc (inB ep)).alloc (vrB zeroV)).heap[g + 1 + 1 + 1]? = some (vrB zeroV) := ha _ _ _ (by simp only [World.size_alloc, hg])
  obtain ⟨w4, hw4⟩ : ∃ w4, (((w.alloc (sB key)).alloc (inB br)).alloc (inB ep)).alloc (vrB zeroV) = w4 := ⟨_, rfl⟩
  rw [hw4] at hb4 k0 k1 k2 k3
  have h1 := h.below hb4
  obtain ⟨i0, a1, a2, a3⟩ := h1.place key
  have HS := Aside0.mk (someLast_calls w4 r cs h1.rn h1.may h1.many h1.len key i0 a1 a2 a3 g key k0 (g + 1) (g + 1 + 1) br ep k1 k2)
  rw [pick_of h1.srt h1.ne a1 a2] at HS
  have HE : Aside0 (cs.flatten.filter (fun p => (p.k.toList == key.toList) && (decide (p.br = br) && decide (p.ep ≤ ep))) = lastsR cs.flatten key br ep) := ⟨rfl⟩
  rw [HE.out] at HS
  obtain ⟨L, hL⟩ : ∃ L, lastsR cs.flatten key br ep = L := ⟨_, rfl⟩
  have hLl : L.length ≤ 5000 := by rw [← hL]; exact Nat.le_trans (List.length_filter_le _ _) h1.len
  rw [hL] at HS ⊢
  have HB := Aside0.mk hb4
  have HK3 := Aside0.mk k3
  obtain ⟨c0, f0⟩ := one_cell k0
  have HW4 := Aside0.mk hw4
  clear h hb4 h1 a1 a2 a3 k0 k1 k2 k3 hL ha hk hw4
  go_enter Try.func21, Try.ntmps21
  go_wp2_with fail
  have hS4 := HS.out
  rw [← HW4.out] at hS4
  refine hS4.mono ?_
  rintro e w5 ⟨v, rfl, h1, h2⟩
  rw [HW4.out] at h1 h2
  obtain ⟨n, hn⟩ : ∃ n, L.length = n := ⟨_, rfl⟩
  obtain ⟨A, c, rfl, hc, hC⟩ := OVr_readn h1 n hn
  have hx := blk_keep HK3.out h2
  have HB5 := Aside0.mk (below_step HB.out h2)
  obtain ⟨p0, p1, p2, p3, p4, p5, p6, p7⟩ := vr_cells8 hx
  have HFZ := fun i => vr_frozen hx i
  have HX := Aside0.mk hx
  have HN := Aside0.mk hn
  have HC := Aside0.mk hC
  have hn5 : n ≤ 5000 := by omega
  have hs5 := h2.size
  have HG := Aside0.mk hg
  clear h1 h2 hx hn hC hS4 hLl
  rcases Nat.eq_zero_or_pos n with h0 | h0
  · subst h0
    have HL0 : Aside0 (L = []) := ⟨List.eq_nil_of_length_eq_zero HN.out⟩
    go_wp2_with fail
    rw [set8_eq]
    refine bodyPost_ret (results_cellS rfl _ _ (g + 1 + 1 + 1) zeroV false rfl rfl (set8_heap HX.out zeroV)) rfl ?_
    rw [HL0.out]
    exact ⟨rfl, set8_below HB5.out (by omega) zeroV⟩
  · have j1 : ¬ (n : Int) = 0 := by omega
    have k1 : IntKind.i64.wrap ((n : Int) - 1) = ((n - 1 : Nat) : Int) := by rw [IntWalk.i64_in _ (by omega)]; omega
    have j2 : (0 : Int) ≤ ((n - 1 : Nat) : Int) := by omega
    have j3 : ((n - 1 : Nat) : Int) < (n : Int) := by omega
    obtain ⟨q, hq⟩ : ∃ q, L.getD (n - 1) default = q := ⟨_, rfl⟩
    obtain ⟨ad, rfl, -⟩ := C_atVr HC.out (n - 1) (by omega)
    obtain ⟨z0, z1, z2, z3, z4, z5, z6, z7⟩ := C_atVr' HC.out (n - 1) (by omega) q hq
    have HQ := Aside0.mk hq
    clear hq
    go_wp2_with fail
    rw [set8_eq]
    refine bodyPost_ret (results_cellS rfl _ _ (g + 1 + 1 + 1) ⟨q.k, q.br, q.ep, q.sq, q.f, q.t, q.v, q.g⟩ true rfl rfl (set8_heap HX.out _)) rfl ?_
    have e1 : lastV L = q := by
      rw [← HQ.out]
      unfold lastV
      rw [HN.out, List.getD_eq_getElem?_getD, List.getD_eq_getElem?_getD, List.getElem?_eq_getElem (by rw [HN.out]; omega)]
      rfl
    have e2 : decide (L ≠ []) = true := decide_eq_true (fun e => by have h9 := HN.out; rw [e] at h9; simp at h9; omega)
    rw [e1, e2]
    exact ⟨rfl, set8_below HB5.out (by omega) _⟩
end Go.Proofs.Ytmfnbkghfmeekaa.A
