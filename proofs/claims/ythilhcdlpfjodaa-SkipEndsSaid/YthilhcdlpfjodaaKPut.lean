/- A key is put, or another thing at one. -/
import Derived.Test.YthilhcdlpfjodaaKDrop
import Derived.BigRegion
namespace Go.Proofs.Ythilhcdlpfjodaa.A
open Go.RowKit Go.Proofs.YthilhcdlpfjodaaW.PrintWords Go.Proofs.YthilhcdlpfjodaaW.PrintLast Go.Proofs.YthilhcdlpfjodaaW.PrintMore
attribute [local go_sem] max2_int min2_int max_two min_two
set_option linter.unusedVariables false
set_option linter.unusedSimpArgs false

theorem putS_no {l : List It} {key : ByteArray} {lv v : Int} (h : isS l key = false) : putS l key lv v = l.take (atS l key) ++ ⟨key, clampL lv, v⟩ :: l.drop (atS l key) := by unfold putS; rw [h]; rfl
theorem putS_yes {l : List It} {key : ByteArray} {lv v : Int} (h : isS l key = true) : putS l key lv v = l.take (atS l key) ++ ⟨key, (l.getD (atS l key) default).lv, v⟩ :: l.drop (atS l key + 1) := by unfold putS; rw [h, if_pos rfl]
theorem tail_in (xs : List Nd) (n : Nd) (p : Nat) (hp : p + 1 ≤ xs.length) : ((xs.take (p + 1) ++ n :: xs.drop (p + 1)).tail).map Nd.it = (xs.tail.map Nd.it).take p ++ n.it :: (xs.tail.map Nd.it).drop p := by
  cases xs with
  | nil => simp at hp
  | cons x xs => simp [List.map_take, List.map_drop]
/-- The list with a node more. -/
theorem SK_in {W : World} {L : Nat} {xs : List Nd} {key : ByteArray} (hS : SK W L xs) {W1 : World} {lv : Nat} {v1 v : Int} (b nb : Nat) (hlv : clampL v1 = lv) (hi : isS (xs.tail.map Nd.it) key = false)
    (h : SL W1 L xs (pF xs (atS (xs.tail.map Nd.it) key + 1) lv b 8) (xs.length : Int)) (hn : NodeAt W1 ⟨⟨key, lv, v⟩, b, nb⟩ (pG xs (atS (xs.tail.map Nd.it) key + 1) lv 8)) (hf1 : b ∉ L :: blks xs) (hf2 : nb ∉ L :: blks xs) (hne : b ≠ nb) :
    ∃ xs', SK W1 L xs' ∧ xs'.tail.map Nd.it = putS (xs.tail.map Nd.it) key v1 v ∧ ∀ k ∈ blks xs', k ∈ blks xs ∨ k = b ∨ k = nb := by
  have hpl := sk_p hS key
  have hd := putS_no (lv := v1) (v := v) hi
  obtain ⟨p, hp⟩ : ∃ p, atS (xs.tail.map Nd.it) key = p := ⟨_, rfl⟩
  rw [hp] at h hn hd hpl
  rw [hlv] at hd
  have hp1 : p + 1 ≤ xs.length := by omega
  have ht := tail_in xs ⟨⟨key, lv, v⟩, b, nb⟩ p hp1
  have hs := srt_put hS.2.2 key v1 v
  rw [hd, ← ht] at hs
  have hSL := SL_in h ⟨⟨key, lv, v⟩, b, nb⟩ _ hn hf1 hf2 hne (p + 1) (by omega) hp1
  have e0 : ((xs.take (p + 1) ++ (⟨⟨key, lv, v⟩, b, nb⟩ : Nd) :: xs.drop (p + 1)).getD 0 default) = xs.getD 0 default := by rw [in_getD xs _ (p + 1) 0 hp1, if_pos (by omega)]
  refine ⟨xs.take (p + 1) ++ ⟨⟨key, lv, v⟩, b, nb⟩ :: xs.drop (p + 1), ⟨?_, by rw [e0]; exact hS.2.1, hs⟩, by rw [ht, hd], fun k hk => ?_⟩
  · rw [in_len xs _ (p + 1) hp1, show (((xs.length + 1 : Nat) : Int) - 1) = (xs.length : Int) by omega]
    refine SL_congr hSL (fun i r hi2 hr => ?_)
    rw [in_len xs _ (p + 1) hp1] at hi2
    have hr8 : r < 8 := by
      rw [in_getD xs _ (p + 1) i hp1] at hr
      have hc := clampL_range v1
      split at hr
      · have := (sk_lv hS i (by omega)).2; omega
      · split at hr
        · simp only at hr; omega
        · have := (sk_lv hS (i - 1) (by omega)).2; omega
    have h9 := pAll_done xs (p + 1) i r ⟨⟨key, lv, v⟩, b, nb⟩ (by omega) hp1 (by rw [lv0 hS]; exact hr8) hr hr8
    rw [← h9]
    unfold pAll
    simp only []
    split
    · rfl
    · split <;> rfl
  · have h9 := (blks_in xs ⟨⟨key, lv, v⟩, b, nb⟩ (p + 1)).subset hk
    simp only [List.mem_cons] at h9
    rcases h9 with h9 | h9 | h9
    · exact .inr (.inl h9)
    · exact .inr (.inr h9)
    · exact .inl h9
/-- The list with another thing at a key. -/
theorem SK_val {W : World} {L : Nat} {xs : List Nd} {key : ByteArray} (hS : SK W L xs) (lv v : Int) (hi : isS (xs.tail.map Nd.it) key = true) :
    ∃ xs', SK (W.setCell ⟨(xs.getD (atS (xs.tail.map Nd.it) key + 1) default).b, 1, none⟩ (.int .i64 v)) L xs' ∧ xs'.tail.map Nd.it = putS (xs.tail.map Nd.it) key lv v ∧ ∀ k ∈ blks xs', k ∈ blks xs := by
  have hlt := (isS_lt hi).1
  have hkk := (isS_lt hi).2
  rw [tail_len] at hlt
  have hd := putS_yes (lv := lv) (v := v) hi
  have hs := srt_put hS.2.2 key lv v
  rw [← tail_at] at hd hkk
  obtain ⟨p, hp⟩ : ∃ p, atS (xs.tail.map Nd.it) key = p := ⟨_, rfl⟩
  rw [hp] at hd hlt hkk ⊢
  have hp1 : p + 1 < xs.length := by omega
  obtain ⟨⟨h1, h2, h3, h4⟩, h5, h6⟩ := hS
  obtain ⟨q, hq⟩ : ∃ q, xs.getD (p + 1) default = q := ⟨_, rfl⟩
  rw [hq] at hd hkk ⊢
  have hg : ∀ i, (xs.set (p + 1) ⟨⟨q.it.k, q.it.lv, v⟩, q.b, q.nb⟩).getD i default = if i = p + 1 then ⟨⟨q.it.k, q.it.lv, v⟩, q.b, q.nb⟩ else xs.getD i default := fun i => by
    rw [List.getD_eq_getElem?_getD, List.getElem?_set]
    by_cases e : p + 1 = i
    · subst e
      rw [if_pos rfl, if_pos rfl, if_pos hp1]
      rfl
    · rw [if_neg e, if_neg (fun h => e h.symm), List.getD_eq_getElem?_getD]
  have hlv : ∀ i, ((xs.set (p + 1) ⟨⟨q.it.k, q.it.lv, v⟩, q.b, q.nb⟩).getD i default).it.lv = (xs.getD i default).it.lv ∧ ((xs.set (p + 1) ⟨⟨q.it.k, q.it.lv, v⟩, q.b, q.nb⟩).getD i default).b = (xs.getD i default).b ∧ ((xs.set (p + 1) ⟨⟨q.it.k, q.it.lv, v⟩, q.b, q.nb⟩).getD i default).nb = (xs.getD i default).nb := fun i => by
    rw [hg i]
    split
    · rename_i e
      rw [e, hq]
      exact ⟨rfl, rfl, rfl⟩
    · exact ⟨rfl, rfl, rfl⟩
  have hb : blks (xs.set (p + 1) ⟨⟨q.it.k, q.it.lv, v⟩, q.b, q.nb⟩) = blks xs := by
    have hm : ∀ l : List Nd, blks l = (l.map fun n => [n.b, n.nb]).flatten := fun l => by unfold blks; rw [List.flatMap_def]
    rw [hm, hm, List.map_set]
    congr 1
    apply List.ext_getElem?
    intro j
    rw [List.getElem?_set]
    split
    · rename_i e
      subst e
      rw [List.length_map, if_pos hp1, List.getElem?_map, List.getElem?_eq_getElem hp1, ← getD_idx xs (p + 1) hp1, hq]
      rfl
    · rfl
  have hnx : ∀ i r, nx (xs.set (p + 1) ⟨⟨q.it.k, q.it.lv, v⟩, q.b, q.nb⟩) i r = nx xs i r := by
    have hn : ∀ (l m : List Nd) (r : Nat), l.map (fun n => (n.it.lv, n.b)) = m.map (fun n => (n.it.lv, n.b)) → nxt l r = nxt m r := by
      intro l
      induction l with
      | nil => intro m r h; cases m with
        | nil => rfl
        | cons a m => simp at h
      | cons a l ih => intro m r h; cases m with
        | nil => simp at h
        | cons c m =>
          simp only [List.map_cons, List.cons.injEq, Prod.mk.injEq] at h
          simp only [nxt]
          rw [h.1.1, h.1.2, ih m r h.2]
    intro i r
    unfold nx
    refine hn _ _ r ?_
    rw [List.map_drop, List.map_drop, List.map_set]
    congr 1
    apply List.ext_getElem?
    intro j
    rw [List.getElem?_set]
    split
    · rename_i e
      subst e
      rw [List.length_map, if_pos hp1, List.getElem?_map, List.getElem?_eq_getElem hp1, ← getD_idx xs (p + 1) hp1, hq]
      rfl
    · rfl
  have hqn : NodeAt W q (nx xs (p + 1)) := by have := h3 (p + 1) hp1; rw [hq] at this; exact this
  have hfar : ∀ k, k ≠ q.b → (W.setCell ⟨q.b, 1, none⟩ (.int .i64 v)).heap[k]? = W.heap[k]? := fun k hk => Below.heap_setCell W _ _ k hk
  have hqm : q.b ∈ blks xs := by rw [← hq]; exact (blks_at hp1).1
  have ht : (xs.set (p + 1) ⟨⟨q.it.k, q.it.lv, v⟩, q.b, q.nb⟩).tail.map Nd.it = putS (xs.tail.map Nd.it) key lv v := by
    rw [hd]
    cases hxs : xs with
    | nil => rw [hxs] at hp1; simp at hp1
    | cons x l =>
      rw [hxs] at hp1
      have hpl : p < l.length := by simpa using hp1
      simp only [List.set_cons_succ, List.tail_cons, List.map_set]
      rw [List.set_eq_take_append_cons_drop, List.length_map, if_pos hpl, hkk]
  refine ⟨xs.set (p + 1) ⟨⟨q.it.k, q.it.lv, v⟩, q.b, q.nb⟩, ⟨⟨?_, by rw [List.length_set]; exact h2, fun i hi => ?_, by rw [hb]; exact h4⟩, ?_, by rw [ht]; exact hs⟩, ht, fun k hk => by rw [← hb]; exact hk⟩
  · rw [(hlv 0).2.1, List.length_set, hfar L (fun e => (List.nodup_cons.1 h4).1 (by rw [e]; exact hqm))]
    exact h1
  · rw [List.length_set] at hi
    have hap := blks_apart (List.nodup_cons.1 h4).2
    have e1 : NodeAt W (xs.getD i default) (nx (xs.set (p + 1) ⟨⟨q.it.k, q.it.lv, v⟩, q.b, q.nb⟩) i) := by
      rw [show nx (xs.set (p + 1) ⟨⟨q.it.k, q.it.lv, v⟩, q.b, q.nb⟩) i = nx xs i from funext fun r => hnx i r]
      exact h3 i hi
    rw [hg i]
    split
    · rename_i e
      subst e
      rw [hq] at e1
      refine ⟨?_, ?_⟩
      · show (W.setCell ⟨q.b, 1, none⟩ (.int .i64 v)).heap[q.b]? = _
        rw [heap_set_row e1.1]
        rfl
      · show (W.setCell ⟨q.b, 1, none⟩ (.int .i64 v)).heap[q.nb]? = _
        rw [hfar _ (fun e => by have := (hap (p + 1) (p + 1) hp1 hp1).1; rw [hq] at this; exact this e.symm)]
        exact e1.2
    · rename_i e
      refine ⟨?_, ?_⟩
      · rw [hfar _ (fun e2 => e ((hap i (p + 1) hi hp1).2.2 (by rw [hq]; exact e2)))]
        exact e1.1
      · rw [hfar _ (fun e2 => by have := (hap (p + 1) i hp1 hi).1; rw [hq] at this; exact this e2.symm)]
        exact e1.2
  · rw [hg 0, if_neg (by omega)]
    exact h5
/-- A round of the loop: both rows are turned. -/
theorem put_step {W : World} {L : Nat} {xs : List Nd} {f : Nat → Nat → Option Nat} {m : Int} {n : Nd} {g : Nat → Option Nat} (h : SL W L xs f m) (hn : NodeAt W n g) (hf1 : n.b ∉ L :: blks xs) (hf2 : n.nb ∉ L :: blks xs) (hne : n.b ≠ n.nb)
    (i r : Nat) (hi : i < xs.length) (hr : r < (xs.getD i default).it.lv) (hrn : r < n.it.lv) (o : Option Nat) :
    SL ((W.setCell ⟨n.nb, r, none⟩ (pv o)).setCell ⟨(xs.getD i default).nb, r, none⟩ (pv (some n.b))) L xs (upd f i r (some n.b)) m ∧ NodeAt ((W.setCell ⟨n.nb, r, none⟩ (pv o)).setCell ⟨(xs.getD i default).nb, r, none⟩ (pv (some n.b))) n (fun r' => if r' = r then o else g r') := by
  have h1 : SL (W.setCell ⟨n.nb, r, none⟩ (pv o)) L xs f m := SL_frm h (Frm.set (Frm.refl [n.nb] W) (by simp) _) (fun k hk e => hf2 (by rw [List.mem_singleton] at e; rw [← e]; exact hk))
  have hmem := (blks_at hi).2
  have hfar : ∀ k, k ≠ (xs.getD i default).nb → ((W.setCell ⟨n.nb, r, none⟩ (pv o)).setCell ⟨(xs.getD i default).nb, r, none⟩ (pv (some n.b))).heap[k]? = (W.setCell ⟨n.nb, r, none⟩ (pv o)).heap[k]? := fun k hk => Below.heap_setCell _ _ _ k hk
  refine ⟨SL_set h1 i r hi hr _, ?_, ?_⟩
  · rw [hfar _ (fun e => hf1 (List.mem_cons_of_mem _ (by rw [e]; exact hmem)))]
    exact (Below.heap_setCell W _ _ _ hne).trans hn.1
  · rw [hfar _ (fun e => hf2 (List.mem_cons_of_mem _ (by rw [e]; exact hmem)))]
    rw [heap_set_row hn.2, row_set _ _ _ _ hrn]
set_option maxRecDepth 100000 in
set_option maxHeartbeats 4000000 in
theorem put_calls (w : World) (L : Nat) (xs : List Nd) (key : ByteArray) (lv v : Int) (h : SK w L xs) (hmx : xs.length ≤ 100000) :
    Calls Try.prog 22 #[.pointer (some ⟨L, 0, none⟩), .string key, .int .i64 lv, .int .i64 v] w fun e w' => e = .returned (.bool (!isS (xs.tail.map Nd.it) key)) ∧ ∃ xs', SK w' L xs' ∧ xs'.tail.map Nd.it = putS (xs.tail.map Nd.it) key lv v ∧ Frm (L :: blks xs) w w' ∧ ∀ k ∈ blks xs', k ∈ blks xs ∨ w.heap.size ≤ k := by
  have hf := find_calls w L xs key h
  have HS := Aside0.mk h
  cases hi : isS (xs.tail.map Nd.it) key with
  | true =>
    have hlt := (isS_lt hi).1
    rw [tail_len] at hlt
    have HV := Aside0.mk (fun W (hW : SK W L xs) => SK_val hW lv v hi)
    obtain ⟨p, hp⟩ : ∃ p, atS (xs.tail.map Nd.it) key = p := ⟨_, rfl⟩
    have e1 : findB xs key = some (xs.getD (p + 1) default).b := by unfold findB; rw [hi, if_pos rfl, hp]
    rw [hp] at HV hlt
    have hmem := (blks_at (show p + 1 < xs.length by omega)).1
    have HC : Aside0 (∀ W, SK W L xs → W.cell? ⟨(xs.getD (p + 1) default).b, 1, none⟩ = some (.int .i64 (xs.getD (p + 1) default).it.v) ∧ W.frozen? ⟨(xs.getD (p + 1) default).b, 1, none⟩ = false) := ⟨fun W hW => ⟨(node_cells (SL_node hW.1 (p + 1) (by omega))).2.1, plain_frozen (SL_node hW.1 (p + 1) (by omega)).1 1⟩⟩
    obtain ⟨b, hb⟩ : ∃ b, (xs.getD (p + 1) default).b = b := ⟨_, rfl⟩
    rw [hb] at hmem HC HV e1
    obtain ⟨v0, hv0⟩ : ∃ b, (xs.getD (p + 1) default).it.v = b := ⟨_, rfl⟩
    rw [hv0] at HC
    rw [e1] at hf
    have hf' : Calls Try.prog 26 #[.pointer (some ⟨L, 0, none⟩), .string key] w fun e w' => e = .returned (.pointer (some ⟨b, 0, none⟩)) ∧ Below w.heap.size w w' := hf
    have HF := Aside0.mk hf'
    have HM := Aside0.mk hmem
    clear hf hf' e1 hi h hlt hmem hp hb hv0
    go_enter Try.func22, Try.ntmps22
    go_wp2_with fail
    (with_reducible refine HF.out.mono ?_)
    rintro e w1 ⟨rfl, hb1⟩
    have HS1 : Aside0 (SK w1 L xs) := ⟨SL_below HS.out.1 hb1, HS.out.2⟩
    have HB1 := Aside0.mk hb1
    obtain ⟨c1, c2⟩ := HC.out _ HS1.out
    clear hb1
    go_wp2_with fail
    go_ret
    obtain ⟨xs', k1, k2, k3⟩ := HV.out _ HS1.out
    exact ⟨rfl, xs', k1, k2, Frm.set (Frm.of_below HB1.out) (List.mem_cons_of_mem _ HM.out) _, fun k hk => .inl (k3 k hk)⟩
  | false =>
    have hpl := sk_p h key
    have e1 : findB xs key = none := by unfold findB; rw [hi]; rfl
    rw [e1] at hf
    have hf' : Calls Try.prog 26 #[.pointer (some ⟨L, 0, none⟩), .string key] w fun e w' => e = .returned (.pointer none) ∧ Below w.heap.size w w' := hf
    have HF := Aside0.mk hf'
    obtain ⟨cs, e8, hix⟩ := ahead_arr xs (atS (xs.tail.map Nd.it) key)
    have HA := Aside0.mk (fun W (hW : SK W L xs) => ahead_calls W L xs key hW)
    rw [e8] at HA
    obtain ⟨n, hn⟩ : ∃ n, clampL lv = n := ⟨_, rfl⟩
    have hcr := clampL_range lv
    rw [hn] at hcr
    have HOut := Aside0.mk (fun (W1 : World) (b nb : Nat) => SK_in (W1 := W1) h b nb (v := v) hn hi)
    obtain ⟨lm, hlm⟩ : ∃ lm : Int, (if lv < 1 then 1 else lv) = lm := ⟨_, rfl⟩
    have hmn : (if 8 < lm then 8 else lm) = (n : Int) := by
      rw [← hn, ← hlm]
      unfold clampL
      split <;> split <;> (try split) <;> omega
    obtain ⟨p, hp⟩ : ∃ p, atS (xs.tail.map Nd.it) key = p := ⟨_, rfl⟩
    rw [hp] at hix HOut hpl
    have HIX := Aside0.mk hix
    have HLA : Aside0 (∀ r, r < 8 → la xs (p + 1) r < p + 1 ∧ r < (xs.getD (la xs (p + 1) r) default).it.lv) := ⟨fun r hr => by
      have h9 := la_spec xs r (by rw [lv0 h]; exact hr) (p + 1) (by omega)
      exact ⟨h9.1, h9.2.1⟩⟩
    have HLEN : Aside0 (p < xs.length) := ⟨by omega⟩
    have hmk := mk_row n hcr.2
    have hn8 := hcr.2
    clear hf hf' e1 e8 hi h hp hix hpl hn hcr
    have HLM := Aside0.mk hlm
    have HMN := Aside0.mk hmn
    go_enter Try.func22, Try.ntmps22
    go_wp2_with fail
    (with_reducible refine HF.out.mono ?_)
    rintro e w1 ⟨rfl, hb1⟩
    have HS1 : Aside0 (SK w1 L xs) := ⟨SL_below HS.out.1 hb1, HS.out.2⟩
    have HB1 := Aside0.mk hb1
    clear hb1
    go_wp2_with fail
    clear hlm hmn hmk HMN HLM
    obtain ⟨W2, hW2⟩ : ∃ W2, (w1.alloc (rowBox n (fun _ => none))).alloc (nodeBox key v w1.heap.size n) = W2 := ⟨_, rfl⟩
    have hb2 : Below w1.heap.size w1 W2 := by rw [← hW2]; exact below_alloc (below_alloc (Below.refl _ _) _) _
    have HS2 : Aside0 (SK W2 L xs) := ⟨SL_below HS1.out.1 hb2, HS1.out.2⟩
    have HN2 : Aside0 (NodeAt W2 ⟨⟨key, n, v⟩, w1.heap.size + 1, w1.heap.size⟩ (fun _ => none)) := ⟨by
      have h1 := heap_alloc_new w1 (rowBox n (fun _ => none))
      have h2 := heap_alloc_new (w1.alloc (rowBox n (fun _ => none))) (nodeBox key v w1.heap.size n)
      rw [World.size_alloc] at h2
      rw [← hW2]
      refine ⟨h2, ?_⟩
      have hbb : Below (w1.alloc (rowBox n (fun _ => none))).heap.size (w1.alloc (rowBox n (fun _ => none))) ((w1.alloc (rowBox n (fun _ => none))).alloc (nodeBox key v w1.heap.size n)) := below_alloc (Below.refl _ _) _
      exact (hbb.block _ (Array.getElem?_eq_some_iff.1 h1).1).trans h1⟩
    have HB2 := Aside0.mk (below_step HB1.out hb2)
    have hg1 : w.heap.size ≤ w1.heap.size := HB1.out.size
    have hfr := SL_lt HS1.out.1
    have HFR : Aside0 (w1.heap.size + 1 ∉ L :: blks xs ∧ w1.heap.size ∉ L :: blks xs) := ⟨fun h9 => by have := hfr _ h9; omega, fun h9 => by have := hfr _ h9; omega⟩
    simp only [hW2]
    (with_reducible refine (HA.out W2 HS2.out).mono ?_)
    rintro e w3 ⟨rfl, hb3⟩
    obtain ⟨g, hg⟩ : ∃ g, w1.heap.size = g := ⟨_, rfl⟩
    rw [hg] at HN2 HFR hg1
    have keep3 : ∀ {k : Nat} {o : Obj}, W2.heap[k]? = some o → w3.heap[k]? = some o := fun hk => (hb3.block _ (Array.getElem?_eq_some_iff.1 hk).1).trans hk
    have HN3 : Aside0 (NodeAt w3 ⟨⟨key, n, v⟩, g + 1, g⟩ (fun _ => none)) := ⟨⟨keep3 HN2.out.1, keep3 HN2.out.2⟩⟩
    have HS3 : Aside0 (SK w3 L xs) := ⟨SL_below HS2.out.1 hb3, HS2.out.2⟩
    have HB3 := Aside0.mk (below_step HB2.out hb3)
    clear hb2 hb3 hfr HN2 HS2 HS1 HB1 HB2 keep3
    simp only [hg]
    clear hg hW2
    go_wp2_with fail
    go_loopw [11, 12, 34] (fun v11 v12 v34 w' => ∃ (r : Nat), v34 = .int .i64 r ∧ r ≤ 8 ∧ Aside0 (SL w' L xs (pF xs (p + 1) n (g + 1) r) ((xs.length : Int) - 1) ∧ NodeAt w' ⟨⟨key, n, v⟩, g + 1, g⟩ (pG xs (p + 1) n r) ∧ Frm ((g + 1) :: g :: L :: blks xs) w w')) (fun _ _ v34 _ => 8 - (intOf v34).toNat)
    case atStart =>
      refine ⟨0, rfl, by omega, ⟨SL_congr HS3.out.1 (fun i r _ _ => (pF_zero xs (p + 1) n (g + 1) i r).symm), ?_, Frm.of_below HB3.out⟩⟩
      have e9 : pG xs (p + 1) n 0 = fun _ => none := funext fun r => by unfold pG; rw [if_neg (by omega)]
      rw [e9]
      exact HN3.out
    case round =>
      obtain ⟨r, rfl, hr8, HI2⟩ := hrel
      by_cases hrr : r < 8
      · have hx : ∀ W : World, (Instr.index 62 (.agg cs) (.int .i64 (r : Int))).run Try.prog W = .ok (.pointer (some ⟨(xs.getD (la xs (p + 1) r) default).b, 0, none⟩)) W := fun W => HIX.out r W hrr
        obtain ⟨la1, la2⟩ := HLA.out r hrr
        by_cases hq : r < n
        · have hbd : Below wr.heap.size wr wr.drew := below_drew1 (Below.refl _ _)
          have hd : Aside0 (SL wr.drew L xs (pF xs (p + 1) n (g + 1) r) ((xs.length : Int) - 1) ∧ NodeAt wr.drew ⟨⟨key, n, v⟩, g + 1, g⟩ (pG xs (p + 1) n r) ∧ Frm ((g + 1) :: g :: L :: blks xs) w wr.drew) := ⟨SL_below HI2.out.1 hbd, ⟨(hbd.block _ (Array.getElem?_eq_some_iff.1 HI2.out.2.1.1).1).trans HI2.out.2.1.1, (hbd.block _ (Array.getElem?_eq_some_iff.1 HI2.out.2.1.2).1).trans HI2.out.2.1.2⟩, HI2.out.2.2.trans (Frm.of_below hbd)⟩
          have hmem := (blks_at (show la xs (p + 1) r < xs.length by have := HLEN.out; omega)).2
          obtain ⟨c1, c2, c3⟩ := SL_cells hd.out.1 (la xs (p + 1) r) (by have := HLEN.out; omega)
          have c4 := c2 r la2
          have c5 := c3 r
          obtain ⟨-, -, n1⟩ := node_cells hd.out.2.1
          have n2 := node_row hd.out.2.1 r hq
          have n3 := plain_frozen hd.out.2.1.2 r
          have e9 : pF xs (p + 1) n (g + 1) r (la xs (p + 1) r) r = nx xs (la xs (p + 1) r) r := by unfold pF; rw [if_neg (by omega)]
          rw [e9] at c4
          obtain ⟨s1, s2⟩ := put_step hd.out.1 hd.out.2.1 HFR.out.1 HFR.out.2 (by simp) (la xs (p + 1) r) r (by have := HLEN.out; omega) la2 hq (nx xs (la xs (p + 1) r) r)
          have s3 : Frm ((g + 1) :: g :: L :: blks xs) w ((wr.drew.setCell ⟨g, r, none⟩ (pv (nx xs (la xs (p + 1) r) r))).setCell ⟨(xs.getD (la xs (p + 1) r) default).nb, r, none⟩ (pv (some (g + 1)))) := Frm.set (Frm.set hd.out.2.2 (List.mem_cons_of_mem _ List.mem_cons_self) _) (List.mem_cons_of_mem _ (List.mem_cons_of_mem _ (List.mem_cons_of_mem _ hmem))) _
          have s1' := SL_congr s1 (g := pF xs (p + 1) n (g + 1) (r + 1)) (fun i r' _ _ => pF_yes xs (p + 1) n (g + 1) r i r' hq)
          have e10 : (fun r' => if r' = r then nx xs (la xs (p + 1) r) r else pG xs (p + 1) n r r') = pG xs (p + 1) n (r + 1) := funext fun r' => pG_yes xs (p + 1) n r r' hq
          rw [e10] at s2
          have hne : g ≠ (xs.getD (la xs (p + 1) r) default).nb := fun e => HFR.out.2 (List.mem_cons_of_mem _ (by rw [e]; exact hmem))
          have HST := Aside0.mk (show _ ∧ _ ∧ _ from ⟨s1', s2, s3⟩)
          simp only at n1 n2 n3
          obtain ⟨ba, hba⟩ : ∃ b, (xs.getD (la xs (p + 1) r) default).b = b := ⟨_, rfl⟩
          obtain ⟨nba, hnba⟩ : ∃ b, (xs.getD (la xs (p + 1) r) default).nb = b := ⟨_, rfl⟩
          obtain ⟨lva, hlva⟩ : ∃ b, (xs.getD (la xs (p + 1) r) default).it.lv = b := ⟨_, rfl⟩
          obtain ⟨u, hu⟩ : ∃ u, pv (nx xs (la xs (p + 1) r) r) = .pointer u := ⟨_, rfl⟩
          obtain ⟨u4, hu4⟩ : ∃ u, pv (pG xs (p + 1) n r r) = .pointer u := ⟨_, rfl⟩
          have hpb : pv (some (g + 1)) = .pointer (some ⟨g + 1, 0, none⟩) := rfl
          rw [hu, hnba, hpb] at HST
          rw [hba, hnba, hlva] at c1
          rw [hu, hnba] at c4
          rw [hnba] at c5 hne
          rw [hu4] at n2
          rw [hba] at hx
          rw [hlva] at la2
          have j1 : (0 : Int) ≤ (r : Int) := by omega
          have j2 : (r : Int) < (n : Int) := by omega
          have j3 : (r : Int) < (lva : Int) := by omega
          have j4 : (r : Int) < 8 := by omega
          have d4 : (wr.drew.setCell ⟨g, r, none⟩ (.pointer u)).cell? ⟨nba, r, none⟩ = some (.pointer u) := by
            rw [World.cell?_setCell_far _ _ _ _ hne]
            exact c4
          have d5 : (wr.drew.setCell ⟨g, r, none⟩ (.pointer u)).frozen? ⟨nba, r, none⟩ = false := by
            rw [World.frozen?_setCell]
            exact c5
          have HI3 := HI2.out.1
          have hd2 := Aside0.mk hd
          have c4w : wr.cell? ⟨nba, r, none⟩ = some (.pointer u) := by rw [← c4]; rfl
          have c5w : wr.frozen? ⟨nba, r, none⟩ = false := c5
          clear HI3
          clear s1 s2 s3 s1' hd hba hnba hlva hu hu4 la1 hmem HI2 c2 c3 e9 e10 hpb hbd
          go_wp2_with fail
          go_region
          go_wp2_with fail
          go_roundw
          case rel => exact ⟨r + 1, by push_cast; rfl, by omega, HST⟩
          case measure => simp [intOf]; omega
        · have hst : SL wr L xs (pF xs (p + 1) n (g + 1) (r + 1)) ((xs.length : Int) - 1) ∧ NodeAt wr ⟨⟨key, n, v⟩, g + 1, g⟩ (pG xs (p + 1) n (r + 1)) ∧ Frm ((g + 1) :: g :: L :: blks xs) w wr := by
            refine ⟨SL_congr HI2.out.1 (fun i r' _ _ => (pF_no xs (p + 1) n (g + 1) r i r' hq).symm), ?_, HI2.out.2.2⟩
            rw [show pG xs (p + 1) n (r + 1) = pG xs (p + 1) n r from funext fun r' => pG_no xs (p + 1) n r r' hq]
            exact HI2.out.2.1
          have HST := Aside0.mk hst
          have j1 : (0 : Int) ≤ (r : Int) := by omega
          have j2 : ¬ (r : Int) < (n : Int) := by omega
          have j4 : (r : Int) < 8 := by omega
          clear hst HI2 la1 la2
          go_wp2_with fail
          go_roundw
          case rel => exact ⟨r + 1, by push_cast; rfl, by omega, HST⟩
          case measure => simp [intOf]; omega
      · obtain rfl : r = 8 := by omega
        obtain ⟨w4, hw4⟩ : ∃ w4, wr.setCell ⟨L, 1, none⟩ (.int .i64 (xs.length : Int)) = w4 := ⟨_, rfl⟩
        have hs4 := SL_many HI2.out.1 (xs.length : Int)
        have hf4 := Frm.set (b := L) (o := 1) HI2.out.2.2 (by simp) (.int .i64 (xs.length : Int))
        have c1 : wr.cell? ⟨L, 1, none⟩ = some (.int .i64 ((xs.length : Int) - 1)) := by rw [cell_of_row _ _ _ _ _ _ (SL_list HI2.out.1)]; rfl
        have c2 := plain_frozen (SL_list HI2.out.1) 1
        have hL1 : g + 1 ≠ L := fun e => HFR.out.1 (by rw [e]; exact List.mem_cons_self)
        have hL2 : g ≠ L := fun e => HFR.out.2 (by rw [e]; exact List.mem_cons_self)
        have hn4 : NodeAt (wr.setCell ⟨L, 1, none⟩ (.int .i64 (xs.length : Int))) ⟨⟨key, n, v⟩, g + 1, g⟩ (pG xs (p + 1) n 8) := ⟨(Below.heap_setCell wr _ _ _ hL1).trans HI2.out.2.1.1, (Below.heap_setCell wr _ _ _ hL2).trans HI2.out.2.1.2⟩
        rw [hw4] at hs4 hf4 hn4
        have HS4 := Aside0.mk (show SL w4 L xs _ _ ∧ NodeAt w4 _ _ ∧ Frm _ w w4 from ⟨hs4, hn4, hf4⟩)
        clear hs4 hf4 hn4 HI2 hL1 hL2
        go_wp2_with fail
        go_ret
        obtain ⟨xs', k1, k2, k3⟩ := HOut.out _ _ _ HS4.out.1 HS4.out.2.1 HFR.out.1 HFR.out.2 (by simp)
        refine ⟨rfl, xs', k1, k2, HS4.out.2.2.mono (fun k hk hlt => ?_), fun k hk => ?_⟩
        · simp only [List.mem_cons] at hk ⊢
          rcases hk with rfl | rfl | hk
          · omega
          · omega
          · exact hk
        · rcases k3 k hk with h9 | h9 | h9
          · exact .inl h9
          · exact .inr (by omega)
          · exact .inr (by omega)
end Go.Proofs.Ythilhcdlpfjodaa.A
