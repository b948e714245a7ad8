/- The keys from one on, one by one: the iterator's contract. -/
import Derived.Test.YthilhcdlpfjodaaKPut
import Derived.Test.YthilhcdlpfjodaaIRange
import Derived.Shelf.RegionOpen
import Derived.OwnWalkIn
import Derived.TacticsInMore
import Derived.LoopNIn
import Derived.LoopIn
import Derived.Stop.RegionWithIn
namespace Go.Proofs.Ythilhcdlpfjodaa.A
open Go Go.RowKit Go.Shelf Go.Proofs.YthilhcdlpfjodaaW.PrintWords Go.Proofs.YthilhcdlpfjodaaW.PrintLast Go.Proofs.YthilhcdlpfjodaaW.PrintMore
attribute [local go_sem] Oper.semAt_some wide_fn wide_depth
set_option linter.unusedVariables false
set_option linter.unusedSimpArgs false

abbrev lpB (L : Nat) : Obj := .cells #[.pointer (some ⟨L, 0, none⟩)] 23
abbrev stB (s : ByteArray) : Obj := .cells #[.string s] 9
/-- From returns its iterator. -/
theorem from_calls (w : World) (L : Nat) (key : ByteArray) :
    Calls Try.prog 19 #[.pointer (some ⟨L, 0, none⟩), .string key] w fun e w' => e = .returned (.func (.func 29) #[] #[.pointer (some ⟨w.heap.size, 0, none⟩), .pointer (some ⟨w.heap.size + 1, 0, none⟩)]) ∧ (w.alloc (lpB L)).alloc (stB key) = w' := by
  go_enter Try.func19, Try.ntmps19
  go_wp2_with fail
  go_ret
  exact ⟨rfl, rfl⟩
theorem SL_keepB {W W1 : World} {L : Nat} {xs : List Nd} {f : Nat → Nat → Option Nat} {m : Int} (h : SL W L xs f m) (hk : ∀ k ∈ L :: blks xs, W1.heap[k]? = W.heap[k]?) : SL W1 L xs f m := by
  obtain ⟨h1, h2, h3, h4⟩ := h
  exact ⟨(hk _ List.mem_cons_self).trans h1, h2, fun i hi => ⟨(hk _ (List.mem_cons_of_mem _ (blks_at hi).1)).trans (h3 i hi).1, (hk _ (List.mem_cons_of_mem _ (blks_at hi).2)).trans (h3 i hi).2⟩, h4⟩
/-- What a round of the body keeps. -/
def KpF (S : List Nat) (A B : World) : Prop := A.heap.size ≤ B.heap.size ∧ ∀ k ∈ S, B.heap[k]? = A.heap[k]?
theorem KpF.trans {S : List Nat} {A B C : World} (h : KpF S A B) (k : KpF S B C) : KpF S A C := ⟨Nat.le_trans h.1 k.1, fun i hi => (k.2 i hi).trans (h.2 i hi)⟩
theorem KpF.of_below {S : List Nat} {A B : World} (h : Below A.heap.size A B) (hs : ∀ k ∈ S, k < A.heap.size) : KpF S A B := ⟨h.size, fun k hk => h.block k (hs k hk)⟩
/-- What is handed out. -/
def OkF (ll : List It) (pre : List It) (x : It) (_ : World) : Prop := (pre ++ [x]) <+: ll
theorem drop_it (l : List It) (j : Nat) (hj : j < l.length) : l.drop j = l.getD j default :: l.drop (j + 1) := by
  rw [List.drop_eq_getElem_cons hj, List.getD_eq_getElem?_getD, List.getElem?_eq_getElem hj]
  rfl
theorem two_one {e : Ending} {A B : Prop} (h : (e = .returned (.bool true) ∧ A) ∨ (e = .returned (.bool false) ∧ B)) : ∃ b, e = .returned (.bool b) ∧ (b = true → A) ∧ (b = false → B) := by
  rcases h with ⟨h1, h2⟩ | ⟨h1, h2⟩
  · exact ⟨true, h1, fun _ => h2, fun e => by cases e⟩
  · exact ⟨false, h1, fun e => (by cases e), fun _ => h2⟩
def pos (xs : List Nd) (j : Nat) : Option Nat := if j + 1 < xs.length then some (xs.getD (j + 1) default).b else none
set_option maxRecDepth 100000 in
set_option maxHeartbeats 4000000 in
theorem from_itr (w : World) (g L : Nat) (xs : List Nd) (key : ByteArray) (h : SK w L xs) (hg1 : w.heap[g]? = some (lpB L)) (hg2 : w.heap[g + 1]? = some (stB key)) :
    Itr Try.prog 29 #[.pointer (some ⟨g, 0, none⟩), .pointer (some ⟨g + 1, 0, none⟩)] (fun x : It => #[.string x.k, .int .i64 x.v]) (fun X Y => Below X.heap.size X Y) (KpF (g :: (g + 1) :: L :: blks xs)) (OkF (fromS (xs.tail.map Nd.it) key)) (fun l => l = fromS (xs.tail.map Nd.it) key) (fun pre => pre <+: fromS (xs.tail.map Nd.it) key) w := by
  intro lp J Jx W hKp hsz hJ hJx hY h0
  have HSW : Aside0 (SK W L xs) := ⟨SL_keepB h.1 (fun k hk => hKp.2 k (List.mem_cons_of_mem _ (List.mem_cons_of_mem _ hk))), h.2⟩
  have hx1 := (hKp.2 g List.mem_cons_self).trans hg1
  have hx2 := (hKp.2 (g + 1) (by simp)).trans hg2
  have HJ := Aside0.mk hJ
  have HJx := Aside0.mk hJx
  have HY := Aside0.mk hY
  have H0 := Aside0.mk h0
  have hp := sk_p h key
  obtain ⟨d1, d2, d3, d4, d5, d6, d7, e8⟩ := ahead_form xs (atS (xs.tail.map Nd.it) key)
  rw [la0 h _ hp] at e8
  have HA := Aside0.mk (fun W (hW : SK W L xs) => (callsIn_wide (n := 0)).2 (ahead_calls W L xs key hW))
  rw [e8] at HA
  have hf : fromS (xs.tail.map Nd.it) key = (xs.tail.map Nd.it).drop (atS (xs.tail.map Nd.it) key) := rfl
  have HLV := Aside0.mk (fun i hi => (sk_lv h i hi).1)
  have HNX : Aside0 (∀ j, nx xs j 0 = pos xs j) := ⟨fun j => nx0 h j⟩
  obtain ⟨p, hpp⟩ : ∃ p, atS (xs.tail.map Nd.it) key = p := ⟨_, rfl⟩
  rw [hpp] at hf hp
  have HF := Aside0.mk hf
  obtain ⟨b, hb⟩ : ∃ b, (xs.getD (atS (xs.tail.map Nd.it) key) default).b = b := ⟨_, rfl⟩
  rw [hb] at HA
  rw [hpp] at hb
  have HB := Aside0.mk hb
  have HP := Aside0.mk hp
  obtain ⟨cx1, cf1⟩ := one_cell hx1
  obtain ⟨cx2, cf2⟩ := one_cell hx2
  have HGX := Aside0.mk (show W.heap[g]? = some (lpB L) ∧ W.heap[g + 1]? = some (stB key) from ⟨hx1, hx2⟩)
  have hix : ∀ W : World, (Instr.index 62 (.agg #[.pointer (some ⟨b, 0, none⟩), .pointer (some ⟨d1, 0, none⟩), .pointer (some ⟨d2, 0, none⟩), .pointer (some ⟨d3, 0, none⟩), .pointer (some ⟨d4, 0, none⟩), .pointer (some ⟨d5, 0, none⟩), .pointer (some ⟨d6, 0, none⟩), .pointer (some ⟨d7, 0, none⟩)]) (.int .i64 0)).run Try.prog W = .ok (.pointer (some ⟨b, 0, none⟩)) W := fun W => idx_arr _ 0 (by omega) rfl W
  clear hJ hJx hY h0 hKp hg1 hg2 hx1 hx2 e8 hf hp hpp hb h
  refine callsIn_of_wp Try.func29 rfl trivial ?_ rfl
  simp only [Try.ntmps29, List.size_toArray, List.length_cons, List.length_nil, Nat.reduceAdd, Nat.reduceSub, Array.replicate_succ, Array.replicate_zero, List.push_toArray, List.append_toArray, List.nil_append, List.cons_append]
  gi_wp2_with fail
  (with_reducible refine (HA.out W HSW.out).mono ?_)
  rintro e w1 ⟨rfl, hb1⟩
  have HS1 : Aside0 (SK w1 L xs) := ⟨SL_below HSW.out.1 hb1, HSW.out.2⟩
  have HB1 := Aside0.mk hb1
  have n2 := (node_cells (SL_node HS1.out.1 p HP.out)).2.2
  have n3 := node_row (SL_node HS1.out.1 p HP.out) 0 (by have := HLV.out p HP.out; omega)
  have hl := HLV.out p HP.out
  rw [HB.out] at n2
  have j1 : (0 : Int) < ((xs.getD p default).it.lv : Int) := by omega
  clear hb1
  have hst : ∃ u, pv (nx xs p 0) = u := ⟨_, rfl⟩
  obtain ⟨u0, hu0⟩ := hst
  rw [hu0] at n3
  have HU : Aside0 (u0 = pv (pos xs p)) := ⟨by rw [← hu0, HNX.out]⟩
  obtain ⟨nb, hnb⟩ : ∃ nb, (xs.getD p default).nb = nb := ⟨_, rfl⟩
  obtain ⟨lv, hlv⟩ : ∃ lv, (xs.getD p default).it.lv = lv := ⟨_, rfl⟩
  rw [hlv] at j1
  rw [hnb, hlv] at n2
  rw [hnb] at n3
  clear hnb hlv hl hu0
  gi_wp2
  gi_loopw [4] (fun v4 wr => ∃ (pre : List It) (j : Nat), v4 = pv (pos xs j) ∧ Aside0 (pre ++ (xs.tail.map Nd.it).drop j = fromS (xs.tail.map Nd.it) key ∧ j < xs.length ∧ SK wr L xs ∧ wr.heap[g]? = some (lpB L) ∧ wr.heap[g + 1]? = some (stB key) ∧ J pre wr)) (fun v4 _ => leftB xs v4)
  case atStart => exact ⟨[], p, HU.out, ⟨by rw [List.nil_append]; exact HF.out.symm, HP.out, HS1.out, blk_keep HGX.out.1 HB1.out, blk_keep HGX.out.2 HB1.out, HJ.out _ _ _ H0.out HB1.out⟩⟩
  case round =>
    obtain ⟨pre, j, rfl, HI⟩ := hrel
    by_cases hlt : j + 1 < xs.length
    · have e1 : pv (pos xs j) = .pointer (some ⟨(xs.getD (j + 1) default).b, 0, none⟩) := by unfold pos; rw [if_pos hlt]; rfl
      rw [e1]
      have hbd : Below wr.heap.size wr wr.drew := below_drew1 (Below.refl _ _)
      have HD : Aside0 (SK wr.drew L xs ∧ wr.drew.heap[g]? = some (lpB L) ∧ wr.drew.heap[g + 1]? = some (stB key) ∧ J pre wr.drew) := ⟨⟨SL_below HI.out.2.2.1.1 hbd, HI.out.2.2.1.2⟩, blk_keep HI.out.2.2.2.1 hbd, blk_keep HI.out.2.2.2.2.1 hbd, HJ.out _ _ _ HI.out.2.2.2.2.2 hbd⟩
      have hdr := drop_it (xs.tail.map Nd.it) j (by rw [tail_len]; omega)
      rw [← tail_at] at hdr
      have HE : Aside0 ((pre ++ [(xs.getD (j + 1) default).it]) ++ (xs.tail.map Nd.it).drop (j + 1) = fromS (xs.tail.map Nd.it) key) := ⟨by rw [← HI.out.1, hdr]; simp⟩
      have hy0 := HY.out pre (xs.getD (j + 1) default).it wr.drew HD.out.2.2.2 ⟨_, HE.out⟩
      obtain ⟨m0, m1, m2⟩ := node_cells (SL_node HD.out.1.1 (j + 1) hlt)
      have HC : Aside0 (∀ W, SK W L xs → W.cell? ⟨(xs.getD (j + 1) default).b, 2, none⟩ = some (.slice (some ⟨(xs.getD (j + 1) default).nb, 0, none⟩) (xs.getD (j + 1) default).it.lv (xs.getD (j + 1) default).it.lv) ∧ W.cell? ⟨(xs.getD (j + 1) default).nb, 0, none⟩ = some (pv (pos xs (j + 1)))) := ⟨fun W hW => ⟨(node_cells (SL_node hW.1 (j + 1) hlt)).2.2, by rw [← HNX.out]; exact node_row (SL_node hW.1 (j + 1) hlt) 0 (by have := HLV.out _ hlt; omega)⟩⟩
      have HPB := Aside0.mk (posB_at (List.nodup_cons.1 HD.out.1.1.2.2.2).2 (j + 1) hlt)
      have HND := Aside0.mk (List.nodup_cons.1 HD.out.1.1.2.2.2).2
      have hlv1 := HLV.out _ hlt
      obtain ⟨bj, hbj⟩ : ∃ b, (xs.getD (j + 1) default).b = b := ⟨_, rfl⟩
      obtain ⟨nbj, hnbj⟩ : ∃ b, (xs.getD (j + 1) default).nb = b := ⟨_, rfl⟩
      obtain ⟨x, hx⟩ : ∃ x, (xs.getD (j + 1) default).it = x := ⟨_, rfl⟩
      rw [hbj] at HC HPB m0 m1 m2
      rw [hnbj, hx] at HC
      rw [hnbj, hx] at m2
      rw [hx] at m0 m1 HE hy0 hlv1
      rw [hbj]
      have HX := Aside0.mk hx
      have j2 : (0 : Int) < (x.lv : Int) := by omega
      obtain ⟨fn, tmps, assign, body, hy, hR⟩ := hy0
      have HRD := Aside0.mk hR
      clear hR hx hbj hnbj hdr e1 hbd n2 n3 j1 cx1 cf1 cx2 cf2 m2
      gi_wp2
      gi_region_with ((with_reducible refine HRD.out.mono ?_); intro e W3 hq; obtain ⟨bo, rfl, hT, hFl⟩ := two_one hq; have HT := Aside0.mk hT; have HFl := Aside0.mk hFl; clear hT hFl hq)
      all_goals
        clear hy m0 m1
        cases bo with
        | true =>
          obtain ⟨hJ3, hk3⟩ := HT.out rfl
          have HS3 : Aside0 (SK W3 L xs ∧ W3.heap[g]? = some (lpB L) ∧ W3.heap[g + 1]? = some (stB key) ∧ J (pre ++ [x]) W3) := ⟨⟨SL_keepB HD.out.1.1 (fun k hk => hk3.2 k (List.mem_cons_of_mem _ (List.mem_cons_of_mem _ hk))), HD.out.1.2⟩, (hk3.2 g List.mem_cons_self).trans HD.out.2.1, (hk3.2 (g + 1) (by simp)).trans HD.out.2.2.1, hJ3⟩
          obtain ⟨m2, m3⟩ := HC.out _ HS3.out.1
          obtain ⟨u3, hu3⟩ : ∃ u, pv (pos xs (j + 1)) = u := ⟨_, rfl⟩
          rw [hu3] at m3
          have HU3 := Aside0.mk hu3
          clear hJ3 hk3 hu3
          gi_wp2
          go_roundw
          case rel => exact ⟨pre ++ [x], j + 1, HU3.out.symm, ⟨HE.out, hlt, HS3.out.1, HS3.out.2.1, HS3.out.2.2.1, HS3.out.2.2.2⟩⟩
          case measure =>
            have h8 := left_nx HND.out 0 (j + 1) hlt
            rw [HNX.out, HU3.out] at h8
            show leftB xs u3 < xs.length - posB xs bj
            rw [HPB.out]
            exact h8
        | false =>
          have HF3 := Aside0.mk (HFl.out rfl)
          gi_wp2
          refine bodyPost_ret (results_none rfl _ _ _) rfl ?_
          have h9 : (pre ++ [x]) <+: fromS (xs.tail.map Nd.it) key := ⟨_, HE.out⟩
          rw [List.map_tail] at h9
          exact ⟨⟨_, rfl⟩, .inr ⟨pre ++ [x], h9, HF3.out⟩⟩
    · have e1 : pv (pos xs j) = .pointer none := by unfold pos; rw [if_neg hlt]; rfl
      have HE : Aside0 (pre = fromS (xs.tail.map Nd.it) key) := ⟨by have h9 := HI.out.1; rw [List.drop_of_length_le (by rw [tail_len]; omega), List.append_nil] at h9; exact h9⟩
      rw [e1]
      gi_wp2
      go_end0
      exact ⟨⟨_, rfl⟩, .inl ⟨pre, HE.out, HI.out.2.2.2.2.2⟩⟩
end Go.Proofs.Ythilhcdlpfjodaa.A
