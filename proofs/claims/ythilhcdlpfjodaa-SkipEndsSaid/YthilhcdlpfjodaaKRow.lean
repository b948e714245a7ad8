/- The keys of a level. -/
import Derived.Test.YthilhcdlpfjodaaKFloor
namespace Go.Proofs.Ythilhcdlpfjodaa.A
open Go.RowKit Go.Proofs.YthilhcdlpfjodaaW.PrintWords Go.Proofs.YthilhcdlpfjodaaW.PrintLast Go.Proofs.YthilhcdlpfjodaaW.PrintMore
set_option linter.unusedVariables false
set_option linter.unusedSimpArgs false

/-- The keys of nodes that have a row. -/
def keysR (l : List Nd) (r : Nat) : List ByteArray := (l.filter fun n => decide (r < n.it.lv)).map fun n => n.it.k
theorem keysR_append (l m : List Nd) (r : Nat) : keysR (l ++ m) r = keysR l r ++ keysR m r := by simp [keysR]
theorem keysR_none {l : List Nd} {r : Nat} (h : ∀ n ∈ l, ¬ r < n.it.lv) : keysR l r = [] := by
  unfold keysR
  rw [List.filter_eq_nil_iff.2 (fun n hn => by simpa using h n hn)]
  rfl
theorem getD_idx (xs : List Nd) (i : Nat) (hi : i < xs.length) : xs.getD i default = xs[i] := by rw [List.getD_eq_getElem?_getD, List.getElem?_eq_getElem hi]; rfl
/-- The next node of a row, and the keys that are left. -/
theorem row_next (xs : List Nd) (r i : Nat) (hi : i < xs.length) :
    (nx xs i r = none ∧ keysR (xs.drop (i + 1)) r = []) ∨ ∃ j, i < j ∧ j < xs.length ∧ nx xs i r = some (xs.getD j default).b ∧ r < (xs.getD j default).it.lv ∧ keysR (xs.drop (i + 1)) r = (xs.getD j default).it.k :: keysR (xs.drop (j + 1)) r := by
  rcases nxt_some xs r _ (i + 1) rfl (by omega) with ⟨h1, h2⟩ | ⟨j, h1, h2, h3, h4, h5⟩
  · refine .inl ⟨h1, keysR_none fun n hn => ?_⟩
    obtain ⟨k, hk, rfl⟩ := List.mem_iff_getElem.1 hn
    rw [List.length_drop] at hk
    rw [List.getElem_drop, ← getD_idx xs (i + 1 + k) (by omega)]
    exact h2 _ (by omega) (by omega)
  · refine .inr ⟨j, by omega, h2, h3, h4, ?_⟩
    have e : xs.drop (i + 1) = (xs.drop (i + 1)).take (j - (i + 1)) ++ (xs.getD j default :: xs.drop (j + 1)) := by
      have e2 : xs.getD j default :: xs.drop (j + 1) = xs.drop j := by rw [List.drop_eq_getElem_cons h2, getD_idx xs j h2]
      rw [e2]
      have e3 : xs.drop j = (xs.drop (i + 1)).drop (j - (i + 1)) := by rw [List.drop_drop, show i + 1 + (j - (i + 1)) = j by omega]
      rw [e3, List.take_append_drop]
    rw [e, keysR_append, keysR_none (l := (xs.drop (i + 1)).take (j - (i + 1))) (fun n hn => ?_), List.nil_append]
    · unfold keysR
      rw [List.filter_cons_of_pos (by simpa using h4)]
      rfl
    · obtain ⟨k, hk, rfl⟩ := List.mem_iff_getElem.1 hn
      rw [List.length_take, List.length_drop] at hk
      rw [List.getElem_take, List.getElem_drop, ← getD_idx xs (i + 1 + k) (by omega)]
      exact h5 _ (by omega) (by omega)
theorem keysR_row (xs : List Nd) (r : Nat) (hr : r < 8) : keysR xs.tail r = rowS (xs.tail.map Nd.it) ((r : Int) + 1) := by
  unfold rowS keysR
  rw [if_pos (by omega), List.filter_map, List.map_map]
  congr 1
  apply List.filter_congr
  intro n _
  simp only [Function.comp]
  exact decide_eq_decide.2 (by omega)
abbrev OStr (w : World) (B : Nat) (v : Value) (l : List ByteArray) : Prop := OR Kd.string 9 w B v l
theorem infoStr : (Try.prog.info? 9).map (fun i => (i.zero, i.size, i.bytes)) = some (some (.string ByteArray.empty), 1, 16) := by kernel_rfl
section
variable {ops : Array Oper} {rest : List Oper} {o : Oper} {a : Act} {Q : Exit → Act → World → Prop} {W : World} {B : Nat}
theorem app_key {s x : Operand} (hgd : o.guard = none) (ho : o.op = .call { callee := .builtin .append, args := #[s, x], argTypes := #[30, 30] }) {v : Value} {xs : List ByteArray} {k : ByteArray}
    (hs : a.eval s = v) (hx : a.eval x = .slice (some ⟨W.heap.size, 0, none⟩) 1 1) (HO : OStr W B v xs) (hB : B ≤ W.heap.size) (hl : xs.length ≤ 1000000)
    (h : ∀ v1 w1, OStr w1 B v1 (xs ++ [k]) → Below B W w1 → W.grownBy w1 v.ownBlock → wpList Try.prog ops Q rest (a.put o.dst v1) w1) : wpList Try.prog ops Q (o :: rest) a (W.alloc (.cells #[.string k] 9)) :=
  app_one Kd.string 30 9 (.string ByteArray.empty) 16 Try.underlying30 infoStr rfl (by decide) (by decide) hgd ho hs hx (fun okp => rfl) HO hB (by omega) h
end
/-- How many nodes are left from a pointer on. -/
def leftB (xs : List Nd) : Value → Nat
  | .pointer (some a) => xs.length - posB xs a.block
  | _ => 0
theorem left_nx {xs : List Nd} (h : (blks xs).Nodup) (r j : Nat) (hj : j < xs.length) : leftB xs (pv (nx xs j r)) < xs.length - j := by
  rcases row_next xs r j hj with ⟨h1, -⟩ | ⟨k, h1, h2, h3, -, -⟩
  · rw [h1]
    show 0 < _
    omega
  · rw [h3]
    show xs.length - posB xs (xs.getD k default).b < _
    rw [posB_at h k h2]
    omega
set_option maxRecDepth 100000 in
set_option maxHeartbeats 2000000 in
theorem row_calls (w : World) (L : Nat) (xs : List Nd) (level : Int) (h : SK w L xs) (hmx : xs.length ≤ 100000) (hl0 : -9223372036854775808 ≤ level) (hl1 : level ≤ 9223372036854775807) :
    Calls Try.prog 10 #[.pointer (some ⟨L, 0, none⟩), .int .i64 level] w fun e w' => ∃ v, e = .returned v ∧ OStr w' w.heap.size v (rowS (xs.tail.map Nd.it) level) ∧ Below w.heap.size w w' := by
  by_cases hb1 : level < 1
  · have e1 : rowS (xs.tail.map Nd.it) level = [] := by unfold rowS; rw [if_neg (by omega)]
    rw [e1]
    clear e1 h
    go_enter Try.func10, Try.ntmps10
    go_wp2
    go_ret
    exact ⟨_, rfl, Kd.R_nil _ _ _ _ _, Below.refl _ _⟩
  by_cases hb8 : 8 < level
  · have e1 : rowS (xs.tail.map Nd.it) level = [] := by unfold rowS; rw [if_neg (by omega)]
    rw [e1]
    clear e1 h
    go_enter Try.func10, Try.ntmps10
    go_wp2
    go_ret
    exact ⟨_, rfl, Kd.R_nil _ _ _ _ _, Below.refl _ _⟩
  obtain ⟨r, hr⟩ : ∃ r : Nat, level = (r : Int) + 1 := ⟨(level - 1).toNat, by omega⟩
  subst hr
  have hr8 : r < 8 := by omega
  have hkr := keysR_row xs r hr8
  rw [← hkr]
  have HS := Aside0.mk h
  have hx0 := h.1.2.1
  have hlv0 : (xs.getD 0 default).it.lv = 8 := by rw [h.2.1]
  obtain ⟨b0, hb0⟩ : ∃ b, (xs.getD 0 default).b = b := ⟨_, rfl⟩
  obtain ⟨nb0, hnb0⟩ : ∃ b, (xs.getD 0 default).nb = b := ⟨_, rfl⟩
  have c0 : w.cell? ⟨L, 0, none⟩ = some (.pointer (some ⟨b0, 0, none⟩)) := by rw [cell_of_row _ _ _ _ _ _ (SL_list h.1), ← hb0]; rfl
  obtain ⟨-, -, n2⟩ := node_cells (SL_node h.1 0 hx0)
  have hrow := node_row (SL_node h.1 0 hx0) r (by rw [hlv0]; exact hr8)
  rw [hb0, hnb0, hlv0] at n2
  rw [hnb0] at hrow
  have j1 : ¬ (r : Int) + 1 < 1 := by omega
  have j2 : ¬ (8 : Int) < (r : Int) + 1 := by omega
  have j3 : (0 : Int) ≤ (r : Int) := by omega
  have j4 : (r : Int) < 8 := by omega
  have j5 : IntKind.i64.wrap (r : Int) = (r : Int) := IntWalk.i64_in _ (by omega)
  obtain ⟨u0, hu0⟩ : ∃ u, pv (nx xs 0 r) = u := ⟨_, rfl⟩
  have hrow' : w.cell? ⟨nb0, r, none⟩ = some u0 := by rw [← hu0]; exact hrow
  have HU := Aside0.mk hu0
  have HT : Aside0 (xs.tail = xs.drop 1) := ⟨by simp⟩
  clear h hkr hb0 hnb0 hrow hu0 hb1 hb8 hlv0
  go_enter Try.func10, Try.ntmps10
  go_wp2_with fail
  clear c0 n2 hrow'
  go_loopw [5, 6] (fun v5 v6 w' => ∃ (i : Nat) (X : List ByteArray), v6 = pv (nx xs i r) ∧ Aside0 (i < xs.length ∧ X.length ≤ i ∧ X ++ keysR (xs.drop (i + 1)) r = keysR xs.tail r) ∧ Aside0 (OStr w' w.heap.size v5 X) ∧ Aside0 (Below w.heap.size w w')) (fun _ v6 _ => leftB xs v6)
  case atStart => exact ⟨0, [], HU.out.symm, ⟨hx0, Nat.le_refl _, by rw [HT.out]; rfl⟩, ⟨Kd.R_nil _ _ _ _ _⟩, ⟨Below.refl _ _⟩⟩
  case round =>
    obtain ⟨i, X, rfl, HI, HO, HB⟩ := hrel
    have HS1 : Aside0 (SK wr L xs) := ⟨SL_below HS.out.1 HB.out, HS.out.2⟩
    have hst := row_next xs r i HI.out.1
    rcases hst with ⟨h1, h2⟩ | ⟨j, h1, h2, h3, h4, h5⟩
    · rw [h1]
      have HX : Aside0 (X = keysR xs.tail r) := ⟨by have h9 := HI.out.2.2; rw [h2, List.append_nil] at h9; exact h9⟩
      have hpn : pv none = .pointer none := rfl
      clear h1 h2 HI
      go_wp2_with fail
      go_ret
      exact ⟨_, rfl, by rw [← HX.out]; exact HO.out, HB.out⟩
    · rw [h3]
      obtain ⟨bj, hbj⟩ : ∃ b, (xs.getD j default).b = b := ⟨_, rfl⟩
      obtain ⟨nbj, hnbj⟩ : ∃ b, (xs.getD j default).nb = b := ⟨_, rfl⟩
      obtain ⟨kj, hkj⟩ : ∃ b, (xs.getD j default).it.k = b := ⟨_, rfl⟩
      obtain ⟨lv, hlv⟩ : ∃ b, (xs.getD j default).it.lv = b := ⟨_, rfl⟩
      have HC : Aside0 (∀ W, SK W L xs → W.cell? ⟨bj, 0, none⟩ = some (.string kj) ∧ W.cell? ⟨bj, 2, none⟩ = some (.slice (some ⟨nbj, 0, none⟩) lv lv) ∧ W.cell? ⟨nbj, r, none⟩ = some (pv (nx xs j r))) := ⟨fun W hW => by
        obtain ⟨m0, -, m2⟩ := node_cells (SL_node hW.1 j h2)
        have m3 := node_row (SL_node hW.1 j h2) r h4
        rw [hbj] at m0 m2
        rw [hkj] at m0
        rw [hnbj, hlv] at m2
        rw [hnbj] at m3
        exact ⟨m0, m2, m3⟩⟩
      rw [hbj]
      rw [hkj] at h5
      rw [hlv] at h4
      have hpp : pv (some bj) = .pointer (some ⟨bj, 0, none⟩) := rfl
      rw [hpp]
      obtain ⟨p0, p2, p3⟩ := HC.out _ HS1.out
      have hpj := posB_at (List.nodup_cons.1 HS1.out.1.2.2.2).2 j h2
      rw [hbj] at hpj
      have HPJ := Aside0.mk hpj
      have HJ := Aside0.mk (show i < j ∧ j < xs.length ∧ X.length ≤ i ∧ (X ++ [kj]) ++ keysR (xs.drop (j + 1)) r = keysR xs.tail r from ⟨h1, h2, HI.out.2.1, by rw [← HI.out.2.2, h5]; simp⟩)
      have j6 : (r : Int) < (lv : Int) := by omega
      obtain ⟨uj, huj⟩ : ∃ u, pv (nx xs j r) = u := ⟨_, rfl⟩
      rw [huj] at HC p3
      have HUJ := Aside0.mk huj
      clear h1 h2 h3 h5 hbj hnbj hkj hlv HI hpj huj
      go_wp2_with ((with_reducible refine gate_dst (N := 40) rfl ?_); refine app_key rfl rfl rfl rfl HO.out HB.out.size (by have := HJ.out; omega) ?_; intro v7 w7 hO7 hb7 _; have HO7 := Aside0.mk hO7; have HB7 := Aside0.mk (HB.out.trans hb7); obtain ⟨q0, q2, q3⟩ := HC.out w7 ⟨SL_below HS.out.1 HB7.out, HS.out.2⟩; clear hO7 hb7)
      go_roundw
      case rel => exact ⟨j, X ++ [kj], HUJ.out.symm, ⟨HJ.out.2.1, by rw [List.length_append]; have := HJ.out; show X.length + 1 ≤ j; omega, HJ.out.2.2.2⟩, HO7, HB7⟩
      case measure =>
        have h9 := left_nx (List.nodup_cons.1 HS.out.1.2.2.2).2 r j HJ.out.2.1
        rw [HUJ.out] at h9
        have h8 : leftB xs (.pointer (some ⟨bj, 0, none⟩)) = xs.length - j := by show xs.length - posB xs bj = _; rw [HPJ.out]
        rw [h8]
        exact h9
end Go.Proofs.Ythilhcdlpfjodaa.A
