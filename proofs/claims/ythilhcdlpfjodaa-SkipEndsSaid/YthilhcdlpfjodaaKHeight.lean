/- Are texts the same; the highest level. -/
import Derived.Test.YthilhcdlpfjodaaKDoc
namespace Go.Proofs.Ythilhcdlpfjodaa.A
open Go.RowKit Go.Proofs.YthilhcdlpfjodaaW.PrintWords Go.Proofs.YthilhcdlpfjodaaW.PrintLast Go.Proofs.YthilhcdlpfjodaaW.PrintMore
set_option linter.unusedVariables false
set_option linter.unusedSimpArgs false

theorem C_atStr {A : Option Addr} {n : Nat} {l : List ByteArray} {w : World} (h : Kd.string.C w A n l) (i : Nat) (hi : i < n) : ∃ ad, A = some ad ∧ w.cell? (ad.add i) = some (.string (l.getD i ByteArray.empty)) := by
  have hn := h.1
  subst hn
  obtain ⟨ad, e, hc⟩ := h.2.2 (by omega)
  obtain ⟨c, h1, h2, h3⟩ := hc i _ (List.getElem?_eq_getElem hi)
  have h2' : c = [Value.string l[i]] := h2
  subst h2'
  refine ⟨ad, e, ?_⟩
  have := h3 0 _ rfl
  simpa [Kd.string, Kd.scalar, List.getD_eq_getElem?_getD, hi] using this
theorem OStr_readn {w : World} {B : Nat} {v : Value} {l : List ByteArray} (h : OStr w B v l) (n : Nat) (hn : l.length = n) : ∃ A c, v = .slice A n c ∧ n ≤ c ∧ Kd.string.C w A n l := by
  subst hn
  exact Kd.R_reads h
set_option maxHeartbeats 2000000 in
theorem same_calls (A A2 : Option Addr) (n c n2 c2 : Nat) (X Y : List ByteArray) (w : World) (h1 : Kd.string.C w A n X) (h2 : Kd.string.C w A2 n2 Y) (hc : n ≤ c) (hc2 : n2 ≤ c2) (hn : n ≤ 100000) (hn2 : n2 ≤ 100000) :
    Calls Try.prog 15 #[.slice A n c, .slice A2 n2 c2] w fun e w' => e = .returned (.bool (decide (X = Y))) ∧ Below w.heap.size w w' := by
  have H1 := Aside0.mk h1
  have H2 := Aside0.mk h2
  have N1 := Aside0.mk h1.1
  have N2 := Aside0.mk h2.1
  clear h1 h2
  by_cases hne : n = n2
  · subst hne
    go_enter Try.func15, Try.ntmps15
    go_wp2_with fail
    go_loopw [5] (fun v5 w' => ∃ (i : Nat), i ≤ n ∧ v5 = .int .i64 i ∧ Aside0 (X.take i = Y.take i) ∧ Aside0 (Below w.heap.size w w')) (fun v5 _ => n - (intOf v5).toNat)
    case atStart => exact ⟨0, Nat.zero_le _, rfl, ⟨rfl⟩, ⟨Below.refl _ _⟩⟩
    case round =>
      obtain ⟨i, hin, rfl, HE, HB⟩ := hrel
      by_cases hlt : i < n
      · have HBD := Aside0.mk (below_drew1 HB.out)
        obtain ⟨ad, rfl, q0⟩ := C_atStr H1.out i hlt
        obtain ⟨ad2, rfl, q2⟩ := C_atStr H2.out i hlt
        have p0 := pw_cell_below HBD.out q0
        have p2 := pw_cell_below HBD.out q2
        obtain ⟨x, hx⟩ : ∃ x, X.getD i ByteArray.empty = x := ⟨_, rfl⟩
        obtain ⟨y, hy⟩ : ∃ x, Y.getD i ByteArray.empty = x := ⟨_, rfl⟩
        rw [hx] at p0
        rw [hy] at p2
        have eX : X.take (i + 1) = X.take i ++ [x] := by
          rw [List.take_succ_eq_append_getElem (by rw [N1.out]; exact hlt), ← hx, List.getD_eq_getElem?_getD, List.getElem?_eq_getElem (by rw [N1.out]; exact hlt)]
          rfl
        have eY : Y.take (i + 1) = Y.take i ++ [y] := by
          rw [List.take_succ_eq_append_getElem (by rw [N2.out]; exact hlt), ← hy, List.getD_eq_getElem?_getD, List.getElem?_eq_getElem (by rw [N2.out]; exact hlt)]
          rfl
        have j1 : (i : Int) < (n : Int) := by omega
        have j2 : (0 : Int) ≤ (i : Int) := by omega
        by_cases hxy : x = y
        · subst hxy
          have HN : Aside0 (X.take (i + 1) = Y.take (i + 1)) := ⟨by rw [eX, eY, HE.out]⟩
          clear q0 q2 hx hy eX eY
          go_wp2_with fail
          go_region
          all_goals go_wp2_with fail
          all_goals go_roundw
          all_goals first | exact ⟨i + 1, hlt, by push_cast; rfl, HN, HBD⟩ | (simp [intOf]; omega)
        · have hne2 : (x.toList == y.toList) = false := by rw [beq_eq_false_iff_ne]; exact fun e => hxy (toL_inj e)
          have HNE : Aside0 (X ≠ Y) := ⟨fun e => by
            rw [e] at hx
            exact hxy (hx.symm.trans hy)⟩
          clear q0 q2 hx hy eX eY
          go_wp2_with fail
          go_region
          all_goals go_wp2_with fail
          all_goals go_ret
          all_goals exact ⟨by rw [decide_eq_false HNE.out]; rfl, HBD.out⟩
      · have j1 : ¬ (i : Int) < (n : Int) := by omega
        have HEQ : Aside0 (X = Y) := ⟨by have h9 := HE.out; rwa [List.take_of_length_le (by have := N1.out; omega), List.take_of_length_le (by have := N2.out; omega)] at h9⟩
        go_wp2_with fail
        go_ret
        exact ⟨by rw [decide_eq_true HEQ.out]; rfl, HB.out⟩
  · have HNE : Aside0 (X ≠ Y) := ⟨fun e => hne (by rw [← N1.out, ← N2.out, e])⟩
    have j0 : ¬ (n : Int) = (n2 : Int) := by omega
    have j1 : ((n : Int) == (n2 : Int)) = false := by simpa using j0
    go_enter Try.func15, Try.ntmps15
    go_wp2_with fail
    go_ret
    exact ⟨by rw [decide_eq_false HNE.out]; rfl, Below.refl _ _⟩
theorem foldh (l : List It) : ∀ (a : Nat), (∀ p ∈ l, p.lv ≤ l.foldl (fun n p => if n < p.lv then p.lv else n) a) ∧ a ≤ l.foldl (fun n p => if n < p.lv then p.lv else n) a ∧ (l.foldl (fun n p => if n < p.lv then p.lv else n) a = a ∨ ∃ p ∈ l, p.lv = l.foldl (fun n p => if n < p.lv then p.lv else n) a) := by
  induction l with
  | nil => intro a; exact ⟨fun p h => (by cases h), Nat.le_refl _, .inl rfl⟩
  | cons q l ih =>
    intro a
    simp only [List.foldl_cons]
    obtain ⟨h1, h2, h3⟩ := ih (if a < q.lv then q.lv else a)
    refine ⟨fun p hp => ?_, ?_, ?_⟩
    · rcases List.mem_cons.1 hp with rfl | hp
      · refine Nat.le_trans ?_ h2
        split <;> omega
      · exact h1 p hp
    · refine Nat.le_trans ?_ h2
      split <;> omega
    · rcases h3 with h3 | ⟨p, hp, h3⟩
      · rw [h3]
        split
        · exact .inr ⟨q, List.mem_cons_self, rfl⟩
        · exact .inl rfl
      · exact .inr ⟨p, List.mem_cons_of_mem _ hp, h3⟩
theorem height_is (l : List It) (m : Nat) (h1 : ∀ p ∈ l, p.lv ≤ m) (h2 : m = 0 ∨ ∃ p ∈ l, m ≤ p.lv) : heightS l = m := by
  obtain ⟨a1, a2, a3⟩ := foldh l 0
  have e : heightS l = l.foldl (fun n p => if n < p.lv then p.lv else n) 0 := rfl
  rw [← e] at a1 a2 a3
  have hle : heightS l ≤ m := by
    rcases a3 with a3 | ⟨p, hp, a3⟩
    · omega
    · rw [← a3]; exact h1 p hp
  rcases h2 with h2 | ⟨p, hp, h2⟩
  · omega
  · have := a1 p hp
    omega
theorem nx_none {W : World} {L : Nat} {xs : List Nd} (h : SK W L xs) (r : Nat) : nx xs 0 r = none ↔ ∀ p ∈ xs.tail.map Nd.it, p.lv ≤ r := by
  unfold nx
  rw [show xs.drop (0 + 1) = xs.tail by simp, nxt_none]
  constructor
  · intro h1 p hp
    obtain ⟨n, hn, rfl⟩ := List.mem_map.1 hp
    have := h1 n hn
    omega
  · intro h1 n hn
    have := h1 n.it (List.mem_map_of_mem hn)
    omega
set_option maxHeartbeats 2000000 in
theorem height_calls (w : World) (L : Nat) (xs : List Nd) (h : SK w L xs) :
    Calls Try.prog 16 #[.pointer (some ⟨L, 0, none⟩)] w fun e w' => e = .returned (.int .i64 (heightS (xs.tail.map Nd.it) : Int)) ∧ w = w' := by
  have hl := SL_list h.1
  have hx0 : 0 < xs.length := h.1.2.1
  have c0 : w.cell? ⟨L, 0, none⟩ = some (.pointer (some ⟨(xs.getD 0 default).b, 0, none⟩)) := by rw [cell_of_row _ _ _ _ _ _ hl]; rfl
  obtain ⟨-, -, n2⟩ := node_cells (SL_node h.1 0 hx0)
  have HR : Aside0 (∀ r, r < 8 → w.cell? ⟨(xs.getD 0 default).nb, r, none⟩ = some (pv (nx xs 0 r))) := ⟨fun r hr => node_row (SL_node h.1 0 hx0) r (by rw [lv0 h]; exact hr)⟩
  have HN := Aside0.mk (fun r => nx_none h r)
  have H8 : Aside0 (∀ p ∈ xs.tail.map Nd.it, p.lv ≤ 8) := ⟨fun p hp => (h.2.2.2 p hp).2⟩
  rw [lv0 h] at n2
  obtain ⟨b0, hb0⟩ : ∃ b, (xs.getD 0 default).b = b := ⟨_, rfl⟩
  obtain ⟨nb0, hnb0⟩ : ∃ b, (xs.getD 0 default).nb = b := ⟨_, rfl⟩
  rw [hb0] at c0
  rw [hb0, hnb0] at n2
  rw [hnb0] at HR
  generalize xs.tail.map Nd.it = l at *
  clear h hl hx0 hb0 hnb0
  go_enter Try.func16, Try.ntmps16
  go_wp2_with fail
  go_loopw [3] (fun v3 w' => ∃ (m : Nat), m ≤ 8 ∧ v3 = .int .i64 m ∧ Aside0 (∀ p ∈ l, p.lv ≤ m) ∧ w = w') (fun v3 _ => (intOf v3).toNat)
  case atStart => exact ⟨8, by omega, rfl, H8, rfl⟩
  case round =>
    obtain ⟨m, hm8, rfl, HM, rfl⟩ := hrel
    cases m with
    | zero =>
      have H1 : Aside0 (heightS l = 0) := ⟨height_is l 0 HM.out (.inl rfl)⟩
      go_wp2_with fail
      go_ret
      exact ⟨by rw [H1.out]; rfl, rfl⟩
    | succ r =>
      have c3 := HR.out r (by omega)
      obtain ⟨z, hz⟩ : ∃ z : Int, ((r + 1 : Nat) : Int) = z := ⟨_, rfl⟩
      have j1 : (0 : Int) < z := by omega
      have j3 : z - 1 = (r : Int) := by omega
      have j4 : IntKind.i64.wrap (z - 1) = (r : Int) := by rw [IntWalk.i64_in _ (by omega)]; omega
      have j5 : (r : Int) < 8 := by omega
      have j6 : (0 : Int) ≤ (r : Int) := by omega
      rw [hz]
      have HZ := Aside0.mk hz
      clear hz
      cases hnx : nx xs 0 r with
      | none =>
        rw [hnx] at c3
        have c4 : w.cell? ⟨nb0, r, none⟩ = some (.pointer none) := c3
        have HM2 := Aside0.mk ((HN.out r).1 hnx)
        clear hnx c3
        go_wp2_with fail
        go_roundw
        case rel => exact ⟨r, by omega, rfl, HM2, trivial⟩
        case measure => simp [intOf]; omega
      | some b =>
        rw [hnx] at c3
        have c4 : w.cell? ⟨nb0, r, none⟩ = some (.pointer (some ⟨b, 0, none⟩)) := c3
        have H1 : Aside0 (heightS l = r + 1) := ⟨height_is l (r + 1) HM.out (.inr (by
          have h9 : ¬ ∀ p ∈ l, p.lv ≤ r := fun h9 => by rw [(HN.out r).2 h9] at hnx; cases hnx
          refine Classical.byContradiction fun h8 => h9 fun p hp => ?_
          rcases Nat.lt_or_ge r p.lv with h7 | h7
          · exact absurd ⟨p, hp, h7⟩ h8
          · exact h7))⟩
        clear hnx c3
        go_wp2_with fail
        go_ret
        exact ⟨by rw [H1.out, HZ.out]; rfl, rfl⟩
end Go.Proofs.Ythilhcdlpfjodaa.A
