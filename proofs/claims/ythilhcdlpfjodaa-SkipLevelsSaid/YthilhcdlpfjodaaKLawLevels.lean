/- SkipLevels: which levels keys have changes nothing of what is told but rows. -/
import Derived.Test.YthilhcdlpfjodaaKLawRows
namespace Go.Proofs.Ythilhcdlpfjodaa.A
open Go.RowKit Go.Proofs.YthilhcdlpfjodaaW.PrintWords Go.Proofs.YthilhcdlpfjodaaW.PrintLast Go.Proofs.YthilhcdlpfjodaaW.PrintMore
set_option linter.unusedVariables false
set_option linter.unusedSimpArgs false

/-- The same keys; the second's levels are 1. -/
def Lv1 (l m : List It) : Prop := l.map It.k = m.map It.k ∧ ∀ p ∈ m, p.lv = 1
theorem atS_k (key : ByteArray) : ∀ l m : List It, l.map It.k = m.map It.k → atS l key = atS m key
  | [], [], _ => rfl
  | [], _ :: _, h => by simp at h
  | _ :: _, [], h => by simp at h
  | p :: l, q :: m, h => by
    simp only [List.map_cons, List.cons.injEq] at h
    unfold atS
    rw [h.1, atS_k key l m h.2]
theorem getD_k (l : List It) (i : Nat) : (l.getD i default).k = (l.map It.k).getD i ByteArray.empty := by
  rw [List.getD_eq_getElem?_getD, List.getD_eq_getElem?_getD, List.getElem?_map]
  cases l[i]? <;> rfl
theorem isS_k (key : ByteArray) (l m : List It) (h : l.map It.k = m.map It.k) : isS l key = isS m key := by
  unfold isS
  have hl : l.length = m.length := by have := congrArg List.length h; simpa using this
  rw [atS_k key l m h, getD_k, getD_k, h, hl]
theorem floorS_k (key : ByteArray) (l m : List It) (h : l.map It.k = m.map It.k) : floorS l key = floorS m key := by
  unfold floorS
  rw [isS_k key l m h, atS_k key l m h, getD_k, getD_k, h]
theorem lv1_do {l m : List It} (h : Lv1 l m) (d : Dd) : Lv1 (doS l d) (doS m ⟨d.kind, 1, d.v, d.key⟩) := by
  obtain ⟨h1, h2⟩ := h
  unfold doS
  simp only
  split
  · unfold putS
    rw [isS_k (fewS d.key) l m h1, atS_k (fewS d.key) l m h1]
    cases hi : isS m (fewS d.key) with
    | true =>
      rw [if_pos rfl, if_pos rfl]
      refine ⟨by rw [List.map_append, List.map_append, List.map_cons, List.map_cons, List.map_take, List.map_take, List.map_drop, List.map_drop, h1], fun p hp => ?_⟩
      rcases List.mem_append.1 hp with hp | hp
      · exact h2 p (List.mem_of_mem_take hp)
      · rcases List.mem_cons.1 hp with rfl | hp
        · exact h2 (m.getD (atS m (fewS d.key)) default) (getD_memI m _ (isS_lt hi).1)
        · exact h2 p (List.mem_of_mem_drop hp)
    | false =>
      rw [if_neg (by simp), if_neg (by simp)]
      refine ⟨by rw [List.map_append, List.map_append, List.map_cons, List.map_cons, List.map_take, List.map_take, List.map_drop, List.map_drop, h1], fun p hp => ?_⟩
      rcases List.mem_append.1 hp with hp | hp
      · exact h2 p (List.mem_of_mem_take hp)
      · rcases List.mem_cons.1 hp with rfl | hp
        · rfl
        · exact h2 p (List.mem_of_mem_drop hp)
  · split
    · unfold dropS
      rw [isS_k (fewS d.key) l m h1, atS_k (fewS d.key) l m h1]
      split
      · refine ⟨by rw [List.map_append, List.map_append, List.map_take, List.map_take, List.map_drop, List.map_drop, h1], fun p hp => ?_⟩
        rcases List.mem_append.1 hp with hp | hp
        · exact h2 p (List.mem_of_mem_take hp)
        · exact h2 p (List.mem_of_mem_drop hp)
      · exact ⟨h1, h2⟩
    · exact ⟨h1, h2⟩
theorem lv1_height {l m : List It} (h : Lv1 l m) : heightS m ≤ 1 := by
  obtain ⟨a1, a2, a3⟩ := foldh m 0
  have e : heightS m = m.foldl (fun n p => if n < p.lv then p.lv else n) 0 := rfl
  rw [← e] at a1 a2 a3
  rcases a3 with a3 | ⟨p, hp, a3⟩
  · omega
  · rw [← a3, h.2 p hp]
    exact Nat.le_refl _
/-- Two lists beside each other. -/
def D2 (w W : World) (L M i : Nat) (v u : Value) (l m : List It) : Prop := ∃ xs ys, LB W w.heap.size L xs v l ∧ LB W w.heap.size M ys u m ∧ (∀ k ∈ L :: blks xs, k ∉ M :: blks ys) ∧ (∀ k ∈ L :: blks xs, w.heap.size ≤ k) ∧ (∀ k ∈ M :: blks ys, w.heap.size ≤ k) ∧ Below w.heap.size w W ∧ l.length ≤ i ∧ m.length ≤ i
section
variable {w W W1 : World} {L M i : Nat} {v u : Value} {l m : List It}
theorem D2_swap (h : D2 w W L M i v u l m) : D2 w W M L i u v m l := by
  obtain ⟨xs, ys, h1, h2, h3, h4, h5, h6, h7, h8⟩ := h
  exact ⟨ys, xs, h2, h1, fun k hk hk2 => h3 k hk2 hk, h5, h4, h6, h8, h7⟩
theorem D2_fst (h : D2 w W L M i v u l m) : DI w W L i v l := by
  obtain ⟨xs, ys, h1, h2, h3, h4, h5, h6, h7, h8⟩ := h
  exact ⟨xs, h1, h4, h6, h7⟩
theorem D2_below (h : D2 w W L M i v u l m) (hb : Below W.heap.size W W1) : D2 w W1 L M i v u l m := by
  obtain ⟨xs, ys, h1, h2, h3, h4, h5, h6, h7, h8⟩ := h
  exact ⟨xs, ys, LB_below h1 hb, LB_below h2 hb, h3, h4, h5, below_step h6 hb, h7, h8⟩
theorem D2_up {j : Nat} (h : D2 w W L M i v u l m) (hj : i ≤ j) : D2 w W L M j v u l m := by
  obtain ⟨xs, ys, h1, h2, h3, h4, h5, h6, h7, h8⟩ := h
  exact ⟨xs, ys, h1, h2, h3, h4, h5, h6, by omega, by omega⟩
theorem D2_new (h : DI w W L 0 v []) : Calls Try.prog 8 #[] W fun e w' => ∃ M, e = .returned (.pointer (some ⟨M, 0, none⟩)) ∧ D2 w w' L M 0 v (.slice none 0 0) [] [] := by
  refine (new_calls W).mono ?_
  rintro e w' ⟨M, rfl, ⟨ys, k1, k2, k3⟩, hb⟩
  obtain ⟨xs, h1, h2, h3, h4⟩ := h
  refine ⟨M, rfl, xs, ys, LB_below h1 hb, ⟨k1, k2, OIt_nil _ _⟩, fun k hk hk2 => ?_, h2, fun k hk => Nat.le_trans h3.size (k3 k hk), below_step h3 hb, Nat.le_refl _, Nat.le_refl _⟩
  have := SL_lt h1.1.1 k hk
  have := k3 k hk2
  omega
theorem D2_does (h : D2 w W L M i v u l m) (d : Dd) (hi : i ≤ 900) (hk : d.key.size ≤ 9223372036854775807) :
    Calls Try.prog 9 #[.pointer (some ⟨L, 0, none⟩), v, .agg #[.int .i64 d.kind, .int .i64 d.lv, .int .i64 d.v, .string d.key]] W fun e w' => ∃ v', e = .returned (.tuple #[v', .bool true]) ∧ D2 w w' L M (i + 1) v' u (doS l d) m := by
  obtain ⟨xs, ys, h1, h2, h3, h4, h5, h6, h7, h8⟩ := h
  refine (does_calls W w.heap.size L xs v l d h1 h6.size (by omega) hk).mono ?_
  rintro e w' ⟨v', rfl, xs', k1, k2, k3⟩
  refine ⟨v', rfl, xs', ys, k1, ⟨⟨SL_frm h2.1.1 k2 (fun k hk hk2 => h3 k hk2 hk), h2.1.2⟩, h2.2.1, OIt_frm h2.2.2 h1.1 k2⟩, fun k hk hk2 => ?_, fun k hk => ?_, h5, Frm.below h6 k2 h4 (Nat.le_refl _), by have := doS_len l d; omega, by omega⟩
  · rcases List.mem_cons.1 hk with rfl | hk
    · exact h3 _ List.mem_cons_self hk2
    · rcases k3 k hk with h9 | h9
      · exact h3 _ (List.mem_cons_of_mem _ h9) hk2
      · have := SL_lt h2.1.1 k hk2
        omega
  · rcases List.mem_cons.1 hk with rfl | hk
    · exact h4 _ List.mem_cons_self
    · rcases k3 k hk with h9 | h9
      · exact h4 _ (List.mem_cons_of_mem _ h9)
      · exact Nat.le_trans h6.size h9
end
set_option maxRecDepth 100000 in
set_option maxHeartbeats 4000000 in
theorem levels_calls (w : World) (A : Option Addr) (c : Nat) (dl : List Dd) (hr : KDd.C w A dl.length dl) (hc : dl.length ≤ c) (hg : ∀ d ∈ dl, d.fits) (key : ByteArray) (hkey : key.size ≤ maxLen) :
    Calls Try.prog 4 #[.slice A dl.length c, .string key] w fun e w' => e = .returned (.bool true) ∧ Below w.heap.size w w' := by
  have hm := hr.2.1
  obtain ⟨n, hn⟩ : ∃ n, dl.length = n := ⟨_, rfl⟩
  rw [hn] at hr hc hm ⊢
  have HR := Aside0.mk hr
  have HN := Aside0.mk hn
  have HG := Aside0.mk hg
  have HKEY : Aside0 (key.size ≤ 9223372036854775807) := ⟨by simp only [maxLen] at hkey; omega⟩
  clear hr hn hg hkey
  go_enter Try.func4, Try.ntmps4
  go_wp2_with fail
  (with_reducible refine (DI_new w).mono ?_)
  rintro e w1 ⟨L, rfl, hD1⟩
  have HD1 := Aside0.mk hD1
  clear hD1
  go_wp2_with fail
  (with_reducible refine (D2_new HD1.out).mono ?_)
  rintro e w2 ⟨M, rfl, hD2⟩
  have HD2 := Aside0.mk hD2
  clear hD2
  go_wp2_with fail
  go_loopw [7, 8, 9] (fun v7 v8 v9 w' => ∃ (i : Nat) (l m : List It), v9 = .int .i64 i ∧ i ≤ n ∧ i ≤ 40 ∧ Aside0 (D2 w w' L M (2 * i) v7 v8 l m ∧ Lv1 l m)) (fun _ _ v9 _ => 60 - (intOf v9).toNat)
  case atStart => exact ⟨0, [], [], rfl, Nat.zero_le _, by omega, ⟨HD2.out, rfl, fun p hp => by cases hp⟩⟩
  case round =>
    obtain ⟨i, l, m, rfl, hin, hi40, HD⟩ := hrel
    by_cases hlt : i < n ∧ i < 40
    · obtain ⟨hl1, hl2⟩ := hlt
      have HB := Aside0.mk (DI_b (D2_fst HD.out.1))
      obtain ⟨ad, rfl, q0, q1, q2, q3⟩ := C_atDd (Kd.C_below HR.out HB.out) i hl1
      have hfd : (dl.getD i default).fits := HG.out _ (by
        rw [List.getD_eq_getElem?_getD, List.getElem?_eq_getElem (by rw [HN.out]; exact hl1)]
        exact List.getElem_mem _)
      obtain ⟨d, hd⟩ : ∃ d, dl.getD i default = d := ⟨_, rfl⟩
      rw [hd] at q0 q1 q2 q3 hfd
      have HFD : Aside0 (d.key.size ≤ 9223372036854775807) := ⟨by unfold Dd.fits at hfd; simp only [maxLen] at hfd; omega⟩
      have HDO := Aside0.mk (D2_does HD.out.1 d (by omega) HFD.out)
      have j1 : (i : Int) < (n : Int) := by omega
      have j2 : (0 : Int) ≤ (i : Int) := by omega
      have j3 : (i : Int) < 40 := by omega
      have HE := Aside0.mk hd
      clear hd hfd
      go_wp2_with fail
      (with_reducible refine HDO.out.mono ?_)
      rintro e w3 ⟨v3, rfl, hD3⟩
      have HD3 := Aside0.mk hD3
      have hC3 := C_atDd (Kd.C_below HR.out (DI_b (D2_fst HD3.out))) i hl1
      rw [HE.out] at hC3
      obtain ⟨ad', e', p0, p1, p2, p3⟩ := hC3
      injection e' with e'
      subst e'
      clear hD3 q0 q1 q2 q3
      go_wp2_with fail
      have hb4 : Below w3.heap.size w3 (w3.alloc (ddBox ⟨d.kind, 1, d.v, d.key⟩)) := below_alloc (Below.refl _ _) _
      have HD4 := Aside0.mk (D2_below HD3.out hb4)
      (with_reducible refine (D2_does (D2_swap HD4.out) ⟨d.kind, 1, d.v, d.key⟩ (by omega) HFD.out).mono ?_)
      rintro e w5 ⟨v5, rfl, hD5⟩
      have HD5 := Aside0.mk (show D2 w w5 L M (2 * (i + 1)) v3 v5 (doS l d) (doS m ⟨d.kind, 1, d.v, d.key⟩) ∧ Lv1 (doS l d) (doS m ⟨d.kind, 1, d.v, d.key⟩) from ⟨D2_up (D2_swap hD5) (by omega), lv1_do HD.out.2 d⟩)
      clear hD5 hb4 p0 p1 p2 p3
      go_wp2_with fail
      go_roundw
      case rel => exact ⟨i + 1, _, _, by push_cast; rfl, hl1, by omega, HD5⟩
      case measure => simp [intOf]; omega
    · have j1 : (¬ (i : Int) < (n : Int)) ∨ ((i : Int) < (n : Int) ∧ ¬ (i : Int) < 40) := by omega
      have hi80 : 2 * i ≤ 900 := by omega
      have HDx := Aside0.mk (D2_fst HD.out.1)
      have HDy := Aside0.mk (D2_fst (D2_swap HD.out.1))
      have e1 : rowS m 1 = rowS l 1 := by rw [row1 (DI_srt HDx.out), row1 (DI_srt HDy.out), HD.out.2.1]
      have e2 : floorS m (fewS key) = floorS l (fewS key) := (floorS_k _ _ _ HD.out.2.1).symm
      have e3 : m.length = l.length := by have := congrArg List.length HD.out.2.1; simpa using this.symm
      have e4 := lv1_height HD.out.2
      have HFx := Aside0.mk (fun W (h : DI w W L (2 * i) u7 l) => DI_floor h (fewS key))
      have HFy := Aside0.mk (fun W (h : DI w W M (2 * i) u8 m) => DI_floor h (fewS key))
      have HRx := Aside0.mk (fun W (h : DI w W L (2 * i) u7 l) => DI_row h hi80 1 (by omega) (by omega))
      have HRy := Aside0.mk (fun W (h : DI w W M (2 * i) u8 m) => DI_row h hi80 1 (by omega) (by omega))
      have HLx := Aside0.mk (fun W (h : DI w W L (2 * i) u7 l) => DI_lenc h)
      have HLy := Aside0.mk (fun W (h : DI w W M (2 * i) u8 m) => DI_lenc h)
      have HHy := Aside0.mk (fun W (h : DI w W M (2 * i) u8 m) => DI_height h)
      rw [e2] at HFy
      rw [e1] at HRy
      rw [e3] at HLy
      obtain ⟨key2, hk2⟩ : ∃ k, fewS key = k := ⟨_, rfl⟩
      have HK2 := Aside0.mk hk2
      rw [hk2] at HFx HFy
      obtain ⟨f, hf⟩ : ∃ k, (floorS l key2).1 = k := ⟨_, rfl⟩
      obtain ⟨is, his⟩ : ∃ k, (floorS l key2).2 = k := ⟨_, rfl⟩
      rw [hf, his] at HFx HFy
      obtain ⟨X, hX⟩ : ∃ k, rowS l 1 = k := ⟨_, rfl⟩
      rw [hX] at HRx HRy
      obtain ⟨nl, hnl⟩ : ∃ k, l.length = k := ⟨_, rfl⟩
      rw [hnl] at HLx HLy
      have hXl : X.length ≤ 100000 := by
        have h1 := rowS_len l 1
        have h2 := DI_len HDx.out
        rw [hX] at h1
        omega
      obtain ⟨ht, hht⟩ : ∃ k, heightS m = k := ⟨_, rfl⟩
      rw [hht] at HHy e4
      have i9 : (ht : Int) ≤ 1 := by omega
      have HXL := Aside0.mk hXl
      clear hlt e1 e2 e3 e4 hk2 hf his hX hnl hht hXl
      rcases j1 with j1 | ⟨j1, j2⟩
      all_goals
        go_wp2_with fail
        (with_reducible refine (few_calls key _ HKEY.out).mono ?_)
        rintro e w3 ⟨rfl, rfl⟩
        rw [HK2.out]
        go_wp2_with fail
        (with_reducible refine (HFx.out _ HDx.out).mono ?_)
        rintro e w4 ⟨rfl, hb4⟩
        have HDx4 := Aside0.mk (DI_below HDx.out hb4)
        have HDy4 := Aside0.mk (DI_below HDy.out hb4)
        clear hb4
        go_wp2_with fail
        (with_reducible refine (few_calls key _ HKEY.out).mono ?_)
        rintro e w5 ⟨rfl, rfl⟩
        rw [HK2.out]
        go_wp2_with fail
        (with_reducible refine (HFy.out _ HDy4.out).mono ?_)
        rintro e w6 ⟨rfl, hb6⟩
        have HDx6 := Aside0.mk (DI_below HDx4.out hb6)
        have HDy6 := Aside0.mk (DI_below HDy4.out hb6)
        clear hb6
        go_wp2_with fail
        (with_reducible refine (HRx.out _ HDx6.out).mono ?_)
        rintro e w7 ⟨A7, c7, rfl, hc7, hC7, hb7⟩
        have HC7 := Aside0.mk hC7
        have HDx7 := Aside0.mk (DI_below HDx6.out hb7)
        have HDy7 := Aside0.mk (DI_below HDy6.out hb7)
        clear hC7 hb7
        go_wp2_with fail
        (with_reducible refine (HRy.out _ HDy7.out).mono ?_)
        rintro e w8 ⟨A8, c8, rfl, hc8, hC8, hb8⟩
        have HC8 := Aside0.mk hC8
        have HC78 := Aside0.mk (Kd.C_below HC7.out hb8)
        have HDx8 := Aside0.mk (DI_below HDx7.out hb8)
        have HDy8 := Aside0.mk (DI_below HDy7.out hb8)
        clear hC8 hb8
        go_wp2_with fail
        (with_reducible refine (same_calls _ _ _ _ _ _ X X _ HC78.out HC8.out hc7 hc8 HXL.out HXL.out).mono ?_)
        rintro e w9 ⟨rfl, hb9⟩
        rw [show decide (X = X) = true by simp]
        have HDx9 := Aside0.mk (DI_below HDx8.out hb9)
        have HDy9 := Aside0.mk (DI_below HDy8.out hb9)
        clear hb9
        go_wp2_with fail
        (with_reducible refine (HLx.out _ HDx9.out).mono ?_)
        rintro e w10 ⟨rfl, rfl⟩
        go_wp2_with fail
        (with_reducible refine (HLy.out _ HDy9.out).mono ?_)
        rintro e w11 ⟨rfl, rfl⟩
        go_wp2_with fail
        (with_reducible refine (HHy.out _ HDy9.out).mono ?_)
        rintro e w12 ⟨rfl, rfl⟩
        go_wp2_with fail
        (with_reducible refine (lives_calls _).mono ?_)
        rintro e w13 ⟨rfl, hb13⟩
        have HB13 := Aside0.mk (below_step (DI_b HDx9.out) hb13)
        clear hb13
        go_wp2_with fail
        go_ret
        exact ⟨rfl, HB13.out⟩
end Go.Proofs.Ythilhcdlpfjodaa.A
