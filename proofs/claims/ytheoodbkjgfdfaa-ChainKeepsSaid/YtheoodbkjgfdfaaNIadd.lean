/- chain's Add. -/
import Derived.Test.YtheoodbkjgfdfaaNIx
import Derived.Test.YtheoodbkjgfdfaaNIns
import Derived.Test.YtheoodbkjgfdfaaNSearch
import Derived.Test.YtheoodbkjgfdfaaIHeld
namespace Go.Proofs.Ytheoodbkjgfdfaa.A
open R
open Go.RowKit Go.Proofs.YtheoodbkjgfdfaaW.PrintWords Go.Proofs.YtheoodbkjgfdfaaW.PrintLast Go.Proofs.YtheoodbkjgfdfaaW.PrintMore
set_option linter.unusedVariables false
set_option linter.unusedSimpArgs false

/-- A version put among its key's. -/
theorem IRs_put {W : World} {B : Nat} {its : List M.It} {l : List Vr} {v : Vr} (h : IRs W B its l) (hs : M.Srt its) (hm : mayV v = true) (hn : hadV l v = false) (lv : Int) (u : M.Sl) (hu : OVr W B (slv u) (aV (ofV l v.k) v ++ v :: bV (ofV l v.k) v)) : IRs W B (M.putS its v.k lv u) (addV l v).1 := by
  obtain ⟨e, h1, h2⟩ := ofV_add h.1 hm hn
  obtain ⟨p1, p2⟩ := put_has (l := its) v.k lv u
  refine ⟨srt_add h.1, fun p hp => ?_, fun q hq => ?_⟩
  · rcases put_mem hs hp with ⟨e1, e2⟩ | ⟨e1, e2⟩
    · rw [e1, h1, e2]
      exact ⟨hu, by simp⟩
    · rw [h2 _ e2]
      exact h.2.1 p e1
  · rw [e] at hq
    rcases List.mem_append.1 hq with hq | hq
    · obtain ⟨p, hp, e1⟩ := h.2.2 q (by rw [← ab_is l v]; exact List.mem_append_left _ hq)
      obtain ⟨p', hp', e2⟩ := p2 p hp
      exact ⟨p', hp', e2.trans e1⟩
    · rcases List.mem_cons.1 hq with rfl | hq
      · exact p1
      · obtain ⟨p, hp, e1⟩ := h.2.2 q (by rw [← ab_is l v]; exact List.mem_append_right _ hq)
        obtain ⟨p', hp', e2⟩ := p2 p hp
        exact ⟨p', hp', e2.trans e1⟩
theorem X_out {W : World} {L X : Nat} {xs : List M.Nd} {f : Nat → Nat → Option Nat} {m m' : Int} (h : M.SL W L xs f m) (hX : W.heap[X]? = some (ixB L m')) : X ∉ L :: M.blks xs := fun hk => by
  rcases List.mem_cons.1 hk with rfl | hk
  · have h1 := h.1
    rw [hX] at h1
    injection h1 with h1
    injection h1 with _ e
    revert e
    decide
  · obtain ⟨n, hn, hk⟩ := List.mem_flatMap.1 hk
    obtain ⟨i, hi, rfl⟩ := List.mem_iff_getElem.1 hn
    have h3 := h.2.2.1 i hi
    rw [M.getD_idx xs i hi] at h3
    simp only [List.mem_cons, List.not_mem_nil, or_false] at hk
    rcases hk with rfl | rfl
    · have h1 := h3.1
      rw [hX] at h1
      injection h1 with h1
      injection h1 with _ e
      revert e
      decide
    · have h1 := h3.2
      rw [hX] at h1
      injection h1 with h1
      injection h1 with _ e
      revert e
      decide
set_option maxRecDepth 100000 in
set_option maxHeartbeats 2000000 in
theorem iadd_bad (w : World) (B X : Nat) (m : Int) (its : List M.It) (l : List Vr) (v : Vr) (lv : Int) (h : IXi w B X m its l) (hk : v.k.size ≤ 100000) (hv : v.v.size ≤ 9223372036854775807) (hm : mayV v = false) :
    Calls Try.prog 10 #[.pointer (some ⟨X, 0, none⟩), (.agg #[.string v.k, .int .i64 v.br, .int .i64 v.ep, .int .i64 v.sq, .int .i64 v.f, .int .i64 v.t, .string v.v, .bool v.g]), .int .i64 lv] w fun e w' => e = .returned (.int .i64 1) ∧ Below w.heap.size w w' := by
  have HM := Aside0.mk (fun W => may_calls v.k v.br v.ep v.sq v.f v.t v.v v.g W hk hv)
  rw [show (⟨v.k, v.br, v.ep, v.sq, v.f, v.t, v.v, v.g⟩ : Vr) = v from rfl, hm] at HM
  obtain ⟨g, hg⟩ : ∃ g, w.heap.size = g := ⟨_, rfl⟩
  obtain ⟨W, hW⟩ : ∃ W, w.alloc (vrBox v.k v.br v.ep v.sq v.f v.t v.v v.g) = W := ⟨_, rfl⟩
  have hb : Below w.heap.size w W := by rw [← hW]; exact below_alloc (Below.refl _ _) _
  have z0 : W.heap[g]? = some (vrBox v.k v.br v.ep v.sq v.f v.t v.v v.g) := by rw [← hW, ← hg]; exact blk_new w _
  obtain ⟨c0, c1, c2, c3, c4, c5, c6, c7⟩ := vr_cells z0
  have HB := Aside0.mk hb
  have HZ := Aside0.mk z0
  clear hb z0 hm
  go_enter Try.func10, Try.ntmps10
  go_wp2_with fail
  (with_reducible refine (HM.out W).mono ?_)
  rintro e w1 ⟨rfl, hb1⟩
  have HB1 := Aside0.mk (below_step HB.out hb1)
  have HZ1 := Aside0.mk (box_keep HZ.out hb1)
  clear hb1 c0 c1 c2 c3 c4 c5 c6 c7
  go_wp2_with fail
  subst hg
  go_ret
  exact ⟨rfl, HB1.out⟩
set_option maxRecDepth 100000 in
set_option maxHeartbeats 4000000 in
theorem iadd_had (w : World) (B X : Nat) (m : Int) (its : List M.It) (l : List Vr) (v : Vr) (lv : Int) (h : IXi w B X m its l) (hk : v.k.size ≤ 100000) (hv : v.v.size ≤ 9223372036854775807) (hl : l.length ≤ 4000) (hm : mayV v = true) (hh : hadV l v = true) :
    Calls Try.prog 10 #[.pointer (some ⟨X, 0, none⟩), (.agg #[.string v.k, .int .i64 v.br, .int .i64 v.ep, .int .i64 v.sq, .int .i64 v.f, .int .i64 v.t, .string v.v, .bool v.g]), .int .i64 lv] w fun e w' => e = .returned (.int .i64 9) ∧ Below w.heap.size w w' := by
  have h0 := h
  obtain ⟨L, xs, hX, hBX, hS, hits, hbl, hrs⟩ := h
  obtain ⟨A, n, c, bo, hget, hrow⟩ := get_row h0 v.k
  obtain ⟨lk, hlk⟩ : ∃ lk, ofV l v.k = lk := ⟨_, rfl⟩
  have hle : lk.length ≤ l.length := by rw [← hlk]; exact List.length_filter_le _ _
  have hslk : SrtV lk := by rw [← hlk]; exact srt_of hrs.1 _
  have hhad : hadV lk v = hadV l v := by rw [← hlk]; exact had_of l v
  rw [hlk] at hrow
  obtain ⟨hn, hnc, hC⟩ := Kd.R_reads' hrow
  rw [← hn] at hC
  obtain ⟨i, hie⟩ : ∃ i, (aV lk v).length = i := ⟨_, rfl⟩
  have hi : i ≤ n := by rw [← hie, hn]; exact aV_len lk v
  have hlo : ∀ j, j < i → cmpV (lk.getD j default) v < 0 := fun j hj => aV_lo lk v j (by rw [hie]; exact hj)
  have hhi : ∀ j, i ≤ j → j < n → 0 ≤ cmpV (lk.getD j default) v := fun j h1 h2 => aV_hi lk v hslk j (by rw [hie]; exact h1) (by omega)
  obtain ⟨hd, hhd⟩ : ∃ hd, (decide (i < n) && decide (cmpV (lk.getD i default) v = 0)) = hd := ⟨_, rfl⟩
  have hhd2 : hd = hadV l v := by
    rw [← hhad, ← hhd, Bool.eq_iff_iff, Bool.and_eq_true, decide_eq_true_eq, decide_eq_true_eq, had_at hslk, hie, hn]
  rw [hh] at hhd2
  rw [hhd2] at hhd
  clear hhd2
  have HM := Aside0.mk (fun W => may_calls v.k v.br v.ep v.sq v.f v.t v.v v.g W hk hv)
  rw [show (⟨v.k, v.br, v.ep, v.sq, v.f, v.t, v.v, v.g⟩ : Vr) = v from rfl, hm] at HM
  obtain ⟨g, hg⟩ : ∃ g, w.heap.size = g := ⟨_, rfl⟩
  obtain ⟨W, hW⟩ : ∃ W, w.alloc (vrBox v.k v.br v.ep v.sq v.f v.t v.v v.g) = W := ⟨_, rfl⟩
  have hb : Below w.heap.size w W := by rw [← hW]; exact below_alloc (Below.refl _ _) _
  have z0 : W.heap[g]? = some (vrBox v.k v.br v.ep v.sq v.f v.t v.v v.g) := by rw [← hW, ← hg]; exact blk_new w _
  obtain ⟨c0, c1, c2, c3, c4, c5, c6, c7⟩ := vr_cells z0
  have HB := Aside0.mk hb
  have HZ := Aside0.mk z0
  clear hb z0 hm
  go_enter Try.func10, Try.ntmps10
  go_wp2_with fail
  (with_reducible refine (HM.out W).mono ?_)
  rintro e w1 ⟨rfl, hb1⟩
  have HB1 := Aside0.mk (below_step HB.out hb1)
  have HZ1 := Aside0.mk (box_keep HZ.out hb1)
  clear hb1 c0 c1 c2 c3 c4 c5 c6 c7
  go_wp2_with fail
  have HX1 : Aside0 (w1.heap[X]? = some (ixB L m)) := ⟨box_keep hX HB1.out⟩
  have HGT : Aside0 (∀ V, Below w1.heap.size w1 V → Calls Try.prog 27 #[.pointer (some ⟨L, 0, none⟩), .string v.k] V fun e w' => e = .returned (.tuple #[.slice A n c, .bool bo]) ∧ Below V.heap.size V w') := ⟨fun V hV => by
    have h9 := M.get_calls V L xs v.k ⟨M.SL_below hS.1 (below_step HB1.out hV), hS.2⟩
    rw [hits, hget] at h9
    exact h9⟩
  have HSR : Aside0 (∀ V, Below w1.heap.size w1 V → Calls Try.prog 28 #[.slice A n c, (.agg #[.string v.k, .int .i64 v.br, .int .i64 v.ep, .int .i64 v.sq, .int .i64 v.f, .int .i64 v.t, .string v.v, .bool v.g]), .func (.func 29) #[] #[]] V fun e w' => e = .returned (.tuple #[.int .i64 (i : Int), .bool true]) ∧ Below V.heap.size V w') := ⟨fun V hV => by
    have h9 := search_calls A n c lk v i V (Kd.C_below hC (below_step HB1.out hV)) hnc (by omega) hi hlo hhi
    rw [hhd] at h9
    exact h9⟩
  have HC := Aside0.mk hC
  have HSL := Aside0.mk hS
  have HNL := Aside0.mk hn
  have HLE := Aside0.mk hle
  have HIE := Aside0.mk hie
  clear hX hBX hS hits hbl hrs hget hrow hC hlk h0 hslk hhad hlo hhi hhd hn hle hie
  refine wp_region_held_drew (S := (fun w' => Below w1.heap.size w1 w')) (by kernel_rfl) (below_drew1 (Below.refl _ _)) (fun hHeld => ?_)
  (refine hd_take 0 (v := ?_) rfl (by kernel_rfl) (by kernel_rfl) (fun _ _ _ h => h) (by assumption) ?_ ?_; rotate_left; (intro w hSw; (try dsimp only at hSw); go_simp; first | done | with_reducible rfl); simp only [Act.put, List.setIfInBounds_toArray, List.set_cons_zero, List.set_cons_succ])
  (refine hd_take 1 (v := ?_) rfl (by kernel_rfl) (by kernel_rfl) (fun _ _ _ h => h) (by assumption) ?_ ?_; rotate_left; (intro w hSw; (try dsimp only at hSw); go_simp; first | done | with_reducible rfl); simp only [Act.put, List.setIfInBounds_toArray, List.set_cons_zero, List.set_cons_succ])
  (refine hd_take 2 (v := ?_) rfl (by kernel_rfl) (by kernel_rfl) (fun _ _ _ h => h) (by assumption) ?_ ?_; rotate_left; (intro w hSw; (try dsimp only at hSw); go_simp; first | done | with_reducible rfl); simp only [Act.put, List.setIfInBounds_toArray, List.set_cons_zero, List.set_cons_succ])
  (refine hd_take 3 (v := ?_) rfl (by kernel_rfl) (by kernel_rfl) (fun _ _ _ h => h) (by assumption) ?_ ?_; rotate_left; (intro w hSw; (try dsimp only at hSw); obtain ⟨x0, x1, x2⟩ := ix_cells (box_keep HX1.out hSw); obtain ⟨r0, r1, r2, r3, r4, r5, r6, r7⟩ := vr_cells (box_keep HZ1.out hSw); go_simp; first | done | with_reducible rfl); simp only [Act.put, List.setIfInBounds_toArray, List.set_cons_zero, List.set_cons_succ])
  (refine hd_take 4 (v := ?_) rfl (by kernel_rfl) (by kernel_rfl) (fun _ _ _ h => h) (by assumption) ?_ ?_; rotate_left; (intro w hSw; (try dsimp only at hSw); go_simp; first | done | with_reducible rfl); simp only [Act.put, List.setIfInBounds_toArray, List.set_cons_zero, List.set_cons_succ])
  (refine hd_take 5 (v := ?_) rfl (by kernel_rfl) (by kernel_rfl) (fun _ _ _ h => h) (by assumption) ?_ ?_; rotate_left; (intro w hSw; (try dsimp only at hSw); obtain ⟨x0, x1, x2⟩ := ix_cells (box_keep HX1.out hSw); obtain ⟨r0, r1, r2, r3, r4, r5, r6, r7⟩ := vr_cells (box_keep HZ1.out hSw); go_simp; first | done | with_reducible rfl); simp only [Act.put, List.setIfInBounds_toArray, List.set_cons_zero, List.set_cons_succ])
  refine hd_one 6 rfl (by kernel_rfl) (fun K hK => ?_)
  go_simp
  go_wp2_with ((go_at_call 27); (with_reducible refine (HGT.out _ hHeld).mono ?_); rintro e w2 ⟨rfl, hc2⟩)
  refine hK.out _ _ (below_step hHeld hc2) (fun hHeld => ?_)
  clear hK K hc2
  (refine hd_take 7 (v := ?_) rfl (by kernel_rfl) (by kernel_rfl) (fun _ _ _ h => h) (by assumption) ?_ ?_; rotate_left; (intro w hSw; (try dsimp only at hSw); go_simp; first | done | with_reducible rfl); simp only [Act.put, List.setIfInBounds_toArray, List.set_cons_zero, List.set_cons_succ])
  (refine hd_take 8 (v := ?_) rfl (by kernel_rfl) (by kernel_rfl) (fun _ _ _ h => h) (by assumption) ?_ ?_; rotate_left; (intro w hSw; (try dsimp only at hSw); go_simp; first | done | with_reducible rfl); simp only [Act.put, List.setIfInBounds_toArray, List.set_cons_zero, List.set_cons_succ])
  (refine hd_take 9 (v := ?_) rfl (by kernel_rfl) (by kernel_rfl) (fun _ _ _ h => h) (by assumption) ?_ ?_; rotate_left; (intro w hSw; (try dsimp only at hSw); go_simp; first | done | with_reducible rfl); simp only [Act.put, List.setIfInBounds_toArray, List.set_cons_zero, List.set_cons_succ])
  (refine hd_take 10 (v := ?_) rfl (by kernel_rfl) (by kernel_rfl) (fun _ _ _ h => h) (by assumption) ?_ ?_; rotate_left; (intro w hSw; (try dsimp only at hSw); go_simp; first | done | with_reducible rfl); simp only [Act.put, List.setIfInBounds_toArray, List.set_cons_zero, List.set_cons_succ])
  (refine hd_take 11 (v := ?_) rfl (by kernel_rfl) (by kernel_rfl) (fun _ _ _ h => h) (by assumption) ?_ ?_; rotate_left; (intro w hSw; (try dsimp only at hSw); go_simp; first | done | with_reducible rfl); simp only [Act.put, List.setIfInBounds_toArray, List.set_cons_zero, List.set_cons_succ])
  refine wpAnyH_done (by kernel_rfl) ?_ _
  have HB2 := Aside0.mk (below_step HB1.out hHeld)
  have HX2 := Aside0.mk (box_keep HX1.out hHeld)
  have HZ2 := Aside0.mk (box_keep HZ1.out hHeld)
  have HSR2 := Aside0.mk (HSR.out _ hHeld)
  clear hHeld
  obtain ⟨r0, r1, r2, r3, r4, r5, r6, r7⟩ := vr_cells HZ2.out
  go_wp2_with fail
  (with_reducible refine HSR2.out.mono ?_)
  rintro e w3 ⟨rfl, hb3⟩
  have HB3 := Aside0.mk (below_step HB2.out hb3)
  have HX3 := Aside0.mk (box_keep HX2.out hb3)
  have HZ3 := Aside0.mk (box_keep HZ2.out hb3)
  clear hb3 r0 r1 r2 r3 r4 r5 r6 r7
  go_wp2_with fail
  subst hg
  go_ret
  exact ⟨rfl, HB3.out⟩
theorem box_lt {w : World} {k : Nat} {o : Obj} (h : w.heap[k]? = some o) : k < w.heap.size := (Array.getElem?_eq_some_iff.1 h).1
theorem own_lt2 {W : World} {B b n c : Nat} {l : List Vr} (h : OVr W B (.slice (some ⟨b, 0, none⟩) n c) l) : b < W.heap.size ∧ B ≤ b := by
  obtain ⟨cur, h1, h2, _⟩ := OR_cur h
  exact ⟨box_lt h1, h2⟩
theorem iadd_fin {w : World} {B X L : Nat} {m : Int} {its : List M.It} {l : List Vr} {v : Vr} {lv : Int} {xs : List M.Nd} (hX : w.heap[X]? = some (ixB L m)) (hBX : B ≤ X) (hS : M.SK w L xs) (hits : xs.tail.map M.Nd.it = its) (hbl : ∀ k ∈ L :: M.blks xs, B ≤ k) (hrs : IRs w B its l) (hm : mayV v = true) (hh : hadV l v = false)
    (w6 w7 : World) (xs' : List M.Nd) (u : M.Sl) (hb6 : Below w.heap.size w w6) (hO : OVr w6 w.heap.size (slv u) (aV (ofV l v.k) v ++ v :: bV (ofV l v.k) v)) (hX6 : w6.heap[X]? = some (ixB L m)) (hS6 : M.SK w6 L xs) (hS7 : M.SK w7 L xs') (hp7 : xs'.tail.map M.Nd.it = M.putS its v.k lv u) (hf7 : M.Frm (L :: M.blks xs) w6 w7) (hk7 : ∀ k ∈ M.blks xs', k ∈ M.blks xs ∨ w6.heap.size ≤ k) :
    IXi (w7.setCell ⟨X, 1, none⟩ (.int .i64 (m + 1))) B X (m + 1) (M.putS its v.k lv u) (addV l v).1 ∧ IFr w (w7.setCell ⟨X, 1, none⟩ (.int .i64 (m + 1))) ∧ Below B w (w7.setCell ⟨X, 1, none⟩ (.int .i64 (m + 1))) := by
  have hBw : B ≤ w.heap.size := Nat.le_trans hBX (Nat.le_of_lt (box_lt hX))
  have hXo := X_out hS6.1 hX6
  have hX7 : w7.heap[X]? = some (ixB L m) := (hf7.block X (box_lt hX6) hXo).trans hX6
  have hXo7 := X_out hS7.1 hX7
  have hfX : M.Frm (X :: L :: M.blks xs) w6 (w7.setCell ⟨X, 1, none⟩ (.int .i64 (m + 1))) := M.Frm.set (hf7.mono (fun k hk _ => List.mem_cons_of_mem _ hk)) List.mem_cons_self _
  have hfr := IFr.of_frm hS6.1 hX6 hfX
  have hw := (IFr.of_below hb6).trans hfr
  have hs := sk_srt hS
  rw [hits] at hs
  have h8 := IRs_put (IRs_ifr hrs hw) hs hm hh lv u (OVr_ifr (Kd.R_lower hO hBw) hfr)
  refine ⟨⟨L, xs', ?_, hBX, ⟨M.SL_frm hS7.1 (M.Frm.set (M.Frm.refl [X] w7) (by simp) _) (fun k hk hc => ?_), hS7.2⟩, hp7, ?_, h8⟩, hw, ?_⟩
  · rw [M.heap_set_row hX7]
    rfl
  · rw [List.mem_singleton] at hc
    rw [hc] at hk
    exact hXo7 hk
  · intro k hk
    rcases List.mem_cons.1 hk with rfl | hk
    · exact hbl _ List.mem_cons_self
    · rcases hk7 k hk with h1 | h1
      · exact hbl k (List.mem_cons_of_mem _ h1)
      · have := hb6.size
        omega
  · exact M.Frm.below (hb6.mono hBw) hfX (fun k hk => by
      rcases List.mem_cons.1 hk with rfl | hk
      · exact hBX
      · exact hbl k hk) hBw
set_option maxRecDepth 100000 in
set_option maxHeartbeats 8000000 in
theorem iadd_new (w : World) (B X : Nat) (m : Int) (its : List M.It) (l : List Vr) (v : Vr) (lv : Int) (h : IXi w B X m its l) (hk : v.k.size ≤ 100000) (hv : v.v.size ≤ 9223372036854775807) (hl : l.length ≤ 4000) (hm0 : 0 ≤ m) (hm1 : m ≤ 100000) (hm : mayV v = true) (hh : hadV l v = false) :
    Calls Try.prog 10 #[.pointer (some ⟨X, 0, none⟩), (.agg #[.string v.k, .int .i64 v.br, .int .i64 v.ep, .int .i64 v.sq, .int .i64 v.f, .int .i64 v.t, .string v.v, .bool v.g]), .int .i64 lv] w fun e w' => e = .returned (.int .i64 0) ∧ ∃ u, IXi w' B X (m + 1) (M.putS its v.k lv u) (addV l v).1 ∧ IFr w w' ∧ Below B w w' := by
  have hxs := its_len h
  have h0 := h
  obtain ⟨L, xs, hX, hBX, hS, hits, hbl, hrs⟩ := h
  obtain ⟨A, n, c, bo, hget, hrow⟩ := get_row h0 v.k
  obtain ⟨lk, hlk⟩ : ∃ lk, ofV l v.k = lk := ⟨_, rfl⟩
  have hle : lk.length ≤ l.length := by rw [← hlk]; exact List.length_filter_le _ _
  have hslk : SrtV lk := by rw [← hlk]; exact srt_of hrs.1 _
  have hhad : hadV lk v = hadV l v := by rw [← hlk]; exact had_of l v
  rw [hlk] at hrow
  obtain ⟨hn, hnc, hC⟩ := Kd.R_reads' hrow
  rw [← hn] at hC
  obtain ⟨i, hie⟩ : ∃ i, (aV lk v).length = i := ⟨_, rfl⟩
  have hi : i ≤ n := by rw [← hie, hn]; exact aV_len lk v
  have hlo : ∀ j, j < i → cmpV (lk.getD j default) v < 0 := fun j hj => aV_lo lk v j (by rw [hie]; exact hj)
  have hhi : ∀ j, i ≤ j → j < n → 0 ≤ cmpV (lk.getD j default) v := fun j h1 h2 => aV_hi lk v hslk j (by rw [hie]; exact h1) (by omega)
  obtain ⟨hd, hhd⟩ : ∃ hd, (decide (i < n) && decide (cmpV (lk.getD i default) v = 0)) = hd := ⟨_, rfl⟩
  have hhd2 : hd = hadV l v := by
    rw [← hhad, ← hhd, Bool.eq_iff_iff, Bool.and_eq_true, decide_eq_true_eq, decide_eq_true_eq, had_at hslk, hie, hn]
  rw [hh] at hhd2
  rw [hhd2] at hhd
  have hti : lk.take i = aV lk v := by rw [← hie]; exact take_aV lk v
  have hdi : lk.drop i = bV lk v := by rw [← hie]; exact drop_aV lk v
  have HFIN0 := Aside0.mk (iadd_fin (lv := lv) hX hBX hS hits hbl hrs hm hh)
  rw [hlk, ← hti, ← hdi] at HFIN0
  have HXS : Aside0 (xs.length ≤ 100000) := ⟨by
    have h9 := congrArg List.length hits
    rw [List.length_map, List.length_tail] at h9
    omega⟩
  have HXO := Aside0.mk (X_out hS.1 hX)
  clear hhd2
  have HM := Aside0.mk (fun W => may_calls v.k v.br v.ep v.sq v.f v.t v.v v.g W hk hv)
  rw [show (⟨v.k, v.br, v.ep, v.sq, v.f, v.t, v.v, v.g⟩ : Vr) = v from rfl, hm] at HM
  obtain ⟨g, hg⟩ : ∃ g, w.heap.size = g := ⟨_, rfl⟩
  obtain ⟨W, hW⟩ : ∃ W, w.alloc (vrBox v.k v.br v.ep v.sq v.f v.t v.v v.g) = W := ⟨_, rfl⟩
  have hb : Below w.heap.size w W := by rw [← hW]; exact below_alloc (Below.refl _ _) _
  have z0 : W.heap[g]? = some (vrBox v.k v.br v.ep v.sq v.f v.t v.v v.g) := by rw [← hW, ← hg]; exact blk_new w _
  obtain ⟨c0, c1, c2, c3, c4, c5, c6, c7⟩ := vr_cells z0
  have HB := Aside0.mk hb
  have HZ := Aside0.mk z0
  clear hb z0 hm
  go_enter Try.func10, Try.ntmps10
  go_wp2_with fail
  (with_reducible refine (HM.out W).mono ?_)
  rintro e w1 ⟨rfl, hb1⟩
  have HB1 := Aside0.mk (below_step HB.out hb1)
  have HZ1 := Aside0.mk (box_keep HZ.out hb1)
  clear hb1 c0 c1 c2 c3 c4 c5 c6 c7
  go_wp2_with fail
  have HX1 : Aside0 (w1.heap[X]? = some (ixB L m)) := ⟨box_keep hX HB1.out⟩
  have HGT : Aside0 (∀ V, Below w1.heap.size w1 V → Calls Try.prog 27 #[.pointer (some ⟨L, 0, none⟩), .string v.k] V fun e w' => e = .returned (.tuple #[.slice A n c, .bool bo]) ∧ Below V.heap.size V w') := ⟨fun V hV => by
    have h9 := M.get_calls V L xs v.k ⟨M.SL_below hS.1 (below_step HB1.out hV), hS.2⟩
    rw [hits, hget] at h9
    exact h9⟩
  have HSR : Aside0 (∀ V, Below w1.heap.size w1 V → Calls Try.prog 28 #[.slice A n c, (.agg #[.string v.k, .int .i64 v.br, .int .i64 v.ep, .int .i64 v.sq, .int .i64 v.f, .int .i64 v.t, .string v.v, .bool v.g]), .func (.func 29) #[] #[]] V fun e w' => e = .returned (.tuple #[.int .i64 (i : Int), .bool false]) ∧ Below V.heap.size V w') := ⟨fun V hV => by
    have h9 := search_calls A n c lk v i V (Kd.C_below hC (below_step HB1.out hV)) hnc (by omega) hi hlo hhi
    rw [hhd] at h9
    exact h9⟩
  have HC := Aside0.mk hC
  have HSL := Aside0.mk hS
  have HNL := Aside0.mk hn
  have HLE := Aside0.mk hle
  have HIE := Aside0.mk hie
  have HNC := Aside0.mk hnc
  have HIT := Aside0.mk hits
  have HFIN : Aside0 (∀ w6 w7 xs' u, _) := HFIN0
  have hn4 : n ≤ 4000 := by omega
  have j1 : IntKind.i64.wrap (m + 1) = m + 1 := IntWalk.i64_in _ (by omega)
  clear hX hBX hS hits hbl hrs hget hrow hC hlk h0 hslk hhad hlo hhi hhd hn hle hie hxs hti hdi HFIN0
  refine wp_region_held_drew (S := (fun w' => Below w1.heap.size w1 w')) (by kernel_rfl) (below_drew1 (Below.refl _ _)) (fun hHeld => ?_)
  (refine hd_take 0 (v := ?_) rfl (by kernel_rfl) (by kernel_rfl) (fun _ _ _ h => h) (by assumption) ?_ ?_; rotate_left; (intro w hSw; (try dsimp only at hSw); go_simp; first | done | with_reducible rfl); simp only [Act.put, List.setIfInBounds_toArray, List.set_cons_zero, List.set_cons_succ])
  (refine hd_take 1 (v := ?_) rfl (by kernel_rfl) (by kernel_rfl) (fun _ _ _ h => h) (by assumption) ?_ ?_; rotate_left; (intro w hSw; (try dsimp only at hSw); go_simp; first | done | with_reducible rfl); simp only [Act.put, List.setIfInBounds_toArray, List.set_cons_zero, List.set_cons_succ])
  (refine hd_take 2 (v := ?_) rfl (by kernel_rfl) (by kernel_rfl) (fun _ _ _ h => h) (by assumption) ?_ ?_; rotate_left; (intro w hSw; (try dsimp only at hSw); go_simp; first | done | with_reducible rfl); simp only [Act.put, List.setIfInBounds_toArray, List.set_cons_zero, List.set_cons_succ])
  (refine hd_take 3 (v := ?_) rfl (by kernel_rfl) (by kernel_rfl) (fun _ _ _ h => h) (by assumption) ?_ ?_; rotate_left; (intro w hSw; (try dsimp only at hSw); obtain ⟨x0, x1, x2⟩ := ix_cells (box_keep HX1.out hSw); obtain ⟨r0, r1, r2, r3, r4, r5, r6, r7⟩ := vr_cells (box_keep HZ1.out hSw); go_simp; first | done | with_reducible rfl); simp only [Act.put, List.setIfInBounds_toArray, List.set_cons_zero, List.set_cons_succ])
  (refine hd_take 4 (v := ?_) rfl (by kernel_rfl) (by kernel_rfl) (fun _ _ _ h => h) (by assumption) ?_ ?_; rotate_left; (intro w hSw; (try dsimp only at hSw); go_simp; first | done | with_reducible rfl); simp only [Act.put, List.setIfInBounds_toArray, List.set_cons_zero, List.set_cons_succ])
  (refine hd_take 5 (v := ?_) rfl (by kernel_rfl) (by kernel_rfl) (fun _ _ _ h => h) (by assumption) ?_ ?_; rotate_left; (intro w hSw; (try dsimp only at hSw); obtain ⟨x0, x1, x2⟩ := ix_cells (box_keep HX1.out hSw); obtain ⟨r0, r1, r2, r3, r4, r5, r6, r7⟩ := vr_cells (box_keep HZ1.out hSw); go_simp; first | done | with_reducible rfl); simp only [Act.put, List.setIfInBounds_toArray, List.set_cons_zero, List.set_cons_succ])
  refine hd_one 6 rfl (by kernel_rfl) (fun K hK => ?_)
  go_simp
  go_wp2_with ((go_at_call 27); (with_reducible refine (HGT.out _ hHeld).mono ?_); rintro e w2 ⟨rfl, hc2⟩)
  refine hK.out _ _ (below_step hHeld hc2) (fun hHeld => ?_)
  clear hK K hc2
  (refine hd_take 7 (v := ?_) rfl (by kernel_rfl) (by kernel_rfl) (fun _ _ _ h => h) (by assumption) ?_ ?_; rotate_left; (intro w hSw; (try dsimp only at hSw); go_simp; first | done | with_reducible rfl); simp only [Act.put, List.setIfInBounds_toArray, List.set_cons_zero, List.set_cons_succ])
  (refine hd_take 8 (v := ?_) rfl (by kernel_rfl) (by kernel_rfl) (fun _ _ _ h => h) (by assumption) ?_ ?_; rotate_left; (intro w hSw; (try dsimp only at hSw); go_simp; first | done | with_reducible rfl); simp only [Act.put, List.setIfInBounds_toArray, List.set_cons_zero, List.set_cons_succ])
  (refine hd_take 9 (v := ?_) rfl (by kernel_rfl) (by kernel_rfl) (fun _ _ _ h => h) (by assumption) ?_ ?_; rotate_left; (intro w hSw; (try dsimp only at hSw); go_simp; first | done | with_reducible rfl); simp only [Act.put, List.setIfInBounds_toArray, List.set_cons_zero, List.set_cons_succ])
  (refine hd_take 10 (v := ?_) rfl (by kernel_rfl) (by kernel_rfl) (fun _ _ _ h => h) (by assumption) ?_ ?_; rotate_left; (intro w hSw; (try dsimp only at hSw); go_simp; first | done | with_reducible rfl); simp only [Act.put, List.setIfInBounds_toArray, List.set_cons_zero, List.set_cons_succ])
  (refine hd_take 11 (v := ?_) rfl (by kernel_rfl) (by kernel_rfl) (fun _ _ _ h => h) (by assumption) ?_ ?_; rotate_left; (intro w hSw; (try dsimp only at hSw); go_simp; first | done | with_reducible rfl); simp only [Act.put, List.setIfInBounds_toArray, List.set_cons_zero, List.set_cons_succ])
  refine wpAnyH_done (by kernel_rfl) ?_ _
  have HB2 := Aside0.mk (below_step HB1.out hHeld)
  have HX2 := Aside0.mk (box_keep HX1.out hHeld)
  have HZ2 := Aside0.mk (box_keep HZ1.out hHeld)
  have HSR2 := Aside0.mk (HSR.out _ hHeld)
  clear hHeld
  obtain ⟨r0, r1, r2, r3, r4, r5, r6, r7⟩ := vr_cells HZ2.out
  go_wp2_with fail
  (with_reducible refine HSR2.out.mono ?_)
  rintro e w3 ⟨rfl, hb3⟩
  have HB3 := Aside0.mk (below_step HB2.out hb3)
  have HX3 := Aside0.mk (box_keep HX2.out hb3)
  have HZ3 := Aside0.mk (box_keep HZ2.out hb3)
  clear hb3 r0 r1 r2 r3 r4 r5 r6 r7
  have HD3 : Aside0 (Below w3.heap.size w3 w3.drew) := ⟨below_drew1 (Below.refl _ _)⟩
  have HXL := Aside0.mk (box_lt HX3.out)
  have HZL := Aside0.mk (box_lt HZ3.out)
  have HZO : Aside0 (∀ V, M.SK V L xs → V.heap[g]? = some (vrBox v.k v.br v.ep v.sq v.f v.t v.v v.g) → g ∉ L :: M.blks xs) := ⟨fun V hV hz hk => by
    obtain ⟨cs, q, h1, h2⟩ := SL_types hV.1 g hk
    rw [hz] at h1
    injection h1 with h1
    injection h1 with _ e
    rw [← e] at h2
    revert h2
    unfold ixT
    decide⟩
  go_wp2_with fail
  refine wp_region_held_drew (S := (fun w' => w'.heap[X]? = some (ixB L m) ∧ w'.heap[g]? = some (vrBox v.k v.br v.ep v.sq v.f v.t v.v v.g))) (by kernel_rfl) ⟨HX3.out, HZ3.out⟩ (fun hHeld => ?_)
  (refine hd_take 0 (v := ?_) rfl (by kernel_rfl) (by kernel_rfl) (fun _ _ _ h => h) (by assumption) ?_ ?_; rotate_left; (intro w hSw; (try dsimp only at hSw); go_simp; first | done | with_reducible rfl); simp only [Act.put, List.setIfInBounds_toArray, List.set_cons_zero, List.set_cons_succ])
  (refine hd_take 1 (v := ?_) rfl (by kernel_rfl) (by kernel_rfl) (fun _ _ _ h => h) (by assumption) ?_ ?_; rotate_left; (intro w hSw; (try dsimp only at hSw); go_simp; first | done | with_reducible rfl); simp only [Act.put, List.setIfInBounds_toArray, List.set_cons_zero, List.set_cons_succ])
  (refine hd_take 2 (v := ?_) rfl (by kernel_rfl) (by kernel_rfl) (fun _ _ _ h => h) (by assumption) ?_ ?_; rotate_left; (intro w hSw; (try dsimp only at hSw); go_simp; first | done | with_reducible rfl); simp only [Act.put, List.setIfInBounds_toArray, List.set_cons_zero, List.set_cons_succ])
  (refine hd_take 3 (v := ?_) rfl (by kernel_rfl) (by kernel_rfl) (fun _ _ _ h => h) (by assumption) ?_ ?_; rotate_left; (intro w hSw; (try dsimp only at hSw); obtain ⟨x0, x1, x2⟩ := ix_cells hSw.1; obtain ⟨r0, r1, r2, r3, r4, r5, r6, r7⟩ := vr_cells hSw.2; go_simp; first | done | with_reducible rfl); simp only [Act.put, List.setIfInBounds_toArray, List.set_cons_zero, List.set_cons_succ])
  (refine hd_take 4 (v := ?_) rfl (by kernel_rfl) (by kernel_rfl) (fun _ _ _ h => h) (by assumption) ?_ ?_; rotate_left; (intro w hSw; (try dsimp only at hSw); go_simp; first | done | with_reducible rfl); simp only [Act.put, List.setIfInBounds_toArray, List.set_cons_zero, List.set_cons_succ])
  (refine hd_take 5 (v := ?_) rfl (by kernel_rfl) (by kernel_rfl) (fun _ _ _ h => h) (by assumption) ?_ ?_; rotate_left; (intro w hSw; (try dsimp only at hSw); obtain ⟨x0, x1, x2⟩ := ix_cells hSw.1; obtain ⟨r0, r1, r2, r3, r4, r5, r6, r7⟩ := vr_cells hSw.2; go_simp; first | done | with_reducible rfl); simp only [Act.put, List.setIfInBounds_toArray, List.set_cons_zero, List.set_cons_succ])
  (refine hd_take 6 (v := ?_) rfl (by kernel_rfl) (by kernel_rfl) (fun _ _ _ h => h) (by assumption) ?_ ?_; rotate_left; (intro w hSw; (try dsimp only at hSw); go_simp; first | done | with_reducible rfl); simp only [Act.put, List.setIfInBounds_toArray, List.set_cons_zero, List.set_cons_succ])
  (refine hd_take 7 (v := ?_) rfl (by kernel_rfl) (by kernel_rfl) (fun _ _ _ h => h) (by assumption) ?_ ?_; rotate_left; (intro w hSw; (try dsimp only at hSw); go_simp; first | done | with_reducible rfl); simp only [Act.put, List.setIfInBounds_toArray, List.set_cons_zero, List.set_cons_succ])
  (refine hd_take 9 (v := ?_) rfl (by kernel_rfl) (by kernel_rfl) (fun _ _ _ h => h) (by assumption) ?_ ?_; rotate_left; (intro w hSw; (try dsimp only at hSw); go_simp; first | done | with_reducible rfl); simp only [Act.put, List.setIfInBounds_toArray, List.set_cons_zero, List.set_cons_succ])
  (refine hd_take 10 (v := ?_) rfl (by kernel_rfl) (by kernel_rfl) (fun _ _ _ h => h) (by assumption) ?_ ?_; rotate_left; (intro w hSw; (try dsimp only at hSw); obtain ⟨x0, x1, x2⟩ := ix_cells hSw.1; obtain ⟨r0, r1, r2, r3, r4, r5, r6, r7⟩ := vr_cells hSw.2; go_simp; first | done | with_reducible rfl); simp only [Act.put, List.setIfInBounds_toArray, List.set_cons_zero, List.set_cons_succ])
  refine hd_two 8 11 rfl rfl (by kernel_rfl) (fun K hK => ?_) (fun K hK => ?_)
  · go_simp
    go_wp2_with ((go_at_call 32); (with_reducible refine (cloneVr_calls A n c lk _ (Kd.C_below HC.out (below_step HB3.out HD3.out)) HNC.out (by omega)).mono ?_); rintro e w4 ⟨v4, rfl, hO4, hb4⟩)
    refine hK.out _ _ ⟨box_keep hHeld.1 hb4, box_keep hHeld.2 hb4⟩ (fun hHeld => ?_)
    obtain ⟨A4, c4, rfl, hc4, hC4⟩ := OVr_readn hO4 n HNL.out.symm
    have HO4 := Aside0.mk hO4
    have HB4 := Aside0.mk (below_step HD3.out hb4)
    clear hK K hO4 hb4 hC4
    refine hd_one 11 rfl (by kernel_rfl) (fun K hK => ?_)
    go_simp
    obtain ⟨w5, hw5⟩ : ∃ w5, w4.alloc (vrBox v.k v.br v.ep v.sq v.f v.t v.v v.g) = w5 := ⟨_, rfl⟩
    have hb5 : Below w4.heap.size w4 w5 := by rw [← hw5]; exact below_alloc (Below.refl _ _) _
    refine hK.out _ _ (by rw [hw5]; exact ⟨box_keep hHeld.1 hb5, box_keep hHeld.2 hb5⟩) (fun hHeld => ?_)
    rw [hw5]
    rw [hw5] at hHeld
    have hz5 : w5.heap[w4.heap.size]? = some (vrB v) := by rw [← hw5]; exact blk_new w4 _
    have HB5 := Aside0.mk (below_step HB4.out hb5)
    have HI5 := Aside0.mk (ins_calls A4 c4 n i lk v w5 w3.heap.size w4.heap.size hz5 (fun b e => by subst e; have := own_lt2 HO4.out; omega) (Kd.R_below HO4.out hb5) HB5.out.size (by omega) hi)
    clear hK K hb5 hz5 hw5
    refine hd_one 12 rfl (by kernel_rfl) (fun K hK => ?_)
    go_simp
    go_wp2_with ((go_at_call 31); (with_reducible refine HI5.out.mono ?_); rintro e w6 ⟨u6, rfl, hO6, hb6⟩)
    have hb36 := HB5.out.trans hb6
    refine hK.out _ _ ⟨(hb36.block X HXL.out).trans HX3.out, (hb36.block g HZL.out).trans HZ3.out⟩ (fun hHeld => ?_)
    obtain ⟨n6, hn6⟩ : ∃ n6, (lk.take i ++ v :: lk.drop i).length = n6 := ⟨_, rfl⟩
    obtain ⟨A6, c6, rfl, hc6, hC6⟩ := OVr_readn hO6 n6 hn6
    have HO6 := Aside0.mk hO6
    have HB6 := Aside0.mk (below_step HB3.out hb36)
    have HB36 := Aside0.mk hb36
    have HS6 : Aside0 (M.SK w6 L xs) := ⟨M.SL_below HSL.out.1 HB6.out, HSL.out.2⟩
    clear hK K hb6 hb36 hO6 hC6 hn6
    refine hd_one 13 rfl (by kernel_rfl) (fun K hK => ?_)
    go_simp
    go_wp2_with ((go_at_call 30); (with_reducible refine (M.put_calls w6 L xs v.k lv ⟨A6, n6, c6⟩ HS6.out HXS.out).mono ?_); rintro e w7 ⟨rfl, xs', hS7, hp7, hf7, hk7⟩)
    refine hK.out _ _ ⟨(hf7.block X (box_lt hHeld.1) HXO.out).trans hHeld.1, (hf7.block g (box_lt hHeld.2) (HZO.out w6 HS6.out hHeld.2)).trans hHeld.2⟩ (fun hHeld7 => ?_)
    have HX6 := Aside0.mk hHeld.1
    have HX7 := Aside0.mk hHeld7.1
    have HS7 := Aside0.mk hS7
    rw [HIT.out] at hp7
    have HP7 := Aside0.mk hp7
    have HF7 := Aside0.mk hf7
    have HK7 := Aside0.mk hk7
    clear hK K hS7 hp7 hf7 hk7 hHeld hHeld7
    refine wpAnyH_done (by kernel_rfl) ?_ _
    obtain ⟨x0, x1, x2⟩ := ix_cells HX7.out
    go_wp2_with fail
    subst hg
    go_ret
    exact ⟨rfl, _, HFIN.out w6 w7 xs' ⟨A6, n6, c6⟩ HB6.out (Kd.R_lower HO6.out HB3.out.size) HX6.out HS6.out HS7.out HP7.out HF7.out HK7.out⟩
  · go_simp
    obtain ⟨w4, hw4⟩ : ∃ w4, (w3.alloc (vrBox v.k v.br v.ep v.sq v.f v.t v.v v.g)).drew = w4 := ⟨_, rfl⟩
    have hb4 : Below w3.heap.size w3 w4 := by rw [← hw4]; exact (below_alloc (Below.refl _ _) _).drew
    refine hK.out _ _ (by rw [hw4]; exact ⟨box_keep HX3.out hb4, box_keep HZ3.out hb4⟩) (fun hHeld => ?_)
    rw [hw4]
    rw [hw4] at hHeld
    have hz4 : w4.heap[w3.heap.size]? = some (vrB v) := by rw [← hw4]; exact blk_new w3 _
    have hlt4 : w3.heap.size < w4.heap.size := box_lt hz4
    have HB4 := Aside0.mk hb4
    clear hK K hb4 hw4
    refine hd_one 8 rfl (by kernel_rfl) (fun K hK => ?_)
    go_simp
    go_wp2_with ((go_at_call 32); (with_reducible refine (cloneVr_calls A n c lk _ (Kd.C_below HC.out (below_step HB3.out HB4.out)) HNC.out (by omega)).mono ?_); rintro e w5 ⟨v4, rfl, hO4, hb5⟩)
    refine hK.out _ _ ⟨box_keep hHeld.1 hb5, box_keep hHeld.2 hb5⟩ (fun hHeld => ?_)
    obtain ⟨A4, c4, rfl, hc4, hC4⟩ := OVr_readn hO4 n HNL.out.symm
    have HB5 := Aside0.mk (below_step HB4.out hb5)
    have HI5 := Aside0.mk (ins_calls A4 c4 n i lk v w5 w3.heap.size w3.heap.size (box_keep hz4 hb5) (fun b e => by subst e; have := own_lt2 hO4; omega) (Kd.R_lower hO4 (by omega)) HB5.out.size (by omega) hi)
    clear hK K hO4 hb5 hC4 hz4 hlt4
    refine hd_one 12 rfl (by kernel_rfl) (fun K hK => ?_)
    go_simp
    go_wp2_with ((go_at_call 31); (with_reducible refine HI5.out.mono ?_); rintro e w6 ⟨u6, rfl, hO6, hb6⟩)
    have hb36 := HB5.out.trans hb6
    refine hK.out _ _ ⟨(hb36.block X HXL.out).trans HX3.out, (hb36.block g HZL.out).trans HZ3.out⟩ (fun hHeld => ?_)
    obtain ⟨n6, hn6⟩ : ∃ n6, (lk.take i ++ v :: lk.drop i).length = n6 := ⟨_, rfl⟩
    obtain ⟨A6, c6, rfl, hc6, hC6⟩ := OVr_readn hO6 n6 hn6
    have HO6 := Aside0.mk hO6
    have HB6 := Aside0.mk (below_step HB3.out hb36)
    have HB36 := Aside0.mk hb36
    have HS6 : Aside0 (M.SK w6 L xs) := ⟨M.SL_below HSL.out.1 HB6.out, HSL.out.2⟩
    clear hK K hb6 hb36 hO6 hC6 hn6
    refine hd_one 13 rfl (by kernel_rfl) (fun K hK => ?_)
    go_simp
    go_wp2_with ((go_at_call 30); (with_reducible refine (M.put_calls w6 L xs v.k lv ⟨A6, n6, c6⟩ HS6.out HXS.out).mono ?_); rintro e w7 ⟨rfl, xs', hS7, hp7, hf7, hk7⟩)
    refine hK.out _ _ ⟨(hf7.block X (box_lt hHeld.1) HXO.out).trans hHeld.1, (hf7.block g (box_lt hHeld.2) (HZO.out w6 HS6.out hHeld.2)).trans hHeld.2⟩ (fun hHeld7 => ?_)
    have HX6 := Aside0.mk hHeld.1
    have HX7 := Aside0.mk hHeld7.1
    have HS7 := Aside0.mk hS7
    rw [HIT.out] at hp7
    have HP7 := Aside0.mk hp7
    have HF7 := Aside0.mk hf7
    have HK7 := Aside0.mk hk7
    clear hK K hS7 hp7 hf7 hk7 hHeld hHeld7
    refine wpAnyH_done (by kernel_rfl) ?_ _
    obtain ⟨x0, x1, x2⟩ := ix_cells HX7.out
    go_wp2_with fail
    subst hg
    go_ret
    exact ⟨rfl, _, HFIN.out w6 w7 xs' ⟨A6, n6, c6⟩ HB6.out (Kd.R_lower HO6.out HB3.out.size) HX6.out HS6.out HS7.out HP7.out HF7.out HK7.out⟩
/-- chain's Add: its answer, and the index behind it. -/
theorem iadd_calls (w : World) (B X : Nat) (m : Int) (its : List M.It) (l : List Vr) (v : Vr) (lv : Int) (h : IXi w B X m its l) (hk : v.k.size ≤ 100000) (hv : v.v.size ≤ 9223372036854775807) (hl : l.length ≤ 4000) (hm0 : 0 ≤ m) (hm1 : m ≤ 100000) :
    Calls Try.prog 10 #[.pointer (some ⟨X, 0, none⟩), (.agg #[.string v.k, .int .i64 v.br, .int .i64 v.ep, .int .i64 v.sq, .int .i64 v.f, .int .i64 v.t, .string v.v, .bool v.g]), .int .i64 lv] w fun e w' => e = .returned (.int .i64 (addV l v).2) ∧ (∃ its', IXi w' B X (if (addV l v).2 = 0 then m + 1 else m) its' (addV l v).1 ∧ ((addV l v).2 = 0 → ∃ u, its' = M.putS its v.k lv u) ∧ ((addV l v).2 ≠ 0 → its' = its)) ∧ IFr w w' ∧ Below B w w' := by
  have hBw : B ≤ w.heap.size := by
    obtain ⟨L, xs, hX, hBX, _⟩ := h
    exact Nat.le_trans hBX (Nat.le_of_lt (box_lt hX))
  cases hm : mayV v with
  | false =>
    have e1 : addV l v = (l, 1) := by unfold addV; rw [if_pos hm]
    rw [e1]
    refine (iadd_bad w B X m its l v lv h hk hv hm).mono ?_
    rintro e w' ⟨rfl, hb⟩
    exact ⟨rfl, ⟨its, IXi_below h hb, fun h9 => by simp at h9, fun _ => rfl⟩, IFr.of_below hb, hb.mono hBw⟩
  | true =>
    cases hh : hadV l v with
    | true =>
      have e1 : addV l v = (l, 9) := by unfold addV; rw [if_neg (by simp [hm]), if_pos hh]
      rw [e1]
      refine (iadd_had w B X m its l v lv h hk hv hl hm hh).mono ?_
      rintro e w' ⟨rfl, hb⟩
      exact ⟨rfl, ⟨its, IXi_below h hb, fun h9 => by simp at h9, fun _ => rfl⟩, IFr.of_below hb, hb.mono hBw⟩
    | false =>
      have e1 : (addV l v).2 = 0 := by unfold addV; rw [if_neg (by simp [hm]), if_neg (by simp [hh])]
      rw [e1, if_pos rfl]
      refine (iadd_new w B X m its l v lv h hk hv hl hm0 hm1 hm hh).mono ?_
      rintro e w' ⟨rfl, u, h1, h2, h3⟩
      exact ⟨rfl, ⟨_, h1, fun _ => ⟨u, rfl⟩, fun h9 => absurd rfl h9⟩, h2, h3⟩
end Go.Proofs.Ytheoodbkjgfdfaa.A
