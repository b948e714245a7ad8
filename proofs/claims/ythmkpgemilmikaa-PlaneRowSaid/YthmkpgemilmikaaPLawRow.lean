/- PlaneRow: the area that is left does not hang on the order of the others. -/
import Derived.Test.YthmkpgemilmikaaPLawOnce
import Derived.Test.YthmkpgemilmikaaIHeld
namespace Go.Proofs.Ythmkpgemilmikaa.A
open Go.RowKit Go.Proofs.YthmkpgemilmikaaW.PrintWords Go.Proofs.YthmkpgemilmikaaW.PrintLast Go.Proofs.YthmkpgemilmikaaW.PrintMore
attribute [local go_sem] run_store_cx
set_option linter.unusedVariables false
set_option linter.unusedSimpArgs false

def bks (l : List RR) (k : Nat) : List Rc := (l.reverse.take k).map RR.rc
theorem bks_next (l : List RR) (k : Nat) (hk : k < l.length) : bks l (k + 1) = bks l k ++ [(l.getD (l.length - 1 - k) default).rc] := by
  unfold bks
  rw [List.take_succ_eq_append_getElem (by rw [List.length_reverse]; exact hk), List.map_append, List.getElem_reverse, List.getD_eq_getElem?_getD, List.getElem?_eq_getElem (by omega)]
  rfl
theorem bks_len (l : List RR) (k : Nat) : (bks l k).length ≤ k := by
  unfold bks
  rw [List.length_map, List.length_take]
  omega
theorem bks_ok (l : List RR) (k : Nat) : ∀ b ∈ bks l k, b.ok := by
  intro b hb
  obtain ⟨r, hr, rfl⟩ := List.mem_map.1 hb
  exact rc_ok r
theorem rcs_all (l : List RR) (k : Nat) (h : l.length = k) : rcs l k = l.map RR.rc := by
  unfold rcs
  rw [List.take_of_length_le (by omega)]
theorem bks_all (l : List RR) (k : Nat) (h : l.length = k) : bks l k = l.reverse.map RR.rc := by
  unfold bks
  rw [List.take_of_length_le (by rw [List.length_reverse]; omega)]
/-- Two rows that lie apart. -/
def Apt (v u : Value) : Prop := ∀ b, v.ownBlock = some b → u.ownBlock ≠ some b
theorem Apt.swap {v u : Value} (h : Apt v u) : Apt u v := fun b h1 h2 => h b h2 h1
theorem Apt.ne {v u : Value} (h : Apt v u) : u.ownBlock = none ∨ u.ownBlock ≠ v.ownBlock := by
  cases hu : u.ownBlock with
  | none => exact .inl rfl
  | some b => exact .inr (fun e => h b e.symm hu)
theorem ORc_grown {W w1 : World} {B : Nat} {u : Value} {xs : List Rc} {row : Option Nat} (h : ORc W B u xs) (hg : W.grownBy w1 row) (hne : u.ownBlock = none ∨ u.ownBlock ≠ row) : ORc w1 B u xs := by
  obtain ⟨h0, inner, ho, hr⟩ := h
  exact ⟨h0, inner, ho.kept hg hne, hr⟩
theorem Apt.next {W : World} {B : Nat} {v v1 u : Value} {ys : List Rc} (h : Apt v u) (hu : ORc W B u ys) (h1 : v1.ownBlock = v.ownBlock ∨ ∃ b, v1.ownBlock = some b ∧ W.heap.size ≤ b) : Apt v1 u := by
  intro b hb hb2
  rcases h1 with h1 | ⟨c, h1, h2⟩
  · exact h b (h1.symm.trans hb) hb2
  · obtain ⟨_, inner, ho, _⟩ := hu
    rw [h1] at hb
    injection hb with hb
    subst hb
    have := own_lt ho c hb2
    omega
section
variable {ops : Array Oper} {rest : List Oper} {o : Oper} {a : Act} {Q : Exit → Act → World → Prop} {W : World} {B : Nat}
/-- append(v, r), with where the row lies then. -/
theorem app_rc4 {s x : Operand} (hgd : o.guard = none) (ho : o.op = .call { callee := .builtin .append, args := #[s, x], argTypes := #[34, 34] }) {v : Value} {xs : List Rc} {r : Rc}
    (hs : a.eval s = v) (hx : a.eval x = .slice (some ⟨W.heap.size, 0, none⟩) 1 1) (HO : ORc W B v xs) (hB : B ≤ W.heap.size) (hl : xs.length ≤ 1000000)
    (h : ∀ v1 w1, ORc w1 B v1 (xs ++ [r]) → Below B W w1 → W.grownBy w1 v.ownBlock → (v1.ownBlock = v.ownBlock ∨ ∃ b, v1.ownBlock = some b ∧ W.heap.size ≤ b) → wpList Try.prog ops Q rest (a.put o.dst v1) w1) : wpList Try.prog ops Q (o :: rest) a (W.alloc (.cells #[cx r.e0 r.t0, cx r.e1 r.t1] 29)) :=
  Kd.R_append KRc B hgd s x 34 29 (.agg #[.complex .f64 0 0, .complex .f64 0 0]) 32 ho Try.underlying34 infoRc rfl (by decide) (by decide) v xs r [cx r.e0 r.t0, cx r.e1 r.t1] (fun _ => True) (fun _ => False) hs hx (KRc_M W B _ r) (fun _ h => h.elim) (fun _ _ => trivial) HO (Below.refl B W) hB (by omega) (fun v1 w1 h1 h2 h3 h4 => h v1 w1 h1 h2 h3 h4)
end
set_option maxRecDepth 100000 in
set_option maxHeartbeats 16000000 in
theorem row_calls (w : World) (c1 : Array Value) (a : RR) (hk1 : KRR.K w a (Value.agg c1).cells.toList) (_g1 : a.fits) (A : Option Addr) (c : Nat) (l0 : List RR) (hr : KRR.C w A l0.length l0) (hc : l0.length ≤ c) (_hg : ∀ d ∈ l0, d.fits) :
    Calls Try.prog 7 #[.agg c1, .slice A l0.length c] w fun e w' => e = .returned (.bool true) ∧ Below w.heap.size w w' := by
  have e1 := RR_agg hk1
  subst e1
  clear hk1 _g1 _hg
  have hmx := hr.2.1
  obtain ⟨n, hn⟩ : ∃ n, l0.length = n := ⟨_, rfl⟩
  rw [hn] at hr hc hmx ⊢
  have hxok : a.rc.ok := mkR_ok _ _
  have HBL := Aside0.mk (fun h1 h2 => rc_below a h1 h2)
  have HOF := Aside0.mk (fun W => lof_calls a.e0 a.e1 a.t0 a.t1 W)
  rw [show mkR ⟨a.e0, a.e1⟩ ⟨a.t0, a.t1⟩ = a.rc from rfl] at HOF
  obtain ⟨x, hx⟩ : ∃ x, a.rc = x := ⟨_, rfl⟩
  rw [hx] at HOF hxok HBL
  obtain ⟨bx, hbx⟩ : ∃ c, (S.Sp.may ⟨a.e0, a.e1⟩ && S.Sp.may ⟨a.t0, a.t1⟩) = c := ⟨_, rfl⟩
  rw [hbx] at HOF
  have HXOK := Aside0.mk hxok
  obtain ⟨g, hg⟩ : ∃ g, w.heap.size = g := ⟨_, rfl⟩
  obtain ⟨W, hW⟩ : ∃ W, w.alloc (fB a.e0 a.e1 a.t0 a.t1) = W := ⟨_, rfl⟩
  have hb : Below w.heap.size w W := by rw [← hW]; exact below_alloc (Below.refl _ _) _
  have z0 : W.heap[g]? = some (fB a.e0 a.e1 a.t0 a.t1) := by rw [← hW, ← hg]; exact blk_new w _
  obtain ⟨d0, d1, d2, d3, -⟩ := four_cells z0
  have HB := Aside0.mk hb
  clear hx hbx hb z0 hxok
  have hbig : ((1048576 : Int) < a.e1) ∨ (¬ (1048576 : Int) < a.e1 ∧ (1048576 : Int) < a.t1) ∨ (¬ (1048576 : Int) < a.e1 ∧ ¬ (1048576 : Int) < a.t1) := by omega
  by_cases h5 : 5 < n
  case' pos =>
    obtain ⟨m, hm⟩ : ∃ m : Nat, m = 5 := ⟨_, rfl⟩
    have hcut : ∀ W : World, (Instr.slice 44 (.slice A n c) none (some (.int .i64 5)) none).run Try.prog W = .ok (.slice A m c) W := fun W => by
      rw [hm]
      exact cuttRR A n c 5 (by omega) hc W
    have HR := Aside0.mk (C_takeRR (j := m) hr hn (by omega))
    have hm5 : m ≤ 6 := by omega
    have hmc : m ≤ c := by omega
    have h5' : (5 : Int) < (n : Int) := by omega
    clear hr hn hm
    obtain ⟨l, hl⟩ : ∃ l, l0.take m = l := ⟨_, rfl⟩
    rw [hl] at HR
    clear hl
  case' neg =>
    obtain ⟨m, hm⟩ : ∃ m : Nat, m = n := ⟨_, rfl⟩
    subst hm
    have HR := Aside0.mk hr
    have hm5 : m ≤ 6 := by omega
    have hmc : m ≤ c := by omega
    have h5' : ¬ (5 : Int) < (m : Int) := by omega
    clear hr hn
    obtain ⟨l, hl⟩ : ∃ l, l0 = l := ⟨_, rfl⟩
    rw [hl] at HR
    clear hl
  all_goals
    rcases hbig with p1 | ⟨p1, p2⟩ | ⟨p1, p2⟩
    · go_enter Try.func7, Try.ntmps7
      go_wp2_with fail
      (with_reducible refine (lives_calls _).mono ?_)
      rintro e w8 ⟨rfl, hb8⟩
      have HB8 := Aside0.mk (below_step HB.out hb8)
      clear hb8
      go_wp2_with fail
      clear hg
      go_ret
      exact ⟨rfl, HB8.out⟩
    · go_enter Try.func7, Try.ntmps7
      go_wp2_with fail
      (with_reducible refine (lives_calls _).mono ?_)
      rintro e w8 ⟨rfl, hb8⟩
      have HB8 := Aside0.mk (below_step HB.out hb8)
      clear hb8
      go_wp2_with fail
      clear hg
      go_ret
      exact ⟨rfl, HB8.out⟩
    have HBW := Aside0.mk (HBL.out (by omega) (by omega))
    go_enter Try.func7, Try.ntmps7
    go_wp2_with fail
    (with_reducible refine (HOF.out W).mono ?_)
    rintro e w1 ⟨rfl, hb1⟩
    obtain ⟨g1, hg1⟩ : ∃ g, w1.heap.size = g := ⟨_, rfl⟩
    obtain ⟨W1, hW1⟩ : ∃ W1, w1.alloc (rBox x) = W1 := ⟨_, rfl⟩
    have hb1' : Below W.heap.size W W1 := by rw [← hW1]; exact below_alloc hb1 _
    have hx1 : W1.heap[g1]? = some (rBox x) := by rw [← hW1, ← hg1]; exact blk_new w1 _
    clear d0 d1 d2 d3
    have HB1 := Aside0.mk (below_step HB.out hb1')
    have HX1 := Aside0.mk hx1
    have HR1 := Aside0.mk (Kd.C_below HR.out HB1.out)
    have HLN := Aside0.mk HR.out.1
    clear hb1 hb1' hx1
    go_wp2_with fail
    go_loopw [7, 8, 9, 10, 11, 12, 13] (fun v7 v8 v9 v10 v11 v12 v13 w' => ∃ (k : Nat), k ≤ m ∧ v9 = .int .i64 k ∧ Aside0 (ORc w' W1.heap.size v7 (rcs l k)) ∧ Aside0 (ORc w' W1.heap.size v8 (bks l k)) ∧ Aside0 (Apt v7 v8) ∧ Aside0 (Below W1.heap.size W1 w')) (fun _ _ v9 _ _ _ _ _ => m - (intOf v9).toNat)
    case atStart => exact ⟨0, Nat.zero_le _, rfl, ⟨Kd.R_nil _ _ _ _ _⟩, ⟨Kd.R_nil _ _ _ _ _⟩, ⟨fun b h => by cases h⟩, ⟨Below.refl _ _⟩⟩
    case round =>
      obtain ⟨k, hk, rfl, HO, HP, HAP, HBk⟩ := hrel
      by_cases hlt : k < m
      · have hln : k < l.length := by rw [HLN.out]; exact hlt
        obtain ⟨ad, rfl, q0, q1, q2, q3⟩ := C_atRR (Kd.C_below HR1.out HBk.out) k hlt
        have k1 := rcs_next l k hln
        have k2 := rcs_len l k
        have k3 := bks_next l k hln
        have k4 := bks_len l k
        rw [HLN.out] at k3
        obtain ⟨i, hi⟩ : ∃ i, m - 1 - k = i := ⟨_, rfl⟩
        rw [hi] at k3
        have i1 : (m : Int) - 1 - (k : Int) = (i : Int) := by omega
        have i2 : (i : Int) < (m : Int) := by omega
        have i3 : (0 : Int) ≤ (i : Int) := by omega
        have hi2 : i < m := by omega
        obtain ⟨d, hd⟩ : ∃ d, l.getD k default = d := ⟨_, rfl⟩
        obtain ⟨b, hbb⟩ : ∃ d, l.getD i default = d := ⟨_, rfl⟩
        rw [hd] at q0 q1 q2 q3 k1
        rw [hbb] at k3
        have HBB := Aside0.mk hbb
        have HOD := Aside0.mk (lof_calls d.e0 d.e1 d.t0 d.t1 wr)
        have HOB := Aside0.mk (fun W => lof_calls b.e0 b.e1 b.t0 b.t1 W)
        rw [show mkR ⟨d.e0, d.e1⟩ ⟨d.t0, d.t1⟩ = d.rc from rfl] at HOD
        rw [show mkR ⟨b.e0, b.e1⟩ ⟨b.t0, b.t1⟩ = b.rc from rfl] at HOB
        obtain ⟨y, hy⟩ : ∃ y, d.rc = y := ⟨_, rfl⟩
        rw [hy] at HOD k1
        obtain ⟨z, hz⟩ : ∃ y, b.rc = y := ⟨_, rfl⟩
        rw [hz] at HOB k3
        obtain ⟨bd, hbd⟩ : ∃ c, (S.Sp.may ⟨d.e0, d.e1⟩ && S.Sp.may ⟨d.t0, d.t1⟩) = c := ⟨_, rfl⟩
        rw [hbd] at HOD
        obtain ⟨be, hbe⟩ : ∃ c, (S.Sp.may ⟨b.e0, b.e1⟩ && S.Sp.may ⟨b.t0, b.t1⟩) = c := ⟨_, rfl⟩
        rw [hbe] at HOB
        have K1 := Aside0.mk k1
        have K2 := Aside0.mk k2
        have K3 := Aside0.mk k3
        have K4 := Aside0.mk k4
        have j1 : (k : Int) < (m : Int) := by omega
        have j2 : (0 : Int) ≤ (k : Int) := by omega
        clear hd hy hbd hbe hz hbb k1 k2 k3 k4 hln hi
        go_wp2_with fail
        (with_reducible refine HOD.out.mono ?_)
        rintro e w3 ⟨rfl, hb3⟩
        obtain ⟨g3, hg3⟩ : ∃ g, w3.heap.size = g := ⟨_, rfl⟩
        obtain ⟨W3, hW3⟩ : ∃ W3, w3.alloc (rBox y) = W3 := ⟨_, rfl⟩
        have hb3' : Below wr.heap.size wr W3 := by rw [← hW3]; exact below_alloc hb3 _
        have hx3 : W3.heap[g3]? = some (rBox y) := by rw [← hW3, ← hg3]; exact blk_new w3 _
        clear q0 q1 q2 q3
        obtain ⟨e0, e1, -⟩ := two_cells hx3
        have HB3 := Aside0.mk (below_step HBk.out hb3')
        have HO3 := Aside0.mk (Kd.R_below HO.out hb3')
        have HP3 := Aside0.mk (Kd.R_below HP.out hb3')
        clear hb3 hb3' hx3
        go_wp2_with ((with_reducible refine gate_dst (N := 52) rfl ?_); refine app_rc4 (r := y) rfl rfl rfl rfl HO3.out HB3.out.size (by have := K2.out; omega) ?_; intro v7' w7 hO7 hb7 hg7 ha7; have HO7 := Aside0.mk hO7; have HB7 := Aside0.mk (HB3.out.trans hb7); have HP7 := Aside0.mk (ORc_grown HP3.out hg7 HAP.out.ne); have HA7 := Aside0.mk (HAP.out.next HP3.out ha7); obtain ⟨ad', had', q0, q1, q2, q3⟩ := C_atRR (Kd.C_below HR1.out HB7.out) i hi2; obtain rfl : ad = ad' := Option.some.inj had'; rw [HBB.out] at q0 q1 q2 q3; clear hO7 hb7 hg7 ha7 e0 e1 had')
        (with_reducible refine (HOB.out w7).mono ?_)
        rintro e w4 ⟨rfl, hb4⟩
        obtain ⟨g4, hg4⟩ : ∃ g, w4.heap.size = g := ⟨_, rfl⟩
        obtain ⟨W4, hW4⟩ : ∃ W4, w4.alloc (rBox z) = W4 := ⟨_, rfl⟩
        have hb4' : Below w7.heap.size w7 W4 := by rw [← hW4]; exact below_alloc hb4 _
        have hx4 : W4.heap[g4]? = some (rBox z) := by rw [← hW4, ← hg4]; exact blk_new w4 _
        clear q0 q1 q2 q3
        obtain ⟨e0, e1, -⟩ := two_cells hx4
        have HB4 := Aside0.mk (below_step HB7.out hb4')
        have HO4 := Aside0.mk (Kd.R_below HO7.out hb4')
        have HP4 := Aside0.mk (Kd.R_below HP7.out hb4')
        clear hb4 hb4' hx4
        go_wp2_with ((with_reducible refine gate_dst (N := 68) rfl ?_); refine app_rc4 (r := z) rfl rfl rfl rfl HP4.out HB4.out.size (by have := K4.out; omega) ?_; intro v8' w8 hO8 hb8 hg8 ha8; have HO8 := Aside0.mk (ORc_grown HO4.out hg8 HA7.out.swap.ne); have HP8 := Aside0.mk hO8; have HB8 := Aside0.mk (HB4.out.trans hb8); have HA8 := Aside0.mk (HA7.out.swap.next HO4.out ha8).swap; clear hO8 hb8 hg8 ha8 e0 e1)
        go_roundw
        case rel => exact ⟨k + 1, hlt, by push_cast; rfl, ⟨by rw [K1.out]; exact HO8.out⟩, ⟨by rw [K3.out]; exact HP8.out⟩, HA8, HB8⟩
        case measure => simp [intOf]; omega
      · obtain rfl : k = m := by omega
        have j1 : ¬ (k : Int) < (k : Int) := by omega
        have hcr := rcs_all l k HLN.out
        have hcb := bks_all l k HLN.out
        have hl1 : (rcs l k).length = k := by rw [hcr, List.length_map]; exact HLN.out
        have hl2 : (bks l k).length = k := by rw [hcb, List.length_map, List.length_reverse]; exact HLN.out
        have HEQ := Aside0.mk (sumA_cover x HXOK.out HBW.out (rcs l k) (bks l k) (rcs_ok l k) (bks_ok l k) (hl1.trans hl2.symm) (fun b => by rw [hcr, hcb]; simp))
        have HLE := Aside0.mk (sumA_cover_le x HXOK.out HBW.out (rcs l k) (rcs_ok l k))
        have HLE8 := Aside0.mk (sumA_cover_le x HXOK.out HBW.out (bks l k) (bks_ok l k))
        have HCO := Aside0.mk (cover_ok x HXOK.out (rcs l k) (rcs_ok l k))
        have HCO8 := Aside0.mk (cover_ok x HXOK.out (bks l k) (bks_ok l k))
        have hcl := cover_len x (rcs l k) (by omega)
        have hcl8 := cover_len x (bks l k) (by omega)
        obtain ⟨n6, hn6⟩ : ∃ n, (coverL x (rcs l k)).length = n := ⟨_, rfl⟩
        obtain ⟨n7, hn7⟩ : ∃ n, (coverL x (bks l k)).length = n := ⟨_, rfl⟩
        rw [hn6] at hcl
        rw [hn7] at hcl8
        have HN6 := Aside0.mk hn6
        have HN7 := Aside0.mk hn7
        obtain ⟨A5, c5, rfl, hc5, hC5⟩ := ORc_readn HO.out k hl1
        obtain ⟨A8, c8, rfl, hc8, hC8⟩ := ORc_readn HP.out k hl2
        have HC5 := Aside0.mk hC5
        have HC8 := Aside0.mk hC8
        have HXr := Aside0.mk (blk_below HX1.out HBk.out)
        have HBr := Aside0.mk (below_step HB1.out HBk.out)
        clear hcr hcb hl1 hl2 hn6 hn7 hC5 hC8
        go_wp2_with fail
        refine wp_region_held_drew (S := (fun w' => Below wr.heap.size wr w')) (by kernel_rfl) (below_drew1 (Below.refl _ _)) (fun hHeld => ?_)
        (refine hd_take 0 (v := ?_) rfl (by kernel_rfl) (by kernel_rfl) (fun _ _ _ h => h) (by assumption) ?_ ?_; rotate_left; (intro w hSw; (try dsimp only at hSw); obtain ⟨s0, s1, -⟩ := two_cells (blk_below HXr.out hSw); go_simp; first | done | with_reducible rfl); simp only [Act.put, List.setIfInBounds_toArray, List.set_cons_zero, List.set_cons_succ])
        (refine hd_take 4 (v := ?_) rfl (by kernel_rfl) (by kernel_rfl) (fun _ _ _ h => h) (by assumption) ?_ ?_; rotate_left; (intro w hSw; (try dsimp only at hSw); obtain ⟨s0, s1, -⟩ := two_cells (blk_below HXr.out hSw); go_simp; first | done | with_reducible rfl); simp only [Act.put, List.setIfInBounds_toArray, List.set_cons_zero, List.set_cons_succ])
        (refine hd_take 1 (v := ?_) rfl (by kernel_rfl) (by kernel_rfl) (fun _ _ _ h => h) (by assumption) ?_ ?_; rotate_left; (intro w hSw; (try dsimp only at hSw); go_simp; first | done | with_reducible rfl); simp only [Act.put, List.setIfInBounds_toArray, List.set_cons_zero, List.set_cons_succ])
        (refine hd_take 5 (v := ?_) rfl (by kernel_rfl) (by kernel_rfl) (fun _ _ _ h => h) (by assumption) ?_ ?_; rotate_left; (intro w hSw; (try dsimp only at hSw); go_simp; first | done | with_reducible rfl); simp only [Act.put, List.setIfInBounds_toArray, List.set_cons_zero, List.set_cons_succ])
        refine hd_one 2 rfl (by kernel_rfl) (fun K hK => ?_)
        go_simp
        go_wp2_with ((go_at_call 19); (with_reducible refine (cover_calls x HXOK.out A5 k c5 (rcs l k) _ (Kd.C_below HC5.out hHeld) hc5 hm5 (rcs_ok l k)).mono ?_); rintro e u1 ⟨v1, rfl, hO1, hc1⟩; obtain ⟨A6, c6, rfl, hc6, hC6⟩ := ORc_readn hO1 n6 HN6.out)
        refine hK.out _ _ (below_step hHeld hc1) (fun hHeld => ?_)
        clear hK K
        refine hd_one 3 rfl (by kernel_rfl) (fun K hK => ?_)
        go_simp
        go_wp2_with ((go_at_call 20); (with_reducible refine (larea_calls A6 n6 c6 (coverL x (rcs l k)) u1 hC6 hc6 (by omega) HCO.out HLE.out).mono ?_); rintro e u2 ⟨rfl, hc2⟩; skip)
        refine hK.out _ _ (below_step hHeld hc2) (fun hHeld => ?_)
        clear hK K
        refine hd_one 6 rfl (by kernel_rfl) (fun K hK => ?_)
        go_simp
        go_wp2_with ((go_at_call 19); (with_reducible refine (cover_calls x HXOK.out A8 k c8 (bks l k) _ (Kd.C_below HC8.out hHeld) hc8 hm5 (bks_ok l k)).mono ?_); rintro e u3 ⟨v3, rfl, hO3, hc3⟩; obtain ⟨A7, c7, rfl, hc7, hC7⟩ := ORc_readn hO3 n7 HN7.out)
        refine hK.out _ _ (below_step hHeld hc3) (fun hHeld => ?_)
        clear hK K
        refine hd_one 7 rfl (by kernel_rfl) (fun K hK => ?_)
        go_simp
        go_wp2_with ((go_at_call 20); (with_reducible refine (larea_calls A7 n7 c7 (coverL x (bks l k)) u3 hC7 hc7 (by omega) HCO8.out HLE8.out).mono ?_); rw [← HEQ.out]; rintro e u4 ⟨rfl, hc4⟩; skip)
        refine hK.out _ _ (below_step hHeld hc4) (fun hHeld => ?_)
        clear hK K
        (refine hd_take 8 (v := ?_) rfl (by kernel_rfl) (by kernel_rfl) (fun _ _ _ h => h) (by assumption) ?_ ?_; rotate_left; (intro w hSw; (try dsimp only at hSw); go_simp; first | done | with_reducible rfl); simp only [Act.put, List.setIfInBounds_toArray, List.set_cons_zero, List.set_cons_succ])
        (refine hd_take 9 (v := ?_) rfl (by kernel_rfl) (by kernel_rfl) (fun _ _ _ h => h) (by assumption) ?_ ?_; rotate_left; (intro w hSw; (try dsimp only at hSw); go_simp; first | done | with_reducible rfl); simp only [Act.put, List.setIfInBounds_toArray, List.set_cons_zero, List.set_cons_succ])
        refine hd_one 10 rfl (by kernel_rfl) (fun K hK => ?_)
        go_simp
        go_wp2_with ((go_at_call 8); (with_reducible refine (lives_calls _).mono ?_); rintro e u5 ⟨rfl, hc5'⟩; skip)
        refine hK.out _ _ (below_step hHeld hc5') (fun hHeld => ?_)
        clear hK K
        (refine hd_take 11 (v := ?_) rfl (by kernel_rfl) (by kernel_rfl) (fun _ _ _ h => h) (by assumption) ?_ ?_; rotate_left; (intro w hSw; (try dsimp only at hSw); go_simp; first | done | with_reducible rfl); simp only [Act.put, List.setIfInBounds_toArray, List.set_cons_zero, List.set_cons_succ])
        (refine hd_take 12 (v := ?_) rfl (by kernel_rfl) (by kernel_rfl) (fun _ _ _ h => h) (by assumption) ?_ ?_; rotate_left; (intro w hSw; (try dsimp only at hSw); go_simp; first | done | with_reducible rfl); simp only [Act.put, List.setIfInBounds_toArray, List.set_cons_zero, List.set_cons_succ])
        refine wpAnyH_done (by kernel_rfl) ?_ _
        have HBe := Aside0.mk (below_step HBr.out hHeld)
        go_wp2_with fail
        clear hg
        go_ret
        exact ⟨rfl, HBe.out⟩
end Go.Proofs.Ythmkpgemilmikaa.A
