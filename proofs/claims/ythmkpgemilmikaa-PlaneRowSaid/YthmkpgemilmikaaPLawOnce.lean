/- PlaneOnce: a point lies in what is left just if it lies in the rectangle, and in none of the others; and in at most one of what is left. -/
import Derived.Test.YthmkpgemilmikaaPLawAreas
namespace Go.Proofs.Ythmkpgemilmikaa.A
open Go.RowKit Go.Proofs.YthmkpgemilmikaaW.PrintWords Go.Proofs.YthmkpgemilmikaaW.PrintLast Go.Proofs.YthmkpgemilmikaaW.PrintMore
attribute [local go_sem] run_store_cx
set_option linter.unusedVariables false
set_option linter.unusedSimpArgs false

/-- A row of such, read at a place. -/
theorem C_atRR {A : Option Addr} {n : Nat} {l : List RR} {w : World} (h : KRR.C w A n l) (i : Nat) (hi : i < n) :
    ∃ ad, A = some ad ∧ w.cell? (ad.add (i * 4)) = some (.int .i64 (l.getD i default).e0) ∧ w.cell? ⟨(ad.add (i * 4)).block, (ad.add (i * 4)).off + 1, none⟩ = some (.int .i64 (l.getD i default).e1) ∧ w.cell? ⟨(ad.add (i * 4)).block, (ad.add (i * 4)).off + 2, none⟩ = some (.int .i64 (l.getD i default).t0) ∧ w.cell? ⟨(ad.add (i * 4)).block, (ad.add (i * 4)).off + 3, none⟩ = some (.int .i64 (l.getD i default).t1) := by
  have hn := h.1
  subst hn
  obtain ⟨ad, e, hc⟩ := h.2.2 (by omega)
  obtain ⟨c, h1, h2, h3⟩ := hc i _ (List.getElem?_eq_getElem hi)
  have h2' := KRR_of h2
  subst h2'
  have e2 : l.getD i default = l[i] := by simp [List.getD_eq_getElem?_getD, hi]
  rw [e2]
  have af : ∀ j, ad.add (i * KRR.sz + (j + 1)) = ⟨(ad.add (i * 4)).block, (ad.add (i * 4)).off + (j + 1), none⟩ := fun j => by
    rw [show KRR.sz = 4 from rfl, ← Go.Deep.add_add]
    unfold Addr.add
    rw [if_neg (by omega)]
  have a1 := h3 1 _ rfl
  have a2 := h3 2 _ rfl
  have a3 := h3 3 _ rfl
  rw [af] at a1 a2 a3
  exact ⟨ad, e, h3 0 _ rfl, a1, a2, a3⟩
theorem infoRR : (Try.prog.info? 25).map (fun i => (i.zero, i.size, i.bytes)) = some (some (.agg #[.int .i64 0, .int .i64 0, .int .i64 0, .int .i64 0]), 4, 32) := by kernel_rfl
theorem cuttRR (A : Option Addr) (n c j : Nat) (hj : j ≤ n) (hc : n ≤ c) (W : World) :
    (Instr.slice 44 (.slice A n c) none (some (.int .i64 (j : Int))) none).run Try.prog W = .ok (.slice A j c) W := by
  obtain ⟨i0, hi, _, hsz, _⟩ := info_parts infoRR
  rw [cut_to 44 25 .i64 Try.underlying44 hi A n c (j : Int) (by omega) (by omega) hc W]
  rfl
theorem C_takeRR {w : World} {A : Option Addr} {n j : Nat} {l : List RR} (h : KRR.C w A n l) (hn : l.length = n) (hj : j ≤ n) : KRR.C w A j (l.take j) := by
  subst hn
  have h7 := Kd.C_take h hj
  rw [show (l.take j).length = j by rw [List.length_take]; omega] at h7
  exact h7
theorem rc_ok (r : RR) : r.rc.ok := mkR_ok _ _
def rcs (l : List RR) (k : Nat) : List Rc := (l.take k).map RR.rc
theorem rcs_next (l : List RR) (k : Nat) (hk : k < l.length) : rcs l (k + 1) = rcs l k ++ [(l.getD k default).rc] := by
  unfold rcs
  rw [List.take_succ_eq_append_getElem hk, List.map_append, List.getD_eq_getElem?_getD, List.getElem?_eq_getElem hk]
  rfl
theorem rcs_len (l : List RR) (k : Nat) : (rcs l k).length ≤ k := by
  unfold rcs
  rw [List.length_map, List.length_take]
  omega
theorem rcs_ok (l : List RR) (k : Nat) : ∀ b ∈ rcs l k, b.ok := by
  intro b hb
  obtain ⟨r, hr, rfl⟩ := List.mem_map.1 hb
  exact rc_ok r
theorem cover_ok (r : Rc) (hr : r.ok) (l : List Rc) (hl : ∀ b ∈ l, b.ok) : ∀ a ∈ coverL r l, a.ok := by
  unfold coverL
  split
  · intro a ha; cases ha
  · exact leftL_ok r hr l hl
theorem cover_len (r : Rc) (l : List Rc) (h : l.length ≤ 6) : (coverL r l).length ≤ 4096 := by
  unfold coverL
  split
  · simp
  · exact Nat.le_trans (leftL_len r l) (Nat.le_trans (Nat.pow_le_pow_right (by omega) h) (by decide))
theorem cnt_take (L : List Rc) (k : Nat) (hk : k < L.length) (x y : Int) : cnt (L.take (k + 1)) x y = cnt (L.take k) x y + ind (L.getD k default) x y := by
  rw [List.take_succ_eq_append_getElem hk, cnt_append, List.getD_eq_getElem?_getD, List.getElem?_eq_getElem hk]
  rfl
theorem cnt_le (L : List Rc) (x y : Int) : cnt L x y ≤ L.length := by
  induction L with
  | nil => exact Nat.le_refl _
  | cons r L ih =>
    rw [cnt_cons, List.length_cons]
    have : ind r x y ≤ 1 := by unfold ind; split <;> omega
    omega
/-- Is a point in one, and in none of these? -/
def wantB (r : Rc) (l : List Rc) (x y : Int) : Bool := decide (r.inn x y) && l.all (fun b => !decide (b.inn x y))
theorem wantB_next (r : Rc) (l : List Rc) (b : Rc) (x y : Int) : wantB r (l ++ [b]) x y = (wantB r l x y && !decide (b.inn x y)) := by
  unfold wantB
  rw [List.all_append]
  simp only [List.all_cons, List.all_nil, Bool.and_true]
  rw [Bool.and_assoc]
theorem wantB_cnt (r : Rc) (l : List Rc) (x y : Int) : cnt (coverL r l) x y = if wantB r l x y then 1 else 0 := by
  rw [cover_cnt]
  unfold wantB
  by_cases h1 : r.inn x y
  · by_cases h2 : ∀ b ∈ l, ¬ b.inn x y
    · rw [if_pos ⟨h1, h2⟩, if_pos]
      rw [decide_eq_true h1, Bool.true_and, List.all_eq_true]
      intro b hb
      rw [decide_eq_false (h2 b hb)]
      rfl
    · rw [if_neg (fun h => h2 h.2), if_neg]
      rw [decide_eq_true h1, Bool.true_and, List.all_eq_true]
      intro h3
      refine h2 (fun b hb k => ?_)
      have := h3 b hb
      rw [decide_eq_true k] at this
      cases this
  · rw [if_neg (fun h => h1 h.1), if_neg]
    rw [decide_eq_false h1, Bool.false_and]
    simp
/-- A block that is newer than a row stays, when the row has grown. -/
theorem blk_apart {wr W w1 : World} {B : Nat} {v : Value} {xs : List Rc} {g : Nat} {o : Obj} (hO : ORc wr B v xs) (hb : wr.heap.size ≤ g) (hx : W.heap[g]? = some o) (hg : W.grownBy w1 v.ownBlock) : w1.heap[g]? = some o := by
  obtain ⟨_, inner, ho, _⟩ := hO
  have h1 : g < W.heap.size := by
    by_cases h : g < W.heap.size
    · exact h
    · rw [Array.getElem?_eq_none (by omega)] at hx; cases hx
  rw [hg.block g h1 (fun e => by have := own_lt ho g e.symm; omega)]
  exact hx
set_option maxRecDepth 100000 in
set_option maxHeartbeats 8000000 in
theorem once_calls (w : World) (c1 : Array Value) (a : RR) (hk1 : KRR.K w a (Value.agg c1).cells.toList) (_g1 : a.fits) (A : Option Addr) (c : Nat) (l0 : List RR) (hr : KRR.C w A l0.length l0) (hc : l0.length ≤ c) (_hg : ∀ d ∈ l0, d.fits) (ep : Int) (_ge : IntKind.i64.min ≤ ep ∧ ep ≤ IntKind.i64.max) (t : Int) (_gt : IntKind.i64.min ≤ t ∧ t ≤ IntKind.i64.max) :
    Calls Try.prog 6 #[.agg c1, .slice A l0.length c, .int .i64 ep, .int .i64 t] w fun e w' => e = .returned (.bool true) ∧ Below w.heap.size w w' := by
  have e1 := RR_agg hk1
  subst e1
  clear hk1 _g1 _hg _ge _gt
  have hmx := hr.2.1
  obtain ⟨n, hn⟩ : ∃ n, l0.length = n := ⟨_, rfl⟩
  rw [hn] at hr hc hmx ⊢
  have hxok : a.rc.ok := mkR_ok _ _
  have HOF := Aside0.mk (fun W => lof_calls a.e0 a.e1 a.t0 a.t1 W)
  rw [show mkR ⟨a.e0, a.e1⟩ ⟨a.t0, a.t1⟩ = a.rc from rfl] at HOF
  obtain ⟨x, hx⟩ : ∃ x, a.rc = x := ⟨_, rfl⟩
  rw [hx] at HOF hxok
  obtain ⟨bx, hbx⟩ : ∃ c, (S.Sp.may ⟨a.e0, a.e1⟩ && S.Sp.may ⟨a.t0, a.t1⟩) = c := ⟨_, rfl⟩
  rw [hbx] at HOF
  have HHX := Aside0.mk (fun W => phas_calls x hxok ep t W)
  rw [has_inn x hxok] at HHX
  have HXOK := Aside0.mk hxok
  obtain ⟨g, hg⟩ : ∃ g, w.heap.size = g := ⟨_, rfl⟩
  obtain ⟨W, hW⟩ : ∃ W, w.alloc (fB a.e0 a.e1 a.t0 a.t1) = W := ⟨_, rfl⟩
  have hb : Below w.heap.size w W := by rw [← hW]; exact below_alloc (Below.refl _ _) _
  have z0 : W.heap[g]? = some (fB a.e0 a.e1 a.t0 a.t1) := by rw [← hW, ← hg]; exact blk_new w _
  obtain ⟨d0, d1, d2, d3, -⟩ := four_cells z0
  have HB := Aside0.mk hb
  clear hx hbx hb z0 hxok
  by_cases h6 : 6 < n
  case' pos =>
    obtain ⟨m, hm⟩ : ∃ m : Nat, m = 6 := ⟨_, rfl⟩
    have hcut : ∀ W : World, (Instr.slice 44 (.slice A n c) none (some (.int .i64 6)) none).run Try.prog W = .ok (.slice A m c) W := fun W => by
      rw [hm]
      exact cuttRR A n c 6 (by omega) hc W
    have HR := Aside0.mk (C_takeRR (j := m) hr hn (by omega))
    have hm6 : m ≤ 6 := by omega
    have hmc : m ≤ c := by omega
    have h6' : (6 : Int) < (n : Int) := by omega
    clear hr hn hm
    obtain ⟨l, hl⟩ : ∃ l, l0.take m = l := ⟨_, rfl⟩
    rw [hl] at HR
    clear hl
    go_enter Try.func6, Try.ntmps6
    go_wp2_with fail
  case' neg =>
    obtain ⟨m, hm⟩ : ∃ m : Nat, m = n := ⟨_, rfl⟩
    subst hm
    have HR := Aside0.mk hr
    have hm6 : m ≤ 6 := by omega
    have hmc : m ≤ c := by omega
    have h6' : ¬ (6 : Int) < (m : Int) := by omega
    clear hr hn
    obtain ⟨l, hl⟩ : ∃ l, l0 = l := ⟨_, rfl⟩
    rw [hl] at HR
    clear hl
    go_enter Try.func6, Try.ntmps6
    go_wp2_with fail
  all_goals
    (with_reducible refine (HOF.out W).mono ?_)
    rintro e w1 ⟨rfl, hb1⟩
    obtain ⟨g1, hg1⟩ : ∃ g, w1.heap.size = g := ⟨_, rfl⟩
    obtain ⟨W1, hW1⟩ : ∃ W1, w1.alloc (rBox x) = W1 := ⟨_, rfl⟩
    have hb1' : Below W.heap.size W W1 := by rw [← hW1]; exact below_alloc hb1 _
    have hx1 : W1.heap[g1]? = some (rBox x) := by rw [← hW1, ← hg1]; exact blk_new w1 _
    clear d0 d1 d2 d3
    obtain ⟨e0, e1, -⟩ := two_cells hx1
    have HB1 := Aside0.mk (below_step HB.out hb1')
    have HX1 := Aside0.mk hx1
    clear hb1 hb1' hx1
    go_wp2_with fail
    (with_reducible refine (HHX.out W1).mono ?_)
    rintro e w2 ⟨rfl, hb2⟩
    have HB2 := Aside0.mk (below_step HB1.out hb2)
    have HX2 := Aside0.mk (blk_below HX1.out hb2)
    have HR2 := Aside0.mk (Kd.C_below HR.out HB2.out)
    have HLN := Aside0.mk HR.out.1
    have hw0 : decide (x.inn ep t) = wantB x (rcs l 0) ep t := by simp [wantB, rcs]
    rw [hw0]
    clear hb2 e0 e1 hw0
    go_wp2_with fail
    go_loopw [11, 12, 13, 14, 15] (fun v11 v12 v13 v14 v15 w' => ∃ (k : Nat), k ≤ m ∧ v13 = .int .i64 k ∧ v12 = .bool (wantB x (rcs l k) ep t) ∧ Aside0 (ORc w' w2.heap.size v11 (rcs l k)) ∧ Aside0 (Below w2.heap.size w2 w')) (fun _ _ v13 _ _ _ => m - (intOf v13).toNat)
    case atStart => exact ⟨0, Nat.zero_le _, rfl, rfl, ⟨Kd.R_nil _ _ _ _ _⟩, ⟨Below.refl _ _⟩⟩
    case round =>
      obtain ⟨k, hk, rfl, rfl, HO, HBk⟩ := hrel
      by_cases hlt : k < m
      · have hln : k < l.length := by rw [HLN.out]; exact hlt
        obtain ⟨ad, rfl, q0, q1, q2, q3⟩ := C_atRR (Kd.C_below HR2.out HBk.out) k hlt
        have k1 := rcs_next l k hln
        have k2 := rcs_len l k
        have k3 := wantB_next x (rcs l k) (l.getD k default).rc ep t
        rw [← k1] at k3
        obtain ⟨d, hd⟩ : ∃ d, l.getD k default = d := ⟨_, rfl⟩
        rw [hd] at q0 q1 q2 q3 k1 k3
        have HOD := Aside0.mk (lof_calls d.e0 d.e1 d.t0 d.t1 wr)
        rw [show mkR ⟨d.e0, d.e1⟩ ⟨d.t0, d.t1⟩ = d.rc from rfl] at HOD
        have hyok := rc_ok d
        obtain ⟨y, hy⟩ : ∃ y, d.rc = y := ⟨_, rfl⟩
        rw [hy] at HOD k1 k3 hyok
        obtain ⟨bd, hbd⟩ : ∃ c, (S.Sp.may ⟨d.e0, d.e1⟩ && S.Sp.may ⟨d.t0, d.t1⟩) = c := ⟨_, rfl⟩
        rw [hbd] at HOD
        have HHY := Aside0.mk (fun W => phas_calls y hyok ep t W)
        rw [has_inn y hyok] at HHY
        obtain ⟨wb, hwb⟩ : ∃ wb, wantB x (rcs l k) ep t = wb := ⟨_, rfl⟩
        obtain ⟨wb2, hwb2⟩ : ∃ wb2, wantB x (rcs l (k + 1)) ep t = wb2 := ⟨_, rfl⟩
        rw [hwb] at k3 ⊢
        rw [hwb2] at k3
        obtain ⟨yb, hyb⟩ : ∃ b, decide (y.inn ep t) = b := ⟨_, rfl⟩
        rw [hyb] at HHY k3
        have K1 := Aside0.mk k1
        have K2 := Aside0.mk k2
        have HWB := Aside0.mk hwb2
        have j1 : (k : Int) < (m : Int) := by omega
        have j2 : (0 : Int) ≤ (k : Int) := by omega
        clear hd hy hbd hwb hwb2 hyok k1 k2 hln hyb
        go_wp2_with fail
        (with_reducible refine HOD.out.mono ?_)
        rintro e w3 ⟨rfl, hb3⟩
        obtain ⟨g3, hg3⟩ : ∃ g, w3.heap.size = g := ⟨_, rfl⟩
        obtain ⟨W3, hW3⟩ : ∃ W3, w3.alloc (rBox y) = W3 := ⟨_, rfl⟩
        have hb3' : Below wr.heap.size wr W3 := by rw [← hW3]; exact below_alloc hb3 _
        have hx3 : W3.heap[g3]? = some (rBox y) := by rw [← hW3, ← hg3]; exact blk_new w3 _
        clear q0 q1 q2 q3
        obtain ⟨e0, e1, -⟩ := two_cells hx3
        have HB3 := Aside0.mk (below_step HBk.out hb3')
        have HX3 := Aside0.mk hx3
        have HG3 : Aside0 (wr.heap.size ≤ g3) := ⟨by rw [← hg3]; exact hb3.size⟩
        have HO3 := Aside0.mk (Kd.R_below HO.out hb3')
        clear hb3 hb3' hx3
        obtain rfl | rfl : wb = true ∨ wb = false := by cases wb; exact Or.inr rfl; exact Or.inl rfl
        · go_wp2_with ((with_reducible refine gate_dst (N := 50) rfl ?_); refine app_rc (r := y) rfl rfl rfl rfl HO3.out HB3.out.size (by have := K2.out; omega) ?_; intro v7 w7 hO7 hb7 hg7; have HO7 := Aside0.mk hO7; have HB7 := Aside0.mk (HB3.out.trans hb7); have HX7 := Aside0.mk (blk_apart HO.out HG3.out HX3.out hg7); obtain ⟨f0, f1, -⟩ := two_cells HX7.out; clear hO7 hb7 hg7)
          (with_reducible refine (HHY.out w7).mono ?_)
          rintro e w8 ⟨rfl, hb8⟩
          have HB8 := Aside0.mk (below_step HB7.out hb8)
          have HO8 := Aside0.mk (Kd.R_below HO7.out hb8)
          clear hb8 f0 f1
          go_wp2_with fail
          go_roundw
          case rel => exact ⟨k + 1, hlt, by push_cast; rfl, by rw [HWB.out, k3]; cases yb <;> rfl, ⟨by rw [K1.out]; exact HO8.out⟩, HB8⟩
          case measure => simp [intOf]; omega
        · go_wp2_with ((with_reducible refine gate_dst (N := 50) rfl ?_); refine app_rc (r := y) rfl rfl rfl rfl HO3.out HB3.out.size (by have := K2.out; omega) ?_; intro v7 w7 hO7 hb7 _; have HO7 := Aside0.mk hO7; have HB7 := Aside0.mk (HB3.out.trans hb7); clear hO7 hb7)
          go_roundw
          case rel => exact ⟨k + 1, hlt, by push_cast; rfl, by rw [HWB.out, k3]; rfl, ⟨by rw [K1.out]; exact HO7.out⟩, HB7⟩
          case measure => simp [intOf]; omega
      · obtain rfl : k = m := by omega
        have j1 : ¬ (k : Int) < (k : Int) := by omega
        have hCO := cover_ok x HXOK.out (rcs l k) (rcs_ok l k)
        have hCL := cover_len x (rcs l k) (by have := rcs_len l k; omega)
        have hCN := wantB_cnt x (rcs l k) ep t
        have hrl : (rcs l k).length = k := by unfold rcs; rw [List.length_map, List.length_take, HLN.out]; omega
        obtain ⟨A5, c5, rfl, hc5, hC5⟩ := ORc_readn HO.out k hrl
        have HCC := Aside0.mk (cover_calls x HXOK.out A5 k c5 (rcs l k) wr hC5 hc5 hm6 (rcs_ok l k))
        obtain ⟨L, hL⟩ : ∃ L, coverL x (rcs l k) = L := ⟨_, rfl⟩
        rw [hL] at hCO hCL hCN HCC
        obtain ⟨n6, hn6⟩ : ∃ n, L.length = n := ⟨_, rfl⟩
        rw [hn6] at hCL
        obtain ⟨wb, hwb⟩ : ∃ wb, wantB x (rcs l k) ep t = wb := ⟨_, rfl⟩
        rw [hwb] at hCN ⊢
        have HCO := Aside0.mk hCO
        have HCN := Aside0.mk hCN
        have HN6 := Aside0.mk hn6
        obtain ⟨e0, e1, -⟩ := two_cells (blk_below HX2.out HBk.out)
        clear hCO hCN hn6 hL hwb hrl hC5
        go_wp2_with fail
        (with_reducible refine HCC.out.mono ?_)
        rintro e w5 ⟨v5, rfl, hO5, hb5⟩
        obtain ⟨A6, c6, rfl, hc6, hC6⟩ := ORc_readn hO5 n6 HN6.out
        have HC6 := Aside0.mk hC6
        have HB6 := Aside0.mk (below_step (below_step HB2.out HBk.out) hb5)
        clear hO5 hC6 hb5 e0 e1
        go_wp2_with fail
        go_loopw [17, 18] (fun v17 v18 w' => ∃ (j s : Nat), j ≤ n6 ∧ v18 = .int .i64 j ∧ v17 = .int .i64 s ∧ Aside0 (s = cnt (L.take j) ep t) ∧ Aside0 (Below w5.heap.size w5 w')) (fun _ v18 _ => n6 - (intOf v18).toNat)
        case atStart => exact ⟨0, 0, Nat.zero_le _, rfl, rfl, ⟨rfl⟩, ⟨Below.refl _ _⟩⟩
        case round =>
          obtain ⟨j, s, hj, rfl, rfl, HS, HBj⟩ := hrel
          by_cases hlt2 : j < n6
          · have hln : j < L.length := by rw [HN6.out]; exact hlt2
            obtain ⟨ad6, rfl, q0, q1⟩ := C_atRc (Kd.C_below HC6.out HBj.out) j hlt2
            have k1 := cnt_take L j hln ep t
            have k2 := cnt_le (L.take j) ep t
            rw [List.length_take] at k2
            have hrok := HCO.out _ (rect_getD hln)
            obtain ⟨r, hr⟩ : ∃ r, L.getD j default = r := ⟨_, rfl⟩
            rw [hr] at q0 q1 k1 hrok
            have HHR := Aside0.mk (phas_calls r hrok ep t wr)
            rw [has_inn r hrok] at HHR
            unfold ind at k1
            obtain ⟨rb, hrb⟩ : ∃ b, decide (r.inn ep t) = b := ⟨_, rfl⟩
            rw [hrb] at HHR
            have k3 : s ≤ 4096 := by have := HS.out; omega
            have i1 : (j : Int) < (n6 : Int) := by omega
            have i2 : (0 : Int) ≤ (j : Int) := by omega
            cases rb with
            | true =>
              rw [if_pos (of_decide_eq_true hrb)] at k1
              have HS2 : Aside0 (s + 1 = cnt (L.take (j + 1)) ep t) := ⟨by rw [k1, HS.out]⟩
              clear hr hrb k1 k2 hrok hln
              go_wp2_with fail
              (with_reducible refine HHR.out.mono ?_)
              rintro e w8 ⟨rfl, hb8⟩
              have HB8 := Aside0.mk (below_step HBj.out hb8)
              clear hb8 q0 q1
              go_wp2_with fail
              go_roundw
              case rel => exact ⟨j + 1, s + 1, hlt2, by push_cast; rfl, by push_cast; rfl, HS2, HB8⟩
              case measure => simp [intOf]; omega
            | false =>
              rw [if_neg (of_decide_eq_false hrb)] at k1
              rw [Nat.add_zero] at k1
              have HS2 : Aside0 (s = cnt (L.take (j + 1)) ep t) := ⟨HS.out.trans k1.symm⟩
              clear hr hrb k1 k2 hrok hln
              go_wp2_with fail
              (with_reducible refine HHR.out.mono ?_)
              rintro e w8 ⟨rfl, hb8⟩
              have HB8 := Aside0.mk (below_step HBj.out hb8)
              clear hb8 q0 q1
              go_wp2_with fail
              go_roundw
              case rel => exact ⟨j + 1, s, hlt2, by push_cast; rfl, rfl, HS2, HB8⟩
              case measure => simp [intOf]; omega
          · have i1 : ¬ (j : Int) < (n6 : Int) := by omega
            have hs : s = if wb = true then 1 else 0 := by rw [HS.out, List.take_of_length_le (by have := HN6.out; omega)]; exact HCN.out
            have HB7 := Aside0.mk (below_step HB6.out HBj.out)
            cases wb with
            | true =>
              obtain rfl : s = 1 := hs
              go_wp2_with fail
              (with_reducible refine (lives_calls _).mono ?_)
              rintro e w8 ⟨rfl, hb8⟩
              have HB8 := Aside0.mk (below_step HB7.out hb8)
              clear hb8
              go_wp2_with fail
              clear hg
              go_ret
              exact ⟨rfl, HB8.out⟩
            | false =>
              obtain rfl : s = 0 := hs
              go_wp2_with fail
              (with_reducible refine (lives_calls _).mono ?_)
              rintro e w8 ⟨rfl, hb8⟩
              have HB8 := Aside0.mk (below_step HB7.out hb8)
              clear hb8
              go_wp2_with fail
              clear hg
              go_ret
              exact ⟨rfl, HB8.out⟩
end Go.Proofs.Ythmkpgemilmikaa.A
