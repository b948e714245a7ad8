/- Rows of rectangles; what of one is left without another. -/
import Derived.Test.YthmkpgemilmikaaPMeet
import Derived.Deep.Slices
namespace Go.Proofs.Ythmkpgemilmikaa.A
open Go.RowKit Go.Proofs.YthmkpgemilmikaaW.PrintWords Go.Proofs.YthmkpgemilmikaaW.PrintLast Go.Proofs.YthmkpgemilmikaaW.PrintMore
attribute [local go_sem] run_store_cx
set_option linter.unusedVariables false
set_option linter.unusedSimpArgs false

def KCx : Kd (Nat × Nat) := Kd.scalar (fun p : Nat × Nat => cx p.1 p.2) (fun _ => rfl)
def KRc : Kd Rc := Kd.iso (Kd.pair KCx KCx) (fun r => ((r.e0, r.t0), (r.e1, r.t1)))
theorem KRc_M (w : World) (B : Nat) (ok : Nat → Prop) (r : Rc) : KRc.M w B ok r [cx r.e0 r.t0, cx r.e1 r.t1] := ⟨[cx r.e0 r.t0], [cx r.e1 r.t1], rfl, rfl, rfl⟩
theorem KRc_K (w : World) (r : Rc) : KRc.K w r [cx r.e0 r.t0, cx r.e1 r.t1] := ⟨[cx r.e0 r.t0], [cx r.e1 r.t1], rfl, rfl, rfl⟩
theorem KRc_of {w : World} {r : Rc} {cs : List Value} (h : KRc.K w r cs) : cs = [cx r.e0 r.t0, cx r.e1 r.t1] := by
  obtain ⟨_, _, rfl, rfl, rfl⟩ := h
  rfl
theorem infoRc : (Try.prog.info? 29).map (fun i => (i.zero, i.size, i.bytes)) = some (some (.agg #[.complex .f64 0 0, .complex .f64 0 0]), 2, 32) := by kernel_rfl
abbrev ORc (w : World) (B : Nat) (v : Value) (l : List Rc) : Prop := OR KRc 29 w B v l
theorem ORc_readn {w : World} {B : Nat} {v : Value} {l : List Rc} (h : ORc w B v l) (n : Nat) (hn : l.length = n) : ∃ A c, v = .slice A n c ∧ n ≤ c ∧ KRc.C w A n l := by
  subst hn
  exact Kd.R_reads h
section
variable {ops : Array Oper} {rest : List Oper} {o : Oper} {a : Act} {Q : Exit → Act → World → Prop} {W : World} {B : Nat}
theorem app_rc {s x : Operand} (hgd : o.guard = none) (ho : o.op = .call { callee := .builtin .append, args := #[s, x], argTypes := #[34, 34] }) {v : Value} {xs : List Rc} {r : Rc}
    (hs : a.eval s = v) (hx : a.eval x = .slice (some ⟨W.heap.size, 0, none⟩) 1 1) (HO : ORc W B v xs) (hB : B ≤ W.heap.size) (hl : xs.length ≤ 1000000)
    (h : ∀ v1 w1, ORc w1 B v1 (xs ++ [r]) → Below B W w1 → W.grownBy w1 v.ownBlock → wpList Try.prog ops Q rest (a.put o.dst v1) w1) : wpList Try.prog ops Q (o :: rest) a (W.alloc (.cells #[cx r.e0 r.t0, cx r.e1 r.t1] 29)) :=
  app_one KRc 34 29 (.agg #[.complex .f64 0 0, .complex .f64 0 0]) 32 Try.underlying34 infoRc rfl (by decide) (by decide) hgd ho hs hx (fun okp => KRc_M W B okp r) HO hB (by omega) h
theorem app_rcs {s x : Operand} (hgd : o.guard = none) (ho : o.op = .call { callee := .builtin .append, args := #[s, x], argTypes := #[34, 34] }) {v : Value} {xs ys : List Rc} {A : Option Addr} {m c : Nat}
    (hs : a.eval s = v) (hx : a.eval x = .slice A m c) (HO : ORc W B v xs) (HR : KRc.C W A m ys) (hB : B ≤ W.heap.size) (hl : xs.length + m ≤ 1000000)
    (h : ∀ v1 w1, ORc w1 B v1 (xs ++ ys) → Below B W w1 → W.grownBy w1 v.ownBlock → wpList Try.prog ops Q rest (a.put o.dst v1) w1) : wpList Try.prog ops Q (o :: rest) a W := by
  refine Kd.R_append_rows KRc (Rr := KRc.K W) (w0 := W) B hgd s x 34 29 (.agg #[.complex .f64 0 0, .complex .f64 0 0]) 32 ho Try.underlying34 infoRc rfl (by decide) (by decide) v xs ys A m c (fun _ => True) (fun _ => False) hs hx HO HR ?_ (fun _ h => h.elim) (fun _ _ => trivial) (Below.refl B W) hB (by omega) (fun v1 w1 h1 h2 h3 _ => h v1 w1 h1 h2 h3)
  intro p cs hK
  have e := KRc_of hK
  subst e
  exact KRc_M _ _ _ p
end
/-- A row of rectangles, read at a place. -/
theorem C_atRc {A : Option Addr} {n : Nat} {l : List Rc} {w : World} (h : KRc.C w A n l) (i : Nat) (hi : i < n) :
    ∃ ad, A = some ad ∧ w.cell? (ad.add (i * 2)) = some (cx (l.getD i default).e0 (l.getD i default).t0) ∧ w.cell? ⟨(ad.add (i * 2)).block, (ad.add (i * 2)).off + 1, none⟩ = some (cx (l.getD i default).e1 (l.getD i default).t1) := by
  have hn := h.1
  subst hn
  obtain ⟨ad, e, hc⟩ := h.2.2 (by omega)
  obtain ⟨c, h1, h2, h3⟩ := hc i _ (List.getElem?_eq_getElem hi)
  have h2' := KRc_of h2
  subst h2'
  have e2 : l.getD i default = l[i] := by simp [List.getD_eq_getElem?_getD, hi]
  rw [e2]
  have a1 := h3 1 _ rfl
  have e3 : ad.add (i * KRc.sz + 1) = ⟨(ad.add (i * 2)).block, (ad.add (i * 2)).off + 1, none⟩ := by
    rw [show KRc.sz = 2 from rfl, ← Go.Deep.add_add]
    unfold Addr.add
    rw [if_neg (by omega)]
  rw [e3] at a1
  exact ⟨ad, e, h3 0 _ rfl, a1⟩
/-- A row of one literal rectangle. -/
theorem ORc_lit1 {W : World} {B g : Nat} (r : Rc) (hg : g = W.heap.size) (hB : B ≤ W.heap.size) : ORc (W.alloc (.cells #[cx r.e0 r.t0, cx r.e1 r.t1] 29)) B (.slice (some ⟨g, 0, none⟩) 1 1) [r] := by
  subst hg
  refine ⟨fun _ _ => trivial, [cx r.e0 r.t0, cx r.e1 r.t1], ?_, ?_⟩
  · exact World.ownsRow_lit (base := B) (e := 29) (size := 2) W #[cx r.e0 r.t0, cx r.e1 r.t1] 1 hB (by simp [maxLen]) rfl
  · exact S.reps_one (KRc_M _ _ _ r)
theorem eqCx (d : Nat) (w : World) (a b a' b' : Nat) (h1 : a ≤ 4503599627370495) (h2 : b ≤ 4503599627370495) (h3 : a' ≤ 4503599627370495) (h4 : b' ≤ 4503599627370495) :
    (Op.equalIn (d + 1) 27 (cx a b) (cx a' b')).run Try.prog w = .ok (decide (a = a') && decide (b = b')) w := by
  have hp := Try.underlying27
  simp [Op.equalIn, run_underlying hp, Op.floatEq, eql_E a a' h1 h3, eql_E b b' h2 h4]
theorem eqRc (d : Nat) (w : World) (r : Rc) (hr : r.ok) : (Op.equalIn (d + 2) 29 (rv r) (.agg #[.complex .f64 0 0, .complex .f64 0 0])).run Try.prog w = .ok ((decide (r.e0 = 0) && decide (r.t0 = 0)) && (decide (r.e1 = 0) && decide (r.t1 = 0))) w := by
  obtain ⟨h1, h2, h3, h4⟩ := hr
  have e := rv0
  rw [← e]
  refine eqA_of Try.underlying29 (by kernel_rfl) ?_
  refine eqf_cons (by rfl) (by go_simp) (by go_simp) (eqCx d w _ _ 0 0 (by omega) (by omega) (by omega) (by omega)) ?_
  exact eqf_last (by rfl) (by go_simp) (by go_simp) (eqCx d w _ _ 0 0 (by omega) (by omega) (by omega) (by omega))
def fourOf (a m : Rc) : List Rc := [⟨a.e0, m.e0, a.t0, a.t1⟩, ⟨m.e1, a.e1, a.t0, a.t1⟩, ⟨m.e0, m.e1, a.t0, m.t0⟩, ⟨m.e0, m.e1, m.t1, a.t1⟩]
def Rc.isZ (r : Rc) : Bool := (decide (r.e0 = 0) && decide (r.t0 = 0)) && (decide (r.e1 = 0) && decide (r.t1 = 0))
def minusR (a b : Rc) : List Rc := if meetB a b then (fourOf a (meetR a b)).filter Rc.live else if a.isZ then [] else [a]
theorem four_ok (a b : Rc) (ha : a.ok) (hb : b.ok) (hm : meetB a b = true) : ∀ r ∈ fourOf a (meetR a b), r.ok := by
  unfold meetB Rc.live meetR at hm
  simp only [Bool.and_eq_true, decide_eq_true_eq] at hm
  intro r hr
  unfold fourOf meetR at hr
  simp only [List.mem_cons, List.not_mem_nil, or_false] at hr
  unfold Rc.ok at *
  rcases hr with rfl | rfl | rfl | rfl
  all_goals simp only
  all_goals omega
theorem minus_ok (a b : Rc) (ha : a.ok) (hb : b.ok) : ∀ r ∈ minusR a b, r.ok := by
  intro r hr
  unfold minusR at hr
  split at hr
  · rename_i h
    exact four_ok a b ha hb h r (List.mem_filter.1 hr).1
  · split at hr
    · cases hr
    · rw [List.mem_singleton] at hr
      rw [hr]
      exact ha
theorem minus_len (a b : Rc) : (minusR a b).length ≤ 4 := by
  unfold minusR
  split
  · exact Nat.le_trans (List.length_filter_le _ _) (by simp [fourOf])
  · split <;> simp
set_option maxRecDepth 100000 in
set_option maxHeartbeats 4000000 in
theorem minus_calls (a b : Rc) (ha : a.ok) (hb : b.ok) (w : World) :
    Calls Try.prog 12 #[rv a, rv b] w fun e w' => ∃ v, e = .returned v ∧ ORc w' w.heap.size v (minusR a b) ∧ Below w.heap.size w w' := by
  obtain ⟨g, hg⟩ : ∃ g, w.heap.size = g := ⟨_, rfl⟩
  obtain ⟨W, hW⟩ : ∃ W, (w.alloc (rBox a)).alloc (rBox b) = W := ⟨_, rfl⟩
  have hbb : Below w.heap.size w W := by rw [← hW]; exact below_alloc (below_alloc (Below.refl _ _) _) _
  have y0 : W.heap[g]? = some (rBox a) := by rw [← hW, ← hg]; exact blk_alloc (blk_new w _) _
  have y1 : W.heap[g + 1]? = some (rBox b) := by
    have h9 := blk_new (w.alloc (rBox a)) (rBox b)
    rw [World.size_alloc, hg, hW] at h9
    exact h9
  obtain ⟨c0, c1, -⟩ := two_cells y0
  obtain ⟨d0, d1, -⟩ := two_cells y1
  have HM := Aside0.mk (meet_calls a b ha hb W)
  have HY := Aside0.mk y0
  have HBB := Aside0.mk hbb
  clear y0 y1 hbb
  cases hm : meetB a b with
  | false =>
    have hX : meetX a b = R0 := by unfold meetX; rw [hm]; rfl
    have hV : rv (meetX a b) = .agg #[.complex .f64 0 0, .complex .f64 0 0] := by rw [hX]; exact rv0
    rw [hm, hV] at HM
    have hmin : minusR a b = if a.isZ then [] else [a] := by unfold minusR; rw [hm]; rfl
    have hq := fun d W => eqRc d W a ha
    rw [show ((decide (a.e0 = 0) && decide (a.t0 = 0)) && (decide (a.e1 = 0) && decide (a.t1 = 0))) = a.isZ from rfl] at hq
    cases hz : a.isZ with
    | true =>
      rw [hz] at hq hmin
      have HN := Aside0.mk hmin
      clear hm hX hV hz hmin
      go_enter Try.func12, Try.ntmps12
      go_wp2_with fail
      (with_reducible refine HM.out.mono ?_)
      rintro e w1 ⟨rfl, hb1⟩
      have hy1 := blk_below HY.out hb1
      obtain ⟨e0, e1, -⟩ := two_cells hy1
      have hz1 : g < w1.heap.size := (Array.getElem?_eq_some_iff.1 hy1).1
      have HB2 := Aside0.mk (below_step HBB.out hb1)
      clear hb1 hy1 c0 c1 d0 d1
      go_wp2_with fail
      go_ret
      exact ⟨_, rfl, by rw [HN.out]; exact Kd.R_nil _ _ _ _ _, below_alloc HB2.out _⟩
    | false =>
      rw [hz] at hq hmin
      have HN := Aside0.mk hmin
      clear hm hX hV hz hmin
      go_enter Try.func12, Try.ntmps12
      go_wp2_with fail
      (with_reducible refine HM.out.mono ?_)
      rintro e w1 ⟨rfl, hb1⟩
      have hy1 := blk_below HY.out hb1
      obtain ⟨e0, e1, -⟩ := two_cells hy1
      have hz1 : g < w1.heap.size := (Array.getElem?_eq_some_iff.1 hy1).1
      have HB2 := Aside0.mk (below_step HBB.out hb1)
      clear hb1 hy1 c0 c1 d0 d1
      go_wp2_with fail
      trace_state
      go_ret
      exact ⟨_, rfl, by rw [HN.out, if_neg (by simp)]; exact ORc_lit1 a (by rw [World.size_alloc]) (by have := HB2.out.size; simp only [World.size_alloc]; omega), below_alloc (below_alloc HB2.out _) _⟩
  | true =>
    have hX : meetX a b = meetR a b := by unfold meetX; rw [hm]; rfl
    have hok := four_ok a b ha hb hm
    rw [hm, hX] at HM
    have hmin : minusR a b = (fourOf a (meetR a b)).filter Rc.live := by unfold minusR; rw [hm]; rfl
    obtain ⟨m, hmm⟩ : ∃ m, meetR a b = m := ⟨_, rfl⟩
    rw [hmm] at HM hok hmin
    have HN := Aside0.mk hmin
    have hl4 : (fourOf a m).length = 4 := rfl
    have hok2 : ∀ k, k < 4 → ((fourOf a m).getD k default).ok := fun k hk => hok _ (by
      rw [List.getD_eq_getElem?_getD, List.getElem?_eq_getElem (by rw [hl4]; exact hk)]
      exact List.getElem_mem _)
    have hix : ∀ k : Nat, k < 4 → ∀ W : World, (Instr.index 54 (.agg #[cx a.e0 a.t0, cx m.e0 a.t1, cx m.e1 a.t0, cx a.e1 a.t1, cx m.e0 a.t0, cx m.e1 m.t0, cx m.e0 m.t1, cx m.e1 a.t1]) (.int .i64 (k : Int))).run Try.prog W = .ok (rv ((fourOf a m).getD k default)) W := fun k hk W => by
      rcases (show k = 0 ∨ k = 1 ∨ k = 2 ∨ k = 3 by omega) with rfl | rfl | rfl | rfl
      all_goals kernel_rfl
    have HOK := Aside0.mk hok2
    have HIX := Aside0.mk hix
    have HTK : Aside0 (∀ k, k < 4 → (fourOf a m).take (k + 1) = (fourOf a m).take k ++ [(fourOf a m).getD k default]) := ⟨fun k hk => by
      rw [List.take_succ_eq_append_getElem (by rw [hl4]; exact hk), List.getD_eq_getElem?_getD, List.getElem?_eq_getElem (by rw [hl4]; exact hk)]
      rfl⟩
    have HL4 := Aside0.mk hl4
    clear hm hX hmm hmin hok hok2 hix hl4
    go_enter Try.func12, Try.ntmps12
    go_wp2_with fail
    (with_reducible refine HM.out.mono ?_)
    rintro e w1 ⟨rfl, hb1⟩
    obtain ⟨g2, hg2⟩ : ∃ g, w1.heap.size = g := ⟨_, rfl⟩
    obtain ⟨W2, hW2⟩ : ∃ W2, w1.alloc (rBox m) = W2 := ⟨_, rfl⟩
    have hb2 : Below W.heap.size W W2 := by rw [← hW2]; exact below_alloc hb1 _
    obtain ⟨e0, e1, -⟩ := two_cells (blk_below HY.out hb2)
    have hx2 : W2.heap[g2]? = some (rBox m) := by rw [← hW2, ← hg2]; exact blk_new w1 _
    obtain ⟨f0, f1, -⟩ := two_cells hx2
    have HB2 := Aside0.mk (below_step HBB.out hb2)
    clear hb1 hb2 c0 c1 d0 d1 hx2
    go_wp2_with fail
    go_loopw [8, 10, 76] (fun v8 v10 v76 w' => ∃ (k : Nat), k ≤ 4 ∧ v76 = .int .i64 k ∧ Aside0 (ORc w' w.heap.size v8 (((fourOf a m).take k).filter Rc.live)) ∧ Aside0 (Below w.heap.size w w')) (fun _ _ v76 _ => 4 - (intOf v76).toNat)
    case atStart => exact ⟨0, Nat.zero_le _, rfl, ⟨Kd.R_nil _ _ _ _ _⟩, ⟨below_alloc HB2.out _⟩⟩
    case round =>
      obtain ⟨k, hk, rfl, HO, HB⟩ := hrel
      by_cases hlt : k < 4
      · have hx := HIX.out k hlt
        obtain ⟨k1, k2, k3, k4⟩ := HOK.out k hlt
        have htk := HTK.out k hlt
        have hlen : (((fourOf a m).take k).filter Rc.live).length ≤ 4 := Nat.le_trans (List.length_filter_le _ _) (by rw [List.length_take, HL4.out]; omega)
        obtain ⟨r, hr⟩ : ∃ r, (fourOf a m).getD k default = r := ⟨_, rfl⟩
        rw [hr] at hx k1 k2 k3 k4 htk
        have l1 := lss_E r.e0 r.e1 (by omega) (by omega)
        have l2 := lss_E r.t0 r.t1 (by omega) (by omega)
        have HTK1 := Aside0.mk htk
        have HLN := Aside0.mk hlen
        obtain ⟨g3, hg3⟩ : ∃ g, wr.heap.size = g := ⟨_, rfl⟩
        obtain ⟨W3, hW3⟩ : ∃ W3, wr.alloc (rBox r) = W3 := ⟨_, rfl⟩
        have hx3 : W3.heap[g3]? = some (rBox r) := by rw [← hW3, ← hg3]; exact blk_new wr _
        obtain ⟨t0, t1, -⟩ := two_cells hx3
        have hb3 : Below wr.heap.size wr W3 := by rw [← hW3]; exact below_alloc (Below.refl _ _) _
        have HO3 := Aside0.mk (Kd.R_below HO.out hb3)
        have HB3 := Aside0.mk (below_step HB.out hb3)
        have j1 : (k : Int) < 4 := by omega
        clear hr htk hlen hx3 hb3 e0 e1 f0 f1 HO HB
        by_cases p1 : r.e0 < r.e1
        · rw [decide_eq_true p1] at l1
          by_cases p2 : r.t0 < r.t1
          · rw [decide_eq_true p2] at l2
            have HLV : Aside0 (r.live = true) := ⟨by unfold Rc.live; rw [decide_eq_true p1, decide_eq_true p2]; rfl⟩
            go_wp2_with ((with_reducible refine gate_dst (N := 98) rfl ?_); refine app_rc (r := r) rfl rfl rfl rfl HO3.out HB3.out.size (by have := HLN.out; omega) ?_; intro v7 w7 hO7 hb7 _; have HO7 := Aside0.mk hO7; have HB7 := Aside0.mk (HB3.out.trans hb7); clear hO7 hb7)
            go_roundw
            case rel => exact ⟨k + 1, hlt, by push_cast; rfl, ⟨by rw [HTK1.out, List.filter_append, List.filter_cons_of_pos HLV.out]; exact HO7.out⟩, HB7⟩
            case measure => simp [intOf]; omega
          · rw [decide_eq_false p2] at l2
            have HLV : Aside0 (r.live = false) := ⟨by unfold Rc.live; rw [decide_eq_false p2, Bool.and_false]⟩
            go_wp2_with fail
            go_roundw
            case rel => exact ⟨k + 1, hlt, by push_cast; rfl, ⟨by rw [HTK1.out, List.filter_append, List.filter_cons_of_neg (by rw [HLV.out]; simp), List.filter_nil, List.append_nil]; exact HO3.out⟩, HB3⟩
            case measure => simp [intOf]; omega
        · rw [decide_eq_false p1] at l1
          have HLV : Aside0 (r.live = false) := ⟨by unfold Rc.live; rw [decide_eq_false p1, Bool.false_and]⟩
          go_wp2_with fail
          go_roundw
          case rel => exact ⟨k + 1, hlt, by push_cast; rfl, ⟨by rw [HTK1.out, List.filter_append, List.filter_cons_of_neg (by rw [HLV.out]; simp), List.filter_nil, List.append_nil]; exact HO3.out⟩, HB3⟩
          case measure => simp [intOf]; omega
      · obtain rfl : k = 4 := by omega
        go_wp2_with fail
        go_ret
        exact ⟨_, rfl, by rw [HN.out]; exact HO.out, HB.out⟩
end Go.Proofs.Ythmkpgemilmikaa.A
