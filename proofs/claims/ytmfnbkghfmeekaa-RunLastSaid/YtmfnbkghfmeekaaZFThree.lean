/- FThree -/
import Derived.Test.YtmfnbkghfmeekaaZFTwo
import Derived.Test.YtmfnbkghfmeekaaZIRange
import Derived.Shelf.RegionOpen
import Derived.OwnWalkIn
import Derived.TacticsInMore
import Derived.LoopNIn
import Derived.LoopIn
import Derived.Deep.QuietTactic
import Derived.StillTailTactics
namespace Go.Proofs.Ytmfnbkghfmeekaa.A.F
open Go Go.RowKit Go.Shelf Go.Proofs.YtmfnbkghfmeekaaW.PrintWords Go.Proofs.YtmfnbkghfmeekaaW.PrintLast Go.Proofs.YtmfnbkghfmeekaaW.PrintMore
attribute [local go_sem] Oper.semAt_some
set_option linter.unusedVariables false
set_option linter.unusedSimpArgs false
def okF (l : List Int) : Bool := !decide (Short l) && decide (sum (ownOf l) = num4 (l.drop 4))
theorem okF_iff (l : List Int) : okF l = true ↔ ¬ Short l ∧ sum (ownOf l) = num4 (l.drop 4) := by unfold okF; simp
def frs : Nat → List Int → List (List Int)
  | 0, _ => []
  | f + 1, l => if okF l then ownOf l :: frs f (restOf l) else []
theorem frs_yes {f : Nat} {l : List Int} (h : okF l = true) : frs (f + 1) l = ownOf l :: frs f (restOf l) := by rw [frs, if_pos h]
theorem frs_no {f : Nat} {l : List Int} (h : okF l = false) : frs (f + 1) l = [] := by rw [frs, if_neg (by rw [h]; simp)]
def frn (ll : List (List Int)) : Nat := ll.foldr (fun x n => x.length + 8 + n) 0
theorem frn_cons (x : List Int) (ll : List (List Int)) : frn (x :: ll) = x.length + 8 + frn ll := rfl
theorem frn_append (a b : List (List Int)) : frn (a ++ b) = frn a + frn b := by
  induction a with
  | nil => simp [frn]
  | cons x a ih => rw [List.cons_append, frn_cons, frn_cons, ih]; omega
theorem rest_len {l : List Int} (hb : ∀ x ∈ l, 0 ≤ x ∧ x ≤ 255) (h : okF l = true) : (restOf l).length + (ownOf l).length + 8 = l.length := by
  have h1 := ((okF_iff l).1 h).1
  obtain ⟨n0, n1⟩ := num4_range hb
  unfold Short at h1
  unfold restOf ownOf
  rw [List.length_drop, List.length_drop, List.length_take]
  omega
theorem rest_range {l : List Int} (hb : ∀ x ∈ l, 0 ≤ x ∧ x ≤ 255) : ∀ x ∈ restOf l, 0 ≤ x ∧ x ≤ 255 := fun x hx => hb x (List.mem_of_mem_drop hx)
theorem frn_frs : ∀ (f : Nat) (l : List Int), (∀ x ∈ l, 0 ≤ x ∧ x ≤ 255) → frn (frs f l) ≤ l.length
  | 0, l, _ => by simp [frs, frn]
  | f + 1, l, hb => by
    unfold frs
    split
    · rename_i h
      have h1 := rest_len hb h
      have h2 := frn_frs f (restOf l) (rest_range hb)
      rw [frn_cons]
      omega
    · simp [frn]
theorem frs_len (ll : List (List Int)) : 8 * ll.length ≤ frn ll := by
  induction ll with
  | nil => simp [frn]
  | cons x ll ih => rw [frn_cons, List.length_cons]; omega
theorem one_no (A : Option Addr) (n c : Nat) (l : List Int) (w : World) (hr : U8.C w A n l) (hc : n ≤ c) (hb : ∀ x ∈ l, 0 ≤ x ∧ x ≤ 255) (h : okF l = false) :
    Calls Try.prog 92 #[.slice A n c] w fun e w' => ∃ A1 m1 c1 er, e = .returned (.tuple #[.slice none 0 0, .slice A1 m1 c1, .int .i64 er]) ∧ (er != 0) = true ∧ Below w.heap.size w w' := by
  have hn := hr.1
  subst hn
  by_cases hs : Short l
  · refine (one_short A c l w hr hc hb hs).mono ?_
    rintro e w' ⟨rfl, hb1⟩
    exact ⟨_, _, _, _, rfl, rfl, hb1⟩
  · have hs' := hs
    unfold Short at hs'
    refine (one_bad A c l w hr hc hb (by omega) (by omega) ?_).mono ?_
    · intro e
      rw [(okF_iff l).2 ⟨hs, e⟩] at h
      cases h
    · rintro e w' ⟨A1, c1, rfl, _, _, hb1⟩
      exact ⟨_, _, _, _, rfl, rfl, hb1⟩
set_option maxHeartbeats 1600000 in
theorem one_yes (A : Option Addr) (n c : Nat) (l : List Int) (w : World) (hr : U8.C w A n l) (hc : n ≤ c) (hb : ∀ x ∈ l, 0 ≤ x ∧ x ≤ 255) (h : okF l = true) :
    Calls Try.prog 92 #[.slice A n c] w fun e w' => ∃ v A1 c1, e = .returned (.tuple #[v, .slice A1 (restOf l).length c1, .int .i64 0]) ∧ OB w' w.heap.size v (ownOf l) ∧ (restOf l).length ≤ c1 ∧ (∀ W : World, U8.C W A n l → U8.C W A1 (restOf l).length (restOf l)) ∧ Below w.heap.size w w' := by
  have hnl := hr.1
  subst hnl
  obtain ⟨hs1, hs⟩ := (okF_iff l).1 h
  have hs2 := hs1
  unfold Short at hs2
  have h8 : 8 ≤ l.length := by omega
  have h : 8 + num4 l ≤ l.length := by omega
  clear hs1 hs2
  have HR := Aside0.mk hr
  have HBY := Aside0.mk hb
  have hm : l.length ≤ 9223372036854775807 := hr.2.1
  obtain ⟨hn0, hn1⟩ := num4_range hb
  obtain ⟨A1, c1, hk1, hC1, hl1⟩ := cutf A c l (8 + num4 l) (by omega) h hc
  obtain ⟨A2, c2, hk2, hC2, hl2⟩ := cutm A c l 8 (8 + num4 l) (by omega) (by omega) h hc
  obtain ⟨A3, c3, hk3, hC3, hl3⟩ := cutf A c l 4 (by omega) (by omega) hc
  have HS := Aside0.mk hs
  have HC1 := Aside0.mk hC1
  have HC2 := Aside0.mk (hC2 _ hr)
  have HC3 := Aside0.mk (hC3 _ hr)
  have h4 : 4 ≤ (l.drop 4).length := by rw [List.length_drop]; omega
  have HB4 := Aside0.mk (tail4_range hb 4)
  have hn : ¬ (l.length : Int) - 8 < num4 l := by omega
  have ho : (l.take (8 + num4 l).toNat).drop (8 : Int).toNat = ownOf l := rfl
  have hre : l.drop (8 + num4 l).toNat = restOf l := rfl
  have hl4 : l.drop (4 : Int).toNat = l.drop 4 := rfl
  rw [ho] at hk2 HC2 hl2
  rw [hre] at hk1 HC1 hl1
  rw [hl4] at hk3 HC3 hl3
  clear hC1 hC2 hC3 ho hre hl4 hr hb hs
  have hol : (ownOf l).length ≤ 140737488000000 := by unfold ownOf; rw [List.length_drop, List.length_take]; omega
  generalize ownOf l = O at *
  generalize restOf l = R at *
  generalize l.drop 4 = D at *
  generalize hN : num4 l = N at *
  generalize hN4 : num4 D = N4 at *
  have HN := Aside0.mk hN
  have HN4 := Aside0.mk hN4
  have hne : (sum O == N4) = true := by simpa using HS.out
  have hne2 : (sum O != N4) = false := by simpa using HS.out
  clear hN hN4
  go_enter Try.func92, Try.ntmps92
  go_wp2_with ((go_at_call 104); (with_reducible refine (number_calls _ _ _ _ ?_ hc HBY.out (by omega)).mono ?_); exact (by repeat (with_reducible first | exact HR.out | refine Kd.C_drewN ?_ _ | refine Kd.C_drew ?_)); rw [HN.out]; rintro e w1 ⟨rfl, n1, rfl⟩)
  go_region_with (first
    | ((go_at_call 66); (with_reducible refine (sum_calls _ _ _ _ ?_ hl2).mono ?_); exact (by repeat (with_reducible first | exact HC2.out | refine Kd.C_drewN ?_ _ | refine Kd.C_drew ?_)); rintro e w5 ⟨rfl, rfl⟩)
    | ((go_at_call 104); (with_reducible refine (number_calls _ _ D _ ?_ hl3 HB4.out h4).mono ?_); exact (by repeat (with_reducible first | exact HC3.out | refine Kd.C_drewN ?_ _ | refine Kd.C_drew ?_)); rw [HN4.out]; rintro e w1 ⟨rfl, n1, rfl⟩))
  all_goals go_wp2
  all_goals go_region_with ((go_at_call 62); (with_reducible refine (clone_calls _ _ O _ ?_ hl2 hol).mono ?_); exact (by repeat (with_reducible first | exact HC2.out | refine Kd.C_drewN ?_ _ | refine Kd.C_drew ?_)); rintro e w8 ⟨v8, rfl, HO8, hb8⟩)
  all_goals go_wp2
  all_goals go_ret3
  all_goals have hbf := below_step (w := w) (by repeat (with_reducible first | exact Below.refl _ _ | apply pw_below_drewN | apply below_drew1)) hb8
  all_goals exact ⟨v8, A1, c1, by kernel_rfl, HO8, hl1, HC1.out, hbf⟩
end Go.Proofs.Ytmfnbkghfmeekaa.A.F
namespace Go.Proofs.Ytmfnbkghfmeekaa.A.F
open Go Go.RowKit Go.Shelf Go.Proofs.YtmfnbkghfmeekaaW.PrintWords Go.Proofs.YtmfnbkghfmeekaaW.PrintLast Go.Proofs.YtmfnbkghfmeekaaW.PrintMore
attribute [local go_sem] Oper.semAt_some wide_fn wide_depth
set_option linter.unusedVariables false
set_option linter.unusedSimpArgs false
abbrev slB (A : Option Addr) (n c : Nat) : Obj := .cells #[.slice A n c] 31
theorem slB_cell {w : World} {g : Nat} {A : Option Addr} {n c : Nat} (h : w.heap[g]? = some (slB A n c)) : w.cell? ⟨g, 0, none⟩ = some (.slice A n c) ∧ w.frozen? ⟨g, 0, none⟩ = false := by
  refine ⟨?_, ?_⟩
  · rw [cell_of_row _ _ _ _ _ _ h]; rfl
  · simp [World.frozen?, h]
theorem slB_set {w : World} {g : Nat} {A A' : Option Addr} {n c n' c' : Nat} (h : w.heap[g]? = some (slB A n c)) : (w.setCell ⟨g, 0, none⟩ (.slice A' n' c')).heap[g]? = some (slB A' n' c') := by
  have hl := (Array.getElem?_eq_some_iff.1 h).1
  have he := (Array.getElem?_eq_some_iff.1 h).2
  simp only [World.setCell]
  rw [Array.getElem?_eq_getElem (by simpa using hl)]
  simp [Array.getElem_modify, he]
def boxLen (w : World) (g : Nat) : Nat := match w.heap[g]? with
  | some (Obj.cells cs _ _) => match cs.getD 0 (.bool true) with
    | Value.slice _ n _ => n
    | _ => 0
  | _ => 0
theorem boxLen_eq {w : World} {g : Nat} {A : Option Addr} {n c : Nat} (h : w.heap[g]? = some (slB A n c)) : boxLen w g = n := by unfold boxLen; rw [h]; rfl
def KpA (w0 : World) (g : Nat) (A B : World) : Prop := Below w0.heap.size A B ∧ A.heap.size ≤ B.heap.size ∧ B.heap[g]? = A.heap[g]?
def OkA (B1 : Nat) (ll : List (List Int)) (pre : List (Value × List Int)) (x : Value × List Int) (W : World) : Prop := OB W B1 x.1 x.2 ∧ (pre ++ [x]).map Prod.snd <+: ll
theorem below_grown {N g : Nat} {w A B : World} (h : Below N w A) (hg : A.grownBy B (some g)) (hN : N ≤ w.heap.size) (hgN : N ≤ g) : Below N w B :=
  h.grown hg (Nat.le_trans hN h.size) (fun k e => by cases e; exact hgN)
set_option maxRecDepth 100000 in
set_option maxHeartbeats 4000000 in
theorem all_itr (w0 w : World) (g B1 : Nat) (A : Option Addr) (n c : Nat) (l : List Int) (hC : U8.C w0 A n l) (hc : n ≤ c) (hby : ∀ x ∈ l, 0 ≤ x ∧ x ≤ 255) (hg0 : w0.heap.size ≤ g) (hw : Below w0.heap.size w0 w) (hb : w.heap[g]? = some (slB A n c)) (hB1 : B1 ≤ w.heap.size + 2) :
    Itr Try.prog 91 #[.pointer (some ⟨g, 0, none⟩)] (fun x : Value × List Int => #[x.1]) (fun X Y => X.grownBy Y (some g)) (KpA w0 g) (OkA B1 (frs (n + 1) l)) (fun xs => xs.map Prod.snd = frs (n + 1) l) (fun pre => pre.map Prod.snd <+: frs (n + 1) l) w := by
  intro lp J Jx W hKp hsz hJ hJx hY h0
  have HB0 := Aside0.mk (hw.trans hKp.1)
  have hbW := hKp.2.2.trans hb
  have hgW : g < W.heap.size := (Array.getElem?_eq_some_iff.1 hbW).1
  have HJ := Aside0.mk hJ
  have HJx := Aside0.mk hJx
  have HY := Aside0.mk hY
  have HC := Aside0.mk hC
  have hnl := hC.1
  clear hJ hJx hY hC hKp
  refine callsIn_of_wp Try.func91 rfl trivial ?_ rfl
  simp only [Try.ntmps91, List.size_toArray, List.length_cons, List.length_nil, Nat.reduceAdd, Nat.reduceSub, Array.replicate_succ, Array.replicate_zero, List.push_toArray, List.append_toArray, List.nil_append, List.cons_append]
  gi_wp2
  gi_loopw [3] (fun v3 wr => ∃ (pre : List (Value × List Int)) (f : Nat) (r : List Int) (m c' : Nat) (A' : Option Addr), Aside0 (pre.map Prod.snd ++ frs (f + 1) r = frs (n + 1) l) ∧ r.length ≤ f ∧ Aside0 (r.length = m) ∧ m ≤ c' ∧ Aside0 (∀ V : World, U8.C V A n l → U8.C V A' m r) ∧ Aside0 (∀ x ∈ r, 0 ≤ x ∧ x ≤ 255) ∧ wr.heap[g]? = some (slB A' m c') ∧ Aside0 (J pre wr) ∧ Aside0 (Below w0.heap.size w0 wr) ∧ w.heap.size + 2 ≤ wr.heap.size)
    (fun _ wr => boxLen wr g)
  case atStart => exact ⟨[], n, l, n, c, A, ⟨rfl⟩, by omega, ⟨hnl⟩, hc, ⟨fun V h => h⟩, ⟨hby⟩, hbW, ⟨h0⟩, HB0, hsz⟩
  case round =>
    obtain ⟨pre, f, r, m, c', A', HE, hrf, HRM, hmc, HT, HBY, hbx, HJ0, HB, hws⟩ := hrel
    obtain ⟨bc, bf⟩ := slB_cell hbx
    have HBX := Aside0.mk hbx
    have HCr := Aside0.mk (Kd.C_below HC.out HB.out)
    have HCm := Aside0.mk (HT.out _ HCr.out)
    cases hok : okF r with
    | false =>
      have HSn := Aside0.mk (one_no A' m c' r wr HCm.out hmc HBY.out hok)
      have HFR : Aside0 (pre.map Prod.snd = frs (n + 1) l) := ⟨by have h := HE.out; rw [frs_no hok, List.append_nil] at h; exact h⟩
      clear hok hbx
      gi_wp2_with (gi_at_call 92; refine (callsIn_wide.2 HSn.out).mono ?_; rintro e w1 ⟨A1, m1, c1, er, rfl, her, hb1⟩)
      refine bodyPost_ret (results_none rfl _ _ _) rfl ?_
      exact ⟨⟨_, rfl⟩, .inl ⟨pre, HFR.out, HJ.out _ _ _ HJ0.out (grown_below hb1 _)⟩⟩
    | true =>
      have HYs := Aside0.mk (one_yes A' m c' r wr HCm.out hmc HBY.out hok)
      have hlr := rest_len HBY.out hok
      have HFR : Aside0 ((pre.map Prod.snd ++ [ownOf r]) ++ frs f (restOf r) = frs (n + 1) l) := ⟨by have h := HE.out; rw [frs_yes hok] at h; rw [← h]; simp⟩
      have hrm := HRM.out
      clear hok hbx
      gi_wp2_with (gi_at_call 92; refine (callsIn_wide.2 HYs.out).mono ?_; rintro e w1 ⟨v, A1, c1, rfl, hO1, hc1, hT1, hb1⟩; have HO1 := Aside0.mk (Kd.R_lower hO1 (show B1 ≤ wr.heap.size by omega)); have HT1 := Aside0.mk hT1; have HB1 := Aside0.mk (below_step HB.out hb1); have HJ1 := Aside0.mk (HJ.out _ _ _ HJ0.out (grown_below hb1 _)); have hbx1 := blk_keep HBX.out hb1; have HBX1 := Aside0.mk hbx1; obtain ⟨fn, tmps, assign, body, hy, hR⟩ := HY.out pre (v, ownOf r) w1 HJ1.out ⟨HO1.out, ⟨frs f (restOf r), by rw [List.map_append]; exact HFR.out⟩⟩; have HRD := Aside0.mk hR; have hs1 := hb1.size; clear hO1 hT1 hb1 hbx1 hR)
      refine HRD.out.mono ?_
      rintro e W3 (⟨rfl, hJ3, hk3⟩ | ⟨rfl, hJx3⟩)
      · have hbx3 := hk3.2.2.trans HBX1.out
        obtain ⟨bc3, bf3⟩ := slB_cell hbx3
        have HJ3 := Aside0.mk hJ3
        have HB3 := Aside0.mk (HB1.out.trans hk3.1)
        have hs3 := hk3.2.1
        have HBX3 := Aside0.mk hbx3
        clear hJ3 hk3 hbx3 hy
        gi_wp2
        go_roundw
        case rel =>
          have hgr := grownBy_setCell' W3 g (.slice A1 (restOf r).length c1)
          refine ⟨pre ++ [(v, ownOf r)], f - 1, restOf r, (restOf r).length, c1, A1, ⟨?_⟩, by omega, ⟨rfl⟩, hc1, ⟨fun V hV => HT1.out V (HT.out V hV)⟩, ⟨rest_range HBY.out⟩, slB_set HBX3.out, ⟨HJ.out _ _ _ HJ3.out hgr⟩, ⟨below_grown HB3.out hgr (Nat.le_refl _) hg0⟩, ?_⟩
          · rw [List.map_append, show f - 1 + 1 = f by omega]
            exact HFR.out
          · rw [World.size_setCell]
            omega
        case measure =>
          rw [boxLen_eq (slB_set HBX3.out), boxLen_eq HBX.out]
          omega
      · clear hy
        gi_wp2
        refine bodyPost_ret (results_none rfl _ _ _) rfl ?_
        exact ⟨⟨_, rfl⟩, .inr ⟨pre ++ [(v, ownOf r)], ⟨frs f (restOf r), by rw [List.map_append]; exact HFR.out⟩, hJx3⟩⟩
end Go.Proofs.Ytmfnbkghfmeekaa.A.F
namespace Go.Proofs.Ytmfnbkghfmeekaa.A.F
open Go Go.RowKit Go.Shelf Go.Proofs.YtmfnbkghfmeekaaW.PrintWords Go.Proofs.YtmfnbkghfmeekaaW.PrintLast Go.Proofs.YtmfnbkghfmeekaaW.PrintMore
attribute [local go_sem] Oper.semAt_some wide_fn wide_depth
set_option linter.unusedVariables false
set_option linter.unusedSimpArgs false
theorem all_calls (A : Option Addr) (n c : Nat) (w : World) :
    Calls Try.prog 68 #[.slice A n c] w fun e w' => e = .returned (.func (.func 91) #[] #[.pointer (some ⟨w.heap.size, 0, none⟩)]) ∧ w.alloc (slB A n c) = w' := by
  go_enter Try.func68, Try.ntmps68
  go_wp2
  go_ret
  exact ⟨rfl, rfl⟩
def HeadsO (w : World) (B : Nat) (hs : List (Option Addr × Nat × Nat)) (ll : List (List Int)) : Prop :=
  hs.length = ll.length ∧ ∀ (i : Nat) (h : Option Addr × Nat × Nat) (x : List Int), hs[i]? = some h → ll[i]? = some x → OB w B (.slice h.1 h.2.1 h.2.2) x
theorem HeadsO_nil (w : World) (B : Nat) : HeadsO w B [] [] := ⟨rfl, fun i h x h1 => by simp at h1⟩
theorem HeadsO_move {w w1 : World} {B B1 : Nat} {hs : List (Option Addr × Nat × Nat)} {ll : List (List Int)} (h : HeadsO w B hs ll) (hm : ∀ u x, OB w B u x → OB w1 B1 u x) : HeadsO w1 B1 hs ll := ⟨h.1, fun i a x h1 h2 => hm _ _ (h.2 i a x h1 h2)⟩
theorem HeadsO_add {w : World} {B : Nat} {hs : List (Option Addr × Nat × Nat)} {ll : List (List Int)} {A : Option Addr} {c n : Nat} {x : List Int} (h : HeadsO w B hs ll) (hx : OB w B (.slice A n c) x) : HeadsO w B (hs ++ [(A, n, c)]) (ll ++ [x]) := by
  refine ⟨by simp [h.1], fun i a y h1 h2 => ?_⟩
  rcases Nat.lt_or_ge i hs.length with hi | hi
  · rw [List.getElem?_append_left hi] at h1
    rw [List.getElem?_append_left (by rw [← h.1]; exact hi)] at h2
    exact h.2 i a y h1 h2
  · rw [List.getElem?_append_right hi] at h1
    rw [List.getElem?_append_right (by rw [← h.1]; exact hi), ← h.1] at h2
    have h0 : i - hs.length = 0 := by
      have := (List.getElem?_eq_some_iff.1 h1).1
      simpa using this
    rw [h0] at h1 h2
    simp only [List.getElem?_cons_zero, Option.some.injEq] at h1 h2
    subst h1 h2
    exact hx
theorem SC_off {α : Type} {enc : α → Value} {h1 : ∀ x, (enc x).oneCell' = true} {e : Nat} {W w1 : World} {B : Nat} {ok : Nat → Prop} {u : Value} {xs : List α} {row : Option Nat} (h : (Kd.scalar enc h1).R e W B ok u xs) (hg : W.grownBy w1 row) (hr : ∀ k, row = some k → k < B) : (Kd.scalar enc h1).R e w1 B ok u xs := by
  refine OR_grown h hg ?_
  obtain ⟨h0, inner, ho, _⟩ := h
  cases hu : u.ownBlock with
  | none => exact .inl rfl
  | some k =>
    refine .inr fun e1 => ?_
    have h3 := own_base ho k hu
    have h4 := hr k e1.symm
    omega
def FrI (w : World) (pre : List (Value × List Int)) (W : World) : Prop :=
  ∃ v hs, W.heap[w.heap.size]? = some (.cells #[v] 67) ∧ W.heap[w.heap.size + 1]? = some (.cells #[.int .i64 (frn (pre.map Prod.snd))] 3) ∧ OR Hd 31 W (w.heap.size + 5) v hs ∧ HeadsO W (w.heap.size + 5) hs (pre.map Prod.snd) ∧ Below w.heap.size w W
theorem FrI_row {w A B : World} {pre : List (Value × List Int)} {row : Option Nat} (h : FrI w pre A) (hg : A.grownBy B row) (hr : ∀ k, row = some k → w.heap.size + 2 ≤ k ∧ k < w.heap.size + 5) : FrI w pre B := by
  obtain ⟨v, hs, h1, h2, h3, h4, h5⟩ := h
  have far : ∀ k, k < w.heap.size + 2 → k < A.heap.size → B.heap[k]? = A.heap[k]? := fun k hk hl => hg.block k hl (fun e => by have := (hr k e.symm).1; omega)
  have hb : ∀ k, row = some k → k < w.heap.size + 5 := fun k e => (hr k e).2
  exact ⟨v, hs, (far _ (by omega) (Array.getElem?_eq_some_iff.1 h1).1).trans h1, (far _ (by omega) (Array.getElem?_eq_some_iff.1 h2).1).trans h2, SC_off h3 hg hb, HeadsO_move h4 (fun u x hu => SC_off hu hg hb), h5.grown hg h5.size (fun k e => by have := (hr k e).1; omega)⟩
theorem app_headIn {l : Nat} {ops : Array Oper} {rest : List Oper} {o : Oper} {a : Act} {Q : Exit → Act → World → Prop} {W : World} {B : Nat} {s x : Operand} (hgd : o.guard = none) (ho : o.op = .call { callee := .builtin .append, args := #[s, x], argTypes := #[67, 67] }) {v : Value} {xs : List (Option Addr × Nat × Nat)} {A : Option Addr} {n c : Nat}
    (hs : a.eval s = v) (hx : a.eval x = .slice (some ⟨W.heap.size, 0, none⟩) 1 1) (HO : OR Hd 31 W B v xs) (hB : B ≤ W.heap.size) (hl : xs.length ≤ 1000000000)
    (h : ∀ v1 w1, OR Hd 31 w1 B v1 (xs ++ [(A, n, c)]) → Below B W w1 → W.grownBy w1 v.ownBlock → wpListIn (Fence.wide.inRound l) 0 Try.prog ops Q rest (a.put o.dst v1) w1) : wpListIn (Fence.wide.inRound l) 0 Try.prog ops Q (o :: rest) a (W.alloc (.cells #[.slice A n c] 31)) :=
  listIn_of_step hgd (by rw [ho]; intro c hc; cases hc) (app_one_step (p := (A, n, c)) (cs := [.slice A n c]) Hd 67 31 (.slice none 0 0) 24 Try.underlying67 infoHd rfl (by decide) (by decide) hgd ho hs hx (fun okp => rfl) HO hB (by show (xs.length + 1) * 24 ≤ _; omega) h)
set_option maxRecDepth 100000 in
set_option maxHeartbeats 4000000 in
theorem frames_calls (A : Option Addr) (n c : Nat) (l : List Int) (w : World) (hr : U8.C w A n l) (hc : n ≤ c) (hby : ∀ x ∈ l, 0 ≤ x ∧ x ≤ 255) (hl : n ≤ 100000) :
    Calls Try.prog 38 #[.slice A n c] w fun e w' => ∃ v hs, e = .returned (.tuple #[v, .int .i64 (frn (frs (n + 1) l))]) ∧ OR Hd 31 w' w.heap.size v hs ∧ HeadsO w' w.heap.size hs (frs (n + 1) l) ∧ Below w.heap.size w w' := by
  have HR := Aside0.mk hr
  have HBY := Aside0.mk hby
  have HN := Aside0.mk hr.1
  clear hr hby
  refine (callsIn_wide (n := 0)).1 ?_
  refine callsIn_of_wp_marks Try.func38 rfl trivial ?_ rfl
  simp only [Try.ntmps38, List.size_toArray, List.length_cons, List.length_nil, Nat.reduceAdd, Nat.reduceSub, Array.replicate_succ, Array.replicate_zero, List.push_toArray, List.append_toArray, List.nil_append, List.cons_append]
  refine wpIn_wide.2 ?_
  go_wp2_with fail
  (with_reducible refine (all_calls A n c _).mono ?_)
  rintro e w3 ⟨rfl, hw3⟩
  go_wp2_with fail
  have hz3 : w3.heap.size = w.heap.size + 3 := by rw [← hw3]; simp only [World.size_alloc]
  have hb3 : Below w.heap.size w w3 := by rw [← hw3]; exact below_alloc (below_alloc (below_alloc (Below.refl _ _) _) _) _
  have hX0 : w3.heap[w.heap.size]? = some (.cells #[.slice none 0 0] 67) := by
    rw [← hw3]
    exact blk_keep (blk_keep (heap_alloc_new w _) (below_alloc (Below.refl _ _) _)) (below_alloc (Below.refl _ _) _)
  have hX1 : w3.heap[w.heap.size + 1]? = some (.cells #[.int .i64 0] 3) := by
    have h := blk_keep (heap_alloc_new (w.alloc (.cells #[.slice none 0 0] 67)) (.cells #[.int .i64 0] 3)) (below_alloc (Below.refl _ _) (slB A n c))
    rw [hw3, World.size_alloc] at h
    exact h
  have hX2 : w3.heap[w.heap.size + 1 + 1]? = some (slB A n c) := by
    have h := heap_alloc_new ((w.alloc (.cells #[.slice none 0 0] 67)).alloc (.cells #[.int .i64 0] 3)) (slB A n c)
    rw [hw3] at h
    simp only [World.size_alloc] at h
    exact h
  have HI0 : Aside0 (FrI w [] w3) := ⟨_, _, hX0, hX1, Kd.R_nil _ _ _ _ _, HeadsO_nil _ _, hb3⟩
  clear hX0 hX1
  refine (wpIn_wide (n := 0)).1 ?_
  refine range_itr (α := Value × List Int) rfl (enters_of Try.func91 (by kernel_rfl) rfl) (all_itr w w3 (w.heap.size + 1 + 1) (w.heap.size + 5) A n c l HR.out hc HBY.out (by omega) hb3 hX2 (by omega))
    (fun X Y h k h1 h2 => h.block k h2 (fun e => by cases e; omega)) (fun h k => ⟨h.1.trans k.1, Nat.le_trans h.2.1 k.2.1, k.2.2.trans h.2.2⟩)
    (fun X Y row hs hg hr => ⟨(Below.refl _ X).grown hg (by omega) (fun k e => by have := (hr k e).1; omega), hg.size, hg.block _ (by omega) (fun e => by have := (hr _ e.symm).1; omega)⟩) (fun x => rfl)
    (FrI w) (fun _ _ _ => False) (fun s X Y row hI hg hr => FrI_row hI hg (fun k e => by have := hr k e; omega)) (fun c s X Y row hI hg hr => hI) (fun s X Y hI hg => FrI_row hI hg (fun k e => by cases e; omega)) (fun c s X Y hI hg => hI)
    (fun pre x s X Y row hI hg hr => ⟨SC_off hI.1 hg (fun k e => by have := hr k e; omega), hI.2⟩) HI0.out
    (fun x => { tmps := #[.slice A n c, undef, .slice none 0 0, .int .i64 0, .pointer (some ⟨w.heap.size, 0, none⟩), .pointer (some ⟨w.heap.size + 1, 0, none⟩), x.1, .slice A n c, .func (.func 91) #[] #[.pointer (some ⟨w.heap.size + 1 + 1, 0, none⟩)], x.1, undef, undef, undef, undef, undef, undef, undef, undef, undef, undef, undef], defers := [] }) ?assign ?body ?done ?stop
  case assign =>
    intro lp x W K hK
    gi_wp2
    exact hK
  case body =>
    rintro lp pre ⟨xv, xb⟩ W hsW hI ⟨hO, hpre⟩
    obtain ⟨v, hs, h1, h2, h3, h4, h5⟩ := hI
    simp only at hO
    have hln : frn ((pre ++ [(xv, xb)]).map Prod.snd) ≤ n := by
      obtain ⟨t, ht⟩ := hpre
      have h6 := frn_frs (n + 1) l HBY.out
      rw [← ht, frn_append] at h6
      have := HN.out
      omega
    have hll := frs_len ((pre ++ [(xv, xb)]).map Prod.snd)
    rw [List.length_map, List.length_append] at hll
    have hfe : frn ((pre ++ [(xv, xb)]).map Prod.snd) = frn (pre.map Prod.snd) + (8 + xb.length) := by rw [List.map_append, frn_append]; show _ + (xb.length + 8 + 0) = _; omega
    have hhl : hs.length = pre.length := by rw [h4.1, List.length_map]
    obtain ⟨m, hm⟩ : ∃ m, xb.length = m := ⟨_, rfl⟩
    rw [hm] at hfe
    obtain ⟨A1, c1, rfl, hc1, _⟩ := OB_readn hO m hm
    have HFE := Aside0.mk hfe
    have H1 := Aside0.mk h1
    have H2 := Aside0.mk h2
    have H3 := Aside0.mk h3
    have H4 := Aside0.mk h4
    have H5 := Aside0.mk h5
    have HO := Aside0.mk hO
    obtain ⟨p1, f1⟩ := one_cell h1
    obtain ⟨p2, f2⟩ := one_cell h2
    rw [hfe] at hln
    simp only [List.length_cons, List.length_nil] at hll
    rw [hfe] at hll
    obtain ⟨q, hq⟩ : ∃ q, frn (pre.map Prod.snd) = q := ⟨_, rfl⟩
    rw [hq] at hln hll p2
    have HQ := Aside0.mk hq
    have hlq : hs.length ≤ 1000000000 := by omega
    clear h1 h2 h3 h4 h5 hO hpre hfe hm hq
    dsimp only
    gi_wp2_with ((with_reducible refine gateIn_dst (N := 13) rfl ?_); refine app_headIn (B := w.heap.size + 5) (v := v) (s := .tmp 10) (x := .tmp 12) (A := A1) (n := m) (c := c1) rfl rfl rfl rfl H3.out (by omega) hlq ?_; intro v1 w1 hO1 hb1 hg1; obtain ⟨k1, hk1⟩ : ∃ k1, (hs ++ [(A1, m, c1)]).length = k1 := ⟨_, rfl⟩; obtain ⟨Av, cv, rfl, hcv, _⟩ := OR_readn hO1 k1 hk1; clear hk1; have hp1 := (hb1.block w.heap.size (by omega)).trans H1.out; have hp2 := (hb1.block (w.heap.size + 1) (by omega)).trans H2.out; obtain ⟨p3, f3⟩ := one_cell hp1; obtain ⟨p4, f4⟩ := one_cell hp2; rw [HQ.out] at p4; have HP1 := Aside0.mk hp1; have HP2 := Aside0.mk hp2; have HO1 := Aside0.mk hO1; have HB1 := Aside0.mk hb1; have HG1 := Aside0.mk hg1; clear hO1 hb1 hg1 hp1 hp2)
    have hw1 : IntKind.i64.wrap ((8 : Int) + m) = 8 + m := IntWalk.i64_in _ (by omega)
    have e8 : ((q : Int) + (8 + (m : Int))) = ((q + (8 + m) : Nat) : Int) := by omega
    have hg4 := grownBy_setCell' w1 w.heap.size (.slice Av k1 cv)
    have hg5 := grownBy_setCell' (w1.setCell ⟨w.heap.size, 0, none⟩ (.slice Av k1 cv)) (w.heap.size + 1) (.int .i64 ((q : Int) + (8 + (m : Int))))
    have hb1' : Below w.heap.size W w1 := HB1.out.mono (by omega)
    have hbW : Below w.heap.size W ((w1.setCell ⟨w.heap.size, 0, none⟩ (.slice Av k1 cv)).setCell ⟨w.heap.size + 1, 0, none⟩ (.int .i64 ((q : Int) + (8 + (m : Int))))) :=
      (hb1'.setCell (p := ⟨w.heap.size, 0, none⟩) (Nat.le_refl _) _).setCell (p := ⟨w.heap.size + 1, 0, none⟩) (Nat.le_succ _) _
    have o4 : ∀ k, some w.heap.size = some k → k < w.heap.size + 5 := fun k e => by cases e; omega
    have o5 : ∀ k, some (w.heap.size + 1) = some k → k < w.heap.size + 5 := fun k e => by cases e; omega
    refine ⟨((Keep2.of_below HB1.out (by omega)).trans (Keep2.set _ _ (.inl (by omega)))).trans (Keep2.set _ _ (.inl (by omega))), ⟨hbW, ?_, ?_⟩, .slice Av k1 cv, hs ++ [(A1, m, c1)], ?_, ?_, ?_, ?_, ?_⟩
    · rw [World.size_setCell, World.size_setCell]
      exact HB1.out.size
    · exact ((Below.heap_setCell _ _ _ _ (fun e => by simp only at e; omega)).trans (Below.heap_setCell _ _ _ _ (fun e => by simp only at e; omega))).trans (HB1.out.block _ (by omega))
    · exact (Below.heap_setCell _ _ _ _ (fun e => by simp only at e; omega)).trans (one_set HP1.out)
    · rw [HFE.out, HQ.out, ← e8]
      exact one_set ((Below.heap_setCell _ _ _ _ (fun e => by simp only at e; omega)).trans HP2.out)
    · exact SC_off (SC_off HO1.out hg4 o4) hg5 o5
    · rw [List.map_append]
      have hne : (5 : Nat) ≠ 22 := by decide
      have hmv : ∀ u x, OB W (w.heap.size + 5) u x → OB w1 (w.heap.size + 5) u x := fun u x hu => OB_grown (v := v) hu HG1.out (own_ne_type H3.out hu (by decide))
      exact HeadsO_add (HeadsO_move H4.out fun u x hu => SC_off (SC_off (hmv u x hu) hg4 o4) hg5 o5) (SC_off (SC_off (hmv _ _ HO.out) hg4 o4) hg5 o5)
    · exact H5.out.trans hbW
  case done =>
    rintro xs W hS ⟨v, hs, h1, h2, h3, h4, h5⟩ hK
    obtain ⟨p1, f1⟩ := one_cell h1
    obtain ⟨p2, f2⟩ := one_cell h2
    rw [hS] at h2 h4 p2
    obtain ⟨k1, hk1⟩ : ∃ k1, hs.length = k1 := ⟨_, rfl⟩
    obtain ⟨Av, cv, rfl, hcv, _⟩ := OR_readn h3 k1 hk1
    obtain ⟨q, hq⟩ : ∃ q, frn (frs (n + 1) l) = q := ⟨_, rfl⟩
    rw [hq] at p2
    have HQ := Aside0.mk hq
    have H3 := Aside0.mk h3
    have H4 := Aside0.mk h4
    have H5 := Aside0.mk h5
    have HK := Aside0.mk hK
    clear h1 h2 h3 h4 h5 hS hK hq hk1
    dsimp only
    go_wp2
    go_quiet (fail)
    go_wp2
    refine ⟨by simp, .inl ⟨_, _, rfl, run_takeDeferred (HK.out : (W.drewN _).heap[w3.heap.size]? = _), ?_⟩⟩
    have hgp := grownBy_putObj' (W.drewN nq) w3.heap.size (.deferred none)
    have hop : ∀ k, some w3.heap.size = some k → k < w.heap.size + 5 := fun k e => by cases e; omega
    have h5 : Below w.heap.size w (W.drewN nq) := pw_below_drewN H5.out _
    refine ⟨_, results_tmp2 rfl _ _ _, _, hs, by rw [HQ.out]; rfl, Kd.R_lower (SC_off (W := W.drewN nq) H3.out hgp hop) (by omega), HeadsO_move (w := W.drewN nq) H4.out (fun u x hu => Kd.R_lower (SC_off hu hgp hop) (by omega)), h5.grown hgp h5.size (fun k e => by cases e; omega)⟩
  case stop =>
    intro c pre W _ h _
    exact h.elim
end Go.Proofs.Ytmfnbkghfmeekaa.A.F
namespace Go.Proofs.Ytmfnbkghfmeekaa.A.F
open Go.RowKit Go.Proofs.YtmfnbkghfmeekaaW.PrintWords Go.Proofs.YtmfnbkghfmeekaaW.PrintLast Go.Proofs.YtmfnbkghfmeekaaW.PrintMore
set_option linter.unusedVariables false
set_option linter.unusedSimpArgs false
set_option maxHeartbeats 1600000 in
theorem first_yes (A : Option Addr) (n c : Nat) (l : List Int) (w : World) (hr : U8.C w A n l) (hc : n ≤ c) (hb : ∀ x ∈ l, 0 ≤ x ∧ x ≤ 255) (h : okF l = true) :
    Calls Try.prog 76 #[.slice A n c] w fun e w' => ∃ A2 c2, e = .returned (.tuple #[.slice A2 (ownOf l).length c2, .int .i64 (8 + num4 l), .int .i64 0]) ∧ (ownOf l).length ≤ c2 ∧ (∀ V : World, U8.C V A n l → U8.C V A2 (ownOf l).length (ownOf l)) ∧ Below w.heap.size w w' := by
  have hnl := hr.1
  subst hnl
  obtain ⟨hs1, hs⟩ := (okF_iff l).1 h
  have hs2 := hs1
  unfold Short at hs2
  have h8 : 8 ≤ l.length := by omega
  have h : 8 + num4 l ≤ l.length := by omega
  clear hs1 hs2
  have HR := Aside0.mk hr
  have HBY := Aside0.mk hb
  have hm : l.length ≤ 9223372036854775807 := hr.2.1
  obtain ⟨hn0, hn1⟩ := num4_range hb
  obtain ⟨A2, c2, hk2, hC2, hl2⟩ := cutm A c l 8 (8 + num4 l) (by omega) (by omega) h hc
  obtain ⟨A3, c3, hk3, hC3, hl3⟩ := cutm A c l 4 8 (by omega) (by omega) (by omega) hc
  have HS := Aside0.mk hs
  have HC2 := Aside0.mk (hC2 _ hr)
  have HCA := Aside0.mk hC2
  have HC3 := Aside0.mk (hC3 _ hr)
  have HBO := Aside0.mk (own_range hb)
  have h48 : num4 ((l.take 8).drop 4) = num4 (l.drop 4) := num4_take l h8
  have h4 : 4 ≤ ((l.take (8 : Int).toNat).drop (4 : Int).toNat).length := by rw [List.length_drop, List.length_take]; omega
  have HB4 : Aside0 (∀ x ∈ (l.take (8 : Int).toNat).drop (4 : Int).toNat, 0 ≤ x ∧ x ≤ 255) := ⟨fun x hx => hb x (List.mem_of_mem_take (List.mem_of_mem_drop hx))⟩
  have hn : ¬ (l.length : Int) < 8 + num4 l := by omega
  have ho : (l.take (8 + num4 l).toNat).drop (8 : Int).toNat = ownOf l := rfl
  have hl4 : (l.take (8 : Int).toNat).drop (4 : Int).toNat = (l.take 8).drop 4 := rfl
  rw [ho] at hk2 HC2 HCA hl2
  rw [hl4] at hk3 HC3 hl3 h4 HB4
  clear hC2 hC3 ho hl4 hr hb hs
  rw [← h48] at HS
  clear h48
  generalize ownOf l = O at *
  generalize (l.take 8).drop 4 = D at *
  generalize hN : num4 l = N at *
  generalize hN4 : num4 D = N4 at *
  have HN := Aside0.mk hN
  have HN4 := Aside0.mk hN4
  have hne : (sum O == N4) = true := by simpa using HS.out
  have hne2 : (sum O != N4) = false := by simpa using HS.out
  clear hN hN4
  go_enter Try.func76, Try.ntmps76
  go_wp2_with ((go_at_call 97); (with_reducible refine (refnumber_calls _ _ _ _ ?_ hc HBY.out (by omega)).mono ?_); exact (by repeat (with_reducible first | exact HR.out | refine Kd.C_drewN ?_ _ | refine Kd.C_drew ?_)); rw [HN.out]; rintro e w1 ⟨rfl, n1, rfl⟩)
  go_region_with (first
    | ((go_at_call 75); (with_reducible refine (refsum_calls _ _ O _ ?_ hl2 HBO.out).mono ?_); exact (by repeat (with_reducible first | exact HC2.out | refine Kd.C_drewN ?_ _ | refine Kd.C_drew ?_)); rintro e w5 ⟨rfl, hb5⟩; have hf := Aside0.mk (below_step (w := w) (by repeat (with_reducible first | exact Below.refl _ _ | apply pw_below_drewN | apply below_drew1)) hb5); clear hb5)
    | ((go_at_call 97); (with_reducible refine (refnumber_calls _ _ D _ ?_ hl3 HB4.out h4).mono ?_); (repeat (with_reducible first | exact HC3.out | exact Kd.C_below HC3.out hf.out | refine Kd.C_drewN ?_ _ | refine Kd.C_drew ?_)); rw [HN4.out]; rintro e w1 ⟨rfl, n1, rfl⟩))
  all_goals go_wp2
  all_goals go_ret3
  all_goals exact ⟨A2, c2, by kernel_rfl, hl2, HCA.out, by repeat (with_reducible first | exact hf.out | apply pw_below_drewN | apply below_drew1)⟩
theorem first_no (A : Option Addr) (n c : Nat) (l : List Int) (w : World) (hr : U8.C w A n l) (hc : n ≤ c) (hb : ∀ x ∈ l, 0 ≤ x ∧ x ≤ 255) (h : okF l = false) :
    Calls Try.prog 76 #[.slice A n c] w fun e w' => ∃ m er, e = .returned (.tuple #[.slice none 0 0, .int .i64 m, .int .i64 er]) ∧ (er != 0) = true ∧ Below w.heap.size w w' := by
  have hn := hr.1
  subst hn
  by_cases hs : Short l
  · refine (first_short A c l w hr hc hb hs).mono ?_
    rintro e w' ⟨rfl, hb1⟩
    exact ⟨_, _, rfl, rfl, hb1⟩
  · have hs' := hs
    unfold Short at hs'
    refine (first_bad A c l w hr hc hb (by omega) (by omega) ?_).mono ?_
    · intro e
      rw [(okF_iff l).2 ⟨hs, e⟩] at h
      cases h
    · rintro e w' ⟨rfl, hb1⟩
      exact ⟨_, _, rfl, rfl, hb1⟩
set_option maxRecDepth 100000 in
set_option maxHeartbeats 4000000 in
theorem refframes_calls (A : Option Addr) (n c : Nat) (l : List Int) (w : World) (hr : U8.C w A n l) (hc : n ≤ c) (hby : ∀ x ∈ l, 0 ≤ x ∧ x ≤ 255) (hl : n ≤ 100000) :
    Calls Try.prog 48 #[.slice A n c] w fun e w' => ∃ v hs, e = .returned (.tuple #[v, .int .i64 (frn (frs (n + 1) l))]) ∧ OR Hd 31 w' w.heap.size v hs ∧ Heads w hs (frs (n + 1) l) ∧ Below w.heap.size w w' := by
  have HR := Aside0.mk hr
  have HBY := Aside0.mk hby
  have hn := hr.1
  have HFN := Aside0.mk (frn_frs (n + 1) l hby)
  clear hr hby
  go_enter Try.func48, Try.ntmps48
  go_wp2_with fail
  go_loopw [4, 5] (fun v4 v5 w' => ∃ (pre : List (List Int)) (f q : Nat) (hs : List (Option Addr × Nat × Nat)), v5 = .int .i64 q ∧ Aside0 (pre ++ frs (f + 1) (l.drop q) = frs (n + 1) l) ∧ Aside0 (frn pre = q) ∧ q ≤ n ∧ n - q ≤ f ∧ Aside0 (OR Hd 31 w' w.heap.size v4 hs) ∧ Aside0 (Heads w hs pre) ∧ Aside0 (Below w.heap.size w w')) (fun _ v5 _ => n - (intOf v5).toNat)
  case atStart => exact ⟨[], n, 0, [], rfl, ⟨rfl⟩, ⟨rfl⟩, Nat.zero_le _, by omega, ⟨Kd.R_nil _ _ _ _ _⟩, ⟨Heads_nil w⟩, ⟨Below.refl _ _⟩⟩
  case round =>
    obtain ⟨pre, f, q, hs, rfl, HE, HQ, hqn, hqf, HO, HH, HB⟩ := hrel
    obtain ⟨A1, c1, hk1, hC1, hl1⟩ := cutf A c l (q : Int) (by omega) (by omega) (by omega)
    have et : ((q : Int)).toNat = q := by omega
    rw [et] at hC1 hl1 hk1
    rw [hn] at hk1 hC1
    obtain ⟨m, hm⟩ : ∃ m, (l.drop q).length = m := ⟨_, rfl⟩
    rw [hm] at hk1 hl1 hC1
    have HCA := Aside0.mk hC1
    have HCR := Aside0.mk (hC1 w HR.out)
    have HM := Aside0.mk hm
    have hmq : m = n - q := by rw [← hm, List.length_drop, hn]
    have HBD : Aside0 (∀ x ∈ l.drop q, 0 ≤ x ∧ x ≤ 255) := ⟨fun x hx => HBY.out x (List.mem_of_mem_drop hx)⟩
    have HCw := Aside0.mk (Kd.C_below HCR.out HB.out)
    have hhl : hs.length = pre.length := HH.out.1
    have hpl := frs_len pre
    rw [HQ.out] at hpl
    have hq0 : (0 : Int) ≤ (q : Int) := by omega
    have hq1 : (q : Int) ≤ (n : Int) := by omega
    have hlq : hs.length ≤ 1000000000 := by omega
    have HMQ := Aside0.mk hmq
    clear hC1 hm et hpl hmq
    obtain ⟨D, hD⟩ : ∃ D, l.drop q = D := ⟨_, rfl⟩
    have HD := Aside0.mk hD
    rw [hD] at HCA HCR HM HBD HCw HE
    clear hD
    cases hok : okF D with
    | false =>
      have HSn := Aside0.mk (first_no A1 m c1 D wr HCw.out hl1 HBD.out hok)
      have HFR : Aside0 (pre = frs (n + 1) l) := ⟨by have h := HE.out; rw [frs_no hok, List.append_nil] at h; exact h⟩
      clear hok
      go_wp2_with fail
      (with_reducible refine HSn.out.mono ?_)
      rintro e w1 ⟨m1, er, rfl, her, hb1⟩
      have HO1 := Aside0.mk (Kd.R_below HO.out hb1)
      have HB1 := Aside0.mk (below_step HB.out hb1)
      clear hb1
      go_wp2_with fail
      go_ret2
      exact ⟨_, hs, by rw [← HFR.out, HQ.out]; rfl, HO1.out, by rw [← HFR.out]; exact HH.out, HB1.out⟩
    | true =>
      have HYs := Aside0.mk (first_yes A1 m c1 D wr HCw.out hl1 HBD.out hok)
      have hlr := rest_len HBD.out hok
      obtain ⟨n0, n1⟩ := num4_range HBD.out
      have hlo : ((ownOf D).length : Int) = num4 D := by
        have h1 := ((okF_iff D).1 hok).1
        unfold Short at h1
        unfold ownOf
        rw [List.length_drop, List.length_take]
        omega
      have HFR : Aside0 ((pre ++ [ownOf D]) ++ frs f (restOf D) = frs (n + 1) l) := ⟨by have h := HE.out; rw [frs_yes hok] at h; rw [← h]; simp⟩
      obtain ⟨r, hr⟩ : ∃ r, (8 + num4 D) = ((8 + r : Nat) : Int) := ⟨(ownOf D).length, by omega⟩
      have hro : (ownOf D).length = r := by omega
      rw [HM.out, hro] at hlr
      have hrest : restOf D = l.drop (q + (8 + r)) := by
        unfold restOf
        rw [hr, ← HD.out, List.drop_drop]
        rfl
      have HREST := Aside0.mk hrest
      have HHA : Aside0 (∀ A2 c2, (ownOf D).length ≤ c2 → (∀ V : World, U8.C V A1 m D → U8.C V A2 (ownOf D).length (ownOf D)) → Heads w (hs ++ [(A2, r, c2)]) (pre ++ [ownOf D])) := ⟨fun A2 c2 h1 h2 => by
        have h3 := h2 w HCR.out
        rw [hro] at h3 h1
        exact Heads_add HH.out h3 h1⟩
      have HQ2 : Aside0 (frn (pre ++ [ownOf D]) = q + (8 + r)) := ⟨by
        rw [frn_append, HQ.out]
        show q + ((ownOf D).length + 8 + 0) = _
        omega⟩
      have hr' : (8 + num4 D) = 8 + (r : Int) := by omega
      have hY2 := HYs.out
      rw [hr', hro] at hY2
      have HY2 := Aside0.mk hY2
      have HRO := Aside0.mk hro
      have HMQ2 : Aside0 (q + (8 + r) ≤ n) := ⟨by have := HMQ.out; omega⟩
      have hqr : q + (8 + r) ≤ n := HMQ2.out
      clear hok hro hrest hY2 HYs hlo n0 n1 hr hr' HE HQ
      go_wp2_with fail
      (with_reducible refine HY2.out.mono ?_)
      rintro e w1 ⟨A2, c2, rfl, hc2, hT2, hb1⟩
      have HH2 := Aside0.mk (HHA.out A2 c2 (by rw [HRO.out]; exact hc2) (by rw [HRO.out]; exact hT2))
      have HO1 := Aside0.mk (Kd.R_below HO.out hb1)
      have HB1 := Aside0.mk (below_step HB.out hb1)
      clear hb1 hT2 hc2 HHA HO HB
      go_wp2_with ((with_reducible refine gate_dst (N := 24) rfl ?_); refine app_head (v := u4) (s := .tmp 21) (x := .tmp 23) (A := A2) (n := r) (c := c2) rfl rfl rfl rfl HO1.out HB1.out.size hlq ?_; intro v1 w2 hO2 hb2 _; have HO2 := Aside0.mk hO2; have HB2 := Aside0.mk (HB1.out.trans hb2); clear hO2 hb2)
      go_roundw
      case rel => exact ⟨pre ++ [ownOf D], f - 1, q + (8 + r), hs ++ [(A2, r, c2)], by push_cast; rfl, ⟨by rw [show f - 1 + 1 = f by omega, ← HREST.out]; exact HFR.out⟩, HQ2, HMQ2.out, by omega, HO2, HH2, HB2⟩
      case measure => simp [intOf]; omega
end Go.Proofs.Ytmfnbkghfmeekaa.A.F
