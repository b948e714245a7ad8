/- The frames of bytes, one by one: the iterator's contract. -/
import Derived.Test.YtohgmpkehncopaaJAll
namespace Go.Proofs.Ytohgmpkehncopaa.A
open Go Go.RowKit Go.Shelf Go.Proofs.YtohgmpkehncopaaW.PrintWords Go.Proofs.YtohgmpkehncopaaW.PrintLast Go.Proofs.YtohgmpkehncopaaW.PrintMore
attribute [local go_sem] Oper.semAt_some wide_fn wide_depth
set_option linter.unusedVariables false
set_option linter.unusedSimpArgs false

/-- A slice's box. -/
abbrev slB (A : Option Addr) (n c : Nat) : Obj := .cells #[.slice A n c] 22
theorem slB_cell {w : World} {g : Nat} {A : Option Addr} {n c : Nat} (h : w.heap[g]? = some (slB A n c)) : w.cell? ⟨g, 0, none⟩ = some (.slice A n c) ∧ w.frozen? ⟨g, 0, none⟩ = false := by
  refine ⟨?_, ?_⟩
  · rw [cell_of_row _ _ _ _ _ _ h]; rfl
  · simp [World.frozen?, h]
theorem slB_set {w : World} {g : Nat} {A A' : Option Addr} {n c n' c' : Nat} (h : w.heap[g]? = some (slB A n c)) : (w.setCell ⟨g, 0, none⟩ (.slice A' n' c')).heap[g]? = some (slB A' n' c') := by
  have hl := (Array.getElem?_eq_some_iff.1 h).1
  have he := (Array.getElem?_eq_some_iff.1 h).2
  simp only [World.setCell]
  rw [Array.getElem?_eq_getElem (by simpa using hl)]
  simp [Array.getElem_modify, he]
/-- How long the slice in a box is. -/
def boxLen (w : World) (g : Nat) : Nat := match w.heap[g]? with
  | some (Obj.cells cs _ _) => match cs.getD 0 (.bool true) with
    | Value.slice _ n _ => n
    | _ => 0
  | _ => 0
theorem boxLen_eq {w : World} {g : Nat} {A : Option Addr} {n c : Nat} (h : w.heap[g]? = some (slB A n c)) : boxLen w g = n := by unfold boxLen; rw [h]; rfl
/-- What a round of the body keeps. -/
def KpA (w0 : World) (g : Nat) (A B : World) : Prop := Below w0.heap.size A B ∧ A.heap.size ≤ B.heap.size ∧ B.heap[g]? = A.heap[g]?
/-- What is handed out. -/
def OkA (B1 : Nat) (ll : List (List Int)) (pre : List (Value × List Int)) (x : Value × List Int) (W : World) : Prop := OB W B1 x.1 x.2 ∧ (pre ++ [x]).map Prod.snd <+: ll
theorem below_grown {N g : Nat} {w A B : World} (h : Below N w A) (hg : A.grownBy B (some g)) (hN : N ≤ w.heap.size) (hgN : N ≤ g) : Below N w B :=
  h.grown hg (Nat.le_trans hN h.size) (fun k e => by cases e; exact hgN)
set_option maxRecDepth 100000 in
set_option maxHeartbeats 4000000 in
theorem all_itr (w0 w : World) (g B1 : Nat) (A : Option Addr) (n c : Nat) (l : List Int) (hC : U8.C w0 A n l) (hc : n ≤ c) (hby : ∀ x ∈ l, 0 ≤ x ∧ x ≤ 255) (hg0 : w0.heap.size ≤ g) (hw : Below w0.heap.size w0 w) (hb : w.heap[g]? = some (slB A n c)) (hB1 : B1 ≤ w.heap.size + 2) :
    Itr Try.prog 30 #[.pointer (some ⟨g, 0, none⟩)] (fun x : Value × List Int => #[x.1]) (fun X Y => X.grownBy Y (some g)) (KpA w0 g) (OkA B1 (frs (n + 1) l)) (fun xs => xs.map Prod.snd = frs (n + 1) l) (fun pre => pre.map Prod.snd <+: frs (n + 1) l) w := by
  intro lp J Jx W hKp hsz hJ hJx hY h0
  have HB0 := Aside0.mk (hw.trans hKp.1)
  have hbW := hKp.2.2.trans hb
  have hgW : g < W.heap.size := (Array.getElem?_eq_some_iff.1 hbW).1
  have HJ := Aside0.mk hJ
  have HJx := Aside0.mk hJx
  have HY := Aside0.mk hY
  have HC := Aside0.mk hC
  have hnl := hC.1
  clear hJ hJx hY hC hKp
  refine callsIn_of_wp Try.func30 rfl trivial ?_ rfl
  simp only [Try.ntmps30, List.size_toArray, List.length_cons, List.length_nil, Nat.reduceAdd, Nat.reduceSub, Array.replicate_succ, Array.replicate_zero, List.push_toArray, List.append_toArray, List.nil_append, List.cons_append]
  gi_wp2
  gi_loopw [3] (fun v3 wr => ∃ (pre : List (Value × List Int)) (f : Nat) (r : List Int) (m c' : Nat) (A' : Option Addr), Aside0 (pre.map Prod.snd ++ frs (f + 1) r = frs (n + 1) l) ∧ r.length ≤ f ∧ Aside0 (r.length = m) ∧ m ≤ c' ∧ Aside0 (∀ V : World, U8.C V A n l → U8.C V A' m r) ∧ Aside0 (∀ x ∈ r, 0 ≤ x ∧ x ≤ 255) ∧ wr.heap[g]? = some (slB A' m c') ∧ Aside0 (J pre wr) ∧ Aside0 (Below w0.heap.size w0 wr) ∧ w.heap.size + 2 ≤ wr.heap.size)
    (fun _ wr => boxLen wr g)
  case atStart => exact ⟨[], n, l, n, c, A, ⟨rfl⟩, by omega, ⟨hnl⟩, hc, ⟨fun V h => h⟩, ⟨hby⟩, hbW, ⟨h0⟩, HB0, hsz⟩
  case round =>
    obtain ⟨pre, f, r, m, c', A', HE, hrf, HRM, hmc, HT, HBY, hbx, HJ0, HB, hws⟩ := hrel
    obtain ⟨bc, bf⟩ := slB_cell hbx
    have HBX := Aside0.mk hbx
    have HCr := Aside0.mk (Kd.C_below HC.out HB.out)
    have HCm := Aside0.mk (HT.out _ HCr.out)
    cases hok : okF r with
    | false =>
      have HSn := Aside0.mk (one_no A' m c' r wr HCm.out hmc HBY.out hok)
      have HFR : Aside0 (pre.map Prod.snd = frs (n + 1) l) := ⟨by have h := HE.out; rw [frs_no hok, List.append_nil] at h; exact h⟩
      clear hok hbx
      gi_wp2_with (gi_at_call 24; refine (callsIn_wide.2 HSn.out).mono ?_; rintro e w1 ⟨A1, m1, c1, er, rfl, her, hb1⟩)
      refine bodyPost_ret (results_none rfl _ _ _) rfl ?_
      exact ⟨⟨_, rfl⟩, .inl ⟨pre, HFR.out, HJ.out _ _ _ HJ0.out (grown_below hb1 _)⟩⟩
    | true =>
      have HYs := Aside0.mk (one_yes A' m c' r wr HCm.out hmc HBY.out hok)
      have hlr := rest_len HBY.out hok
      have HFR : Aside0 ((pre.map Prod.snd ++ [ownOf r]) ++ frs f (restOf r) = frs (n + 1) l) := ⟨by have h := HE.out; rw [frs_yes hok] at h; rw [← h]; simp⟩
      have hrm := HRM.out
      clear hok hbx
      gi_wp2_with (gi_at_call 24; refine (callsIn_wide.2 HYs.out).mono ?_; rintro e w1 ⟨v, A1, c1, rfl, hO1, hc1, hT1, hb1⟩; have HO1 := Aside0.mk (Kd.R_lower hO1 (show B1 ≤ wr.heap.size by omega)); have HT1 := Aside0.mk hT1; have HB1 := Aside0.mk (below_step HB.out hb1); have HJ1 := Aside0.mk (HJ.out _ _ _ HJ0.out (grown_below hb1 _)); have hbx1 := blk_keep HBX.out hb1; have HBX1 := Aside0.mk hbx1; obtain ⟨fn, tmps, assign, body, hy, hR⟩ := HY.out pre (v, ownOf r) w1 HJ1.out ⟨HO1.out, ⟨frs f (restOf r), by rw [List.map_append]; exact HFR.out⟩⟩; have HRD := Aside0.mk hR; have hs1 := hb1.size; clear hO1 hT1 hb1 hbx1 hR)
      refine HRD.out.mono ?_
      rintro e W3 (⟨rfl, hJ3, hk3⟩ | ⟨rfl, hJx3⟩)
      · have hbx3 := hk3.2.2.trans HBX1.out
        obtain ⟨bc3, bf3⟩ := slB_cell hbx3
        have HJ3 := Aside0.mk hJ3
        have HB3 := Aside0.mk (HB1.out.trans hk3.1)
        have hs3 := hk3.2.1
        have HBX3 := Aside0.mk hbx3
        clear hJ3 hk3 hbx3 hy
        gi_wp2
        go_roundw
        case rel =>
          have hgr := grownBy_setCell' W3 g (.slice A1 (restOf r).length c1)
          refine ⟨pre ++ [(v, ownOf r)], f - 1, restOf r, (restOf r).length, c1, A1, ⟨?_⟩, by omega, ⟨rfl⟩, hc1, ⟨fun V hV => HT1.out V (HT.out V hV)⟩, ⟨rest_range HBY.out⟩, slB_set HBX3.out, ⟨HJ.out _ _ _ HJ3.out hgr⟩, ⟨below_grown HB3.out hgr (Nat.le_refl _) hg0⟩, ?_⟩
          · rw [List.map_append, show f - 1 + 1 = f by omega]
            exact HFR.out
          · rw [World.size_setCell]
            omega
        case measure =>
          rw [boxLen_eq (slB_set HBX3.out), boxLen_eq HBX.out]
          omega
      · clear hy
        gi_wp2
        refine bodyPost_ret (results_none rfl _ _ _) rfl ?_
        exact ⟨⟨_, rfl⟩, .inr ⟨pre ++ [(v, ownOf r)], ⟨frs f (restOf r), by rw [List.map_append]; exact HFR.out⟩, hJx3⟩⟩
end Go.Proofs.Ytohgmpkehncopaa.A
