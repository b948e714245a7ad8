/- Pieces of eight: what slices.Chunk's iterator hands out. -/
import Derived.Test.YtopoepifbjbmoaaCRefWrite
import Derived.Test.YtopoepifbjbmoaaIRange
import Derived.Shelf.RegionOpen
import Derived.OwnWalkIn
import Derived.TacticsInMore
import Derived.LoopNIn
import Derived.LoopIn
import Derived.Stop.RegionWithIn
namespace Go.Proofs.Ytopoepifbjbmoaa.A
open Go Go.RowKit Go.Shelf Go.Proofs.YtopoepifbjbmoaaW.PrintWords Go.Proofs.YtopoepifbjbmoaaW.PrintLast Go.Proofs.YtopoepifbjbmoaaW.PrintMore
open R
attribute [local go_sem] Oper.semAt_some wide_fn wide_depth max2_int min2_int max_two min_two
set_option linter.unusedVariables false
set_option linter.unusedSimpArgs false

/-- Pieces of eight. -/
def chk : Nat → List Vr → List (List Vr)
  | 0, _ => []
  | f + 1, l => if l.length = 0 then [] else l.take 8 :: chk f (l.drop 8)
theorem chk_no {f : Nat} {l : List Vr} (h : l.length = 0) : chk (f + 1) l = [] := by rw [chk, if_pos h]
theorem chk_yes {f : Nat} {l : List Vr} (h : ¬ l.length = 0) : chk (f + 1) l = l.take 8 :: chk f (l.drop 8) := by rw [chk, if_neg h]
/-- A slice's box. -/
abbrev vsB (A : Option Addr) (n c : Nat) : Obj := .cells #[.slice A n c] 22
abbrev niB (k : Int) : Obj := .cells #[.int .i64 k] 3
theorem cut3V (A : Option Addr) (n c : Nat) (l : List Vr) (lo hi : Nat) (hn : l.length = n) (h1 : lo < hi) (h2 : hi ≤ n) (hc : n ≤ c) :
    ∃ A' : Option Addr, (∀ W : World, (Instr.slice 22 (.slice A n c) (some (.int .i64 (lo : Int))) (some (.int .i64 (hi : Int))) (some (.int .i64 (hi : Int)))).run Try.prog W = .ok (.slice A' (hi - lo) (hi - lo)) W) ∧
      (∀ w : World, KVr.C w A n l → KVr.C w A' (hi - lo) ((l.take hi).drop lo)) := by
  subst hn
  obtain ⟨i0, hi0, _, hsz, _⟩ := info_parts infoVr
  refine ⟨if c = lo then A else A.map (·.add (lo * KVr.sz)), fun W => ?_, fun w h => ?_⟩
  · have hel : Try.prog.elem 22 = 39 := by simp [Program.elem, Try.underlying22]
    have hu : Try.prog.underlying 22 = some (.slice (Try.prog.elem 22)) := by rw [hel]; exact Try.underlying22
    rw [run_slice_lhm W 22 A l.length c hu .i64 .i64 .i64 (lo : Int) (hi : Int) (hi : Int) (by omega) (by omega) (by omega) (by omega), hel]
    have e1 : ¬ hi = lo := by omega
    have e2 : ¬ c = lo := by omega
    simp [sizeOf, typeInfo, hi0, hsz, sliced, Result.andThen, e1, e2]
    rfl
  · have h7 := Kd.C_mid h (lo := lo) (hi := hi) (by omega) h2 hc
    rw [show ((l.take hi).drop lo).length = hi - lo by rw [List.length_drop, List.length_take]; omega] at h7
    exact h7
/-- What a round of the body keeps. -/
def KpC (w0 : World) (g : Nat) (A B : World) : Prop := Below w0.heap.size A B ∧ A.heap.size ≤ B.heap.size ∧ B.heap[g]? = A.heap[g]? ∧ B.heap[g + 1]? = A.heap[g + 1]?
/-- What is handed out. -/
def OkC (A : Option Addr) (n : Nat) (l : List Vr) (ll : List (List Vr)) (pre : List (Value × List Vr)) (x : Value × List Vr) (_ : World) : Prop :=
  (∃ A' m, x.1 = .slice A' m m ∧ x.2.length = m ∧ ∀ V : World, KVr.C V A n l → KVr.C V A' m x.2) ∧ (pre ++ [x]).map Prod.snd <+: ll
set_option maxRecDepth 100000 in
set_option maxHeartbeats 4000000 in
theorem chunk_itr (w0 w : World) (g : Nat) (A : Option Addr) (n c : Nat) (l : List Vr) (hnl : l.length = n) (hc : n ≤ c) (hn : n ≤ 100000) (hg0 : w0.heap.size ≤ g) (hw : Below w0.heap.size w0 w) (hb1 : w.heap[g]? = some (vsB A n c)) (hb2 : w.heap[g + 1]? = some (niB 8)) :
    Itr Try.prog 50 #[.pointer (some ⟨g, 0, none⟩), .pointer (some ⟨g + 1, 0, none⟩)] (fun x : Value × List Vr => #[x.1]) (fun X Y => Below X.heap.size X Y) (KpC w0 g) (OkC A n l (chk (n + 1) l)) (fun xs => xs.map Prod.snd = chk (n + 1) l) (fun pre => pre.map Prod.snd <+: chk (n + 1) l) w := by
  intro lp J Jx W hKp hsz hJ hJx hY h0
  have HB0 := Aside0.mk (hw.trans hKp.1)
  have hbW := hKp.2.2.1.trans hb1
  have hnW := hKp.2.2.2.trans hb2
  have HJ := Aside0.mk hJ
  have HJx := Aside0.mk hJx
  have HY := Aside0.mk hY
  have HN := Aside0.mk hnl
  clear hJ hJx hY hKp hb1 hb2 hnl
  refine callsIn_of_wp Try.func50 rfl trivial ?_ rfl
  simp only [Try.ntmps50, List.size_toArray, List.length_cons, List.length_nil, Nat.reduceAdd, Nat.reduceSub, Array.replicate_succ, Array.replicate_zero, List.push_toArray, List.append_toArray, List.nil_append, List.cons_append]
  gi_wp2
  gi_loopw [4] (fun v4 wr => ∃ (pre : List (Value × List Vr)) (i f : Nat), v4 = .int .i64 i ∧ i ≤ n + 8 ∧ Aside0 (pre.map Prod.snd ++ chk (f + 1) (l.drop i) = chk (n + 1) l) ∧ n - i ≤ f ∧ wr.heap[g]? = some (vsB A n c) ∧ wr.heap[g + 1]? = some (niB 8) ∧ Aside0 (J pre wr) ∧ Aside0 (Below w0.heap.size w0 wr) ∧ w.heap.size + 2 ≤ wr.heap.size)
    (fun v4 wr => n - (intOf v4).toNat)
  case atStart => exact ⟨[], 0, n, rfl, by omega, ⟨rfl⟩, by omega, hbW, hnW, ⟨h0⟩, HB0, hsz⟩
  case round =>
    obtain ⟨pre, i, f, rfl, hi8, HE, hrf, hbx, hnx, HJ0, HB, hws⟩ := hrel
    obtain ⟨bc, bf⟩ := one_cell hbx
    obtain ⟨nc, nf⟩ := one_cell hnx
    have HBX := Aside0.mk hbx
    have HNX := Aside0.mk hnx
    clear hbx hnx
    by_cases hlt : i < n
    · have j1 : (i : Int) < (n : Int) := by omega
      have j2 : (0 : Int) ≤ (i : Int) := by omega
      have j3 : (i : Int) ≤ (n : Int) := by omega
      obtain ⟨m, hm⟩ : ∃ m, min 8 (n - i) = m := ⟨_, rfl⟩
      have hm8 : m ≤ 8 := by omega
      have hm1 : 1 ≤ m := by omega
      have hmn : i + m ≤ n := by omega
      obtain ⟨hi, hhi⟩ : ∃ hi, i + m = hi := ⟨_, rfl⟩
      obtain ⟨A6, c6, hcf, -, -⟩ := cutfV A n c l i HN.out (by omega) hc
      obtain ⟨A7, hc3, hC7⟩ := cut3V A n c l i hi HN.out (by omega) (by omega) hc
      rw [show hi - i = m by omega] at hc3 hC7
      have k1 : (i : Int) + (m : Int) = (hi : Int) := by omega
      have k2 : IntKind.i64.wrap (hi : Int) = (hi : Int) := IntWalk.i64_in _ (by omega)
      have k3 : IntKind.i64.wrap ((i : Int) + 8) = (i : Int) + 8 := IntWalk.i64_in _ (by omega)
      have kmin : (if ((n - i : Nat) : Int) < 8 then ((n - i : Nat) : Int) else 8) = (m : Int) := by split <;> omega
      have HX : Aside0 ((l.take hi).drop i = (l.drop i).take 8) := ⟨by
        rw [← hhi, List.drop_take, show i + m - i = m by omega, ← hm, ← List.take_take]
        rw [List.take_of_length_le (l := l.drop i) (by rw [List.length_drop, HN.out]; exact Nat.le_refl _)]⟩
      have HFR : Aside0 ((pre.map Prod.snd ++ [(l.take hi).drop i]) ++ chk f (l.drop (i + 8)) = chk (n + 1) l) := ⟨by
        have h := HE.out
        rw [chk_yes (by rw [List.length_drop, HN.out]; omega), List.drop_drop] at h
        rw [HX.out, ← h]
        simp⟩
      have HC7 := Aside0.mk hC7
      have HLX : Aside0 (((l.take hi).drop i).length = m) := ⟨by rw [List.length_drop, List.length_take, HN.out]; omega⟩
      generalize (l.take hi).drop i = x at *
      clear hm hhi hC7 HX
      have HJd := Aside0.mk (HJ.out _ _ _ HJ0.out (below_drew1 (Below.refl _ _)))
      have HBd := Aside0.mk (below_drew1 HB.out)
      clear HB HJ0 HE
      gi_wp2
      gi_region
      obtain ⟨fn, tmps, assign, body, hy, hR⟩ := HY.out pre (.slice A7 m m, x) _ HJd.out ⟨⟨A7, m, rfl, HLX.out, HC7.out⟩, ⟨chk f (l.drop (i + 8)), by rw [List.map_append]; exact HFR.out⟩⟩
      have HRD := Aside0.mk hR
      clear hR
      gi_wp2
      have HNd := Aside0.mk (blk_keep HNX.out (below_drew1 (Below.refl _ _)))
      have HXd := Aside0.mk (blk_keep HBX.out (below_drew1 (Below.refl _ _)))
      have hsd : wr.heap.size ≤ wr.drew.heap.size := (below_drew1 (Below.refl wr.heap.size wr)).size
      refine HRD.out.mono ?_
      rintro e W3 (⟨rfl, hJ3, hk3⟩ | ⟨rfl, hJx3⟩)
      · have hbx3 := hk3.2.2.1.trans HXd.out
        have hnx3 := hk3.2.2.2.trans HNd.out
        obtain ⟨bc3, bf3⟩ := one_cell hbx3
        obtain ⟨nc3, nf3⟩ := one_cell hnx3
        have HJ3 := Aside0.mk hJ3
        have HB3 := Aside0.mk (HBd.out.trans hk3.1)
        have hs3 := hk3.2.1
        have HBX3 := Aside0.mk hbx3
        have HNX3 := Aside0.mk hnx3
        clear hJ3 hk3 hbx3 hnx3 hy bc bf nc nf
        gi_wp2
        go_roundw
        case rel =>
          refine ⟨pre ++ [(.slice A7 m m, x)], i + 8, f - 1, by push_cast; rfl, by omega, ⟨?_⟩, by omega, HBX3.out, HNX3.out, HJ3, HB3, by omega⟩
          rw [List.map_append, show f - 1 + 1 = f by omega]
          exact HFR.out
        case measure => simp [intOf]; omega
      · clear hy
        gi_wp2
        refine bodyPost_ret (results_none rfl _ _ _) rfl ?_
        exact ⟨⟨_, rfl⟩, .inr ⟨pre ++ [(.slice A7 m m, x)], ⟨chk f (l.drop (i + 8)), by rw [List.map_append]; exact HFR.out⟩, hJx3⟩⟩
    · have j1 : ¬ (i : Int) < (n : Int) := by omega
      have HFR : Aside0 (pre.map Prod.snd = chk (n + 1) l) := ⟨by have h := HE.out; rw [chk_no (by rw [List.length_drop, HN.out]; omega), List.append_nil] at h; exact h⟩
      gi_wp2
      go_end0
      exact ⟨⟨_, rfl⟩, .inl ⟨pre, HFR.out, HJ0.out⟩⟩
end Go.Proofs.Ytopoepifbjbmoaa.A
