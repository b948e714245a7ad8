/- CFour -/
import Derived.Test.YtmfnbkghfmeekaaZCThree
import Derived.Test.YtmfnbkghfmeekaaZIRange
import Derived.Shelf.RegionOpen
import Derived.OwnWalkIn
import Derived.TacticsInMore
import Derived.LoopNIn
import Derived.LoopIn
import Derived.Stop.RegionWithIn
namespace Go.Proofs.Ytmfnbkghfmeekaa.A.C
open Go Go.RowKit Go.Shelf Go.Proofs.YtmfnbkghfmeekaaW.PrintWords Go.Proofs.YtmfnbkghfmeekaaW.PrintLast Go.Proofs.YtmfnbkghfmeekaaW.PrintMore
open R
attribute [local go_sem] Oper.semAt_some wide_fn wide_depth max2_int min2_int max_two min_two
set_option linter.unusedVariables false
set_option linter.unusedSimpArgs false
def chk : Nat → List Vr → List (List Vr)
  | 0, _ => []
  | f + 1, l => if l.length = 0 then [] else l.take 8 :: chk f (l.drop 8)
theorem chk_no {f : Nat} {l : List Vr} (h : l.length = 0) : chk (f + 1) l = [] := by rw [chk, if_pos h]
theorem chk_yes {f : Nat} {l : List Vr} (h : ¬ l.length = 0) : chk (f + 1) l = l.take 8 :: chk f (l.drop 8) := by rw [chk, if_neg h]
abbrev vsB (A : Option Addr) (n c : Nat) : Obj := .cells #[.slice A n c] 22
abbrev niB (k : Int) : Obj := .cells #[.int .i64 k] 3
theorem cut3V (A : Option Addr) (n c : Nat) (l : List Vr) (lo hi : Nat) (hn : l.length = n) (h1 : lo < hi) (h2 : hi ≤ n) (hc : n ≤ c) :
    ∃ A' : Option Addr, (∀ W : World, (Instr.slice 22 (.slice A n c) (some (.int .i64 (lo : Int))) (some (.int .i64 (hi : Int))) (some (.int .i64 (hi : Int)))).run Try.prog W = .ok (.slice A' (hi - lo) (hi - lo)) W) ∧
      (∀ w : World, KVr.C w A n l → KVr.C w A' (hi - lo) ((l.take hi).drop lo)) := by
  subst hn
  obtain ⟨i0, hi0, _, hsz, _⟩ := info_parts infoVr
  refine ⟨if c = lo then A else A.map (·.add (lo * KVr.sz)), fun W => ?_, fun w h => ?_⟩
  · have hel : Try.prog.elem 22 = 28 := by simp [Program.elem, Try.underlying22]
    have hu : Try.prog.underlying 22 = some (.slice (Try.prog.elem 22)) := by rw [hel]; exact Try.underlying22
    rw [run_slice_lhm W 22 A l.length c hu .i64 .i64 .i64 (lo : Int) (hi : Int) (hi : Int) (by omega) (by omega) (by omega) (by omega), hel]
    have e1 : ¬ hi = lo := by omega
    have e2 : ¬ c = lo := by omega
    simp [sizeOf, typeInfo, hi0, hsz, sliced, Result.andThen, e1, e2]
    rfl
  · have h7 := Kd.C_mid h (lo := lo) (hi := hi) (by omega) h2 hc
    rw [show ((l.take hi).drop lo).length = hi - lo by rw [List.length_drop, List.length_take]; omega] at h7
    exact h7
def KpC (w0 : World) (g : Nat) (A B : World) : Prop := Below w0.heap.size A B ∧ A.heap.size ≤ B.heap.size ∧ B.heap[g]? = A.heap[g]? ∧ B.heap[g + 1]? = A.heap[g + 1]?
def OkC (A : Option Addr) (n : Nat) (l : List Vr) (ll : List (List Vr)) (pre : List (Value × List Vr)) (x : Value × List Vr) (_ : World) : Prop :=
  (∃ A' m, x.1 = .slice A' m m ∧ x.2.length = m ∧ ∀ V : World, KVr.C V A n l → KVr.C V A' m x.2) ∧ (pre ++ [x]).map Prod.snd <+: ll
set_option maxRecDepth 100000 in
set_option maxHeartbeats 4000000 in
theorem chunk_itr (w0 w : World) (g : Nat) (A : Option Addr) (n c : Nat) (l : List Vr) (hnl : l.length = n) (hc : n ≤ c) (hn : n ≤ 100000) (hg0 : w0.heap.size ≤ g) (hw : Below w0.heap.size w0 w) (hb1 : w.heap[g]? = some (vsB A n c)) (hb2 : w.heap[g + 1]? = some (niB 8)) :
    Itr Try.prog 87 #[.pointer (some ⟨g, 0, none⟩), .pointer (some ⟨g + 1, 0, none⟩)] (fun x : Value × List Vr => #[x.1]) (fun X Y => Below X.heap.size X Y) (KpC w0 g) (OkC A n l (chk (n + 1) l)) (fun xs => xs.map Prod.snd = chk (n + 1) l) (fun pre => pre.map Prod.snd <+: chk (n + 1) l) w := by
  intro lp J Jx W hKp hsz hJ hJx hY h0
  have HB0 := Aside0.mk (hw.trans hKp.1)
  have hbW := hKp.2.2.1.trans hb1
  have hnW := hKp.2.2.2.trans hb2
  have HJ := Aside0.mk hJ
  have HJx := Aside0.mk hJx
  have HY := Aside0.mk hY
  have HN := Aside0.mk hnl
  clear hJ hJx hY hKp hb1 hb2 hnl
  refine callsIn_of_wp Try.func87 rfl trivial ?_ rfl
  simp only [Try.ntmps87, List.size_toArray, List.length_cons, List.length_nil, Nat.reduceAdd, Nat.reduceSub, Array.replicate_succ, Array.replicate_zero, List.push_toArray, List.append_toArray, List.nil_append, List.cons_append]
  gi_wp2
  gi_loopw [4] (fun v4 wr => ∃ (pre : List (Value × List Vr)) (i f : Nat), v4 = .int .i64 i ∧ i ≤ n + 8 ∧ Aside0 (pre.map Prod.snd ++ chk (f + 1) (l.drop i) = chk (n + 1) l) ∧ n - i ≤ f ∧ wr.heap[g]? = some (vsB A n c) ∧ wr.heap[g + 1]? = some (niB 8) ∧ Aside0 (J pre wr) ∧ Aside0 (Below w0.heap.size w0 wr) ∧ w.heap.size + 2 ≤ wr.heap.size)
    (fun v4 wr => n - (intOf v4).toNat)
  case atStart => exact ⟨[], 0, n, rfl, by omega, ⟨rfl⟩, by omega, hbW, hnW, ⟨h0⟩, HB0, hsz⟩
  case round =>
    obtain ⟨pre, i, f, rfl, hi8, HE, hrf, hbx, hnx, HJ0, HB, hws⟩ := hrel
    obtain ⟨bc, bf⟩ := one_cell hbx
    obtain ⟨nc, nf⟩ := one_cell hnx
    have HBX := Aside0.mk hbx
    have HNX := Aside0.mk hnx
    clear hbx hnx
    by_cases hlt : i < n
    · have j1 : (i : Int) < (n : Int) := by omega
      have j2 : (0 : Int) ≤ (i : Int) := by omega
      have j3 : (i : Int) ≤ (n : Int) := by omega
      obtain ⟨m, hm⟩ : ∃ m, min 8 (n - i) = m := ⟨_, rfl⟩
      have hm8 : m ≤ 8 := by omega
      have hm1 : 1 ≤ m := by omega
      have hmn : i + m ≤ n := by omega
      obtain ⟨hi, hhi⟩ : ∃ hi, i + m = hi := ⟨_, rfl⟩
      obtain ⟨A6, c6, hcf, -, -⟩ := cutfV A n c l i HN.out (by omega) hc
      obtain ⟨A7, hc3, hC7⟩ := cut3V A n c l i hi HN.out (by omega) (by omega) hc
      rw [show hi - i = m by omega] at hc3 hC7
      have k1 : (i : Int) + (m : Int) = (hi : Int) := by omega
      have k2 : IntKind.i64.wrap (hi : Int) = (hi : Int) := IntWalk.i64_in _ (by omega)
      have k3 : IntKind.i64.wrap ((i : Int) + 8) = (i : Int) + 8 := IntWalk.i64_in _ (by omega)
      have kmin : (if ((n - i : Nat) : Int) < 8 then ((n - i : Nat) : Int) else 8) = (m : Int) := by split <;> omega
      have HX : Aside0 ((l.take hi).drop i = (l.drop i).take 8) := ⟨by
        rw [← hhi, List.drop_take, show i + m - i = m by omega, ← hm, ← List.take_take]
        rw [List.take_of_length_le (l := l.drop i) (by rw [List.length_drop, HN.out]; exact Nat.le_refl _)]⟩
      have HFR : Aside0 ((pre.map Prod.snd ++ [(l.take hi).drop i]) ++ chk f (l.drop (i + 8)) = chk (n + 1) l) := ⟨by
        have h := HE.out
        rw [chk_yes (by rw [List.length_drop, HN.out]; omega), List.drop_drop] at h
        rw [HX.out, ← h]
        simp⟩
      have HC7 := Aside0.mk hC7
      have HLX : Aside0 (((l.take hi).drop i).length = m) := ⟨by rw [List.length_drop, List.length_take, HN.out]; omega⟩
      generalize (l.take hi).drop i = x at *
      clear hm hhi hC7 HX
      have HJd := Aside0.mk (HJ.out _ _ _ HJ0.out (below_drew1 (Below.refl _ _)))
      have HBd := Aside0.mk (below_drew1 HB.out)
      clear HB HJ0 HE
      gi_wp2
      gi_region
      obtain ⟨fn, tmps, assign, body, hy, hR⟩ := HY.out pre (.slice A7 m m, x) _ HJd.out ⟨⟨A7, m, rfl, HLX.out, HC7.out⟩, ⟨chk f (l.drop (i + 8)), by rw [List.map_append]; exact HFR.out⟩⟩
      have HRD := Aside0.mk hR
      clear hR
      gi_wp2
      have HNd := Aside0.mk (blk_keep HNX.out (below_drew1 (Below.refl _ _)))
      have HXd := Aside0.mk (blk_keep HBX.out (below_drew1 (Below.refl _ _)))
      have hsd : wr.heap.size ≤ wr.drew.heap.size := (below_drew1 (Below.refl wr.heap.size wr)).size
      refine HRD.out.mono ?_
      rintro e W3 (⟨rfl, hJ3, hk3⟩ | ⟨rfl, hJx3⟩)
      · have hbx3 := hk3.2.2.1.trans HXd.out
        have hnx3 := hk3.2.2.2.trans HNd.out
        obtain ⟨bc3, bf3⟩ := one_cell hbx3
        obtain ⟨nc3, nf3⟩ := one_cell hnx3
        have HJ3 := Aside0.mk hJ3
        have HB3 := Aside0.mk (HBd.out.trans hk3.1)
        have hs3 := hk3.2.1
        have HBX3 := Aside0.mk hbx3
        have HNX3 := Aside0.mk hnx3
        clear hJ3 hk3 hbx3 hnx3 hy bc bf nc nf
        gi_wp2
        go_roundw
        case rel =>
          refine ⟨pre ++ [(.slice A7 m m, x)], i + 8, f - 1, by push_cast; rfl, by omega, ⟨?_⟩, by omega, HBX3.out, HNX3.out, HJ3, HB3, by omega⟩
          rw [List.map_append, show f - 1 + 1 = f by omega]
          exact HFR.out
        case measure => simp [intOf]; omega
      · clear hy
        gi_wp2
        refine bodyPost_ret (results_none rfl _ _ _) rfl ?_
        exact ⟨⟨_, rfl⟩, .inr ⟨pre ++ [(.slice A7 m m, x)], ⟨chk f (l.drop (i + 8)), by rw [List.map_append]; exact HFR.out⟩, hJx3⟩⟩
    · have j1 : ¬ (i : Int) < (n : Int) := by omega
      have HFR : Aside0 (pre.map Prod.snd = chk (n + 1) l) := ⟨by have h := HE.out; rw [chk_no (by rw [List.length_drop, HN.out]; omega), List.append_nil] at h; exact h⟩
      gi_wp2
      go_end0
      exact ⟨⟨_, rfl⟩, .inl ⟨pre, HFR.out, HJ0.out⟩⟩
end Go.Proofs.Ytmfnbkghfmeekaa.A.C
namespace Go.Proofs.Ytmfnbkghfmeekaa.A.C
open Go Go.RowKit Go.Shelf Go.Proofs.YtmfnbkghfmeekaaW.PrintWords Go.Proofs.YtmfnbkghfmeekaaW.PrintLast Go.Proofs.YtmfnbkghfmeekaaW.PrintMore
open R
set_option linter.unusedVariables false
set_option linter.unusedSimpArgs false
section
variable {α β : Type} {d : Kd α} {d' : Kd β} {e e' : Nat} {W W1 : World} {B B' : Nat} {ok ok' : Nat → Prop} {v u : Value} {xs : List α} {ys : List β}
theorem own_ne_typeV (h : d.R e W B ok v xs) (h' : d'.R e' W B' ok' u ys) (hne : e ≠ e') : u.ownBlock = none ∨ u.ownBlock ≠ v.ownBlock := by
  obtain ⟨_, inner, ho, _⟩ := h
  obtain ⟨_, inner', ho', _⟩ := h'
  cases hu : u.ownBlock with
  | none => exact .inl rfl
  | some k =>
    refine .inr fun e1 => ?_
    obtain ⟨cells, hc⟩ := own_typed ho k e1.symm
    obtain ⟨cells', hc'⟩ := own_typed ho' k hu
    rw [hc] at hc'
    injection hc' with h1
    injection h1 with _ h2
    exact hne h2
end
theorem OR_grownV {α : Type} {enc : α → Value} {h1 : ∀ x, (enc x).oneCell' = true} {e : Nat} {W w1 : World} {B : Nat} {ok : Nat → Prop} {u : Value} {xs : List α} {row : Option Nat} (h : (Kd.scalar enc h1).R e W B ok u xs) (hg : W.grownBy w1 row) (hne : u.ownBlock = none ∨ u.ownBlock ≠ row) : (Kd.scalar enc h1).R e w1 B ok u xs := by
  obtain ⟨h0, inner, ho, hr⟩ := h
  exact ⟨h0, inner, ho.kept hg hne, hr⟩
theorem OVr_grownN {W w1 : World} {B : Nat} {u : Value} {xs : List Vr} {row : Option Nat} (h : OVr W B u xs) (hg : W.grownBy w1 row) (hne : u.ownBlock = none ∨ u.ownBlock ≠ row) : OVr w1 B u xs := by
  obtain ⟨h0, inner, ho, hr⟩ := h
  refine ⟨h0, inner, ho.kept hg hne, hr.imp_ fun p cs hM => ?_⟩
  have e := KVr_of (KVr.K_of_M hM)
  subst e
  exact KVr_M _ _ _ p
theorem OVr_off {W w1 : World} {B : Nat} {u : Value} {xs : List Vr} {row : Option Nat} (h : OVr W B u xs) (hg : W.grownBy w1 row) (hr : ∀ k, row = some k → k < B) : OVr w1 B u xs := by
  refine OVr_grownN h hg ?_
  obtain ⟨h0, inner, ho, _⟩ := h
  cases hu : u.ownBlock with
  | none => exact .inl rfl
  | some k =>
    refine .inr fun e1 => ?_
    have h3 := own_base ho k hu
    have h4 := hr k e1.symm
    omega
theorem SC_offV {α : Type} {enc : α → Value} {h1 : ∀ x, (enc x).oneCell' = true} {e : Nat} {W w1 : World} {B : Nat} {ok : Nat → Prop} {u : Value} {xs : List α} {row : Option Nat} (h : (Kd.scalar enc h1).R e W B ok u xs) (hg : W.grownBy w1 row) (hr : ∀ k, row = some k → k < B) : (Kd.scalar enc h1).R e w1 B ok u xs := by
  refine OR_grownV h hg ?_
  obtain ⟨h0, inner, ho, _⟩ := h
  cases hu : u.ownBlock with
  | none => exact .inl rfl
  | some k =>
    refine .inr fun e1 => ?_
    have h3 := own_base ho k hu
    have h4 := hr k e1.symm
    omega
abbrev HdV : Kd (Option Addr × Nat × Nat) := Kd.scalar (fun h => Value.slice h.1 h.2.1 h.2.2) (fun _ => rfl)
def HeadsV (w : World) (B : Nat) (hs : List (Option Addr × Nat × Nat)) (ll : List (List Vr)) : Prop :=
  hs.length = ll.length ∧ ∀ (i : Nat) (h : Option Addr × Nat × Nat) (x : List Vr), hs[i]? = some h → ll[i]? = some x → OVr w B (.slice h.1 h.2.1 h.2.2) x
theorem HeadsV_nil (w : World) (B : Nat) : HeadsV w B [] [] := ⟨rfl, fun i h x h1 => by simp at h1⟩
theorem HeadsV_move {w w1 : World} {B B1 : Nat} {hs : List (Option Addr × Nat × Nat)} {ll : List (List Vr)} (h : HeadsV w B hs ll) (hm : ∀ u x, OVr w B u x → OVr w1 B1 u x) : HeadsV w1 B1 hs ll := ⟨h.1, fun i a x h1 h2 => hm _ _ (h.2 i a x h1 h2)⟩
theorem HeadsV_add {w : World} {B : Nat} {hs : List (Option Addr × Nat × Nat)} {ll : List (List Vr)} {A : Option Addr} {c n : Nat} {x : List Vr} (h : HeadsV w B hs ll) (hx : OVr w B (.slice A n c) x) : HeadsV w B (hs ++ [(A, n, c)]) (ll ++ [x]) := by
  refine ⟨by simp [h.1], fun i a y h1 h2 => ?_⟩
  rcases Nat.lt_or_ge i hs.length with hi | hi
  · rw [List.getElem?_append_left hi] at h1
    rw [List.getElem?_append_left (by rw [← h.1]; exact hi)] at h2
    exact h.2 i a y h1 h2
  · rw [List.getElem?_append_right hi] at h1
    rw [List.getElem?_append_right (by rw [← h.1]; exact hi), ← h.1] at h2
    have h0 : i - hs.length = 0 := by
      have := (List.getElem?_eq_some_iff.1 h1).1
      simpa using this
    rw [h0] at h1 h2
    simp only [List.getElem?_cons_zero, Option.some.injEq] at h1 h2
    subst h1 h2
    exact hx
theorem infoHdV : (Try.prog.info? 22).map (fun i => (i.zero, i.size, i.bytes)) = some (some (.slice none 0 0), 1, 24) := by kernel_rfl
theorem app_headV_step {ops : Array Oper} {o : Oper} {a : Act} {Q : Exit → Act → World → Prop} {W : World} {B : Nat} {Kc : Act → World → Prop} {s x : Operand} (hgd : o.guard = none) (ho : o.op = .call { callee := .builtin .append, args := #[s, x], argTypes := #[60, 60] }) {v : Value} {xs : List (Option Addr × Nat × Nat)} {A : Option Addr} {n c : Nat}
    (hs : a.eval s = v) (hx : a.eval x = .slice (some ⟨W.heap.size, 0, none⟩) 1 1) (HO : OR HdV 22 W B v xs) (hB : B ≤ W.heap.size) (hl : xs.length ≤ 1000000000)
    (h : ∀ v1 w1, OR HdV 22 w1 B v1 (xs ++ [(A, n, c)]) → Below B W w1 → W.grownBy w1 v.ownBlock → Kc (a.put o.dst v1) w1) : if Region.wanted o (yielded ops a.tmps) = true then Oper.wp Try.prog o a (W.alloc (.cells #[.slice A n c] 22)) Kc Q else Kc (a.put o.dst undef) (W.alloc (.cells #[.slice A n c] 22)) :=
  app_one_step (p := (A, n, c)) (cs := [.slice A n c]) HdV 60 22 (.slice none 0 0) 24 Try.underlying60 infoHdV rfl (by decide) (by decide) hgd ho hs hx (fun okp => rfl) HO hB (by show (xs.length + 1) * 24 ≤ _; omega) h
theorem OVr_lit0 {W : World} {B : Nat} (hB : B ≤ W.heap.size) : OVr (W.alloc (.cells #[] 28)) B (.slice (some ⟨W.heap.size, 0, none⟩) 0 0) [] := by
  refine ⟨fun _ _ => trivial, [], ?_, ?_⟩
  · exact World.ownsRow_lit (base := B) (e := 28) (size := 8) W #[] 0 hB (by simp [maxLen]) rfl
  · exact ⟨rfl, fun j p hj => by simp at hj⟩
set_option maxHeartbeats 800000 in
theorem cloneVr_calls (A : Option Addr) (n c : Nat) (l : List Vr) (w : World) (hr : KVr.C w A n l) (hc : n ≤ c) (hl : n ≤ 5000) :
    Calls Try.prog 61 #[.slice A n c] w fun e w' => ∃ v, e = .returned v ∧ OVr w' w.heap.size v l ∧ Below w.heap.size w w' := by
  have hn := hr.1
  subst hn
  have HR := Aside0.mk hr
  clear hr
  have hq := fun (w : World) (a : Option Addr) (n c : Nat) => Lib.run_eql_slice_nil (P := Try.prog) w 22 28 a n c 0 0 Try.underlying22
  cases A with
  | none =>
    have h0 : l = [] := by
      rcases l with _ | ⟨x, l⟩
      · rfl
      · obtain ⟨ad, h, _⟩ := HR.out.2.2 (by simp)
        cases h
    subst h0
    go_enter Try.func61, Try.ntmps61
    go_wp2
    go_ret
    exact ⟨_, rfl, OVr_nil _ _, Below.refl _ _⟩
  | some ad =>
    go_enter Try.func61, Try.ntmps61
    go_wp2_with ((with_reducible refine gate_dst (N := 7) rfl ?_); refine app_vrs rfl rfl rfl rfl (OVr_lit0 (Nat.le_refl _)) (Kd.C_alloc HR.out _) (by simp) (by simp; omega) ?_; intro v1 w1 HO1 hb1 _)
    go_ret
    exact ⟨_, rfl, by simpa using HO1, ((Below.refl _ _).alloc (Nat.le_refl _) _).trans hb1⟩
theorem chunk_calls (A : Option Addr) (n c : Nat) (w : World) :
    Calls Try.prog 60 #[.slice A n c, .int .i64 8] w fun e w' => e = .returned (.func (.func 87) #[] #[.pointer (some ⟨w.heap.size, 0, none⟩), .pointer (some ⟨w.heap.size + 1, 0, none⟩)]) ∧ (w.alloc (vsB A n c)).alloc (niB 8) = w' := by
  go_enter Try.func60, Try.ntmps60
  go_wp2
  go_ret
  exact ⟨by simp, by simp⟩
end Go.Proofs.Ytmfnbkghfmeekaa.A.C
namespace Go.Proofs.Ytmfnbkghfmeekaa.A.C
open Go Go.RowKit Go.Shelf Go.Proofs.YtmfnbkghfmeekaaW.PrintWords Go.Proofs.YtmfnbkghfmeekaaW.PrintLast Go.Proofs.YtmfnbkghfmeekaaW.PrintMore
open R
attribute [local go_sem] Oper.semAt_some wide_fn wide_depth
set_option linter.unusedVariables false
set_option linter.unusedSimpArgs false
theorem chk_le : ∀ (f : Nat) (l x : List Vr), x ∈ chk f l → x.length ≤ 8
  | 0, _, x, h => by simp [chk] at h
  | f + 1, l, x, h => by
    rw [chk] at h
    split at h
    · simp at h
    · rcases List.mem_cons.1 h with rfl | h
      · rw [List.length_take]; omega
      · exact chk_le f _ x h
theorem chk_len : ∀ (f : Nat) (l : List Vr), (chk f l).length ≤ f
  | 0, _ => by simp [chk]
  | f + 1, l => by
    rw [chk]
    split
    · simp
    · rw [List.length_cons]
      have := chk_len f (l.drop 8)
      omega
theorem stepIn_of_step {l : Nat} {P : Program} {ops : Array Oper} {o : Oper} {a : Act} {Q : Exit → Act → World → Prop} {W : World} {Kc : Act → World → Prop} {X : Prop} (hgd : o.guard = none) (hd : ∀ c, o.op ≠ .defer c)
    (h : if Region.wanted o (yielded ops a.tmps) = true then Oper.wp P o a W Kc Q else Kc (a.put o.dst undef) W) : if Region.wanted o (yielded ops a.tmps) = true then Oper.wpIn (Fence.wide.inRound l) 0 P o a W Kc Q else X := by
  have hw : Region.wanted o (yielded ops a.tmps) = true := by simp [Region.wanted, hgd]
  rw [if_pos hw] at h ⊢
  exact opIn_of_op hd h
def CuI (w : World) (pre : List (Value × List Vr)) (W : World) : Prop :=
  ∃ v hs, W.heap[w.heap.size]? = some (.cells #[v] 60) ∧ OR HdV 22 W (w.heap.size + 5) v hs ∧ HeadsV W (w.heap.size + 5) hs (pre.map Prod.snd) ∧ Below w.heap.size w W
theorem CuI_row {w A B : World} {pre : List (Value × List Vr)} {row : Option Nat} (h : CuI w pre A) (hg : A.grownBy B row) (hr : ∀ k, row = some k → w.heap.size + 1 ≤ k ∧ k < w.heap.size + 5) : CuI w pre B := by
  obtain ⟨v, hs, h1, h3, h4, h5⟩ := h
  have hb : ∀ k, row = some k → k < w.heap.size + 5 := fun k e => (hr k e).2
  exact ⟨v, hs, (hg.block _ (Array.getElem?_eq_some_iff.1 h1).1 (fun e => by have := (hr _ e.symm).1; omega)).trans h1, SC_offV h3 hg hb, HeadsV_move h4 (fun u x hu => OVr_off hu hg hb), h5.grown hg h5.size (fun k e => by have := (hr k e).1; omega)⟩
set_option maxRecDepth 100000 in
set_option maxHeartbeats 4000000 in
theorem cut8_calls (A : Option Addr) (n c : Nat) (l : List Vr) (w : World) (hr : KVr.C w A n l) (hc : n ≤ c) (hl : n ≤ 5000) :
    Calls Try.prog 30 #[.slice A n c] w fun e w' => ∃ v hs, e = .returned v ∧ OR HdV 22 w' w.heap.size v hs ∧ HeadsV w' w.heap.size hs (chk (n + 1) l) ∧ Below w.heap.size w w' := by
  have HR := Aside0.mk hr
  have HN := Aside0.mk hr.1
  clear hr
  refine (callsIn_wide (n := 0)).1 ?_
  refine callsIn_of_wp_marks Try.func30 rfl trivial ?_ rfl
  simp only [Try.ntmps30, List.size_toArray, List.length_cons, List.length_nil, Nat.reduceAdd, Nat.reduceSub, Array.replicate_succ, Array.replicate_zero, List.push_toArray, List.append_toArray, List.nil_append, List.cons_append]
  refine wpIn_wide.2 ?_
  go_wp2_with fail
  (with_reducible refine (chunk_calls A n c _).mono ?_)
  rintro e w3 ⟨rfl, hw3⟩
  go_wp2_with fail
  have hz3 : w3.heap.size = w.heap.size + 3 := by rw [← hw3]; simp only [World.size_alloc]
  have hb3 : Below w.heap.size w w3 := by rw [← hw3]; exact below_alloc (below_alloc (below_alloc (Below.refl _ _) _) _) _
  have hX0 : w3.heap[w.heap.size]? = some (.cells #[.slice none 0 0] 60) := by
    rw [← hw3]
    exact blk_keep (blk_keep (heap_alloc_new w _) (below_alloc (Below.refl _ _) _)) (below_alloc (Below.refl _ _) _)
  have hX1 : w3.heap[w.heap.size + 1]? = some (vsB A n c) := by
    have h := blk_keep (heap_alloc_new (w.alloc (.cells #[.slice none 0 0] 60)) (vsB A n c)) (below_alloc (Below.refl _ _) (niB 8))
    rw [hw3, World.size_alloc] at h
    exact h
  have hX2 : w3.heap[w.heap.size + 1 + 1]? = some (niB 8) := by
    have h := heap_alloc_new ((w.alloc (.cells #[.slice none 0 0] 60)).alloc (vsB A n c)) (niB 8)
    rw [hw3] at h
    simp only [World.size_alloc] at h
    exact h
  have HI0 : Aside0 (CuI w [] w3) := ⟨_, _, hX0, Kd.R_nil _ _ _ _ _, HeadsV_nil _ _, hb3⟩
  clear hX0
  refine (wpIn_wide (n := 0)).1 ?_
  refine range_itr (α := Value × List Vr) rfl (enters_of Try.func87 (by kernel_rfl) rfl) (chunk_itr w w3 (w.heap.size + 1) A n c l HN.out hc (by omega) (by omega) hb3 hX1 hX2)
    (fun X Y h k h1 h2 => h.block k h2) (fun h k => ⟨h.1.trans k.1, Nat.le_trans h.2.1 k.2.1, k.2.2.1.trans h.2.2.1, k.2.2.2.trans h.2.2.2⟩)
    (fun X Y row hs hg hr => ⟨(Below.refl _ X).grown hg (by omega) (fun k e => by have := (hr k e).1; omega), hg.size, hg.block _ (by omega) (fun e => by have := (hr _ e.symm).1; omega), hg.block _ (by omega) (fun e => by have := (hr _ e.symm).1; omega)⟩) (fun x => rfl)
    (CuI w) (fun _ _ _ => False) (fun s X Y row hI hg hr => CuI_row hI hg (fun k e => by have := hr k e; omega)) (fun c s X Y row hI hg hr => hI) (fun s X Y hI hb => CuI_row hI (grown_below hb none) (fun k e => by cases e)) (fun c s X Y hI hg => hI)
    (fun pre x s X Y row hI hg hr => hI) HI0.out
    (fun x => { tmps := #[.slice A n c, undef, .slice none 0 0, .pointer (some ⟨w.heap.size, 0, none⟩), x.1, .slice A n c, .func (.func 87) #[] #[.pointer (some ⟨w.heap.size + 1, 0, none⟩), .pointer (some ⟨w.heap.size + 1 + 1, 0, none⟩)], x.1, undef, undef, undef, undef, undef, undef], defers := [] }) ?assign ?body ?done ?stop
  case assign =>
    intro lp x W K hK
    gi_wp2
    exact hK
  case body =>
    rintro lp pre ⟨xv, xb⟩ W hsW hI hOk
    obtain ⟨⟨A1, m, hx1, hm, hC1⟩, hpre⟩ := hOk
    simp only at hx1 hm hC1
    subst hx1
    obtain ⟨v, hs, h1, h3, h4, h5⟩ := hI
    have hxm : xb ∈ chk (n + 1) l := by
      obtain ⟨t, ht⟩ := hpre
      rw [← ht, List.map_append]
      exact List.mem_append_left _ (List.mem_append_right _ (List.mem_cons_self))
    have hm8 := chk_le (n + 1) l xb hxm
    rw [hm] at hm8
    have hhl : hs.length ≤ n + 1 := by
      have h6 := hpre.length_le
      rw [List.map_append, List.length_append] at h6
      have h7 := chk_len (n + 1) l
      rw [h4.1]
      omega
    have hlq : hs.length ≤ 1000000000 := by omega
    obtain ⟨D, hD⟩ : ∃ D, W.drew = D := ⟨_, rfl⟩
    have hbD : Below W.heap.size W D := by rw [← hD]; exact below_drew1 (Below.refl _ _)
    have hsD : w.heap.size + 5 ≤ D.heap.size := by have := hbD.size; omega
    have HBS : Aside0 (W.heap.size ≤ D.heap.size) := ⟨hbD.size⟩
    have HBD : Aside0 (Below w.heap.size W D) := ⟨hbD.mono (by omega)⟩
    have HBK : Aside0 (∀ k, k < W.heap.size → D.heap[k]? = W.heap[k]?) := ⟨hbD.block⟩
    have hd1 := blk_keep h1 hbD
    have HD1 := Aside0.mk hd1
    have HD3 := Aside0.mk (Kd.R_below h3 hbD)
    have HD4 := Aside0.mk (HeadsV_move h4 (fun u x hu => Kd.R_below (w1 := D) hu hbD))
    have H5 := Aside0.mk h5
    have HCL := Aside0.mk (cloneVr_calls A1 m m xb D (hC1 D (Kd.C_below HR.out (h5.trans (hbD.mono (by omega))))) (Nat.le_refl _) (by omega))
    have HM := Aside0.mk hm
    obtain ⟨p, pf⟩ := one_cell hd1
    clear hd1 h1 h3 h4 h5 hC1 hm hpre hxm hbD
    dsimp only
    gi_wp2
    refine wpIn_region_any (by kernel_rfl) ?_
    change wpAnyIn _ _ _ _ _ _ _ _ _ (World.drew _)
    rw [hD]
    clear hD
    refine wpAnyIn_ready (rs := [0, 1]) (by kernel_rfl) (by simp) ?_
    refine (AllReadyIn.cons rfl (fun K hK => ?_) (AllReadyIn.cons rfl (fun K hK => ?_) AllReadyIn.nil))
    · go_simp
      refine hK _ _ ?_
      clear hK K
      refine wpAnyIn_ready (rs := [1]) (by kernel_rfl) (by simp) ?_
      refine (AllReadyIn.cons rfl (fun K hK => ?_) AllReadyIn.nil)
      go_simp
      refine hK _ _ ?_
      clear hK K
      refine wpAnyIn_ready (rs := [2]) (by kernel_rfl) (by simp) ?_
      refine (AllReadyIn.cons rfl (fun K hK => ?_) AllReadyIn.nil)
      go_simp
      gi_wp2_with (gi_at_call 61; refine CallsIn.inRound _ ((callsIn_wide.2 HCL.out).mono ?_); rintro e w1 ⟨u1, rfl, hO1, hb1⟩; obtain ⟨A2, c2, rfl, hc2, -⟩ := OVr_readn hO1 m HM.out; have HO1 := Aside0.mk hO1; have HB1 := Aside0.mk hb1; have hp1 := blk_keep HD1.out hb1; have HP1 := Aside0.mk hp1; obtain ⟨p, pf⟩ := one_cell hp1; clear hO1 hb1 hp1)
      try (refine hK _ _ ?_)
      try (clear hK K)
      refine wpAnyIn_ready (rs := [3]) (by kernel_rfl) (by simp) ?_
      refine (AllReadyIn.cons rfl (fun K hK => ?_) AllReadyIn.nil)
      go_simp
      refine hK _ _ ?_
      clear hK K
      refine wpAnyIn_ready (rs := [4]) (by kernel_rfl) (by simp) ?_
      refine (AllReadyIn.cons rfl (fun K hK => ?_) AllReadyIn.nil)
      refine stepIn_of_step rfl (by intro c hc; cases hc) (app_headV_step (B := w.heap.size + 5) (v := v) (s := .tmp 8) (x := .tmp 11) (A := A2) (n := m) (c := c2) rfl rfl rfl rfl (Kd.R_below HD3.out HB1.out) (Nat.le_trans hsD HB1.out.size) hlq ?_)
      intro v1 w2 hO2 hb2 hg2
      refine hK _ _ ?_
      clear hK K p pf
      obtain ⟨k1, hk1⟩ : ∃ k1, (hs ++ [(A2, m, c2)]).length = k1 := ⟨_, rfl⟩
      obtain ⟨Av, cv, rfl, hcv, -⟩ := OR_readn hO2 k1 hk1
      have hp2 := (hb2.block w.heap.size (by omega)).trans HP1.out
      have HP2 := Aside0.mk hp2
      obtain ⟨p, pf⟩ := one_cell hp2
      have HO2 := Aside0.mk hO2
      have HB2 := Aside0.mk hb2
      have HG2 := Aside0.mk hg2
      clear hO2 hb2 hg2 hp2 hk1
      refine wpAnyIn_ready (rs := [5]) (by kernel_rfl) (by simp) ?_
      refine (AllReadyIn.cons rfl (fun K hK => ?_) AllReadyIn.nil)
      go_simp
      refine hK _ _ ?_
      clear hK K
      refine wpAnyIn_done (by kernel_rfl) ?_ _
      have hg4 := grownBy_setCell' w2 w.heap.size (.slice Av k1 cv)
      have hb1' : Below w.heap.size W w1 := (HBD.out.trans (HB1.out.mono (by omega)))
      have hb2' : Below w.heap.size W w2 := hb1'.trans (HB2.out.mono (by omega))
      have hbW : Below w.heap.size W (w2.setCell ⟨w.heap.size, 0, none⟩ (.slice Av k1 cv)) := hb2'.setCell (p := ⟨w.heap.size, 0, none⟩) (Nat.le_refl _) _
      have o4 : ∀ k, some w.heap.size = some k → k < w.heap.size + 5 := fun k e => by cases e; omega
      have hkk : ∀ k, k < w.heap.size + 5 → w2.heap[k]? = W.heap[k]? := fun k hk => (HB2.out.block k hk).trans ((HB1.out.block k (by omega)).trans (HBK.out k (by omega)))
      have hkk2 : ∀ k, k < w.heap.size + 5 → k ≠ w.heap.size → (w2.setCell ⟨w.heap.size, 0, none⟩ (.slice Av k1 cv)).heap[k]? = W.heap[k]? := fun k hk hne => (Below.heap_setCell _ _ _ _ (fun e => by simp only at e; omega)).trans (hkk k hk)
      refine ⟨fun k h7 h8 => hkk2 k (by omega) (by omega), ⟨hbW, ?_, hkk2 _ (by omega) (by omega), hkk2 _ (by omega) (by omega)⟩, .slice Av k1 cv, hs ++ [(A2, m, c2)], one_set HP2.out, SC_offV HO2.out hg4 o4, ?_, H5.out.trans hbW⟩
      · rw [World.size_setCell]
        exact Nat.le_trans (Nat.le_trans HBS.out HB1.out.size) HB2.out.size
      · rw [List.map_append]
        have hmv : ∀ u x, OVr w1 (w.heap.size + 5) u x → OVr w2 (w.heap.size + 5) u x := fun u x hu => OVr_grownN (row := v.ownBlock) hu HG2.out (own_ne_typeV (Kd.R_below HD3.out HB1.out) hu (by decide))
        exact HeadsV_add (HeadsV_move HD4.out fun u x hu => OVr_off (hmv _ _ (Kd.R_below hu HB1.out)) hg4 o4) (OVr_off (hmv _ _ (Kd.R_lower HO1.out hsD)) hg4 o4)
    · go_simp
      refine hK _ _ ?_
      clear hK K
      refine wpAnyIn_ready (rs := [0, 2]) (by kernel_rfl) (by simp) ?_
      refine (AllReadyIn.cons rfl (fun K hK => ?_) (AllReadyIn.cons rfl (fun K hK => ?_) AllReadyIn.nil))
      · go_simp
        refine hK _ _ ?_
        clear hK K
        refine wpAnyIn_ready (rs := [2]) (by kernel_rfl) (by simp) ?_
        refine (AllReadyIn.cons rfl (fun K hK => ?_) AllReadyIn.nil)
        go_simp
        gi_wp2_with (gi_at_call 61; refine CallsIn.inRound _ ((callsIn_wide.2 HCL.out).mono ?_); rintro e w1 ⟨u1, rfl, hO1, hb1⟩; obtain ⟨A2, c2, rfl, hc2, -⟩ := OVr_readn hO1 m HM.out; have HO1 := Aside0.mk hO1; have HB1 := Aside0.mk hb1; have hp1 := blk_keep HD1.out hb1; have HP1 := Aside0.mk hp1; obtain ⟨p, pf⟩ := one_cell hp1; clear hO1 hb1 hp1)
        try (refine hK _ _ ?_)
        try (clear hK K)
        refine wpAnyIn_ready (rs := [3]) (by kernel_rfl) (by simp) ?_
        refine (AllReadyIn.cons rfl (fun K hK => ?_) AllReadyIn.nil)
        go_simp
        refine hK _ _ ?_
        clear hK K
        refine wpAnyIn_ready (rs := [4]) (by kernel_rfl) (by simp) ?_
        refine (AllReadyIn.cons rfl (fun K hK => ?_) AllReadyIn.nil)
        refine stepIn_of_step rfl (by intro c hc; cases hc) (app_headV_step (B := w.heap.size + 5) (v := v) (s := .tmp 8) (x := .tmp 11) (A := A2) (n := m) (c := c2) rfl rfl rfl rfl (Kd.R_below HD3.out HB1.out) (Nat.le_trans hsD HB1.out.size) hlq ?_)
        intro v1 w2 hO2 hb2 hg2
        refine hK _ _ ?_
        clear hK K p pf
        obtain ⟨k1, hk1⟩ : ∃ k1, (hs ++ [(A2, m, c2)]).length = k1 := ⟨_, rfl⟩
        obtain ⟨Av, cv, rfl, hcv, -⟩ := OR_readn hO2 k1 hk1
        have hp2 := (hb2.block w.heap.size (by omega)).trans HP1.out
        have HP2 := Aside0.mk hp2
        obtain ⟨p, pf⟩ := one_cell hp2
        have HO2 := Aside0.mk hO2
        have HB2 := Aside0.mk hb2
        have HG2 := Aside0.mk hg2
        clear hO2 hb2 hg2 hp2 hk1
        refine wpAnyIn_ready (rs := [5]) (by kernel_rfl) (by simp) ?_
        refine (AllReadyIn.cons rfl (fun K hK => ?_) AllReadyIn.nil)
        go_simp
        refine hK _ _ ?_
        clear hK K
        refine wpAnyIn_done (by kernel_rfl) ?_ _
        have hg4 := grownBy_setCell' w2 w.heap.size (.slice Av k1 cv)
        have hb1' : Below w.heap.size W w1 := (HBD.out.trans (HB1.out.mono (by omega)))
        have hb2' : Below w.heap.size W w2 := hb1'.trans (HB2.out.mono (by omega))
        have hbW : Below w.heap.size W (w2.setCell ⟨w.heap.size, 0, none⟩ (.slice Av k1 cv)) := hb2'.setCell (p := ⟨w.heap.size, 0, none⟩) (Nat.le_refl _) _
        have o4 : ∀ k, some w.heap.size = some k → k < w.heap.size + 5 := fun k e => by cases e; omega
        have hkk : ∀ k, k < w.heap.size + 5 → w2.heap[k]? = W.heap[k]? := fun k hk => (HB2.out.block k hk).trans ((HB1.out.block k (by omega)).trans (HBK.out k (by omega)))
        have hkk2 : ∀ k, k < w.heap.size + 5 → k ≠ w.heap.size → (w2.setCell ⟨w.heap.size, 0, none⟩ (.slice Av k1 cv)).heap[k]? = W.heap[k]? := fun k hk hne => (Below.heap_setCell _ _ _ _ (fun e => by simp only at e; omega)).trans (hkk k hk)
        refine ⟨fun k h7 h8 => hkk2 k (by omega) (by omega), ⟨hbW, ?_, hkk2 _ (by omega) (by omega), hkk2 _ (by omega) (by omega)⟩, .slice Av k1 cv, hs ++ [(A2, m, c2)], one_set HP2.out, SC_offV HO2.out hg4 o4, ?_, H5.out.trans hbW⟩
        · rw [World.size_setCell]
          exact Nat.le_trans (Nat.le_trans HBS.out HB1.out.size) HB2.out.size
        · rw [List.map_append]
          have hmv : ∀ u x, OVr w1 (w.heap.size + 5) u x → OVr w2 (w.heap.size + 5) u x := fun u x hu => OVr_grownN (row := v.ownBlock) hu HG2.out (own_ne_typeV (Kd.R_below HD3.out HB1.out) hu (by decide))
          exact HeadsV_add (HeadsV_move HD4.out fun u x hu => OVr_off (hmv _ _ (Kd.R_below hu HB1.out)) hg4 o4) (OVr_off (hmv _ _ (Kd.R_lower HO1.out hsD)) hg4 o4)
      · go_simp
        gi_wp2_with (gi_at_call 61; refine CallsIn.inRound _ ((callsIn_wide.2 HCL.out).mono ?_); rintro e w1 ⟨u1, rfl, hO1, hb1⟩; obtain ⟨A2, c2, rfl, hc2, -⟩ := OVr_readn hO1 m HM.out; have HO1 := Aside0.mk hO1; have HB1 := Aside0.mk hb1; have hp1 := blk_keep HD1.out hb1; have HP1 := Aside0.mk hp1; obtain ⟨p, pf⟩ := one_cell hp1; clear hO1 hb1 hp1)
        try (refine hK _ _ ?_)
        try (clear hK K)
        refine wpAnyIn_ready (rs := [0, 3]) (by kernel_rfl) (by simp) ?_
        refine (AllReadyIn.cons rfl (fun K hK => ?_) (AllReadyIn.cons rfl (fun K hK => ?_) AllReadyIn.nil))
        · go_simp
          refine hK _ _ ?_
          clear hK K
          refine wpAnyIn_ready (rs := [3]) (by kernel_rfl) (by simp) ?_
          refine (AllReadyIn.cons rfl (fun K hK => ?_) AllReadyIn.nil)
          go_simp
          refine hK _ _ ?_
          clear hK K
          refine wpAnyIn_ready (rs := [4]) (by kernel_rfl) (by simp) ?_
          refine (AllReadyIn.cons rfl (fun K hK => ?_) AllReadyIn.nil)
          refine stepIn_of_step rfl (by intro c hc; cases hc) (app_headV_step (B := w.heap.size + 5) (v := v) (s := .tmp 8) (x := .tmp 11) (A := A2) (n := m) (c := c2) rfl rfl rfl rfl (Kd.R_below HD3.out HB1.out) (Nat.le_trans hsD HB1.out.size) hlq ?_)
          intro v1 w2 hO2 hb2 hg2
          refine hK _ _ ?_
          clear hK K p pf
          obtain ⟨k1, hk1⟩ : ∃ k1, (hs ++ [(A2, m, c2)]).length = k1 := ⟨_, rfl⟩
          obtain ⟨Av, cv, rfl, hcv, -⟩ := OR_readn hO2 k1 hk1
          have hp2 := (hb2.block w.heap.size (by omega)).trans HP1.out
          have HP2 := Aside0.mk hp2
          obtain ⟨p, pf⟩ := one_cell hp2
          have HO2 := Aside0.mk hO2
          have HB2 := Aside0.mk hb2
          have HG2 := Aside0.mk hg2
          clear hO2 hb2 hg2 hp2 hk1
          refine wpAnyIn_ready (rs := [5]) (by kernel_rfl) (by simp) ?_
          refine (AllReadyIn.cons rfl (fun K hK => ?_) AllReadyIn.nil)
          go_simp
          refine hK _ _ ?_
          clear hK K
          refine wpAnyIn_done (by kernel_rfl) ?_ _
          have hg4 := grownBy_setCell' w2 w.heap.size (.slice Av k1 cv)
          have hb1' : Below w.heap.size W w1 := (HBD.out.trans (HB1.out.mono (by omega)))
          have hb2' : Below w.heap.size W w2 := hb1'.trans (HB2.out.mono (by omega))
          have hbW : Below w.heap.size W (w2.setCell ⟨w.heap.size, 0, none⟩ (.slice Av k1 cv)) := hb2'.setCell (p := ⟨w.heap.size, 0, none⟩) (Nat.le_refl _) _
          have o4 : ∀ k, some w.heap.size = some k → k < w.heap.size + 5 := fun k e => by cases e; omega
          have hkk : ∀ k, k < w.heap.size + 5 → w2.heap[k]? = W.heap[k]? := fun k hk => (HB2.out.block k hk).trans ((HB1.out.block k (by omega)).trans (HBK.out k (by omega)))
          have hkk2 : ∀ k, k < w.heap.size + 5 → k ≠ w.heap.size → (w2.setCell ⟨w.heap.size, 0, none⟩ (.slice Av k1 cv)).heap[k]? = W.heap[k]? := fun k hk hne => (Below.heap_setCell _ _ _ _ (fun e => by simp only at e; omega)).trans (hkk k hk)
          refine ⟨fun k h7 h8 => hkk2 k (by omega) (by omega), ⟨hbW, ?_, hkk2 _ (by omega) (by omega), hkk2 _ (by omega) (by omega)⟩, .slice Av k1 cv, hs ++ [(A2, m, c2)], one_set HP2.out, SC_offV HO2.out hg4 o4, ?_, H5.out.trans hbW⟩
          · rw [World.size_setCell]
            exact Nat.le_trans (Nat.le_trans HBS.out HB1.out.size) HB2.out.size
          · rw [List.map_append]
            have hmv : ∀ u x, OVr w1 (w.heap.size + 5) u x → OVr w2 (w.heap.size + 5) u x := fun u x hu => OVr_grownN (row := v.ownBlock) hu HG2.out (own_ne_typeV (Kd.R_below HD3.out HB1.out) hu (by decide))
            exact HeadsV_add (HeadsV_move HD4.out fun u x hu => OVr_off (hmv _ _ (Kd.R_below hu HB1.out)) hg4 o4) (OVr_off (hmv _ _ (Kd.R_lower HO1.out hsD)) hg4 o4)
        · go_simp
          refine hK _ _ ?_
          clear hK K
          refine wpAnyIn_ready (rs := [0]) (by kernel_rfl) (by simp) ?_
          refine (AllReadyIn.cons rfl (fun K hK => ?_) AllReadyIn.nil)
          obtain ⟨p9, -⟩ := one_cell (blk_keep HP1.out (below_alloc (Below.refl _ _) (.cells #[.slice A2 m c2] 22)))
          go_simp
          refine hK _ _ ?_
          clear hK K
          clear p9
          refine wpAnyIn_ready (rs := [4]) (by kernel_rfl) (by simp) ?_
          refine (AllReadyIn.cons rfl (fun K hK => ?_) AllReadyIn.nil)
          refine stepIn_of_step rfl (by intro c hc; cases hc) (app_headV_step (B := w.heap.size + 5) (v := v) (s := .tmp 8) (x := .tmp 11) (A := A2) (n := m) (c := c2) rfl rfl rfl rfl (Kd.R_below HD3.out HB1.out) (Nat.le_trans hsD HB1.out.size) hlq ?_)
          intro v1 w2 hO2 hb2 hg2
          refine hK _ _ ?_
          clear hK K p pf
          obtain ⟨k1, hk1⟩ : ∃ k1, (hs ++ [(A2, m, c2)]).length = k1 := ⟨_, rfl⟩
          obtain ⟨Av, cv, rfl, hcv, -⟩ := OR_readn hO2 k1 hk1
          have hp2 := (hb2.block w.heap.size (by omega)).trans HP1.out
          have HP2 := Aside0.mk hp2
          obtain ⟨p, pf⟩ := one_cell hp2
          have HO2 := Aside0.mk hO2
          have HB2 := Aside0.mk hb2
          have HG2 := Aside0.mk hg2
          clear hO2 hb2 hg2 hp2 hk1
          refine wpAnyIn_ready (rs := [5]) (by kernel_rfl) (by simp) ?_
          refine (AllReadyIn.cons rfl (fun K hK => ?_) AllReadyIn.nil)
          go_simp
          refine hK _ _ ?_
          clear hK K
          refine wpAnyIn_done (by kernel_rfl) ?_ _
          have hg4 := grownBy_setCell' w2 w.heap.size (.slice Av k1 cv)
          have hb1' : Below w.heap.size W w1 := (HBD.out.trans (HB1.out.mono (by omega)))
          have hb2' : Below w.heap.size W w2 := hb1'.trans (HB2.out.mono (by omega))
          have hbW : Below w.heap.size W (w2.setCell ⟨w.heap.size, 0, none⟩ (.slice Av k1 cv)) := hb2'.setCell (p := ⟨w.heap.size, 0, none⟩) (Nat.le_refl _) _
          have o4 : ∀ k, some w.heap.size = some k → k < w.heap.size + 5 := fun k e => by cases e; omega
          have hkk : ∀ k, k < w.heap.size + 5 → w2.heap[k]? = W.heap[k]? := fun k hk => (HB2.out.block k hk).trans ((HB1.out.block k (by omega)).trans (HBK.out k (by omega)))
          have hkk2 : ∀ k, k < w.heap.size + 5 → k ≠ w.heap.size → (w2.setCell ⟨w.heap.size, 0, none⟩ (.slice Av k1 cv)).heap[k]? = W.heap[k]? := fun k hk hne => (Below.heap_setCell _ _ _ _ (fun e => by simp only at e; omega)).trans (hkk k hk)
          refine ⟨fun k h7 h8 => hkk2 k (by omega) (by omega), ⟨hbW, ?_, hkk2 _ (by omega) (by omega), hkk2 _ (by omega) (by omega)⟩, .slice Av k1 cv, hs ++ [(A2, m, c2)], one_set HP2.out, SC_offV HO2.out hg4 o4, ?_, H5.out.trans hbW⟩
          · rw [World.size_setCell]
            exact Nat.le_trans (Nat.le_trans HBS.out HB1.out.size) HB2.out.size
          · rw [List.map_append]
            have hmv : ∀ u x, OVr w1 (w.heap.size + 5) u x → OVr w2 (w.heap.size + 5) u x := fun u x hu => OVr_grownN (row := v.ownBlock) hu HG2.out (own_ne_typeV (Kd.R_below HD3.out HB1.out) hu (by decide))
            exact HeadsV_add (HeadsV_move HD4.out fun u x hu => OVr_off (hmv _ _ (Kd.R_below hu HB1.out)) hg4 o4) (OVr_off (hmv _ _ (Kd.R_lower HO1.out hsD)) hg4 o4)
  case done =>
    rintro xs W hS ⟨v, hs, h1, h3, h4, h5⟩ hK
    obtain ⟨p1, f1⟩ := one_cell h1
    rw [hS] at h4
    obtain ⟨k1, hk1⟩ : ∃ k1, hs.length = k1 := ⟨_, rfl⟩
    obtain ⟨Av, cv, rfl, hcv, -⟩ := OR_readn h3 k1 hk1
    have H3 := Aside0.mk h3
    have H4 := Aside0.mk h4
    have H5 := Aside0.mk h5
    have HK := Aside0.mk hK
    clear h1 h3 h4 h5 hS hK hk1
    dsimp only
    go_wp2
    refine ⟨by simp, .inl ⟨_, _, rfl, run_takeDeferred HK.out, ?_⟩⟩
    have hgp := grownBy_putObj' W w3.heap.size (.deferred none)
    have hop : ∀ k, some w3.heap.size = some k → k < w.heap.size + 5 := fun k e => by cases e; omega
    exact ⟨_, results_tmp rfl _ _ _, _, hs, rfl, Kd.R_lower (SC_offV H3.out hgp hop) (by omega), HeadsV_move H4.out (fun u x hu => Kd.R_lower (OVr_off hu hgp hop) (by omega)), H5.out.grown hgp H5.out.size (fun k e => by cases e; omega)⟩
  case stop =>
    intro c pre W _ h _
    exact h.elim
end Go.Proofs.Ytmfnbkghfmeekaa.A.C
