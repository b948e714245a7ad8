/- A block out of bytes: block.Read. -/
import Derived.Test.YtopoepifbjbmoaaCParse
namespace Go.Proofs.Ytopoepifbjbmoaa.A
open Go.RowKit Go.Proofs.YtopoepifbjbmoaaW.PrintWords Go.Proofs.YtopoepifbjbmoaaW.PrintLast Go.Proofs.YtopoepifbjbmoaaW.PrintMore
open R
attribute [local go_sem] max2_int min2_int max_two min_two
set_option linter.unusedVariables false
set_option linter.unusedSimpArgs false

/-- The walk's state: the reader, the versions so far (older than y), what was there as it was. -/
def QA (w w0 : World) (g y : Nat) (u : Value) (out : List Vr) (W : World) (s : St) : Prop := RS w0 g W s ∧ KVr.R 39 W (g + 1) (fun k => k < y) u out ∧ Below w.heap.size w W
/-- .. and the version's box. -/
def QB (w w0 : World) (g y : Nat) (u : Value) (out : List Vr) (W : World) (s : St) (p : Vr) : Prop := QA w w0 g y u out W s ∧ W.heap[y]? = some (vrB p)
section
variable {w w0 : World} {g y : Nat} {u : Value} {out : List Vr} {W W1 : World} {s s1 : St} {p p' : Vr}
theorem QA_rs (h : QA w w0 g y u out W s) : RS w0 g W s := h.1
theorem QB_rs (h : QB w w0 g y u out W s p) : RS w0 g W s := h.1.1
theorem QB_x (h : QB w w0 g y u out W s p) : W.heap[y]? = some (vrB p) := h.2
theorem QA_num (h : QA w w0 g y u out W s) (h0 : w.heap.size ≤ g) (hR : RS w0 g W1 s1) (hg : W.grownBy W1 (some g)) : QA w w0 g y u out W1 s1 :=
  ⟨hR, Kd.R_mono (Kd.R_move (Kd.R_bound h.2.1) (fun k hk => hg.block k hk.2.2.1 (fun he => by injection he with he; have := hk.2.1; omega))) (fun _ hk => hk.1), h.2.2.grown hg h.2.2.size (fun k e => by cases e; exact h0)⟩
theorem QB_num (h : QB w w0 g y u out W s p) (h0 : w.heap.size ≤ g) (hy : g < y) (hR : RS w0 g W1 s1) (hg : W.grownBy W1 (some g)) : QB w w0 g y u out W1 s1 p :=
  ⟨QA_num h.1 h0 hR hg, blk_grown h.2 hg (by intro e; injection e with e; omega)⟩
theorem QA_below (h : QA w w0 g y u out W s) (hb : Below W.heap.size W W1) : QA w w0 g y u out W1 s := ⟨RS_below h.1 hb, Kd.R_below h.2.1 hb, below_step h.2.2 hb⟩
theorem QB_below (h : QB w w0 g y u out W s p) (hb : Below W.heap.size W W1) : QB w w0 g y u out W1 s p := ⟨QA_below h.1 hb, box_keep h.2 hb⟩
theorem QB_set (h : QB w w0 g y u out W s p) (h0 : w.heap.size ≤ g) (h00 : w0.heap.size ≤ g) (hy : g < y) (j : Nat) (v : Value)
    (e : (#[.string p.k, .int .i64 p.br, .int .i64 p.ep, .int .i64 p.sq, .int .i64 p.f, .int .i64 p.t, .string p.v, .bool p.g] : Array Value).setIfInBounds j v = #[.string p'.k, .int .i64 p'.br, .int .i64 p'.ep, .int .i64 p'.sq, .int .i64 p'.f, .int .i64 p'.t, .string p'.v, .bool p'.g]) : QB w w0 g y u out (W.setCell ⟨y, j, none⟩ v) s p' :=
  ⟨⟨RS_set h.1.1 (by omega) (by omega) j v, Kd.R_move h.1.2.1 (fun k hk => Below.heap_setCell _ _ v k (fun e => by simp only at e; omega)), h.1.2.2.setCell (p := ⟨y, j, none⟩) (by show w.heap.size ≤ y; omega) _⟩, blk_put h.2 j v e⟩
theorem QB_four (h : QB w w0 g y u out W s p) (h0 : w.heap.size ≤ g) (h00 : w0.heap.size ≤ g) (hy : g < y) (b e q : Int) : QB w w0 g y u out (((W.setCell ⟨y, 1, none⟩ (.int .i64 b)).setCell ⟨y, 2, none⟩ (.int .i64 e)).setCell ⟨y, 3, none⟩ (.int .i64 q)) s ⟨p.k, b, e, q, p.f, p.t, p.v, p.g⟩ :=
  QB_set (p := ⟨p.k, b, e, p.sq, p.f, p.t, p.v, p.g⟩) (QB_set (p := ⟨p.k, b, p.ep, p.sq, p.f, p.t, p.v, p.g⟩) (QB_set h h0 h00 hy 1 (.int .i64 b) rfl) h0 h00 hy 2 (.int .i64 e) rfl) h0 h00 hy 3 (.int .i64 q) rfl
theorem QB_eight (h : QB w w0 g y u out W s p) (h0 : w.heap.size ≤ g) (h00 : w0.heap.size ≤ g) (hy : g < y) (q : Vr) : QB w w0 g y u out ((((((((W.setCell ⟨y, 0, none⟩ (.string q.k)).setCell ⟨y, 1, none⟩ (.int .i64 q.br)).setCell ⟨y, 2, none⟩ (.int .i64 q.ep)).setCell ⟨y, 3, none⟩ (.int .i64 q.sq)).setCell ⟨y, 4, none⟩ (.int .i64 q.f)).setCell ⟨y, 5, none⟩ (.int .i64 q.t)).setCell ⟨y, 6, none⟩ (.string q.v)).setCell ⟨y, 7, none⟩ (.bool q.g)) s q :=
  (QB_set (p' := ⟨q.k, q.br, q.ep, q.sq, q.f, q.t, q.v, q.g⟩) (QB_set (p' := ⟨q.k, q.br, q.ep, q.sq, q.f, q.t, q.v, p.g⟩) (QB_set (p' := ⟨q.k, q.br, q.ep, q.sq, q.f, q.t, p.v, p.g⟩) (QB_set (p' := ⟨q.k, q.br, q.ep, q.sq, q.f, p.t, p.v, p.g⟩) (QB_set (p' := ⟨q.k, q.br, q.ep, q.sq, p.f, p.t, p.v, p.g⟩) (QB_set (p' := ⟨q.k, q.br, q.ep, p.sq, p.f, p.t, p.v, p.g⟩) (QB_set (p' := ⟨q.k, q.br, p.ep, p.sq, p.f, p.t, p.v, p.g⟩) (QB_set (p' := ⟨q.k, p.br, p.ep, p.sq, p.f, p.t, p.v, p.g⟩) h h0 h00 hy 0 (.string q.k) rfl) h0 h00 hy 1 (.int .i64 q.br) rfl) h0 h00 hy 2 (.int .i64 q.ep) rfl) h0 h00 hy 3 (.int .i64 q.sq) rfl) h0 h00 hy 4 (.int .i64 q.f) rfl) h0 h00 hy 5 (.int .i64 q.t) rfl) h0 h00 hy 6 (.string q.v) rfl) h0 h00 hy 7 (.bool q.g) rfl)
theorem QB_S (h : QB w w0 g y u out W s p) : W.cell? ⟨y, 0, none⟩ = some (.string p.k) ∧ W.cell? ⟨y, 1, none⟩ = some (.int .i64 p.br) ∧ W.cell? ⟨y, 2, none⟩ = some (.int .i64 p.ep) ∧ W.cell? ⟨y, 3, none⟩ = some (.int .i64 p.sq) ∧ W.cell? ⟨y, 4, none⟩ = some (.int .i64 p.f) ∧ W.cell? ⟨y, 5, none⟩ = some (.int .i64 p.t) ∧ W.cell? ⟨y, 6, none⟩ = some (.string p.v) ∧ W.cell? ⟨y, 7, none⟩ = some (.bool p.g) ∧ Aside0 (QB w w0 g y u out W s p) := by
  obtain ⟨a0, a1, a2, a3, a4, a5, a6, a7⟩ := vr_cells h.2
  exact ⟨a0, a1, a2, a3, a4, a5, a6, a7, ⟨h⟩⟩
/-- The state behind a row that has grown. -/
theorem QB_app {v1 : Value} {l1 : List Vr} (h : QB w w0 g y u out W s p) (h00 : w0.heap.size ≤ g) (hgy : g < W.heap.size) (hb : Below (g + 1) W W1) (hg : W.grownBy W1 u.ownBlock) (hO : OVr W1 (g + 1) v1 l1) (h0 : w.heap.size ≤ g) : QA w w0 g W1.heap.size v1 l1 W1 s ∧ W1.heap[y]? = some (vrB p) := by
  refine ⟨⟨?_, Kd.R_mono (Kd.R_bound hO) (fun k hk => hk.2.2.1), h.1.2.2.trans (hb.mono (by omega))⟩, ?_⟩
  · obtain ⟨A, c, h1, h2, h3, h4⟩ := h.1.1
    exact ⟨A, c, (hb.block _ (by omega)).trans h1, h2, h3, h4.trans (hb.mono (by omega))⟩
  · refine (hg.block _ (blk_lt h.2) (fun e => ?_)).trans h.2
    have := h.1.2.1.1 y e.symm
    omega
end
theorem app_vr_step {ops : Array Oper} {o : Oper} {a : Act} {Q : Exit → Act → World → Prop} {W : World} {B : Nat} {Kc : Act → World → Prop} {s x : Operand} (hgd : o.guard = none) (ho : o.op = .call { callee := .builtin .append, args := #[s, x], argTypes := #[22, 22] }) {v : Value} {xs : List Vr} {k : ByteArray} {br ep sq f t : Int} {vv : ByteArray} {g : Bool}
    (hs : a.eval s = v) (hx : a.eval x = .slice (some ⟨W.heap.size, 0, none⟩) 1 1) (HO : OVr W B v xs) (hB : B ≤ W.heap.size) (hl : xs.length ≤ 1000000)
    (h : ∀ v1 w1, OVr w1 B v1 (xs ++ [⟨k, br, ep, sq, f, t, vv, g⟩]) → Below B W w1 → W.grownBy w1 v.ownBlock → Kc (a.put o.dst v1) w1) :
    if Region.wanted o (yielded ops a.tmps) = true then Oper.wp Try.prog o a (W.alloc (.cells #[.string k, .int .i64 br, .int .i64 ep, .int .i64 sq, .int .i64 f, .int .i64 t, .string vv, .bool g] 39)) Kc Q else Kc (a.put o.dst undef) (W.alloc (.cells #[.string k, .int .i64 br, .int .i64 ep, .int .i64 sq, .int .i64 f, .int .i64 t, .string vv, .bool g] 39)) :=
  app_one_step KVr 22 39 (.agg #[.string ByteArray.empty, .int .i64 0, .int .i64 0, .int .i64 0, .int .i64 0, .int .i64 0, .string ByteArray.empty, .bool false]) 80 Try.underlying22 infoVr rfl (by decide) (by decide) hgd ho hs hx (fun okp => KVr_M W B okp ⟨k, br, ep, sq, f, t, vv, g⟩) HO hB (by omega) h
theorem cut_eq (key : ByteArray) (same : Int) (h : 0 ≤ same) : (if (key.size : Int) < same then (key.size : Int) else same) = (cutN key same : Int) ∧ cutN key same ≤ key.size := by
  unfold cutN
  split <;> omega
theorem okS_by {s : St} (h : okS s) : ∀ x ∈ s.1, 0 ≤ x ∧ x ≤ 255 := h.1
/-- How many rounds there may be more, read off the reader. -/
def muW (W : World) (g : Nat) : Nat := match W.heap[g]? with
  | some (Obj.cells cs _ _) => match cs.getD 0 (.bool true), cs.getD 1 (.bool true) with
    | Value.slice _ n _, Value.int _ e => if e = 0 then n + 1 else 0
    | _, _ => 0
  | _ => 0
theorem muW_eq {w0 W : World} {g : Nat} {s : St} (h : RS w0 g W s) : muW W g = muS s := by
  obtain ⟨A, c, h1, _⟩ := h
  unfold muW muS
  rw [h1]
  rfl
set_option maxRecDepth 100000 in
set_option maxHeartbeats 16000000 in
theorem readb_calls (A : Option Addr) (n c : Nat) (bs : List Int) (w : World) (hr : U8.C w A n bs) (hc : n ≤ c) (hl : n ≤ 100000) (hby : ∀ x ∈ bs, 0 ≤ x ∧ x ≤ 255) :
    Calls Try.prog 11 #[.slice A n c] w fun e w' => ∃ u, e = .returned (.tuple #[u, .int .i64 (readB bs).2]) ∧ OVr w' w.heap.size u (readB bs).1 ∧ Below w.heap.size w w' := by
  have HR := Aside0.mk hr
  have HBY := Aside0.mk hby
  have HN := Aside0.mk hr.1
  have HOK : Aside0 (okS (bs, 0)) := ⟨⟨hby, fun h => absurd rfl h⟩⟩
  have HSP : Aside0 (rbAll bs = rb (bs.length + 2) (numS (bs, 0)).1 0 { data := #[] } (numS (bs, 0)).2) := ⟨rfl⟩
  have HRD : Aside0 (readB bs = if (rbAll bs).2.2 ≠ 0 then ([], (rbAll bs).2.2) else if mayBl (rbAll bs).1 && decide (blockB (rbAll bs).1 = bs) then ((rbAll bs).1, 0) else ([], 2)) := ⟨rfl⟩
  obtain ⟨RB, hRB⟩ : ∃ RB, rbAll bs = RB := ⟨_, rfl⟩
  obtain ⟨RD, hRD⟩ : ∃ RD, readB bs = RD := ⟨_, rfl⟩
  rw [hRB] at HSP HRD
  rw [hRD] at HRD ⊢
  obtain ⟨rdl, rde⟩ := RD
  obtain ⟨rbl, rbs⟩ := RB
  simp only at HRD ⊢
  clear hr hby hRB hRD
  go_enter Try.func11, Try.ntmps11
  go_wp2_with fail
  (with_reducible refine (V.read_calls A n c bs _ HR.out hc hl).mono ?_)
  rintro e w1 ⟨w0, rfl, hRD, hb0⟩
  have HRS : Aside0 (RS w0 w0.heap.size w1 (bs, 0)) := ⟨by obtain ⟨a1, a2, a3, a4, a5, a6⟩ := hRD; exact ⟨a1, a2, a3, a4, a5, a6⟩⟩
  have hbr : Below w0.heap.size w0 w1 := by obtain ⟨a1, a2, a3, a4, a5, a6⟩ := hRD; exact a6
  have hg1 : w0.heap.size < w1.heap.size := by obtain ⟨A, c, h1, _⟩ := HRS.out; exact blk_lt h1
  obtain ⟨g, hg⟩ : ∃ g, w0.heap.size = g := ⟨_, rfl⟩
  have h00 : w0.heap.size ≤ g := by omega
  have h0 : w.heap.size ≤ g := by have := hb0.size; omega
  have HQ1 : Aside0 (QA w w0 g w1.heap.size (.slice none 0 0) [] w1 (bs, 0)) := ⟨by rw [← hg]; exact ⟨HRS.out, Kd.R_nil _ _ _ _ _, below_step hb0 hbr⟩⟩
  rw [hg] at hg1 ⊢
  clear hRD hbr HRS hb0 hg
  go_wp2_with fail
  (with_reducible refine (numS_calls w0 w1 g (bs, 0) (QA_rs HQ1.out) h00 (okS_by HOK.out)).mono ?_)
  rintro e w2 ⟨rfl, hR2, hg2⟩
  have hz2 := hg2.size
  have HQ2 := Aside0.mk (QA_num HQ1.out h0 hR2 hg2)
  have HOK2 := Aside0.mk (okS_num HOK.out)
  have hln := len_num HOK.out
  generalize numS (bs, 0) = NN at *
  obtain ⟨N, s1⟩ := NN
  simp only at HSP HOK2 hln
  obtain ⟨⟨hN0, hN1⟩, _⟩ := HOK2.out.2
  have HK1 := Aside0.mk HOK2.out.1
  have hln1 : s1.1.length ≤ n := by have := HN.out; omega
  have HN62 := Aside0.mk hN1
  clear hR2 hg2 HQ1 hln HOK2
  go_wp2_with fail
  go_loopw [6, 7] (fun v6 v7 w' => ∃ (cnt f : Nat) (key : ByteArray) (s : St) (out : List Vr), v6 = .string key ∧ Aside0 (out.length = cnt) ∧ Aside0 (out ++ (rb f N cnt key s).1 = rbl ∧ (rb f N cnt key s).2 = rbs) ∧ muS s ≤ f ∧ cnt + muS s ≤ n + 1 ∧ key.size + s.1.length ≤ n ∧ Aside0 (okS s) ∧ Aside0 (∀ p ∈ out, p.k.size ≤ n ∧ p.v.size ≤ 200) ∧ Aside0 (QA w w0 g w'.heap.size v7 out w' s) ∧ g < w'.heap.size) (fun _ _ w' => muW w' g)
  case atStart => exact ⟨0, n + 2, { data := #[] }, s1, [], rfl, ⟨rfl⟩, ⟨by have h := HSP.out; rw [HN.out] at h; simp only [List.nil_append]; rw [← h]; exact ⟨rfl, rfl⟩⟩, by unfold muS; split <;> omega, by unfold muS; split <;> omega, by show 0 + _ ≤ _; omega, HK1, ⟨by simp⟩, ⟨⟨QA_rs HQ2.out, Kd.R_mono (Kd.R_bound HQ2.out.2.1) (fun k hk => hk.2.2.1), HQ2.out.2.2⟩⟩, by omega⟩
  case round =>
    obtain ⟨cnt, f, key, s, out, rfl, HLEN, HTOT, hmu, hcm, hks, HOS, HSM, HQ, hgr⟩ := hrel
    by_cases hcn : s.2 = 0 ∧ (cnt : Int) < N
    · obtain ⟨hs0, hcN⟩ := hcn
      have hmulen : muS s = s.1.length + 1 := by unfold muS; rw [if_pos hs0]
      obtain ⟨f', rfl⟩ : ∃ f', f = f' + 1 := ⟨f - 1, by omega⟩
      have hT := HTOT.out
      rw [rb_go hs0 hcN] at hT
      have m1 := mu_lt key HOS.out hs0
      have m2 := keyB_size (key := key) HOS.out
      obtain ⟨k0, k1, k2, k3, k4, k5, k6, k7, k8⟩ := okB HOS.out
      have z1 : ((textS 200 (s6B s)).1.size : Int) ≤ 200 := textS_size 200 (by decide) k7
      have e4 := (okS_num k4).2.1
      have e5 := (okS_num k5).2.1
      have e0 := (okS_num HOS.out).2.1.1
      have e8 : (oneB key s).2 = (textS 200 (s6B s)).2 := rfl
      have e9 : (oneB key s).1.v = (textS 200 (s6B s)).1 := rfl
      have e7 : (oneB key s).1.k = keyB key s := rfl
      rw [← e8] at k8
      rw [← e9] at z1
      rw [← e7] at m2
      obtain ⟨P1, hP1⟩ : ∃ P1, oneB key s = P1 := ⟨_, rfl⟩
      have HONE : Aside0 (P1 = oneB key s) := ⟨hP1.symm⟩
      rw [hP1] at hT m1 m2 k8 z1
      have HT := Aside0.mk hT
      have HZ := Aside0.mk z1
      have K8 := Aside0.mk k8
      have M1 := Aside0.mk m1
      have M2 := Aside0.mk m2
      have K0 := Aside0.mk (okS_by k0)
      have KK0 := Aside0.mk k0
      have K1' := Aside0.mk (okS_by k1)
      have K2' := Aside0.mk (okS_by k2)
      have K3' := Aside0.mk (okS_by k3)
      have K4' := Aside0.mk (okS_by k4)
      have K5' := Aside0.mk (okS_by k5)
      have K6' := Aside0.mk (okS_by k6)
      have KK7 := Aside0.mk k7
      have hwr : IntKind.i64.wrap ((numS (s3B s)).1 + (numS (s4B s)).1) = (numS (s3B s)).1 + (numS (s4B s)).1 := IntWalk.i64_in _ (by omega)
      have HWR := Aside0.mk hwr
      unfold oneB keyB at HONE
      unfold s6B s5B s4B s3B s2B s1B s0B at HONE KK7
      unfold s5B s4B s3B s2B s1B s0B at K6'
      unfold s4B s3B s2B s1B s0B at K5'
      unfold s3B s2B s1B s0B at K4'
      unfold s4B s3B s2B s1B s0B at HWR
      unfold s2B s1B s0B at K3'
      unfold s1B s0B at K2'
      unfold s0B at K1'
      clear hT m1 m2 k0 k1 k2 k3 k4 k5 k6 k7 k8 z1 e4 e5 e8 e9 e7 hP1 hwr HTOT
      have HQ0 : Aside0 (RS w0 g wr s) := ⟨QA_rs HQ.out⟩
      go_wp2_with fail
      (with_reducible refine (errS_calls w0 _ g s (QA_rs HQ.out)).mono ?_)
      rintro e _ ⟨rfl, rfl⟩
      have hne : (s.2 == 0) = true := by simpa using hs0
      rw [hs0]
      obtain ⟨A7, c7, rfl, hc7, hC7⟩ := OVr_readn (Kd.R_mono HQ.out.2.1 (fun _ _ => trivial)) cnt HLEN.out
      clear hC7
      go_wp2_with fail
      (with_reducible refine (numS_calls w0 _ g s (QA_rs HQ.out) h00 (okS_by HOS.out)).mono ?_)
      rintro e w3 ⟨rfl, hR3, hg3⟩
      have hz3 := hg3.size
      have HQ3 : Aside0 (QA w w0 g w3.heap.size (.slice A7 cnt c7) out w3 (numS s).2) := by
        have h := QA_num HQ.out h0 hR3 hg3
        exact ⟨h.1, Kd.R_mono h.2.1 (fun k hk => by omega), h.2.2⟩
      have HBM := HQ.out.2.2
      clear hR3 HQ HBM
      have hcut := cut_eq key (numS s).1 e0
      generalize numS s = A0 at *
      obtain ⟨same, sa⟩ := A0
      simp only at hcut HQ3 HONE ⊢
      obtain ⟨hcut, hcl⟩ := hcut
      obtain ⟨cn, hcnn⟩ : ∃ cn, cutN key same = cn := ⟨_, rfl⟩
      rw [hcnn] at hcut hcl HONE
      have j1 : (0 : Int) ≤ (cn : Int) := by omega
      have j2 : (cn : Int) ≤ (key.size : Int) := by omega
      have HQ3d := Aside0.mk (QA_below HQ3.out (below_drew1 (Below.refl _ _)))
      go_wp2_with fail
      rename_i K hK
      have hsl : (Instr.slice 9 (.string key) none (some (.int .i64 (cn : Int))) none).run Try.prog = (Instr.slice 9 (.string key) none (some (.int .i64 (cn : Int))) none).run Try.prog := rfl
      clear hsl
      have hRT := textS_calls w0 w3.drew g sa 200 (QA_rs HQ3d.out) h00 KK0.out
      obtain ⟨TX, hTX⟩ : ∃ TX, textS 200 sa = TX := ⟨_, rfl⟩
      have hts : ((textS 200 sa).1.size : Int) ≤ 200 := textS_size 200 (by decide) KK0.out
      rw [hTX] at hts HONE hRT K1' K2' K3' K4' K5' K6' KK7 HWR
      obtain ⟨tx, st0⟩ := TX
      simp only at hts HONE hRT K1' K2' K3' K4' K5' K6' KK7 HWR
      have hnt : ¬ 9223372036854775807 < cn + tx.size := by omega
      have HRT := Aside0.mk hRT
      obtain ⟨KB, hKB⟩ : ∃ KB, key.extract 0 cn ++ tx = KB := ⟨_, rfl⟩
      rw [hKB] at HONE
      have HKB := Aside0.mk hKB
      have HK : Aside0 (∀ (y : Nat) (W : World), g < y → QB w w0 g y (.slice A7 cnt c7) out W st0 ⟨KB, 0, 0, 0, 0, 0, { data := #[] }, false⟩ → y < W.heap.size → K { tmps := #[.slice A n c, undef, .slice none 0 0, .int .i64 0, .pointer (some ⟨g, 0, none⟩), .int .i64 N, .string key, .slice A7 cnt c7, .int .i64 same, .pointer (some ⟨y, 0, none⟩), .slice A n c, .pointer (some ⟨g, 0, none⟩), .pointer (some ⟨g, 0, none⟩), .int .i64 N, .pointer (some ⟨g, 0, none⟩), .int .i64 0, .bool true, .bool true, .slice A7 cnt c7, .int .i64 cnt, .int .i64 N, .bool true, .bool true, .pointer (some ⟨g, 0, none⟩), .int .i64 same, .string key, .int .i64 same, .string key, .int .i64 key.size, .int .i64 cn, .string (key.extract 0 cn), .pointer (some ⟨g, 0, none⟩), .string tx, .string KB, .agg #[.string KB, .int .i64 0, .int .i64 0, .int .i64 0, .int .i64 0, .int .i64 0, .string { data := #[] }, .bool false], u35, u36, u37, u38, u39, u40, u41, u42, u43, u44, u45, u46, u47, u48, u49, u50, u51, u52, u53, u54, u55, u56, u57, u58, u59, u60, u61, u62, u63, u64, u65, u66, u67, undef, undef, undef, undef, undef, undef, undef, undef, undef, undef, undef, undef, undef, undef, undef, undef, undef, undef], defers := [] } W) := ⟨by
        intro y W hy hQB hyW
        refine hK _ _ ?_
        clear hK
        have HP0 := Aside0.mk hQB
        clear hQB
        go_wp2_with fail
        (with_reducible refine (numS_calls w0 _ g st0 (QB_rs HP0.out) h00 K1'.out).mono ?_)
        rintro e V1 ⟨rfl, hRn, hgn⟩
        have hyW1 := hgn.size
        have HP1 := Aside0.mk (QB_num HP0.out h0 hy hRn hgn)
        clear hRn hgn HP0
        generalize numS st0 = n1 at *
        obtain ⟨a1, t1⟩ := n1
        simp only at HONE KK7 HWR K2' K3' K4' K5' K6' ⊢
        go_wp2_with fail
        (with_reducible refine (numS_calls w0 _ g t1 (QB_rs HP1.out) h00 K2'.out).mono ?_)
        rintro e V2 ⟨rfl, hRn, hgn⟩
        have hyW2 := hgn.size
        have HP2 := Aside0.mk (QB_num HP1.out h0 hy hRn hgn)
        clear hRn hgn HP1
        generalize numS t1 = n2 at *
        obtain ⟨a2, t2⟩ := n2
        simp only at HONE KK7 HWR K3' K4' K5' K6' ⊢
        go_wp2_with fail
        (with_reducible refine (numS_calls w0 _ g t2 (QB_rs HP2.out) h00 K3'.out).mono ?_)
        rintro e V3 ⟨rfl, hRn, hgn⟩
        have hyW3 := hgn.size
        have HP3 := Aside0.mk (QB_num HP2.out h0 hy hRn hgn)
        clear hRn hgn HP2
        generalize numS t2 = n3 at *
        obtain ⟨a3, t3⟩ := n3
        simp only at HONE KK7 HWR K4' K5' K6' ⊢
        obtain ⟨x0, x1, x2, x3, x4, x5, x6, x7⟩ := vr_cells (QB_x HP3.out)
        have fz := vr_frozen (QB_x HP3.out)
        have HP4 := Aside0.mk (QB_four HP3.out h0 h00 hy a1 a2 a3)
        go_wp2_with fail
        clear x0 x1 x2 x3 x4 x5 x6 x7 fz HP3
        obtain ⟨V4, hV4⟩ : ∃ V4, ((V3.setCell ⟨y, 1, none⟩ (.int .i64 a1)).setCell ⟨y, 2, none⟩ (.int .i64 a2)).setCell ⟨y, 3, none⟩ (.int .i64 a3) = V4 := ⟨_, rfl⟩
        rw [hV4] at HP4 ⊢
        have hyW4 : V3.heap.size = V4.heap.size := by rw [← hV4]; simp only [World.size_setCell]
        clear hV4
        (with_reducible refine (numS_calls w0 _ g t3 (QB_rs HP4.out) h00 K4'.out).mono ?_)
        rintro e V5 ⟨rfl, hRn, hgn⟩
        have hyW5 := hgn.size
        have HP5 := Aside0.mk (QB_num HP4.out h0 hy hRn hgn)
        clear hRn hgn HP4
        generalize numS t3 = n4 at *
        obtain ⟨a4, t4⟩ := n4
        simp only at HONE KK7 HWR K5' K6' HP5 ⊢
        obtain ⟨x0, x1, x2, x3, x4, x5, x6, x7⟩ := vr_cells (QB_x HP5.out)
        have fz := vr_frozen (QB_x HP5.out)
        have HP6 := Aside0.mk (QB_set (p' := ⟨KB, a1, a2, a3, a4, 0, { data := #[] }, false⟩) HP5.out h0 h00 hy 4 (.int .i64 a4) rfl)
        go_wp2_with fail
        clear x0 x1 x2 x3 x4 x5 x6 x7 fz HP5
        obtain ⟨V6, hV6⟩ : ∃ V6, V5.setCell ⟨y, 4, none⟩ (.int .i64 a4) = V6 := ⟨_, rfl⟩
        rw [hV6] at HP6 ⊢
        have hyW6 : V5.heap.size = V6.heap.size := by rw [← hV6]; simp only [World.size_setCell]
        clear hV6
        have HP7 := Aside0.mk (QB_below HP6.out (below_drew1 (Below.refl _ _)))
        obtain ⟨x0, x1, x2, x3, x4, x5, x6, x7⟩ := vr_cells (QB_x HP6.out)
        refine wp_region_held_drew (S := fun w' => w'.cell? ⟨y, 4, none⟩ = some (.int .i64 a4)) (by kernel_rfl) x4 (fun hHeld => ?_)
        clear x0 x1 x2 x3 x4 x5 x6 x7
        (refine hd_take 0 (v := ?_) rfl (by kernel_rfl) (by kernel_rfl) (fun _ _ _ h => h) (by assumption) ?_ ?_; rotate_left; (intro w hSw; (try dsimp only at hSw); go_simp; first | done | with_reducible rfl); simp only [Act.put, List.setIfInBounds_toArray, List.set_cons_zero, List.set_cons_succ])
        (refine hd_take 1 (v := ?_) rfl (by kernel_rfl) (by kernel_rfl) (fun _ _ _ h => h) (by assumption) ?_ ?_; rotate_left; (intro w hSw; (try dsimp only at hSw); go_simp; first | done | with_reducible rfl); simp only [Act.put, List.setIfInBounds_toArray, List.set_cons_zero, List.set_cons_succ])
        (refine hd_take 2 (v := ?_) rfl (by kernel_rfl) (by kernel_rfl) (fun _ _ _ h => h) (by assumption) ?_ ?_; rotate_left; (intro w hSw; (try dsimp only at hSw); go_simp; first | done | with_reducible rfl); simp only [Act.put, List.setIfInBounds_toArray, List.set_cons_zero, List.set_cons_succ])
        (refine hd_take 3 (v := ?_) rfl (by kernel_rfl) (by kernel_rfl) (fun _ _ _ h => h) (by assumption) ?_ ?_; rotate_left; (intro w hSw; (try dsimp only at hSw); go_simp; first | done | with_reducible rfl); simp only [Act.put, List.setIfInBounds_toArray, List.set_cons_zero, List.set_cons_succ])
        refine hd_one 4 rfl (by kernel_rfl) (fun K1 hK1 => ?_)
        go_simp
        go_wp2_with ((go_at_call 25); (with_reducible refine (numS_calls w0 _ g t4 (QB_rs HP7.out) h00 K5'.out).mono ?_); rintro e V7 ⟨rfl, hRn, hgn⟩; have hyW7 := hgn.size; have HP8 := Aside0.mk (QB_num HP7.out h0 hy hRn hgn); clear hRn hgn)
        obtain ⟨x0, x1, x2, x3, x4, x5, x6, x7⟩ := vr_cells (QB_x HP8.out)
        have fz := vr_frozen (QB_x HP8.out)
        refine hK1.out _ _ x4 (fun hHeld => ?_)
        clear hK1 K1
        have hwr := HWR.out
        generalize numS t4 = n5 at *
        obtain ⟨a5, t5⟩ := n5
        simp only at HONE KK7 hwr K6' HP8 ⊢
        (refine hd_take 5 (v := ?_) rfl (by kernel_rfl) (by kernel_rfl) (fun _ _ _ h => h) (by assumption) ?_ ?_; rotate_left; (intro w hSw; (try dsimp only at hSw); go_simp; first | done | with_reducible rfl); simp only [Act.put, List.setIfInBounds_toArray, List.set_cons_zero, List.set_cons_succ])
        (refine hd_take 6 (v := ?_) rfl (by kernel_rfl) (by kernel_rfl) (fun _ _ _ h => h) (by assumption) ?_ ?_; rotate_left; (intro w hSw; (try dsimp only at hSw); go_simp; first | done | with_reducible rfl); simp only [Act.put, List.setIfInBounds_toArray, List.set_cons_zero, List.set_cons_succ])
        (refine hd_take 7 (v := ?_) rfl (by kernel_rfl) (by kernel_rfl) (fun _ _ _ h => h) (by assumption) ?_ ?_; rotate_left; (intro w hSw; (try dsimp only at hSw); go_simp; first | done | with_reducible rfl); simp only [Act.put, List.setIfInBounds_toArray, List.set_cons_zero, List.set_cons_succ])
        refine hd_one 8 rfl (by kernel_rfl) (fun K1 hK1 => ?_)
        go_simp
        have HP9 := Aside0.mk (QB_set (p' := ⟨KB, a1, a2, a3, a4, a4 + a5, { data := #[] }, false⟩) HP8.out h0 h00 hy 5 (.int .i64 (a4 + a5)) rfl)
        refine hK1.out _ _ (by first | exact x4 | (rw [World.cell?_setCell_other _ _ _ _ (by simp)]; exact x4)) (fun hHeld => ?_)
        clear hK1 K1 x0 x1 x2 x3 x4 x5 x6 x7 fz HP8 HP7 HP6 hwr
        obtain ⟨V8, hV8⟩ : ∃ V8, V7.setCell ⟨y, 5, none⟩ (.int .i64 (a4 + a5)) = V8 := ⟨_, rfl⟩
        rw [hV8] at HP9 hHeld ⊢
        have hyW8 : V7.heap.size = V8.heap.size := by rw [← hV8]; simp only [World.size_setCell]
        clear hV8 hHeld
        refine wpAnyH_done (by kernel_rfl) ?_ _
        go_wp2_with fail
        (with_reducible refine (numS_calls w0 _ g t5 (QB_rs HP9.out) h00 K6'.out).mono ?_)
        rintro e V9 ⟨rfl, hRn, hgn⟩
        have hyW9 := hgn.size
        have HPa := Aside0.mk (QB_num HP9.out h0 hy hRn hgn)
        clear hRn hgn HP9
        generalize numS t5 = n6 at *
        obtain ⟨a6, t6⟩ := n6
        simp only at HONE KK7 HPa ⊢
        obtain ⟨gb, hgb⟩ : ∃ gb, decide (a6 = 1) = gb := ⟨_, rfl⟩
        have hgb2 : (a6 == 1) = gb := by rw [← hgb]; rfl
        rw [hgb] at HONE
        obtain ⟨x0, x1, x2, x3, x4, x5, x6, x7⟩ := vr_cells (QB_x HPa.out)
        have fz := vr_frozen (QB_x HPa.out)
        have HPb := Aside0.mk (QB_set (p' := ⟨KB, a1, a2, a3, a4, a4 + a5, { data := #[] }, gb⟩) HPa.out h0 h00 hy 7 (.bool gb) rfl)
        go_wp2_with fail
        clear x0 x1 x2 x3 x4 x5 x6 x7 fz HPa
        obtain ⟨Va, hVa⟩ : ∃ Va, V9.setCell ⟨y, 7, none⟩ (.bool gb) = Va := ⟨_, rfl⟩
        rw [hVa] at HPb ⊢
        have hyWa : V9.heap.size = Va.heap.size := by rw [← hVa]; simp only [World.size_setCell]
        clear hVa
        (with_reducible refine (textS_calls w0 _ g t6 200 (QB_rs HPb.out) h00 KK7.out).mono ?_)
        rintro e Vb ⟨rfl, hRn, hgn⟩
        have hyWb := hgn.size
        have HPc := Aside0.mk (QB_num HPb.out h0 hy hRn hgn)
        clear hRn hgn HPb
        generalize textS 200 t6 = n7 at *
        obtain ⟨tv, t7⟩ := n7
        simp only at HONE HPc ⊢
        obtain ⟨x0, x1, x2, x3, x4, x5, x6, x7⟩ := vr_cells (QB_x HPc.out)
        have fz := vr_frozen (QB_x HPc.out)
        have HPd := Aside0.mk (QB_set (p' := ⟨KB, a1, a2, a3, a4, a4 + a5, tv, gb⟩) HPc.out h0 h00 hy 6 (.string tv) rfl)
        go_wp2_with fail
        clear x0 x1 x2 x3 x4 x5 x6 x7 fz HPc
        obtain ⟨Vc, hVc⟩ : ∃ Vc, Vb.setCell ⟨y, 6, none⟩ (.string tv) = Vc := ⟨_, rfl⟩
        rw [hVc] at HPd ⊢
        have hyWc : Vb.heap.size = Vc.heap.size := by rw [← hVc]; simp only [World.size_setCell]
        clear hVc
        have HPe := Aside0.mk (QB_below HPd.out (below_drew1 (Below.refl _ _)))
        refine wp_region_held_drew (S := fun w' => w'.cell? ⟨y, 0, none⟩ = some (.string KB) ∧ w'.cell? ⟨y, 1, none⟩ = some (.int .i64 a1) ∧ w'.cell? ⟨y, 2, none⟩ = some (.int .i64 a2) ∧ w'.cell? ⟨y, 3, none⟩ = some (.int .i64 a3) ∧ w'.cell? ⟨y, 4, none⟩ = some (.int .i64 a4) ∧ w'.cell? ⟨y, 5, none⟩ = some (.int .i64 (a4 + a5)) ∧ w'.cell? ⟨y, 6, none⟩ = some (.string tv) ∧ w'.cell? ⟨y, 7, none⟩ = some (.bool gb)) (by kernel_rfl) (vr_cells (QB_x HPe.out)) (fun hHeld => ?_)
        obtain ⟨Vd, hVd⟩ : ∃ Vd, Vc.drew = Vd := ⟨_, rfl⟩
        have hyWd : Vc.heap.size = Vd.heap.size := by rw [← hVd]; rfl
        rw [hVd] at HPe hHeld ⊢
        clear hVd HPd
        (refine hd_take 0 (v := ?_) rfl (by kernel_rfl) (by kernel_rfl) (fun _ _ _ h => h) (by assumption) ?_ ?_; rotate_left; (intro w hSw; (try dsimp only at hSw); go_simp; first | done | with_reducible rfl); simp only [Act.put, List.setIfInBounds_toArray, List.set_cons_zero, List.set_cons_succ])
        (refine hd_take 1 (v := ?_) rfl (by kernel_rfl) (by kernel_rfl) (fun _ _ _ h => h) (by assumption) ?_ ?_; rotate_left; (intro w hSw; (try dsimp only at hSw); go_simp; first | done | with_reducible rfl); simp only [Act.put, List.setIfInBounds_toArray, List.set_cons_zero, List.set_cons_succ])
        (refine hd_take 4 (v := ?_) rfl (by kernel_rfl) (by kernel_rfl) (fun _ _ _ h => h) (by assumption) ?_ ?_; rotate_left; (intro w hSw; (try dsimp only at hSw); go_simp; first | done | with_reducible rfl); simp only [Act.put, List.setIfInBounds_toArray, List.set_cons_zero, List.set_cons_succ])
        (refine hd_take 5 (v := ?_) rfl (by kernel_rfl) (by kernel_rfl) (fun _ _ _ h => h) (by assumption) ?_ ?_; rotate_left; (intro w hSw; (try dsimp only at hSw); go_simp; first | done | with_reducible rfl); simp only [Act.put, List.setIfInBounds_toArray, List.set_cons_zero, List.set_cons_succ])
        refine hd_one 2 rfl (by kernel_rfl) (fun K1 hK1 => ?_)
        go_simp
        have HPf := Aside0.mk (QB_below HPe.out (below_alloc (Below.refl Vd.heap.size Vd) (.cells #[.string KB, .int .i64 a1, .int .i64 a2, .int .i64 a3, .int .i64 a4, .int .i64 (a4 + a5), .string tv, .bool gb] 39)))
        refine hK1.out _ _ (vr_cells (QB_x HPf.out)) (fun hHeld => ?_)
        clear hK1 K1
        refine hd_one 3 rfl (by kernel_rfl) (fun K1 hK1 => ?_)
        refine app_vr_step (B := g + 1) (v := .slice A7 cnt c7) (s := .tmp 62) (x := .tmp 64) (xs := out) rfl rfl rfl rfl (Kd.R_mono HPe.out.1.2.1 (fun _ _ => trivial)) (by have := blk_lt (QB_x HPe.out); omega) (by rw [HLEN.out]; omega) ?_
        intro v1 Ve hOe hbe hge
        have hye := hbe.size
        have HPg := Aside0.mk (QB_app HPe.out h00 (by have := blk_lt (QB_x HPe.out); omega) hbe hge hOe h0)
        obtain ⟨Av, cv, rfl, hcv, _⟩ := OVr_readn hOe (cnt + 1) (by rw [List.length_append, HLEN.out]; rfl)
        refine hK1.out _ _ (vr_cells HPg.out.2) (fun hHeld => ?_)
        clear hK1 K1 hge hbe
        simp only [Act.put, List.setIfInBounds_toArray, List.set_cons_zero, List.set_cons_succ]
        (refine hd_take 6 (v := ?_) rfl (by kernel_rfl) (by kernel_rfl) (fun _ _ _ h => h) (by assumption) ?_ ?_; rotate_left; (intro w hSw; (try dsimp only at hSw); go_simp; first | done | with_reducible rfl); simp only [Act.put, List.setIfInBounds_toArray, List.set_cons_zero, List.set_cons_succ])
        (refine hd_take 7 (v := ?_) rfl (by kernel_rfl) (by kernel_rfl) (fun _ _ _ h => h) (by assumption) ?_ ?_; rotate_left; (intro w hSw; (try dsimp only at hSw); go_simp; first | done | with_reducible rfl); simp only [Act.put, List.setIfInBounds_toArray, List.set_cons_zero, List.set_cons_succ])
        refine wpAnyH_done (by kernel_rfl) ?_ _
        have hgE : g < Ve.heap.size := by have := blk_lt HPg.out.2; omega
        have hP := HONE.out
        clear HONE
        subst hP
        obtain ⟨hT1, hT2⟩ := HT.out
        have hz := HZ.out
        have hm1 := M1.out
        have hm2 := M2.out
        simp only at hT1 hT2 hz hm1 hm2
        have HT1 := Aside0.mk hT1
        have HT2 := Aside0.mk hT2
        clear hT1 hT2 HT
        have hz2 : tv.size ≤ 200 := by omega
        have hkn : KB.size ≤ n := by omega
        clear hHeld
        go_wp2_with fail
        go_roundw
        case rel => exact ⟨cnt + 1, f', KB, t7, out ++ [⟨KB, a1, a2, a3, a4, a4 + a5, tv, gb⟩], rfl, ⟨by rw [List.length_append, HLEN.out]; rfl⟩, ⟨by rw [List.append_assoc]; exact HT1.out, HT2.out⟩, by omega, by omega, by omega, ⟨K8.out⟩, ⟨by intro p hp; rcases List.mem_append.1 hp with hp | hp; exact HSM.out p hp; rw [List.mem_singleton.1 hp]; exact ⟨hkn, hz2⟩⟩, ⟨HPg.out.1⟩, hgE⟩
        case measure => rw [muW_eq (QA_rs HPg.out.1), muW_eq HQ0.out]; exact hm1⟩
      clear hK hRT
      refine wp_region_held_drew (S := (fun w' => True)) (by kernel_rfl) trivial (fun hHeld => ?_)
      obtain ⟨wd, hwd⟩ : ∃ wd, w3.drew = wd := ⟨_, rfl⟩
      have hzd : w3.heap.size = wd.heap.size := by rw [← hwd]; rfl
      rw [hwd] at HQ3d HRT ⊢
      rw [hzd] at HQ3d hz3
      clear hwd hzd HQ3
      (refine hd_take 0 (v := ?_) rfl (by kernel_rfl) (by kernel_rfl) (fun _ _ _ h => h) (by assumption) ?_ ?_; rotate_left; (intro w hSw; (try dsimp only at hSw); go_simp; first | done | with_reducible rfl); simp only [Act.put, List.setIfInBounds_toArray, List.set_cons_zero, List.set_cons_succ])
      (refine hd_take 1 (v := ?_) rfl (by kernel_rfl) (by kernel_rfl) (fun _ _ _ h => h) (by assumption) ?_ ?_; rotate_left; (intro w hSw; (try dsimp only at hSw); go_simp; first | done | with_reducible rfl); simp only [Act.put, List.setIfInBounds_toArray, List.set_cons_zero, List.set_cons_succ])
      (refine hd_take 2 (v := ?_) rfl (by kernel_rfl) (by kernel_rfl) (fun _ _ _ h => h) (by assumption) ?_ ?_; rotate_left; (intro w hSw; (try dsimp only at hSw); go_simp; first | done | with_reducible rfl); simp only [Act.put, List.setIfInBounds_toArray, List.set_cons_zero, List.set_cons_succ])
      (refine hd_take 3 (v := ?_) rfl (by kernel_rfl) (by kernel_rfl) (fun _ _ _ h => h) (by assumption) ?_ ?_; rotate_left; (intro w hSw; (try dsimp only at hSw); go_simp; first | done | with_reducible rfl); simp only [Act.put, List.setIfInBounds_toArray, List.set_cons_zero, List.set_cons_succ])
      (refine hd_take 4 (v := ?_) rfl (by kernel_rfl) (by kernel_rfl) (fun _ _ _ h => h) (by assumption) ?_ ?_; rotate_left; (intro w hSw; (try dsimp only at hSw); go_simp; first | done | with_reducible rfl); simp only [Act.put, List.setIfInBounds_toArray, List.set_cons_zero, List.set_cons_succ])
      (refine hd_take 5 (v := ?_) rfl (by kernel_rfl) (by kernel_rfl) (fun _ _ _ h => h) (by assumption) ?_ ?_; rotate_left; (intro w hSw; (try dsimp only at hSw); go_simp; first | done | with_reducible rfl); simp only [Act.put, List.setIfInBounds_toArray, List.set_cons_zero, List.set_cons_succ])
      (refine hd_take 6 (v := ?_) rfl (by kernel_rfl) (by kernel_rfl) (fun _ _ _ h => h) (by assumption) ?_ ?_; rotate_left; (intro w hSw; (try dsimp only at hSw); go_simp; first | done | with_reducible rfl); simp only [Act.put, List.setIfInBounds_toArray, List.set_cons_zero, List.set_cons_succ])
      refine hd_two 7 10 rfl rfl (by kernel_rfl) (fun K1 hK1 => ?_) (fun K1 hK1 => ?_)
      · go_simp
        go_wp2_with ((go_at_call 27); (with_reducible refine HRT.out.mono ?_); rintro e w4 ⟨rfl, hR4, hg4⟩; have hz4 := hg4.size; have HQ4 := Aside0.mk (QA_num HQ3d.out h0 hR4 hg4); clear hR4 hg4)
        refine hK1.out _ _ trivial (fun hHeld => ?_)
        clear hK1 K1
        (refine hd_take 8 (v := ?_) rfl (by kernel_rfl) (by kernel_rfl) (fun _ _ _ h => h) (by assumption) ?_ ?_; rotate_left; (intro w hSw; (try dsimp only at hSw); go_simp; first | done | with_reducible rfl); simp only [Act.put, List.setIfInBounds_toArray, List.set_cons_zero, List.set_cons_succ])
        (refine hd_take 9 (v := ?_) rfl (by kernel_rfl) (by kernel_rfl) (fun _ _ _ h => h) (by assumption) ?_ ?_; rotate_left; (intro w hSw; (try dsimp only at hSw); go_simp; first | done | with_reducible rfl); simp only [Act.put, List.setIfInBounds_toArray, List.set_cons_zero, List.set_cons_succ])
        refine hd_one 10 rfl (by kernel_rfl) (fun K1 hK1 => ?_)
        go_simp
        obtain ⟨w5, hw5⟩ : ∃ w5, w4.alloc (.cells #[.string { data := #[] }, .int .i64 0, .int .i64 0, .int .i64 0, .int .i64 0, .int .i64 0, .string { data := #[] }, .bool false] 39) = w5 := ⟨_, rfl⟩
        have HQ5 : Aside0 (QB w w0 g w4.heap.size (.slice A7 cnt c7) out w5 st0 zeroV) := by
          rw [← hw5]
          exact ⟨⟨(QA_below HQ4.out (below_alloc (Below.refl _ _) _)).1, Kd.R_mono (QA_below HQ4.out (below_alloc (Below.refl _ _) _)).2.1 (fun k hk => by omega), (QA_below HQ4.out (below_alloc (Below.refl _ _) _)).2.2⟩, heap_alloc_new w4 _⟩
        rw [hw5]
        refine hK1.out _ _ trivial (fun hHeld => ?_)
        clear hK1 K1 hw5
        obtain ⟨y, hy⟩ : ∃ y, w4.heap.size = y := ⟨_, rfl⟩
        rw [hy] at HQ5 ⊢
        have hgy : g < y := by omega
        clear hy
        obtain ⟨x0, x1, x2, x3, x4, x5, x6, x7⟩ := vr_cells (QB_x HQ5.out)
        have fz := vr_frozen (QB_x HQ5.out)
        refine hd_one 11 rfl (by kernel_rfl) (fun K1 hK1 => ?_)
        go_simp
        refine hK1.out _ _ trivial (fun hHeld => ?_)
        refine wpAnyH_done (by kernel_rfl) ?_ _
        exact HK.out y _ hgy (QB_eight HQ5.out h0 h00 hgy ⟨KB, 0, 0, 0, 0, 0, { data := #[] }, false⟩) (by have := blk_lt (QB_x HQ5.out); simpa [World.size_setCell] using this)
      · go_simp
        obtain ⟨w5, hw5⟩ : ∃ w5, wd.alloc (.cells #[.string { data := #[] }, .int .i64 0, .int .i64 0, .int .i64 0, .int .i64 0, .int .i64 0, .string { data := #[] }, .bool false] 39) = w5 := ⟨_, rfl⟩
        have HQ5 : Aside0 (QB w w0 g wd.heap.size (.slice A7 cnt c7) out w5 sa zeroV) := by
          rw [← hw5]
          exact ⟨QA_below HQ3d.out (below_alloc (Below.refl _ _) _), heap_alloc_new wd _⟩
        rw [hw5]
        refine hK1.out _ _ trivial (fun hHeld => ?_)
        clear hK1 K1 hw5
        obtain ⟨y, hy⟩ : ∃ y, wd.heap.size = y := ⟨_, rfl⟩
        rw [hy] at HQ5 ⊢
        have hgy : g < y := by omega
        clear hy HRT
        have hRT := textS_calls w0 w5 g sa 200 (QB_rs HQ5.out) h00 KK0.out
        rw [hTX] at hRT
        have HRT := Aside0.mk hRT
        clear hRT
        refine hd_one 7 rfl (by kernel_rfl) (fun K1 hK1 => ?_)
        go_simp
        go_wp2_with ((go_at_call 27); (with_reducible refine HRT.out.mono ?_); rintro e w6 ⟨rfl, hR4, hg4⟩; have HQ6 := Aside0.mk (QB_num HQ5.out h0 hgy hR4 hg4); clear hR4 hg4)
        refine hK1.out _ _ trivial (fun hHeld => ?_)
        clear hK1 K1
        (refine hd_take 8 (v := ?_) rfl (by kernel_rfl) (by kernel_rfl) (fun _ _ _ h => h) (by assumption) ?_ ?_; rotate_left; (intro w hSw; (try dsimp only at hSw); go_simp; first | done | with_reducible rfl); simp only [Act.put, List.setIfInBounds_toArray, List.set_cons_zero, List.set_cons_succ])
        (refine hd_take 9 (v := ?_) rfl (by kernel_rfl) (by kernel_rfl) (fun _ _ _ h => h) (by assumption) ?_ ?_; rotate_left; (intro w hSw; (try dsimp only at hSw); go_simp; first | done | with_reducible rfl); simp only [Act.put, List.setIfInBounds_toArray, List.set_cons_zero, List.set_cons_succ])
        obtain ⟨x0, x1, x2, x3, x4, x5, x6, x7⟩ := vr_cells (QB_x HQ6.out)
        have fz := vr_frozen (QB_x HQ6.out)
        refine hd_one 11 rfl (by kernel_rfl) (fun K1 hK1 => ?_)
        go_simp
        refine hK1.out _ _ trivial (fun hHeld => ?_)
        refine wpAnyH_done (by kernel_rfl) ?_ _
        exact HK.out y _ hgy (QB_eight HQ6.out h0 h00 hgy ⟨KB, 0, 0, 0, 0, 0, { data := #[] }, false⟩) (by have := blk_lt (QB_x HQ6.out); simpa [World.size_setCell] using this)
    · have hT := HTOT.out
      rw [rb_stop hcn] at hT
      simp only [List.append_nil] at hT
      obtain ⟨hT1, hT2⟩ := hT
      have HD := HRD.out
      rw [← hT1, ← hT2] at HD
      have HD := Aside0.mk HD
      clear hT1 hT2 HTOT HRD HSP
      obtain ⟨A7, c7, rfl, hc7, hC7⟩ := OVr_readn (Kd.R_mono HQ.out.2.1 (fun _ _ => trivial)) cnt HLEN.out
      have HC7 := Aside0.mk hC7
      have hql : w.heap.size ≤ g + 1 := by omega
      have HO7 : Aside0 (OVr wr w.heap.size (.slice A7 cnt c7) out) := ⟨Kd.R_lower (Kd.R_mono HQ.out.2.1 (fun _ _ => trivial)) hql⟩
      have HBW : Aside0 (Below w.heap.size w wr) := ⟨HQ.out.2.2⟩
      clear hC7
      by_cases hs0 : s.2 = 0
      · have hcN : ¬ (cnt : Int) < N := fun h => hcn ⟨hs0, h⟩
        have hd := HD.out
        rw [if_neg (by simpa using hs0)] at hd
        have HD := Aside0.mk hd
        have HSS : Aside0 (smallB out) := ⟨fun p hp => by have := HSM.out p hp; omega⟩
        have hcd : decide ((cnt : Int) < N) = false := decide_eq_false hcN
        clear hd hcn
        go_wp2_with fail
        (with_reducible refine (errS_calls w0 _ g s (QA_rs HQ.out)).mono ?_)
        rintro e wr ⟨rfl, rfl⟩
        rw [hs0]
        go_wp2_with fail
        (with_reducible refine (errS_calls w0 _ g s (QA_rs HQ.out)).mono ?_)
        rintro e wr ⟨rfl, rfl⟩
        rw [hs0]
        go_wp2_with fail
        have hmc := mayB_calls A7 cnt c7 out wr HC7.out hc7 HSS.out
        cases hmb : mayBl out with
        | false =>
          rw [hmb] at hmc
          have hd := HD.out
          rw [hmb] at hd
          simp only [Bool.false_and, Bool.false_eq_true, if_false, Prod.mk.injEq] at hd
          have HD := Aside0.mk hd
          have HMC := Aside0.mk hmc
          clear hd hmc hmb
          (with_reducible refine HMC.out.mono ?_)
          rintro e w4 ⟨rfl, hb4⟩
          have HB4 := Aside0.mk (below_step HBW.out hb4)
          clear hb4
          go_wp2_with fail
          go_ret2
          exact ⟨_, by rw [HD.out.2]; rfl, by rw [HD.out.1]; exact OVr_nil _ _, HB4.out⟩
        | true =>
          obtain ⟨hm1, _, hm8⟩ := mayBl_all hmb
          rw [hmb] at hmc
          have hd := HD.out
          rw [hmb, Bool.true_and] at hd
          have HD := Aside0.mk hd
          have HMC := Aside0.mk hmc
          have HM1 := Aside0.mk hm1
          have hc8 : cnt ≤ 8 := by rw [← HLEN.out]; exact hm8
          clear hd hmc hmb hm1 hm8
          (with_reducible refine HMC.out.mono ?_)
          rintro e w4 ⟨rfl, hb4⟩
          have HB4 := Aside0.mk (below_step HBW.out hb4)
          have HC4 := Aside0.mk (Kd.C_below HC7.out hb4)
          have HO4 := Aside0.mk (Kd.R_below HO7.out hb4)
          clear hb4
          go_wp2_with fail
          (with_reducible refine (writeb_calls A7 cnt c7 out w4 HC4.out hc7 hc8 HM1.out).mono ?_)
          rintro e w5 ⟨u5, rfl, hO5, hb5⟩
          obtain ⟨m5, hm5⟩ : ∃ m5, (blockB out).length = m5 := ⟨_, rfl⟩
          obtain ⟨A5, c5, rfl, hc5, hC5⟩ := OB_readn hO5 m5 hm5
          have HC5 := Aside0.mk hC5
          have HB5 := Aside0.mk (below_step HB4.out hb5)
          have HO5 := Aside0.mk (Kd.R_below HO4.out hb5)
          clear hC5 hO5 hb5 hm5
          go_wp2_with fail
          (with_reducible refine (equal_calls A5 A m5 n c5 c (blockB out) bs w5 HC5.out (Kd.C_below HR.out HB5.out) hc5 hc).mono ?_)
          rintro e w6 ⟨rfl, hb6⟩
          have HB6 := Aside0.mk (below_step HB5.out hb6)
          have HO6 := Aside0.mk (Kd.R_below HO5.out hb6)
          clear hb6
          have hd := HD.out
          cases heq : decide (blockB out = bs) with
          | false =>
            rw [heq] at hd
            simp only [Bool.false_eq_true, if_false, Prod.mk.injEq] at hd
            have HD := Aside0.mk hd
            clear hd heq
            go_wp2_with fail
            go_ret2
            exact ⟨_, by rw [HD.out.2]; rfl, by rw [HD.out.1]; exact OVr_nil _ _, HB6.out⟩
          | true =>
            rw [heq] at hd
            simp only [if_true, Prod.mk.injEq] at hd
            have HD := Aside0.mk hd
            clear hd heq
            go_wp2_with fail
            go_ret2
            exact ⟨_, by rw [HD.out.2]; rfl, by rw [HD.out.1]; exact HO6.out, HB6.out⟩
      · have hd := HD.out
        rw [if_pos (by simpa using hs0)] at hd
        simp only [Prod.mk.injEq] at hd
        have HD := Aside0.mk hd
        have hne : (s.2 == 0) = false := beq_eq_false_iff_ne.2 hs0
        have hne2 : (s.2 != 0) = true := bne_iff_ne.2 hs0
        clear hd hcn hs0
        go_wp2_with fail
        (with_reducible refine (errS_calls w0 _ g s (QA_rs HQ.out)).mono ?_)
        rintro e wr ⟨rfl, rfl⟩
        go_wp2_with fail
        (with_reducible refine (errS_calls w0 _ g s (QA_rs HQ.out)).mono ?_)
        rintro e wr ⟨rfl, rfl⟩
        go_wp2_with fail
        (with_reducible refine (errS_calls w0 _ g s (QA_rs HQ.out)).mono ?_)
        rintro e wr ⟨rfl, rfl⟩
        go_wp2_with fail
        go_ret2
        exact ⟨_, by rw [HD.out.2]; rfl, by rw [HD.out.1]; exact OVr_nil _ _, HBW.out⟩
end Go.Proofs.Ytopoepifbjbmoaa.A
