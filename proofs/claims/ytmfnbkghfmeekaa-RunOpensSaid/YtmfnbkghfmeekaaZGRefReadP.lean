/- GRefReadP -/
import Derived.Test.YtmfnbkghfmeekaaZGOpened
namespace Go.Proofs.Ytmfnbkghfmeekaa.A
open Go.RowKit Go.Proofs.YtmfnbkghfmeekaaW.PrintWords Go.Proofs.YtmfnbkghfmeekaaW.PrintLast Go.Proofs.YtmfnbkghfmeekaaW.PrintMore
open R C
set_option linter.unusedVariables false
set_option linter.unusedSimpArgs false
def fb : Nat → Int → Nat → ByteArray → St → Bool
  | 0, _, _, _, _ => true
  | f + 1, N, c, key, s => if s.2 = 0 ∧ (c : Int) < N then (decide ((numS s).1 ≤ key.size) && decide ((numS (s5B s)).1 ≤ 1)) && fb f N (c + 1) (oneB key s).1.k (oneB key s).2 else true
theorem fb_go {f : Nat} {N : Int} {c : Nat} {key : ByteArray} {s : St} (h0 : s.2 = 0) (hc : (c : Int) < N) : fb (f + 1) N c key s = ((decide ((numS s).1 ≤ key.size) && decide ((numS (s5B s)).1 ≤ 1)) && fb f N (c + 1) (oneB key s).1.k (oneB key s).2) := by
  rw [fb, if_pos ⟨h0, hc⟩]
theorem fb_stop {f : Nat} {N : Int} {c : Nat} {key : ByteArray} {s : St} (h : ¬ (s.2 = 0 ∧ (c : Int) < N)) : fb f N c key s = true := by
  cases f with
  | zero => rfl
  | succ f => rw [fb, if_neg h]
def fbAll (bs : List Int) : Bool := fb (bs.length + 2) (numS (bs, 0)).1 0 { data := #[] } (numS (bs, 0)).2
theorem fine_bytes (key : ByteArray) (p : Vr) (X : List Int) (hm : mayV p = true) (hk : key.size ≤ 92) : (numS (bytesP key p ++ X, 0)).1 = (comS key p.k : Int) ∧ (numS (s5B (bytesP key p ++ X, 0))).1 = goneI p.g := by
  have hk2 := C.key_le hm
  have hcs := comS_le key p.k
  have hss := suf_size key p.k
  obtain ⟨_, ⟨⟨⟨r1, r2⟩, ⟨r3, r4⟩⟩, ⟨r5, r6⟩⟩, ⟨r7, r8, r9⟩, r10, _⟩ := (mayV_iff p).1 hm
  have hgone : 0 ≤ goneI p.g ∧ goneI p.g ≤ 1 := by cases p.g <;> simp [goneI]
  have e0 : bytesP key p ++ X = V.vput (comS key p.k) ++ (V.vtext (sufS key p.k) ++ (V.vput p.br ++ (V.vput p.ep ++ (V.vput p.sq ++ (V.vput p.f ++ (V.vput (p.t - p.f) ++ (V.vput (goneI p.g) ++ (V.vtext p.v ++ X)))))))) := by
    unfold bytesP
    simp only [List.flatMap_cons, List.flatMap_nil, List.append_nil, List.append_assoc]
  rw [e0]
  have n0 : ∀ Y, numS (V.vput (comS key p.k) ++ Y, 0) = ((comS key p.k : Int), (Y, 0)) := fun Y => numS_put _ _ (by omega) (by omega)
  have t0 : ∀ Y, textS 200 (V.vtext (sufS key p.k) ++ Y, 0) = (sufS key p.k, (Y, 0)) := fun Y => textS_put 200 _ _ (by omega) (by decide)
  have n1 : ∀ Y, numS (V.vput p.br ++ Y, 0) = (p.br, (Y, 0)) := fun Y => numS_put _ _ (by omega) (by omega)
  have n2 : ∀ Y, numS (V.vput p.ep ++ Y, 0) = (p.ep, (Y, 0)) := fun Y => numS_put _ _ (by omega) (by omega)
  have n3 : ∀ Y, numS (V.vput p.sq ++ Y, 0) = (p.sq, (Y, 0)) := fun Y => numS_put _ _ (by omega) (by omega)
  have n4 : ∀ Y, numS (V.vput p.f ++ Y, 0) = (p.f, (Y, 0)) := fun Y => numS_put _ _ (by omega) (by omega)
  have n5 : ∀ Y, numS (V.vput (p.t - p.f) ++ Y, 0) = (p.t - p.f, (Y, 0)) := fun Y => numS_put _ _ (by omega) (by omega)
  have n6 : ∀ Y, numS (V.vput (goneI p.g) ++ Y, 0) = (goneI p.g, (Y, 0)) := fun Y => numS_put _ _ (by omega) (by omega)
  unfold s5B s4B s3B s2B s1B s0B
  simp only [n0, t0, n1, n2, n3, n4, n5, n6, and_self]
theorem fb_bytes : ∀ (l : List Vr) (f : Nat) (c : Nat) (key : ByteArray), l.length ≤ f → (∀ p ∈ l, mayV p = true) → key.size ≤ 92 → fb f ((c + l.length : Nat) : Int) c key (bytesW key l, 0) = true
  | [], f, c, key, _, _, _ => fb_stop (by simp)
  | p :: l, f, c, key, hf, hm, hk => by
    obtain ⟨f', rfl⟩ : ∃ f', f = f' + 1 := ⟨f - 1, by simp only [List.length_cons] at hf; omega⟩
    rw [fb_go rfl (by simp only [List.length_cons]; omega), bytesW, oneB_bytes key p _ (hm p List.mem_cons_self) hk]
    have ih := fb_bytes l f' (c + 1) p.k (by simp only [List.length_cons] at hf; omega) (fun q hq => hm q (List.mem_cons_of_mem _ hq)) (C.key_le (hm p List.mem_cons_self))
    rw [show (c + 1 + l.length : Nat) = c + (p :: l).length by simp only [List.length_cons]; omega] at ih
    obtain ⟨h1, h2⟩ := fine_bytes key p (bytesW p.k l) (hm p List.mem_cons_self) hk
    have h3 := comS_le key p.k
    have h4 : goneI p.g ≤ 1 := by cases p.g <;> simp [goneI]
    rw [h1, h2, ih, decide_eq_true (by omega), decide_eq_true h4]
    rfl
theorem fbAll_block (l : List Vr) (h : mayBl l = true) : fbAll (blockB l) = true := by
  obtain ⟨h1, h2, h3⟩ := mayBl_all h
  have hn : numS (blockB l, 0) = ((l.length : Int), (bytesW { data := #[] } l, 0)) := numS_put _ _ (by omega) (by omega)
  have hp := bytesW_pos l { data := #[] }
  unfold fbAll
  rw [hn]
  have := fb_bytes l ((blockB l).length + 2) 0 { data := #[] } (by unfold blockB; rw [List.length_append]; omega) h1 (by decide)
  rw [Nat.zero_add] at this
  exact this
theorem read_fine (bs : List Int) : readB bs = if (rbAll bs).2.2 ≠ 0 then ([], (rbAll bs).2.2) else if fbAll bs && (mayBl (rbAll bs).1 && decide (blockB (rbAll bs).1 = bs)) then ((rbAll bs).1, 0) else ([], 2) := by
  unfold readB
  by_cases h0 : (rbAll bs).2.2 ≠ 0
  · rw [if_pos h0, if_pos h0]
  · rw [if_neg h0, if_neg h0]
    cases h1 : (mayBl (rbAll bs).1 && decide (blockB (rbAll bs).1 = bs)) with
    | false => rw [Bool.and_false]
    | true =>
      rw [Bool.and_eq_true, decide_eq_true_eq] at h1
      have h2 := fbAll_block _ h1.1
      rw [h1.2] at h2
      rw [h2]
      rfl
def QE (A : Option Addr) (N c : Nat) (F : List Int) (w w0 : World) (g y : Nat) (u : Value) (out : List Vr) (W : World) (s : St) : Prop := RR w0 g A N c F s W ∧ KVr.R 28 W (g + 1) (fun k => k < y) u out ∧ Below w.heap.size w W
def QF (A : Option Addr) (N c : Nat) (F : List Int) (w w0 : World) (g y : Nat) (u : Value) (out : List Vr) (W : World) (s : St) (p : Vr) : Prop := QE A N c F w w0 g y u out W s ∧ W.heap[y]? = some (vrB p)
section
variable {A : Option Addr} {N c : Nat} {F : List Int} {w w0 : World} {g y : Nat} {u : Value} {out : List Vr} {W W1 : World} {s s1 : St} {p p' : Vr}
theorem QE_rs (h : QE A N c F w w0 g y u out W s) : RR w0 g A N c F s W := h.1
theorem QF_rs (h : QF A N c F w w0 g y u out W s p) : RR w0 g A N c F s W := h.1.1
theorem QF_x (h : QF A N c F w w0 g y u out W s p) : W.heap[y]? = some (vrB p) := h.2
theorem QE_num (h : QE A N c F w w0 g y u out W s) (h0 : w.heap.size ≤ g) (hR : RR w0 g A N c F s1 W1) (hg : W.grownBy W1 (some g)) : QE A N c F w w0 g y u out W1 s1 :=
  ⟨hR, Kd.R_mono (Kd.R_move (Kd.R_bound h.2.1) (fun k hk => hg.block k hk.2.2.1 (fun he => by injection he with he; have := hk.2.1; omega))) (fun _ hk => hk.1), h.2.2.grown hg h.2.2.size (fun k e => by cases e; exact h0)⟩
theorem QF_num (h : QF A N c F w w0 g y u out W s p) (h0 : w.heap.size ≤ g) (hy : g < y) (hR : RR w0 g A N c F s1 W1) (hg : W.grownBy W1 (some g)) : QF A N c F w w0 g y u out W1 s1 p :=
  ⟨QE_num h.1 h0 hR hg, blk_grown h.2 hg (by intro e; injection e with e; omega)⟩
theorem QE_below (h : QE A N c F w w0 g y u out W s) (hb : Below W.heap.size W W1) : QE A N c F w w0 g y u out W1 s := ⟨RR_below h.1 hb, Kd.R_below h.2.1 hb, below_step h.2.2 hb⟩
theorem QF_below (h : QF A N c F w w0 g y u out W s p) (hb : Below W.heap.size W W1) : QF A N c F w w0 g y u out W1 s p := ⟨QE_below h.1 hb, box_keep h.2 hb⟩
theorem QF_belowN (h : QF A N c F w w0 g y u out W s p) (h0 : w.heap.size ≤ g) (h00 : w0.heap.size ≤ g) (hy : g < y) (hb : Below (y + 1) W W1) : QF A N c F w w0 g y u out W1 s p := by
  obtain ⟨⟨⟨⟨I, h1, h2⟩, h3⟩, h4, h5⟩, h6⟩ := h
  exact ⟨⟨⟨⟨I, (hb.block _ (by omega)).trans h1, h2⟩, h3.trans (hb.mono (by omega))⟩, Kd.R_move h4 (fun k hk => hb.block k (by omega)), h5.trans (hb.mono (by omega))⟩, (hb.block _ (by omega)).trans h6⟩
theorem QF_set (h : QF A N c F w w0 g y u out W s p) (h0 : w.heap.size ≤ g) (h00 : w0.heap.size ≤ g) (hy : g < y) (j : Nat) (v : Value)
    (e : (#[.string p.k, .int .i64 p.br, .int .i64 p.ep, .int .i64 p.sq, .int .i64 p.f, .int .i64 p.t, .string p.v, .bool p.g] : Array Value).setIfInBounds j v = #[.string p'.k, .int .i64 p'.br, .int .i64 p'.ep, .int .i64 p'.sq, .int .i64 p'.f, .int .i64 p'.t, .string p'.v, .bool p'.g]) : QF A N c F w w0 g y u out (W.setCell ⟨y, j, none⟩ v) s p' :=
  ⟨⟨RR_set h.1.1 (by omega) (by omega) j v, Kd.R_move h.1.2.1 (fun k hk => Below.heap_setCell _ _ v k (fun e => by simp only at e; omega)), h.1.2.2.setCell (p := ⟨y, j, none⟩) (by show w.heap.size ≤ y; omega) _⟩, blk_put h.2 j v e⟩
theorem QF_app {v1 : Value} {l1 : List Vr} (h : QF A N c F w w0 g y u out W s p) (h00 : w0.heap.size ≤ g) (hgy : g < W.heap.size) (hb : Below (g + 1) W W1) (hg : W.grownBy W1 u.ownBlock) (hO : OVr W1 (g + 1) v1 l1) (h0 : w.heap.size ≤ g) : QE A N c F w w0 g W1.heap.size v1 l1 W1 s ∧ W1.heap[y]? = some (vrB p) := by
  refine ⟨⟨?_, Kd.R_mono (Kd.R_bound hO) (fun k hk => hk.2.2.1), h.1.2.2.trans (hb.mono (by omega))⟩, ?_⟩
  · obtain ⟨⟨I, h1, h2⟩, h3⟩ := h.1.1
    exact ⟨⟨I, (hb.block _ (by omega)).trans h1, h2⟩, h3.trans (hb.mono (by omega))⟩
  · refine (hg.block _ (blk_lt h.2) (fun e => ?_)).trans h.2
    have := h.1.2.1.1 y e.symm
    omega
end
def S6 (W : World) (ad : Addr) (a1 a2 a3 a4 a5 a6 : Int) : Prop := W.cell? ad = some (.int .i64 a1) ∧ W.cell? ⟨ad.block, ad.off + 1, none⟩ = some (.int .i64 a2) ∧ W.cell? ⟨ad.block, ad.off + 2, none⟩ = some (.int .i64 a3) ∧ W.cell? ⟨ad.block, ad.off + 3, none⟩ = some (.int .i64 a4) ∧ W.cell? ⟨ad.block, ad.off + 4, none⟩ = some (.int .i64 a5) ∧ W.cell? ⟨ad.block, ad.off + 5, none⟩ = some (.int .i64 a6)
theorem S6_drew {W : World} {ad : Addr} {a1 a2 a3 a4 a5 a6 : Int} (h : S6 W ad a1 a2 a3 a4 a5 a6) : S6 W.drew ad a1 a2 a3 a4 a5 a6 := h
theorem S6_set {W : World} {ad : Addr} {a1 a2 a3 a4 a5 a6 : Int} (h : S6 W ad a1 a2 a3 a4 a5 a6) {y : Nat} (hy : ad.block ≠ y) (j : Nat) (v : Value) : S6 (W.setCell ⟨y, j, none⟩ v) ad a1 a2 a3 a4 a5 a6 := by
  obtain ⟨x0, x1, x2, x3, x4, x5⟩ := h
  refine ⟨?_, ?_, ?_, ?_, ?_, ?_⟩
  all_goals rw [World.cell?_setCell_other _ _ _ _ (by intro e; exact hy (congrArg Addr.block e).symm)]
  all_goals assumption
def QZ (A : Option Addr) (n c : Nat) (bs : List Int) (w : World) (g : Nat) (v : Value) (out : List Vr) (W : World) : Prop := U8.C W A n bs ∧ OVr W (g + 1) v out ∧ Below w.heap.size w W
theorem QZ_below {A : Option Addr} {n c : Nat} {bs : List Int} {w : World} {g : Nat} {v : Value} {out : List Vr} {W W1 : World} (h : QZ A n c bs w g v out W) (hb : Below W.heap.size W W1) : QZ A n c bs w g v out W1 := ⟨Kd.C_below h.1 hb, Kd.R_below h.2.1 hb, below_step h.2.2 hb⟩
theorem QZ_S {A : Option Addr} {n c : Nat} {bs : List Int} {w : World} {g : Nat} {v : Value} {out : List Vr} {W : World} (h : QZ A n c bs w g v out W) : (convert 31 9 (.slice A n c)).run Try.prog W = .ok (.string (strOfNums bs)) W ∧ Aside0 (QZ A n c bs w g v out W) := ⟨C_string' h.1, ⟨h⟩⟩
theorem QZ_o {A : Option Addr} {n c : Nat} {bs : List Int} {w : World} {g : Nat} {v : Value} {out : List Vr} {W : World} (h : QZ A n c bs w g v out W) : OVr W (g + 1) v out := h.2.1
theorem QZ_b {A : Option Addr} {n c : Nat} {bs : List Int} {w : World} {g : Nat} {v : Value} {out : List Vr} {W : World} (h : QZ A n c bs w g v out W) : Below w.heap.size w W := h.2.2
end Go.Proofs.Ytmfnbkghfmeekaa.A
