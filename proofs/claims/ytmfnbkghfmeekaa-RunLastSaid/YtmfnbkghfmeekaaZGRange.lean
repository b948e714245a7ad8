/- GRange -/
import Derived.Test.YtmfnbkghfmeekaaZIRange
namespace Go.Proofs.Ytmfnbkghfmeekaa.A
open Go Go.RowKit Go.Proofs.YtmfnbkghfmeekaaW.PrintWords Go.Proofs.YtmfnbkghfmeekaaW.PrintLast Go.Proofs.YtmfnbkghfmeekaaW.PrintMore
set_option linter.unusedVariables false
set_option linter.unusedSimpArgs false
def Itr2 {α : Type} (P : Program) (g : Nat) (lb : Array Value) (encs : α → Array Value) (St Kp : World → World → Prop) (Ok : List α → α → World → World → Prop) (S Sp : List α → Prop) (w : World) : Prop :=
  ∀ (l : Nat) (J Jx : List α → World → Prop) (W : World), Kp w W → w.heap.size + 2 ≤ W.heap.size → (∀ s A B, J s A → St A B → J s B) → (∀ s A B, Jx s A → St A B → Jx s B) →
    (∀ pre x V0 W1, J pre V0 → J pre W1 → Ok pre x V0 W1 → YieldAt Fence.wide 0 P l (encs x) W1 fun e W' =>
      (e = .returned (.bool true) ∧ J (pre ++ [x]) W' ∧ Kp W1 W') ∨ (e = .returned (.bool false) ∧ Jx (pre ++ [x]) W')) →
    J [] W →
    CallsIn Fence.wide 0 P g (#[.func (.yield l) #[] #[]] ++ lb) W fun e W' => (∃ v, e = .returned v) ∧ ((∃ xs, S xs ∧ J xs W') ∨ (∃ pre, Sp pre ∧ Jx pre W'))
theorem range_itr2 {α : Type} {P : Program} {g : Operand} {ps : Array Tmp} {assign body : Code} {Q : Exit → Act → World → Prop} {a : Act} {w : World}
    {gf : Nat} {lb : Array Value} (hg : a.eval g = .func (.func gf) #[] lb) (eg : ∀ args w, (callFunc gf args).run P w = .ok (.enter gf args) w)
    {encs : α → Array Value} {St Kp : World → World → Prop} {Ok : List α → α → World → World → Prop} {S Sp : List α → Prop} (hseq : Itr2 P gf lb encs St Kp Ok S Sp w)
    (hSt : ∀ A B, St A B → ∀ k, w.heap.size ≤ k → k < A.heap.size → B.heap[k]? = A.heap[k]?)
    (hKt : ∀ {A B C : World}, Kp A B → Kp B C → Kp A C) (hKf : ∀ A B row, w.heap.size ≤ A.heap.size → A.grownBy B row → (∀ k, row = some k → w.heap.size ≤ k ∧ k < w.heap.size + 2) → Kp A B)
    (hps : ∀ x, (encs x).size = ps.size)
    (I : List α → World → Prop) (Ix : Code → List α → World → Prop) (hI : Abide w.heap.size I) (hIx : ∀ c, Abide w.heap.size (Ix c)) (hIs : ∀ s A B, I s A → St A B → I s B) (hIxs : ∀ c s A B, Ix c s A → St A B → Ix c s B)
    (hOk : ∀ pre x V0, Abide w.heap.size (fun (_ : Unit) W => Ok pre x V0 W)) (h0 : I [] w) (a₁ : α → Act)
    (hassign : ∀ (l : Nat) (x : α) (W : World) (K : Act → World → Prop), K (a₁ x) W →
      assign.wpIn (Fence.wide.inRound l) 0 P (Exit.then K (fun _ _ _ => False)) { tmps := (ps.zip (encs x)).foldl (fun t (p, v) => t.setIfInBounds p v) a.tmps, defers := [] } W)
    (hbody : ∀ (l : Nat) (pre : List α) (x : α) (V0 W : World), w.heap.size + 2 ≤ W.heap.size → I pre V0 → I pre W → Ok pre x V0 W → body.wpIn (Fence.wide.inRound l) 0 P (rndPost w.heap.size Kp I Ix (pre ++ [x]) W) (a₁ x) W)
    (hdone : ∀ (xs : List α) (W : World), S xs → I xs W → W.heap[w.heap.size]? = some (.deferred (some [])) → Q .normal { a with defers := { target := .collected w.heap.size, args := #[] } :: a.defers } W)
    (hstop : ∀ (c : Code) (pre : List α) (W : World), Sp pre → Ix c pre W → W.heap[w.heap.size]? = some (.deferred (some [])) → c.wpIn Fence.wide 0 P Q { a with defers := { target := .collected w.heap.size, args := #[] } :: a.defers } W) :
    (Code.rangeFunc g ps assign body).wpIn Fence.wide 0 P Q a w := by
  refine wpIn_rangeFunc fun fn hfn => ?_
  obtain ⟨d, hd⟩ : ∃ d, w.heap.size = d := ⟨_, rfl⟩
  obtain ⟨rec, hrec⟩ : ∃ rec : LoopState → Option Code → Loop, rec = fun st pe => { state := st, pending := pe, fn, tmps := a.tmps, params := ps, assign, body, defers := d } := ⟨_, rfl⟩
  obtain ⟨W0, hW0⟩ : ∃ W0, w.alloc (.deferred (some [])) = W0 := ⟨_, rfl⟩
  obtain ⟨W1, hW1⟩ : ∃ W1, W0.alloc (.loop (rec .ready none)) = W1 := ⟨_, rfl⟩
  have hs0 : W0.heap.size = d + 1 := by rw [← hW0, World.size_alloc, hd]
  have hs1 : W1.heap.size = d + 2 := by rw [← hW1, World.size_alloc, hs0]
  have hL1 : W1.heap[d + 1]? = some (.loop (rec .ready none)) := by
    have h := World.alloc_heap_new W0 (.loop (rec .ready none))
    rw [hs0, hW1] at h
    exact h
  have hD1 : W1.heap[d]? = some (.deferred (some [])) := by
    rw [← hW1]
    refine (Below.heap_alloc W0 _ d (by omega)).trans ?_
    have h := World.alloc_heap_new w (.deferred (some []))
    rw [hd, hW0] at h
    exact h
  have g0 : w.grownBy W0 none := by rw [← hW0]; exact World.grownBy_alloc w _ none
  have g1 : W0.grownBy W1 none := by rw [← hW1]; exact World.grownBy_alloc W0 _ none
  have hI1 : I [] W1 := hI _ _ _ none (hI _ _ _ none h0 g0 (fun r e => by cases e)) g1 (fun r e => by cases e)
  have hK1 : Kp w W1 := hKt (hKf _ _ none (Nat.le_refl _) g0 (fun r e => by cases e)) (hKf _ _ none (by omega) g1 (fun r e => by cases e))
  have hrun : (Instr.enterLoop fn a.tmps ps assign body Fence.wide.round).run P w = .ok (d + 1, [{ target := .collected d, args := #[] }]) W1 := by
    have h := run_enterLoop_outer (P := P) (w := w) fn a.tmps ps assign body
    rw [← hW1, ← hW0, hrec, ← hd]
    exact h
  refine ⟨d + 1, [{ target := .collected d, args := #[] }], W1, { target := .fn (.func gf) lb, args := #[.func (.yield (d + 1)) #[] #[]] }, W1, gf, #[.func (.yield (d + 1)) #[] #[]] ++ lb, W1, hrun, ?_, ?_, ?_, fun h => by simp [Fence.wide] at h, ?_⟩
  · simp only [resolve, hg]
    simp [go_sem]
  · intro f' hf'; trivial
  · simp [invoke, go_sem, eg]
  · refine (hseq (d + 1)
      (fun pre W => I pre W ∧ W.heap[d + 1]? = some (.loop (rec .ready none)) ∧ W.heap[d]? = some (.deferred (some [])))
      (fun pre W => ∃ c, Ix c pre W ∧ W.heap[d + 1]? = some (.loop (rec .done (some c))) ∧ W.heap[d]? = some (.deferred (some [])))
      W1 hK1 (by omega) ?_ ?_ ?_ ⟨hI1, hL1, hD1⟩).mono ?_
    · rintro s A B ⟨h1, h2, h3⟩ hst
      exact ⟨hIs _ _ _ h1 hst, (hSt A B hst _ (by omega) (Array.getElem?_eq_some_iff.1 h2).1).trans h2, (hSt A B hst _ (by omega) (Array.getElem?_eq_some_iff.1 h3).1).trans h3⟩
    · rintro s A B ⟨c, h1, h2, h3⟩ hst
      exact ⟨c, hIxs _ _ _ _ h1 hst, (hSt A B hst _ (by omega) (Array.getElem?_eq_some_iff.1 h2).1).trans h2, (hSt A B hst _ (by omega) (Array.getElem?_eq_some_iff.1 h3).1).trans h3⟩
    · rintro pre x V0 W ⟨hi0, -, -⟩ ⟨hi, hl, hk⟩ hok
      have hlt : d + 1 < W.heap.size := (Array.getElem?_eq_some_iff.1 hl).1
      have hy := run_yield (P := P) (args := encs x) hl (by rw [hrec]; exact hps x)
      rw [hrec] at hy
      obtain ⟨busy, hbusy⟩ : ∃ busy : Loop, busy = { rec .ready none with state := .busy } := ⟨_, rfl⟩
      obtain ⟨Wb, hWb⟩ : ∃ Wb, W.putObj (d + 1) (.loop busy) = Wb := ⟨_, rfl⟩
      have hl2 : Wb.heap[d + 1]? = some (.loop busy) := by rw [← hWb]; exact World.putObj_heap_same hlt
      have hk2 : Wb.heap[d]? = some (.deferred (some [])) := by rw [← hWb]; exact (World.putObj_heap_other (by omega)).trans hk
      have gb : W.grownBy Wb (some (d + 1)) := by rw [← hWb]; exact grownBy_putObj' W _ _
      have rb : ∀ r, some (d + 1) = some r → w.heap.size ≤ r ∧ r < w.heap.size + 2 := fun r e => by cases e; omega
      refine ⟨fn, _, assign, body, hy, roundIn_of_wpIn hfn (hassign _ x W _ ⟨Wb, ?_, ?_⟩)⟩
      · rw [← hWb, hbusy]
        exact run_beginRound hl (by rw [hrec])
      have hszb : w.heap.size + 2 ≤ Wb.heap.size := by have := gb.size; omega
      refine wpIn_mono (hbody _ pre x V0 Wb hszb hi0 (hI _ _ _ _ hi gb rb) (hOk pre x V0 () _ _ _ hok gb rb)) ?_
      have hKb : Kp W Wb := hKf _ _ _ (by omega) gb rb
      have fin : ∀ (jump : Option Code) (W3 : World), Keep2 w.heap.size Wb W3 → ∃ W4, (Instr.endRound (d + 1) jump).run P W3 = .ok (.bool jump.isNone) W4 ∧ W3.grownBy W4 (some (d + 1)) ∧ W3.heap[d + 1]? = some (.loop busy) ∧
          W4.heap[d + 1]? = some (.loop (rec (if jump.isNone then .ready else .done) jump)) ∧ W4.heap[d]? = some (.deferred (some [])) := by
        intro jump W3 hk3
        have hl3 := (hk3 (d + 1) (by omega) (by omega)).trans hl2
        have h := run_endRound (P := P) jump hl3
        refine ⟨_, h, grownBy_putObj' W3 _ _, hl3, ?_, (World.putObj_heap_other (by omega)).trans ((hk3 d (by omega) (by omega)).trans hk2)⟩
        rw [hbusy, hrec]
        exact World.putObj_heap_same (Array.getElem?_eq_some_iff.1 hl3).1
      rintro e a3 W3 hp
      cases e with
      | normal =>
        obtain ⟨hk3, hkp3, hi3⟩ := hp
        obtain ⟨W4, hr, hg4, hb4, hl4, hd4⟩ := fin none W3 hk3
        exact ⟨_, _, hr, .inl ⟨rfl, ⟨hI _ _ _ _ hi3 hg4 rb, hl4, hd4⟩, hKt hKb (hKt hkp3 (hKf _ _ _ (by have := (Array.getElem?_eq_some_iff.1 hb4).1; omega) hg4 rb))⟩⟩
      | ret =>
        obtain ⟨hk3, hi3⟩ := hp
        obtain ⟨W4, hr, hg4, hb4, hl4, hd4⟩ := fin (some .ret) W3 hk3
        exact ⟨_, _, hr, .inr ⟨rfl, .ret, hIx _ _ _ _ _ hi3 hg4 rb, hl4, hd4⟩⟩
      | exit id =>
        obtain ⟨hk3, hi3⟩ := hp
        obtain ⟨W4, hr, hg4, hb4, hl4, hd4⟩ := fin (some (.exit id)) W3 hk3
        exact ⟨_, _, hr, .inr ⟨rfl, .exit id, hIx _ _ _ _ _ hi3 hg4 rb, hl4, hd4⟩⟩
      | goto t =>
        obtain ⟨hk3, hi3⟩ := hp
        obtain ⟨W4, hr, hg4, hb4, hl4, hd4⟩ := fin (some (.goto t)) W3 hk3
        exact ⟨_, _, hr, .inr ⟨rfl, .goto t, hIx _ _ _ _ _ hi3 hg4 rb, hl4, hd4⟩⟩
      | panic ch => exact hp.elim
      | outgrown => exact hp.elim
    · rintro e W2 ⟨⟨v, rfl⟩, (⟨xs, hS, hi, hl, hk⟩ | ⟨pre, hSp, c, hi, hl, hk⟩)⟩
      · have h := run_endLoop (P := P) hl (by rw [hrec]; simp)
        have hg4 := grownBy_putObj' W2 (d + 1) (.loop { rec .ready none with state := .exhausted })
        refine ⟨none, _, ?_, by have h7 := hdone xs _ hS (hI _ _ _ _ hi hg4 (fun r e => by cases e; omega)) ((World.putObj_heap_other (by omega)).trans (by rw [hd]; exact hk)); rw [hd] at h7; exact h7⟩
        rw [h, hrec]
      · have h := run_endLoop (P := P) hl (by rw [hrec]; simp)
        have hg4 := grownBy_putObj' W2 (d + 1) (.loop { rec .done (some c) with state := .exhausted })
        refine ⟨some c, _, ?_, by have h7 := hstop c pre _ hSp (hIx c _ _ _ _ hi hg4 (fun r e => by cases e; omega)) ((World.putObj_heap_other (by omega)).trans (by rw [hd]; exact hk)); rw [hd] at h7; exact h7⟩
        rw [h, hrec]
end Go.Proofs.Ytmfnbkghfmeekaa.A
