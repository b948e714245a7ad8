/- GBack -/
import Derived.Test.YtmfnbkghfmeekaaZGRun
namespace Go.Proofs.Ytmfnbkghfmeekaa.A
open Go.RowKit Go.Proofs.YtmfnbkghfmeekaaW.PrintWords Go.Proofs.YtmfnbkghfmeekaaW.PrintLast Go.Proofs.YtmfnbkghfmeekaaW.PrintMore
open R C
set_option linter.unusedVariables false
set_option linter.unusedSimpArgs false
theorem okF_nil : F.okF [] = false := by
  cases h : F.okF [] with
  | false => rfl
  | true =>
    have h1 := F.rest_len (l := []) (fun x hx => nomatch hx) h
    simp at h1
def allB (l : List Vr) : List (List Int) := (pcs l).map blockB ++ [fenB (pcs l), footB l (pcs l)]
theorem run_frames (l : List Vr) : runB l = (allB l).flatMap F.frame := by
  unfold allB runB bldB
  rw [List.flatMap_append, List.flatMap_map, List.flatMap_cons, List.flatMap_cons, List.flatMap_nil, List.append_nil]
theorem fen_len {l : List Vr} (h : IsR l) (hl : l.length ≤ 5000) : (fenB (pcs l)).length ≤ 9 + 102 * (pcs l).length := by
  have h1 := keyB_len (pcs_may h)
  have h2 := pcs_len l
  have h3 := V.vput_le ((pcs l).length : Int) (by omega)
  unfold fenB
  rw [List.length_append]
  omega
theorem foot_len {l : List Vr} (h : IsR l) (hl : l.length ≤ 5000) : (footB l (pcs l)).length ≤ 27 := by
  have h1 := bldB_len (pcs_may h)
  have h2 := pcs_len l
  have h3 := V.vput_le ((pcs l).length : Int) (by omega)
  have h4 := V.vput_le (l.length : Int) (by omega)
  have h5 := V.vput_le ((bldB (pcs l)).length : Int) (by omega)
  unfold footB
  simp only [List.flatMap_cons, List.flatMap_nil, List.length_append, List.length_nil]
  omega
theorem all_small {l : List Vr} (h : IsR l) (hl : l.length ≤ 5000) : ∀ x ∈ allB l, x.length < 4294967296 := fun x hx => by
  have h2 := pcs_len l
  unfold allB at hx
  rcases List.mem_append.1 hx with hx | hx
  · obtain ⟨c, hc, rfl⟩ := List.mem_map.1 hx
    have := blockB_len c (pcs_may h c hc)
    omega
  · have h3 := fen_len h hl
    have h4 := foot_len h hl
    simp only [List.mem_cons, List.not_mem_nil, or_false] at hx
    rcases hx with rfl | rfl
    · omega
    · omega
theorem run_frs {l : List Vr} (h : IsR l) (hl : l.length ≤ 5000) : F.frs ((runB l).length + 1) (runB l) = allB l := by
  have h1 := F.frs_frames (allB l) [] (runB l).length (all_small h hl) okF_nil (by
    have h2 := F.frs_len (allB l)
    rw [F.frn_flat, ← run_frames] at h2
    omega)
  rwa [List.append_nil, ← run_frames] at h1
theorem blks_run {l : List Vr} (h : IsR l) (hl : l.length ≤ 5000) : blksB (runB l) = (pcs l).map blockB := by
  unfold blksB
  rw [run_frs h hl]
  unfold allB
  rw [List.length_append, show ([fenB (pcs l), footB l (pcs l)] : List (List Int)).length = 2 from rfl, Nat.add_sub_cancel, List.take_left]
theorem cs_run {l : List Vr} (h : IsR l) : csB ((pcs l).map blockB) = pcs l := by
  unfold csB
  rw [List.map_map]
  conv => rhs; rw [← List.map_id (pcs l)]
  refine List.map_congr_left fun c hc => ?_
  show (readB (blockB c)).1 = c
  rw [readB_block c (pcs_may h c hc)]
theorem open_run {l : List Vr} (h : IsR l) (hl : l.length ≤ 5000) : openB (runB l) = some (pcs l) := by
  have hb := blks_run h hl
  have h1 : fitB (runB l) = true := by
    unfold fitB
    rw [run_frs h hl, F.frn_flat, ← run_frames, Bool.and_eq_true, decide_eq_true_eq, decide_eq_true_eq]
    refine ⟨rfl, ?_⟩
    unfold allB
    rw [List.length_append]
    exact Nat.le_add_left _ _
  have h2 : okBs (blksB (runB l)) = true := by
    rw [hb]
    unfold okBs
    rw [List.all_eq_true]
    intro x hx
    obtain ⟨c, hc, rfl⟩ := List.mem_map.1 hx
    rw [readB_block c (pcs_may h c hc)]
    exact decide_eq_true rfl
  have h3 : goodB (runB l) = true := by
    unfold goodB
    rw [hb, cs_run h, pcs_flat, (okN_iff l).2 h]
    exact decide_eq_true rfl
  unfold openB
  rw [h1, h2, h3, hb, cs_run h]
  rfl
theorem run_len {l : List Vr} (h : IsR l) (hl : l.length ≤ 5000) (k : Nat) (hk : l.length ≤ 8 * k) : (runB l).length ≤ 4110 * k + 52 := by
  have hp : (pcs l).length ≤ k := by
    rcases Nat.lt_or_ge k (pcs l).length with h1 | h1
    · have := ((chk_at l.length l k (Nat.le_refl _)).1.1 h1)
      omega
    · exact h1
  have h1 := bldB_len (pcs_may h)
  have h2 := fen_len h hl
  have h3 := foot_len h hl
  unfold runB
  rw [List.length_append, List.length_append, F.frame_len, F.frame_len]
  omega
theorem run_pos (l : List Vr) : 16 ≤ (runB l).length := by
  unfold runB
  rw [List.length_append, List.length_append, F.frame_len, F.frame_len]
  omega
theorem open_some {b : List Int} {cs : List (List Vr)} (hby : ∀ x ∈ b, 0 ≤ x ∧ x ≤ 255) (h : openB b = some cs) : (∀ c ∈ cs, mayBl c = true) ∧ IsR cs.flatten ∧ 9 * cs.flatten.length ≤ b.length ∧ runB cs.flatten = b := by
  unfold openB at h
  split at h
  · rename_i h1
    rw [Bool.and_eq_true, Bool.and_eq_true] at h1
    obtain ⟨h2, h3, h4⟩ := h1
    injection h with h
    subst h
    unfold goodB at h4
    rw [Bool.and_eq_true, decide_eq_true_eq] at h4
    refine ⟨cs_may h3, (okN_iff _).1 h4.1, ?_, h4.2⟩
    have h5 := rows_le _ h3
    have h6 := frn_take (F.frs (b.length + 1) b) ((F.frs (b.length + 1) b).length - 2)
    have h7 := F.frn_frs (b.length + 1) b hby
    unfold blksB at h5 ⊢
    omega
  · cases h
theorem runB_range (l : List Vr) : ∀ x ∈ runB l, 0 ≤ x ∧ x ≤ 255 := by
  rw [run_frames]
  intro x hx
  obtain ⟨y, hy, hx⟩ := List.mem_flatMap.1 hx
  refine F.frame_range y ?_ x hx
  unfold allB at hy
  rcases List.mem_append.1 hy with hy | hy
  · obtain ⟨c, _, rfl⟩ := List.mem_map.1 hy
    exact blockB_range c
  · simp only [List.mem_cons, List.not_mem_nil, or_false] at hy
    rcases hy with rfl | rfl
    · exact fenB_range _
    · exact footB_range _ _
theorem RnG_open {w : World} {r : Nat} {b : List Int} {cs : List (List Vr)} (hby : ∀ x ∈ b, 0 ≤ x ∧ x ≤ 255) (hl : b.length ≤ 40000) (h : openB b = some cs) (hr : RnI w r cs) : RnG w r cs := by
  obtain ⟨h1, h2, h3, _⟩ := open_some hby h
  exact ⟨hr, h1, h2.2, by omega⟩
end Go.Proofs.Ytmfnbkghfmeekaa.A
