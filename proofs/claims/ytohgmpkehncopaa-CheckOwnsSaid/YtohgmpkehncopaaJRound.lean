/- Frames behind one another, and a frame that ends too soon behind them: what is read. -/
import Derived.Test.YtohgmpkehncopaaJLawFrames
import Derived.Test.YtohgmpkehncopaaAFlip
namespace Go.Proofs.Ytohgmpkehncopaa.A
open Go.RowKit Go.Proofs.YtohgmpkehncopaaW.PrintWords Go.Proofs.YtohgmpkehncopaaW.PrintLast Go.Proofs.YtohgmpkehncopaaW.PrintMore
set_option linter.unusedVariables false
set_option linter.unusedSimpArgs false

theorem headed_app (n s : Int) (y r : List Int) : headed n s y ++ r = headed n s (y ++ r) := by simp [headed]
theorem headed_drop8 (n s : Int) (y : List Int) : (headed n s y).drop 8 = y := by simp [headed, le4]
theorem frame_num (x r : List Int) (hx : x.length < 4294967296) : num4 (frame x ++ r) = x.length := by
  rw [frame_headed, headed_app]
  exact num4_headed _ _ _ (by omega) (by omega)
theorem ownOf_frame (x r : List Int) (hx : x.length < 4294967296) : ownOf (frame x ++ r) = x := by
  unfold ownOf
  rw [frame_num x r hx, show ((8 : Int) + (x.length : Int)).toNat = (frame x).length by rw [frame_len]; omega, List.take_left, frame_headed, headed_drop8]
theorem restOf_frame (x r : List Int) (hx : x.length < 4294967296) : restOf (frame x ++ r) = r := by
  unfold restOf
  rw [frame_num x r hx, show ((8 : Int) + (x.length : Int)).toNat = (frame x).length by rw [frame_len]; omega, List.drop_left]
theorem okF_frame (x r : List Int) (hx : x.length < 4294967296) : okF (frame x ++ r) = true := by
  rw [okF_iff, ownOf_frame x r hx]
  refine ⟨?_, ?_⟩
  · unfold Short
    rw [frame_num x r hx, List.length_append, frame_len]
    omega
  · obtain ⟨h1, h2⟩ := sum_range x
    rw [frame_headed, headed_app, num4_headed4 _ _ _ h1 h2]
theorem getD_take (l : List Int) (k i : Nat) (h : i < k) : (l.take k).getD i 0 = l.getD i 0 := by
  rw [List.getD_eq_getElem?_getD, List.getD_eq_getElem?_getD, List.getElem?_take, if_pos h]
theorem okF_cut (x : List Int) (k : Nat) (hx : x.length < 4294967296) (hk : k < (frame x).length) : okF ((frame x).take k) = false := by
  cases h : okF ((frame x).take k) with
  | false => rfl
  | true =>
    exfalso
    refine ((okF_iff _).1 h).1 ?_
    unfold Short
    have hl : ((frame x).take k).length = k := by rw [List.length_take]; omega
    rw [hl]
    by_cases h8 : k < 8
    · exact .inl h8
    · refine .inr ?_
      have e : num4 ((frame x).take k) = num4 (frame x) := by
        unfold num4
        rw [getD_take _ k 0 (by omega), getD_take _ k 1 (by omega), getD_take _ k 2 (by omega), getD_take _ k 3 (by omega)]
      have e2 := frame_num x [] hx
      rw [List.append_nil] at e2
      rw [e, e2]
      rw [frame_len] at hk
      omega
theorem frs_frames : ∀ (ll : List (List Int)) (t : List Int) (f : Nat), (∀ x ∈ ll, x.length < 4294967296) → okF t = false → ll.length ≤ f → frs (f + 1) (ll.flatMap frame ++ t) = ll
  | [], t, f, _, ht, _ => by rw [List.flatMap_nil, List.nil_append, frs_no ht]
  | x :: ll, t, 0, _, _, hf => by simp at hf
  | x :: ll, t, f + 1, h, ht, hf => by
    rw [List.flatMap_cons, List.append_assoc, frs_yes (okF_frame x _ (h x List.mem_cons_self)), ownOf_frame x _ (h x List.mem_cons_self), restOf_frame x _ (h x List.mem_cons_self),
      frs_frames ll t f (fun y hy => h y (List.mem_cons_of_mem _ hy)) ht (by rw [List.length_cons] at hf; omega)]
theorem frn_flat : ∀ ll : List (List Int), frn ll = (ll.flatMap frame).length
  | [] => rfl
  | x :: ll => by rw [frn_cons, List.flatMap_cons, List.length_append, frame_len, frn_flat ll]
end Go.Proofs.Ytohgmpkehncopaa.A
