/- FFour -/
import Derived.Test.YtmfnbkghfmeekaaZFTwo
import Derived.Test.YtmfnbkghfmeekaaZFThree
namespace Go.Proofs.Ytmfnbkghfmeekaa.A.F
set_option linter.unusedVariables false
set_option linter.unusedSimpArgs false
open Go.RowKit Go.Proofs.YtmfnbkghfmeekaaW.PrintWords Go.Proofs.YtmfnbkghfmeekaaW.PrintLast Go.Proofs.YtmfnbkghfmeekaaW.PrintMore
theorem lit_S1n {W : World} {e te n : Nat} {A : Option Addr} {c : Nat} {x : List Int} (h : U8.C W A n x) (hc : n ≤ c) : (Kd.slice e U8).C (W.alloc (.cells #[.slice A n c] te)) (some ⟨W.heap.size, 0, none⟩) 1 [x] := by
  have hn := h.1
  subst hn
  exact lit_S1 h hc
theorem R_block {α : Type} {d : Kd α} {e : Nat} {W : World} {base n cap : Nat} {A : Option Addr} {ok : Nat → Prop} {xs : List α} (h : d.R e W base ok (.slice A n cap) xs) (hn : 0 < n) : ∃ g, A = some ⟨g, 0, none⟩ ∧ base ≤ g := by
  obtain ⟨_, inner, ho, _⟩ := h
  rcases ho.2 with ⟨h2, _⟩ | ⟨g, cap', cur, h2, hg, _⟩
  · injection h2 with h3 h4
    omega
  · injection h2 with h3 h4
    exact ⟨g, h3, hg⟩
theorem OB_C {W : World} {B n c : Nat} {A : Option Addr} {l : List Int} (h : OB W B (.slice A n c) l) : U8.C W A n l := by
  obtain ⟨A', c', e, _, hC⟩ := OB_read h
  injection e with e1 e2 e3
  subst e1 e2
  exact hC
def headed (n s : Int) (y : List Int) : List Int := le4 n ++ le4 s ++ y
theorem frame_headed (x : List Int) : frame x = headed x.length (sum x) x := rfl
theorem num4_headed (n s : Int) (y : List Int) (h0 : 0 ≤ n) (h1 : n < 4294967296) : num4 (headed n s y) = n := by
  simp only [num4, headed, le4, List.cons_append, List.nil_append, List.getD_cons_zero, List.getD_cons_succ]
  omega
theorem num4_headed4 (n s : Int) (y : List Int) (h0 : 0 ≤ s) (h1 : s < 4294967296) : num4 ((headed n s y).drop 4) = s := by
  simp only [num4, headed, le4, List.cons_append, List.nil_append, List.drop_succ_cons, List.drop_zero, List.getD_cons_zero, List.getD_cons_succ]
  omega
theorem frame_range (x : List Int) (hx : ∀ y ∈ x, 0 ≤ y ∧ y ≤ 255) : ∀ y ∈ frame x, 0 ≤ y ∧ y ≤ 255 := by
  intro y hy
  unfold frame at hy
  rw [List.mem_append, List.mem_append] at hy
  rcases hy with (hy | hy) | hy
  · exact le4_range _ y hy
  · exact le4_range _ y hy
  · exact hx y hy
theorem xor8 (x y : Int) : bits .xor .u8 x y = ((BitVec.ofInt 8 x ^^^ BitVec.ofInt 8 y).toNat : Int) := by
  show IntKind.u8.wrap ((BitVec.ofInt 8 x ^^^ BitVec.ofInt 8 y).toNat : Int) = _
  rw [IntKind.wrap_u8]
  have := (BitVec.ofInt 8 x ^^^ BitVec.ofInt 8 y).isLt
  omega
theorem xor8_range (x y : Int) : 0 ≤ bits .xor .u8 x y ∧ bits .xor .u8 x y ≤ 255 := by
  rw [xor8]
  have := (BitVec.ofInt 8 x ^^^ BitVec.ofInt 8 y).isLt
  omega
theorem xor8_zero (x : Int) (hx : 0 ≤ x ∧ x ≤ 255) : bits .xor .u8 x 0 = x := by
  rw [xor8]
  simp only [show BitVec.ofInt 8 0 = 0#8 from rfl, BitVec.xor_zero, BitVec.toNat_ofInt]
  omega
end Go.Proofs.Ytmfnbkghfmeekaa.A.F
namespace Go.Proofs.Ytmfnbkghfmeekaa.A.F
open Go.RowKit Go.Proofs.YtmfnbkghfmeekaaW.PrintWords Go.Proofs.YtmfnbkghfmeekaaW.PrintLast Go.Proofs.YtmfnbkghfmeekaaW.PrintMore
set_option linter.unusedVariables false
set_option linter.unusedSimpArgs false
end Go.Proofs.Ytmfnbkghfmeekaa.A.F
namespace Go.Proofs.Ytmfnbkghfmeekaa.A.F
open Go.RowKit Go.Proofs.YtmfnbkghfmeekaaW.PrintWords Go.Proofs.YtmfnbkghfmeekaaW.PrintLast Go.Proofs.YtmfnbkghfmeekaaW.PrintMore
set_option linter.unusedVariables false
set_option linter.unusedSimpArgs false
theorem headed_app (n s : Int) (y r : List Int) : headed n s y ++ r = headed n s (y ++ r) := by simp [headed]
theorem headed_drop8 (n s : Int) (y : List Int) : (headed n s y).drop 8 = y := by simp [headed, le4]
theorem frame_num (x r : List Int) (hx : x.length < 4294967296) : num4 (frame x ++ r) = x.length := by
  rw [frame_headed, headed_app]
  exact num4_headed _ _ _ (by omega) (by omega)
theorem ownOf_frame (x r : List Int) (hx : x.length < 4294967296) : ownOf (frame x ++ r) = x := by
  unfold ownOf
  rw [frame_num x r hx, show ((8 : Int) + (x.length : Int)).toNat = (frame x).length by rw [frame_len]; omega, List.take_left, frame_headed, headed_drop8]
theorem restOf_frame (x r : List Int) (hx : x.length < 4294967296) : restOf (frame x ++ r) = r := by
  unfold restOf
  rw [frame_num x r hx, show ((8 : Int) + (x.length : Int)).toNat = (frame x).length by rw [frame_len]; omega, List.drop_left]
theorem okF_frame (x r : List Int) (hx : x.length < 4294967296) : okF (frame x ++ r) = true := by
  rw [okF_iff, ownOf_frame x r hx]
  refine ⟨?_, ?_⟩
  · unfold Short
    rw [frame_num x r hx, List.length_append, frame_len]
    omega
  · obtain ⟨h1, h2⟩ := sum_range x
    rw [frame_headed, headed_app, num4_headed4 _ _ _ h1 h2]
theorem frs_frames : ∀ (ll : List (List Int)) (t : List Int) (f : Nat), (∀ x ∈ ll, x.length < 4294967296) → okF t = false → ll.length ≤ f → frs (f + 1) (ll.flatMap frame ++ t) = ll
  | [], t, f, _, ht, _ => by rw [List.flatMap_nil, List.nil_append, frs_no ht]
  | x :: ll, t, 0, _, _, hf => by simp at hf
  | x :: ll, t, f + 1, h, ht, hf => by
    rw [List.flatMap_cons, List.append_assoc, frs_yes (okF_frame x _ (h x List.mem_cons_self)), ownOf_frame x _ (h x List.mem_cons_self), restOf_frame x _ (h x List.mem_cons_self),
      frs_frames ll t f (fun y hy => h y (List.mem_cons_of_mem _ hy)) ht (by rw [List.length_cons] at hf; omega)]
theorem frn_flat : ∀ ll : List (List Int), frn ll = (ll.flatMap frame).length
  | [] => rfl
  | x :: ll => by rw [frn_cons, List.flatMap_cons, List.length_append, frame_len, frn_flat ll]
end Go.Proofs.Ytmfnbkghfmeekaa.A.F
