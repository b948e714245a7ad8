/- Plain laws of frames: what one frame alone is read as; a body of which one byte is another one has another check sum. -/
import Derived.Test.YtohgmpkehncopaaAOneBoth
namespace Go.Proofs.Ytohgmpkehncopaa.A
set_option linter.unusedVariables false
set_option linter.unusedSimpArgs false
open Go.RowKit Go.Proofs.YtohgmpkehncopaaW.PrintWords Go.Proofs.YtohgmpkehncopaaW.PrintLast Go.Proofs.YtohgmpkehncopaaW.PrintMore

/-- A literal of one slice, its length by a letter. -/
theorem lit_S1n {W : World} {e te n : Nat} {A : Option Addr} {c : Nat} {x : List Int} (h : U8.C W A n x) (hc : n ≤ c) : (Kd.slice e U8).C (W.alloc (.cells #[.slice A n c] te)) (some ⟨W.heap.size, 0, none⟩) 1 [x] := by
  have hn := h.1
  subst hn
  exact lit_S1 h hc

/-- A row of one's own that has something lies in a block that is new. -/
theorem R_block {α : Type} {d : Kd α} {e : Nat} {W : World} {base n cap : Nat} {A : Option Addr} {ok : Nat → Prop} {xs : List α} (h : d.R e W base ok (.slice A n cap) xs) (hn : 0 < n) : ∃ g, A = some ⟨g, 0, none⟩ ∧ base ≤ g := by
  obtain ⟨_, inner, ho, _⟩ := h
  rcases ho.2 with ⟨h2, _⟩ | ⟨g, cap', cur, h2, hg, _⟩
  · injection h2 with h3 h4
    omega
  · injection h2 with h3 h4
    exact ⟨g, h3, hg⟩
theorem OB_C {W : World} {B n c : Nat} {A : Option Addr} {l : List Int} (h : OB W B (.slice A n c) l) : U8.C W A n l := by
  obtain ⟨A', c', e, _, hC⟩ := OB_read h
  injection e with e1 e2 e3
  subst e1 e2
  exact hC
/-- A head of a frame: how long, a sum; a body behind. -/
def headed (n s : Int) (y : List Int) : List Int := le4 n ++ le4 s ++ y
theorem frame_headed (x : List Int) : frame x = headed x.length (sum x) x := rfl
theorem num4_headed (n s : Int) (y : List Int) (h0 : 0 ≤ n) (h1 : n < 4294967296) : num4 (headed n s y) = n := by
  simp only [num4, headed, le4, List.cons_append, List.nil_append, List.getD_cons_zero, List.getD_cons_succ]
  omega
theorem num4_headed4 (n s : Int) (y : List Int) (h0 : 0 ≤ s) (h1 : s < 4294967296) : num4 ((headed n s y).drop 4) = s := by
  simp only [num4, headed, le4, List.cons_append, List.nil_append, List.drop_succ_cons, List.drop_zero, List.getD_cons_zero, List.getD_cons_succ]
  omega
theorem headed_len (n s : Int) (y : List Int) : (headed n s y).length = y.length + 8 := by simp [headed, le4]
theorem own_headed (s : Int) (y : List Int) (h1 : y.length < 4294967296) : ownOf (headed y.length s y) = y := by
  unfold ownOf
  rw [num4_headed _ _ _ (by omega) (by omega)]
  have e : (8 + (y.length : Int)).toNat = 8 + y.length := by omega
  rw [e, List.take_of_length_le (by rw [headed_len]; omega)]
  simp [headed, le4]
theorem headed_err (s : Int) (y : List Int) (h1 : y.length < 4294967296) (h2 : 0 ≤ s) (h3 : s < 4294967296) : oneErr (headed y.length s y) = if sum y = s then 0 else 4 := by
  unfold oneErr
  have e1 := headed_len y.length s y
  have e2 := num4_headed y.length s y (by omega) (by omega)
  have hs : ¬ Short (headed y.length s y) := by
    unfold Short
    rw [e1, e2]
    omega
  rw [if_neg hs, if_neg (by rw [e1, e2]; omega), own_headed s y h1, num4_headed4 _ _ _ h2 h3]
theorem frame_err (x : List Int) (h : x.length < 4294967296) : oneErr (frame x) = 0 := by
  rw [frame_headed, headed_err _ _ h (sum_range x).1 (sum_range x).2, if_pos rfl]
theorem frame_own (x : List Int) (h : x.length < 4294967296) : oneOwn (frame x) = x := by
  unfold oneOwn
  rw [frame_err x h, if_pos rfl, frame_headed, own_headed _ _ h]
theorem frame_range (x : List Int) (hx : ∀ y ∈ x, 0 ≤ y ∧ y ≤ 255) : ∀ y ∈ frame x, 0 ≤ y ∧ y ≤ 255 := by
  intro y hy
  unfold frame at hy
  rw [List.mem_append, List.mem_append] at hy
  rcases hy with (hy | hy) | hy
  · exact le4_range _ y hy
  · exact le4_range _ y hy
  · exact hx y hy
theorem frame_set (x : List Int) (j : Nat) (v : Int) : (frame x).set (8 + j) v = headed x.length (sum x) (x.set j v) := by
  rw [Nat.add_comm]
  simp [frame, headed, le4]

theorem frame_at (x : List Int) (j : Nat) (hj : j < x.length) : (frame x).getD (8 + j) 0 = x[j] := by
  rw [Nat.add_comm]
  simp [frame, le4, List.getD_eq_getElem?_getD, hj]
/-! The check sum tells each byte. -/
theorem stepB_lo {s : BitVec 32} (h : s &&& 1#32 = 0#32) : stepB s = s >>> 1 := by
  unfold stepB
  rw [h]
  simp
theorem stepB_hi {s : BitVec 32} (h : s &&& 1#32 = 1#32) : stepB s = (s >>> 1) ^^^ 3988292384#32 := by
  unfold stepB
  rw [h]
  congr 1
theorem and_one (s : BitVec 32) : s &&& 1#32 = 0#32 ∨ s &&& 1#32 = 1#32 := by
  have e : (s &&& 1#32).toNat = s.toNat % 2 := by simp [BitVec.toNat_and, Nat.and_one_is_mod]
  rcases Nat.mod_two_eq_zero_or_one s.toNat with h | h
  · exact .inl (BitVec.eq_of_toNat_eq (by rw [e, h]; rfl))
  · exact .inr (BitVec.eq_of_toNat_eq (by rw [e, h]; rfl))
theorem and_one_nat {s : BitVec 32} {b : Nat} (hb : b < 2) (h : s &&& 1#32 = BitVec.ofNat 32 b) : s.toNat % 2 = b := by
  have e : (s &&& 1#32).toNat = s.toNat % 2 := by simp [BitVec.toNat_and, Nat.and_one_is_mod]
  rw [h] at e
  rw [← e, BitVec.toNat_ofNat]
  omega
theorem shr_one {s t : BitVec 32} (h : s >>> 1 = t >>> 1) (h2 : s.toNat % 2 = t.toNat % 2) : s = t := by
  have e := congrArg BitVec.toNat h
  simp only [BitVec.toNat_ushiftRight, Nat.shiftRight_eq_div_pow] at e
  exact BitVec.eq_of_toNat_eq (by omega)
theorem top_no {s t : BitVec 32} (h : s >>> 1 = (t >>> 1) ^^^ 3988292384#32) : False := by
  have e := congrArg (fun x => BitVec.getLsbD x 31) h
  simp [BitVec.getLsbD_ushiftRight, BitVec.getLsbD_xor] at e
theorem stepB_inj {s t : BitVec 32} (h : stepB s = stepB t) : s = t := by
  rcases and_one s with hs | hs <;> rcases and_one t with ht | ht
  · rw [stepB_lo hs, stepB_lo ht] at h
    exact shr_one h ((and_one_nat (b := 0) (by omega) hs).trans (and_one_nat (b := 0) (by omega) ht).symm)
  · rw [stepB_lo hs, stepB_hi ht] at h
    exact (top_no h).elim
  · rw [stepB_hi hs, stepB_lo ht] at h
    exact (top_no h.symm).elim
  · rw [stepB_hi hs, stepB_hi ht] at h
    have h2 : s >>> 1 = t >>> 1 := by
      have := congrArg (· ^^^ 3988292384#32) h
      simpa [BitVec.xor_assoc] using this
    exact shr_one h2 ((and_one_nat (b := 1) (by omega) hs).trans (and_one_nat (b := 1) (by omega) ht).symm)
theorem stepN_inj (n : Nat) : ∀ {s t : BitVec 32}, stepN n s = stepN n t → s = t := by
  induction n with
  | zero => exact fun h => h
  | succ n ih => exact fun h => stepB_inj (ih h)
theorem upd_inj {s t : BitVec 32} {c : Int} (h : upd s c = upd t c) : s = t := by
  have h1 : s ^^^ BitVec.ofInt 32 c = t ^^^ BitVec.ofInt 32 c := stepN_inj 8 h
  have := congrArg (· ^^^ BitVec.ofInt 32 c) h1
  simpa [BitVec.xor_assoc] using this
theorem ofInt_inj {c d : Int} (hc : 0 ≤ c ∧ c ≤ 255) (hd : 0 ≤ d ∧ d ≤ 255) (h : BitVec.ofInt 32 c = BitVec.ofInt 32 d) : c = d := by
  have e := congrArg BitVec.toNat h
  simp only [BitVec.toNat_ofInt] at e
  omega
theorem upd_byte {s : BitVec 32} {c d : Int} (hc : 0 ≤ c ∧ c ≤ 255) (hd : 0 ≤ d ∧ d ≤ 255) (h : upd s c = upd s d) : c = d := by
  have h1 : s ^^^ BitVec.ofInt 32 c = s ^^^ BitVec.ofInt 32 d := stepN_inj 8 h
  refine ofInt_inj hc hd ?_
  have := congrArg (s ^^^ ·) h1
  simpa [← BitVec.xor_assoc] using this
theorem fold_inj (l : List Int) : ∀ {s t : BitVec 32}, l.foldl upd s = l.foldl upd t → s = t := by
  induction l with
  | nil => exact fun h => h
  | cons x l ih => exact fun h => upd_inj (ih h)
theorem fold_set (l : List Int) (j : Nat) (hj : j < l.length) (v : Int) (s : BitVec 32) (hx : ∀ x ∈ l, 0 ≤ x ∧ x ≤ 255) (hv : 0 ≤ v ∧ v ≤ 255) (h : (l.set j v).foldl upd s = l.foldl upd s) : v = l[j] := by
  induction l generalizing j s with
  | nil => simp at hj
  | cons x l ih =>
    cases j with
    | zero =>
      simp only [List.set_cons_zero, List.foldl_cons] at h
      exact upd_byte hv (hx x (by simp)) (fold_inj l h)
    | succ j =>
      simp only [List.set_cons_succ, List.foldl_cons] at h
      exact ih j (by simpa using hj) (upd s x) (fun y hy => hx y (by simp [hy])) h
/-- Another byte: another check sum. -/
theorem sum_set (l : List Int) (j : Nat) (hj : j < l.length) (v : Int) (hx : ∀ x ∈ l, 0 ≤ x ∧ x ≤ 255) (hv : 0 ≤ v ∧ v ≤ 255) (hne : v ≠ l[j]) : sum (l.set j v) ≠ sum l := by
  intro h
  refine hne (fold_set l j hj v 4294967295#32 hx hv ?_)
  have h1 : (~~~ crc (l.set j v)).toNat = (~~~ crc l).toNat := by
    have : ((~~~ crc (l.set j v)).toNat : Int) = (~~~ crc l).toNat := h
    omega
  have h2 := BitVec.eq_of_toNat_eq h1
  have h3 := congrArg (~~~ ·) h2
  have h4 : crc (l.set j v) = crc l := by simpa using h3
  exact h4
/-- A frame of which one byte of its own is another one is refused. -/
theorem turned_err (x : List Int) (j : Nat) (hj : j < x.length) (v : Int) (hl : x.length < 4294967296) (hx : ∀ y ∈ x, 0 ≤ y ∧ y ≤ 255) (hv : 0 ≤ v ∧ v ≤ 255) (hne : v ≠ x[j]) : oneErr ((frame x).set (8 + j) v) = 4 := by
  rw [frame_set]
  have e : (x.length : Int) = ((x.set j v).length : Int) := by simp
  rw [e, headed_err _ _ (by simpa using hl) (sum_range x).1 (sum_range x).2, if_neg (sum_set x j hj v hx hv hne)]
theorem turned_own (x : List Int) (j : Nat) (hj : j < x.length) (v : Int) (hl : x.length < 4294967296) (hx : ∀ y ∈ x, 0 ≤ y ∧ y ≤ 255) (hv : 0 ≤ v ∧ v ≤ 255) (hne : v ≠ x[j]) : oneOwn ((frame x).set (8 + j) v) = [] := by
  unfold oneOwn
  rw [turned_err x j hj v hl hx hv hne]
  rfl

/-! One byte turned by another one. -/
theorem xor8 (x y : Int) : bits .xor .u8 x y = ((BitVec.ofInt 8 x ^^^ BitVec.ofInt 8 y).toNat : Int) := by
  show IntKind.u8.wrap ((BitVec.ofInt 8 x ^^^ BitVec.ofInt 8 y).toNat : Int) = _
  rw [IntKind.wrap_u8]
  have := (BitVec.ofInt 8 x ^^^ BitVec.ofInt 8 y).isLt
  omega
theorem xor8_range (x y : Int) : 0 ≤ bits .xor .u8 x y ∧ bits .xor .u8 x y ≤ 255 := by
  rw [xor8]
  have := (BitVec.ofInt 8 x ^^^ BitVec.ofInt 8 y).isLt
  omega
theorem xor8_zero (x : Int) (hx : 0 ≤ x ∧ x ≤ 255) : bits .xor .u8 x 0 = x := by
  rw [xor8]
  simp only [show BitVec.ofInt 8 0 = 0#8 from rfl, BitVec.xor_zero, BitVec.toNat_ofInt]
  omega
theorem xor8_ne (x y : Int) (hx : 0 ≤ x ∧ x ≤ 255) (hy : 0 ≤ y ∧ y ≤ 255) (h : y ≠ 0) : bits .xor .u8 x y ≠ x := by
  intro e
  rw [xor8] at e
  have hx8 : ((BitVec.ofInt 8 x).toNat : Int) = x := by
    simp only [BitVec.toNat_ofInt]
    omega
  have h1 : BitVec.ofInt 8 x ^^^ BitVec.ofInt 8 y = BitVec.ofInt 8 x := BitVec.eq_of_toNat_eq (by omega)
  have h2 := congrArg (BitVec.ofInt 8 x ^^^ ·) h1
  simp only [← BitVec.xor_assoc, BitVec.xor_self, BitVec.zero_xor] at h2
  have h3 := congrArg BitVec.toNat h2
  simp only [BitVec.toNat_ofInt] at h3
  have : (0#8).toNat = 0 := rfl
  omega
/-- What is read of a frame of which one byte is turned. -/
theorem flip_read (o : List Int) (j : Nat) (hj : j < o.length) (y : Int) (hl : o.length < 4294967296) (ho : ∀ z ∈ o, 0 ≤ z ∧ z ≤ 255) (hy : 0 ≤ y ∧ y ≤ 255) :
    (∀ z ∈ (frame o).set (8 + j) (bits .xor .u8 ((frame o).getD (8 + j) 0) y), 0 ≤ z ∧ z ≤ 255) ∧
    oneErr ((frame o).set (8 + j) (bits .xor .u8 ((frame o).getD (8 + j) 0) y)) = (if y = 0 then 0 else 4) ∧
    oneOwn ((frame o).set (8 + j) (bits .xor .u8 ((frame o).getD (8 + j) 0) y)) = (if y = 0 then o else []) := by
  have hz := ho _ (List.getElem_mem hj)
  have hr := xor8_range o[j] y
  rw [frame_at o j hj]
  refine ⟨fun z hz2 => ?_, ?_⟩
  · rcases List.mem_or_eq_of_mem_set hz2 with h | h
    · exact frame_range o ho z h
    · rw [h]
      exact hr
  · by_cases h : y = 0
    · subst h
      rw [xor8_zero _ hz, frame_set, List.set_getElem_self, ← frame_headed, if_pos rfl, if_pos rfl]
      exact ⟨frame_err o hl, frame_own o hl⟩
    · rw [if_neg h, if_neg h]
      have hne := xor8_ne o[j] y hz hy h
      exact ⟨turned_err o j hj _ hl ho hr hne, turned_own o j hj _ hl ho hr hne⟩
/-- One, its length by a letter. -/
theorem One_callsN (A : Option Addr) (n c : Nat) (l : List Int) (w : World) (hr : U8.C w A n l) (hc : n ≤ c) (hb : ∀ x ∈ l, 0 ≤ x ∧ x ≤ 255) :
    Calls Try.prog 16 #[.slice A n c] w fun e w' => ∃ v, e = .returned (.tuple #[v, .int .i64 (oneErr l)]) ∧ RB w' v (oneOwn l) ∧ Below w.heap.size w w' := by
  have hn := hr.1
  subst hn
  exact One_calls A c l w hr hc hb

end Go.Proofs.Ytohgmpkehncopaa.A
