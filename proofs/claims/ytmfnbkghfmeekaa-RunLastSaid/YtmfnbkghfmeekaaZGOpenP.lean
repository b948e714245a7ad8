/- GOpenP -/
import Derived.Test.YtmfnbkghfmeekaaZGRefB
import Derived.Test.YtmfnbkghfmeekaaZIHeld
namespace Go.Proofs.Ytmfnbkghfmeekaa.A
open Go.RowKit Go.Proofs.YtmfnbkghfmeekaaW.PrintWords Go.Proofs.YtmfnbkghfmeekaaW.PrintLast Go.Proofs.YtmfnbkghfmeekaaW.PrintMore
open R C
set_option linter.unusedVariables false
set_option linter.unusedSimpArgs false
theorem own_sub (l : List Int) : ∀ x ∈ F.ownOf l, x ∈ l := fun x hx => by
  unfold F.ownOf at hx
  exact List.mem_of_mem_take (List.mem_of_mem_drop hx)
theorem rest_sub (l : List Int) : ∀ x ∈ F.restOf l, x ∈ l := fun x hx => List.mem_of_mem_drop hx
theorem frs_sub : ∀ (f : Nat) (l : List Int), ∀ x ∈ F.frs f l, ∀ y ∈ x, y ∈ l
  | 0, l, x, hx => by cases hx
  | f + 1, l, x, hx => by
    unfold F.frs at hx
    split at hx
    · rcases List.mem_cons.1 hx with rfl | hx
      · exact own_sub l
      · exact fun y hy => rest_sub l y (frs_sub f _ x hx y hy)
    · cases hx
def blksB (b : List Int) : List (List Int) := (F.frs (b.length + 1) b).take ((F.frs (b.length + 1) b).length - 2)
def okBs (bs : List (List Int)) : Bool := bs.all (fun x => decide ((readB x).2 = 0))
def csB (bs : List (List Int)) : List (List Vr) := bs.map (fun x => (readB x).1)
def fitB (b : List Int) : Bool := decide (F.frn (F.frs (b.length + 1) b) = b.length) && decide (2 ≤ (F.frs (b.length + 1) b).length)
def goodB (b : List Int) : Bool := okN (csB (blksB b)).flatten (csB (blksB b)).flatten.length && decide (runB (csB (blksB b)).flatten = b)
def openB (b : List Int) : Option (List (List Vr)) := if fitB b && (okBs (blksB b) && goodB b) then some (csB (blksB b)) else none
theorem read_ok {x : List Int} (h : (readB x).2 = 0) : mayBl (readB x).1 = true ∧ blockB (readB x).1 = x := by
  unfold readB at h ⊢
  split at h
  · rename_i h0
    exact absurd h h0
  · rename_i h0
    rw [if_neg h0]
    split at h
    · rename_i h1
      rw [if_pos h1]
      rw [Bool.and_eq_true, decide_eq_true_eq] at h1
      exact h1
    · exact absurd h (by decide)
theorem vput_1 (x : Int) : 1 ≤ (V.vput x).length := by
  rcases Int.lt_or_le x 0 with h | h
  · unfold V.vput
    rw [show x.toNat = 0 by omega]
    exact V.vnat_pos 0
  · obtain ⟨n, rfl⟩ := Int.eq_ofNat_of_zero_le h
    rw [V.vput_nat]
    exact V.vnat_pos n
theorem bytesW_9 : ∀ (l : List Vr) (key : ByteArray), 9 * l.length ≤ (bytesW key l).length
  | [], _ => Nat.le_refl _
  | p :: l, key => by
    have h := bytesW_9 l p.k
    have a1 := vput_1 (comS key p.k)
    have a2 := vput_1 ((sufS key p.k).size : Int)
    have a3 := V.vtext_len (sufS key p.k)
    have a4 := vput_1 (p.v.size : Int)
    have a5 := V.vtext_len p.v
    have b1 := vput_1 p.br
    have b2 := vput_1 p.ep
    have b3 := vput_1 p.sq
    have b4 := vput_1 p.f
    have b5 := vput_1 (p.t - p.f)
    have b6 := vput_1 (goneI p.g)
    rw [bytesW, List.length_append, List.length_cons]
    unfold bytesP
    simp only [List.length_append, List.flatMap_cons, List.flatMap_nil, List.length_nil]
    omega
theorem rows_le : ∀ bs : List (List Int), okBs bs = true → 9 * (csB bs).flatten.length ≤ F.frn bs
  | [], _ => Nat.zero_le _
  | x :: bs, h => by
    unfold okBs at h
    rw [List.all_cons, Bool.and_eq_true, decide_eq_true_eq] at h
    obtain ⟨h1, h2⟩ := h
    have ih := rows_le bs h2
    obtain ⟨a1, a2⟩ := read_ok h1
    have a3 := bytesW_9 (readB x).1 { data := #[] }
    have a4 : (blockB (readB x).1).length = (V.vput ((readB x).1.length : Int)).length + (bytesW { data := #[] } (readB x).1).length := by unfold blockB; rw [List.length_append]
    rw [a2] at a4
    unfold csB at ih ⊢
    rw [List.map_cons, List.flatten_cons, List.length_append, F.frn_cons]
    omega
theorem frn_take (bs : List (List Int)) (k : Nat) : F.frn (bs.take k) ≤ F.frn bs := by
  conv => rhs; rw [← List.take_append_drop k bs]
  rw [F.frn_append]
  omega
theorem cs_may {bs : List (List Int)} (h : okBs bs = true) : ∀ c ∈ csB bs, mayBl c = true := fun c hc => by
  obtain ⟨x, hx, rfl⟩ := List.mem_map.1 hc
  unfold okBs at h
  rw [List.all_eq_true] at h
  exact (read_ok (of_decide_eq_true (h x hx))).1
theorem small_may {l : List Vr} (h : ∀ p ∈ l, mayV p = true) : smallB l := fun p hp => by
  have h1 := mayV_key (h p hp)
  have h2 := h p hp
  unfold mayV at h2
  simp only [Bool.and_eq_true, decide_eq_true_eq] at h2
  have h3 := h2.1.2
  exact ⟨by omega, by omega⟩
theorem cs_small {bs : List (List Int)} (h : okBs bs = true) : smallB (csB bs).flatten := small_may (fun p hp => by
  obtain ⟨c, hc, hp⟩ := List.mem_flatten.1 hp
  exact (mayBl_all (cs_may h c hc)).1 p hp)
theorem KVr_ofM {w : World} {B : Nat} {ok : Nat → Prop} {p : Vr} {c : List Value} (h : KVr.M w B ok p c) : c = vrCells p := by
  obtain ⟨_, _, rfl, rfl, ⟨_, _, rfl, rfl, ⟨_, _, rfl, rfl, ⟨_, _, rfl, rfl, ⟨_, _, rfl, rfl, ⟨_, _, rfl, rfl, ⟨_, _, rfl, rfl, rfl⟩⟩⟩⟩⟩⟩⟩ := h
  rfl
theorem OVr_grown {W w1 : World} {B : Nat} {u : Value} {xs : List Vr} {row : Option Nat} (h : OVr W B u xs) (hg : W.grownBy w1 row) (hne : u.ownBlock = none ∨ u.ownBlock ≠ row) : OVr w1 B u xs := by
  obtain ⟨h0, inner, ho, hr⟩ := h
  exact ⟨h0, inner, ho.kept hg hne, hr.imp_ fun p c h => by rw [KVr_ofM h]; exact KVr_M _ _ _ p⟩
theorem Apt.newerV {W W1 : World} {B B1 : Nat} {v u : Value} {xs ys : List Vr} (hv : OVr W B v xs) (hu : OVr W1 B1 u ys) (hB : W.heap.size ≤ B1) : Apt v u := by
  intro b hb hb2
  obtain ⟨_, inner, ho, _⟩ := hv
  obtain ⟨_, inner2, ho2, _⟩ := hu
  have h1 := own_lt ho b hb
  have h2 := own_base ho2 b hb2
  omega
abbrev OStr (w : World) (B : Nat) (v : Value) (l : List ByteArray) : Prop := OR Kd.string 9 w B v l
theorem OStr_grownV {W w1 : World} {B B' : Nat} {u v : Value} {ks : List ByteArray} {xs : List Vr} (h : OStr W B u ks) (hv : OVr W B' v xs) (hg : W.grownBy w1 v.ownBlock) : OStr w1 B u ks := O.OR_grown h hg (O.own_ne_type hv h (by decide))
theorem OVr_grownS {W w1 : World} {B B' : Nat} {u v : Value} {ks : List ByteArray} {xs : List Vr} (h : OVr W B u xs) (hv : OStr W B' v ks) (hg : W.grownBy w1 v.ownBlock) : OVr w1 B u xs := OVr_grown h hg (O.own_ne_type hv h (by decide))
abbrev rnB (Ab : Option Addr) (nb cb : Nat) (f : Value) (m : Int) : Obj := .cells #[.slice Ab nb cb, f, .int .i64 m] 72
def RnI (W : World) (r : Nat) (cs : List (List Vr)) : Prop :=
  ∃ Ab cb Af cf hs, W.heap[r]? = some (rnB Ab cs.length cb (.slice Af cs.length cf) (cs.flatten.length : Int)) ∧ cs.length ≤ cb ∧ cs.length ≤ cf ∧ F.Hd.C W Ab cs.length hs ∧ F.Heads W hs (cs.map blockB) ∧ Kd.string.C W Af cs.length (cs.map (fun c => (c.getD 0 default).k))
theorem RnI_below {W W1 : World} {r : Nat} {cs : List (List Vr)} (h : RnI W r cs) (hb : Below W.heap.size W W1) : RnI W1 r cs := by
  obtain ⟨Ab, cb, Af, cf, hs, h1, h2, h3, h4, h5, h6⟩ := h
  exact ⟨Ab, cb, Af, cf, hs, box_keep h1 hb, h2, h3, Kd.C_below h4 hb, ⟨h5.1, fun i a x e1 e2 => by obtain ⟨a1, a2, a3⟩ := h5.2 i a x e1 e2; exact ⟨a1, a2, Kd.C_below a3 hb⟩⟩, Kd.C_below h6 hb⟩
theorem rn_cells {W : World} {r : Nat} {Ab : Option Addr} {nb cb : Nat} {f : Value} {m : Int} (h : W.heap[r]? = some (rnB Ab nb cb f m)) : W.cell? ⟨r, 0, none⟩ = some (.slice Ab nb cb) ∧ W.cell? ⟨r, 1, none⟩ = some f ∧ W.cell? ⟨r, 2, none⟩ = some (.int .i64 m) ∧ ∀ o, W.frozen? ⟨r, o, none⟩ = false := by
  refine ⟨?_, ?_, ?_, fun o => by simp [World.frozen?, h]⟩ <;> (rw [cell_of_row _ _ _ _ _ _ h]; rfl)
theorem infoStr : (Try.prog.info? 9).map (fun i => (i.zero, i.size, i.bytes)) = some (some (.string ByteArray.empty), 1, 16) := by kernel_rfl
section
variable {ops : Array Oper} {rest : List Oper} {o : Oper} {a : Act} {Q : Exit → Act → World → Prop} {W : World} {B : Nat}
theorem app_vrs {s x : Operand} (hgd : o.guard = none) (ho : o.op = .call { callee := .builtin .append, args := #[s, x], argTypes := #[22, 22] }) {v : Value} {xs ys : List Vr} {A : Option Addr} {m c : Nat}
    (hs : a.eval s = v) (hx : a.eval x = .slice A m c) (HO : OVr W B v xs) (HR : KVr.C W A m ys) (hB : B ≤ W.heap.size) (hl : xs.length + m ≤ 1000000)
    (h : ∀ v1 w1, OVr w1 B v1 (xs ++ ys) → Below B W w1 → W.grownBy w1 v.ownBlock → wpList Try.prog ops Q rest (a.put o.dst v1) w1) : wpList Try.prog ops Q (o :: rest) a W := by
  refine Kd.R_append_rows KVr (Rr := KVr.K W) (w0 := W) B hgd s x 22 28 (.agg #[.string ByteArray.empty, .int .i64 0, .int .i64 0, .int .i64 0, .int .i64 0, .int .i64 0, .string ByteArray.empty, .bool false]) 80 ho Try.underlying22 infoVr rfl (by decide) (by decide) v xs ys A m c (fun _ => True) (fun _ => False) hs hx HO HR ?_ (fun _ h => h.elim) (fun _ _ => trivial) (Below.refl B W) hB (by omega) (fun v1 w1 h1 h2 h3 _ => h v1 w1 h1 h2 h3)
  intro p cs hK
  rw [KVr_of hK]
  exact KVr_M _ _ _ p
end
theorem OVr_off {W w1 : World} {B : Nat} {u : Value} {xs : List Vr} {row : Option Nat} (h : OVr W B u xs) (hg : W.grownBy w1 row) (hr : ∀ k, row = some k → k < B) : OVr w1 B u xs := by
  refine OVr_grown h hg ?_
  obtain ⟨h0, inner, ho, _⟩ := h
  cases hu : u.ownBlock with
  | none => exact .inl rfl
  | some k =>
    refine .inr fun e1 => ?_
    have h3 := own_base ho k hu
    have h4 := hr k e1.symm
    omega
theorem OStr_off {W w1 : World} {B : Nat} {u : Value} {xs : List ByteArray} {row : Option Nat} (h : OStr W B u xs) (hg : W.grownBy w1 row) (hr : ∀ k, row = some k → k < B) : OStr w1 B u xs := by
  refine O.OR_grown h hg ?_
  obtain ⟨h0, inner, ho, _⟩ := h
  cases hu : u.ownBlock with
  | none => exact .inl rfl
  | some k =>
    refine .inr fun e1 => ?_
    have h3 := own_base ho k hu
    have h4 := hr k e1.symm
    omega
theorem OStr_readn {w : World} {B : Nat} {v : Value} {l : List ByteArray} (h : OStr w B v l) (n : Nat) (hn : l.length = n) : ∃ A c, v = .slice A n c ∧ n ≤ c ∧ Kd.string.C w A n l := by
  subst hn
  exact Kd.R_reads h
theorem grown_set (w : World) (g o : Nat) (v : Value) : w.grownBy (w.setCell ⟨g, o, none⟩ v) (some g) :=
  ⟨rfl, rfl, rfl, by rw [World.size_setCell]; exact Nat.le_refl _, fun k hk hn => Below.heap_setCell w _ v k (fun e => hn (by simp only at e; rw [e]))⟩
theorem heap_set1 {W : World} {b : Nat} {cs : Array Value} {t : TypeId} (h : W.heap[b]? = some (.cells cs t)) (o : Nat) (v : Value) : (W.setCell ⟨b, o, none⟩ v).heap[b]? = some (.cells (cs.setIfInBounds o v) t) := by
  have hl := (Array.getElem?_eq_some_iff.1 h).1
  have he := (Array.getElem?_eq_some_iff.1 h).2
  simp only [World.setCell]
  rw [Array.getElem?_eq_getElem (by simpa using hl)]
  simp [Array.getElem_modify, he]
end Go.Proofs.Ytmfnbkghfmeekaa.A
