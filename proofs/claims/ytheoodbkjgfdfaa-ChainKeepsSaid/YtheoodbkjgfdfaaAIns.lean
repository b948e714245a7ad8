/- A thing set into a row of one's own: what the row holds behind it. Nothing of one function here. -/
import Derived.Test.YtheoodbkjgfdfaaABase
import Derived.Shelf.Spec.SlicesInsertGrow
namespace Go.Proofs.Ytheoodbkjgfdfaa.A
open Go.RowKit Go.Proofs.YtheoodbkjgfdfaaW.PrintWords Go.Proofs.YtheoodbkjgfdfaaW.PrintLast Go.Proofs.YtheoodbkjgfdfaaW.PrintMore
set_option linter.unusedVariables false
set_option linter.unusedSimpArgs false

section
variable {P : Program}
/-- copy, where an element has k cells. -/
theorem run_copy_K (w : World) (dT sT ty elem : TypeId) (k g o dLen dCap : Nat) (a : Addr) (sLen sCap n : Nat) (cs : List Value)
    (hu : P.underlying dT = some (.slice elem)) (hs : (P.info? elem).map (·.size) = some k) (hn : Nat.min sLen dLen = n) (hl : cs.length = n * k)
    (hsrc : ∀ j v, cs[j]? = some v → w.cell? (a.add j) = some v) (hc : ∀ j, j < cs.length → (w.cell? ⟨g, o + j, none⟩).isSome = true) (hf : ∀ j, j < cs.length → w.frozen? ⟨g, o + j, none⟩ = false) (h1 : ∀ v ∈ cs, v.oneCell' = true) :
    (Builtin.copy_ #[dT, sT] ty #[.slice (some ⟨g, o, none⟩) dLen dCap, .slice (some a) sLen sCap]).run P w = .ok (goInt n) (w.setCells g o cs) := by
  have hst := run_storeCells_cells (P := P) g o cs 0 w (by simpa using hc) (by simpa using hf) h1
  cases hq : P.info? elem with
  | none => simp [hq] at hs
  | some i =>
    have hi : i.size = k := by simpa [hq] using hs
    have hld : (Builtin.firstCells k n (.slice (some a) sLen sCap)).run P w = .ok cs.toArray w := run_firstCells_some w k n a sLen sCap cs hl hsrc
    simp [Builtin.copy_, run_underlying hu, Builtin.lenOf, sizeOf, typeInfo, hq, hi, hn, hld, hst]
end
/-- A kind that owns nothing. -/
def FlatK {α : Type} (d : Kd α) : Prop := ∀ (w w' : World) (b b' : Nat) (ok ok' : Nat → Prop) (x : α) (c : List Value), d.M w b ok x c → d.M w' b' ok' x c
theorem OR_mk {α : Type} {d : Kd α} (hM : FlatK d) {w0 w' : World} {B B0 e g cap n : Nat} {ok0 : Nat → Prop} {xs : List α} {cur : Array Value} {inner : List Value} (hh : w'.heap[g]? = some (.cells cur e (0, 0))) (hb : B ≤ g) (hn : xs.length = n) (hc : n ≤ cap) (hm : cap ≤ maxLen)
    (hs : cur.size = cap * d.sz) (ht : cur.toList.take (n * d.sz) = inner) (hr : Reps (fun x c => d.M w0 B0 ok0 x c) d.sz xs inner) : OR d e w' B (.slice (some ⟨g, 0, none⟩) n cap) xs := by
  subst hn
  refine ⟨fun _ _ => trivial, inner, ⟨by rw [hr.1], .inr ⟨g, cap, cur, rfl, hb, hh, hc, hm, hs, ht⟩⟩, ?_⟩
  exact hr.imp_ fun p c h => hM _ _ _ _ _ _ _ _ h
theorem OR_cur {α : Type} {d : Kd α} {w : World} {B e g cap n : Nat} {xs : List α} (h : OR d e w B (.slice (some ⟨g, 0, none⟩) n cap) xs) :
    ∃ cur : Array Value, w.heap[g]? = some (.cells cur e (0, 0)) ∧ B ≤ g ∧ xs.length = n ∧ n ≤ cap ∧ cap ≤ maxLen ∧ cur.size = cap * d.sz ∧ Reps (fun x c => d.M w B (fun k => True ∧ some k ≠ (Value.slice (some ⟨g, 0, none⟩) n cap).ownBlock) x c) d.sz xs (cur.toList.take (n * d.sz)) := by
  obtain ⟨_, inner, ho, hr⟩ := h
  rcases ho.2 with ⟨hv, _⟩ | ⟨g', cap', cur, hv, hb, hh, hnc, hcm, hcs, htake⟩
  · cases hv
  · injection hv with h1 h2 h3
    injection h1 with h1
    injection h1 with h1
    subst h1 h2 h3
    exact ⟨cur, hh, hb, rfl, hnc, hcm, hcs, by rw [htake]; exact hr⟩
theorem reps_one1 {α : Type} {R : α → List Value → Prop} {size : Nat} {p : α} {c : List Value} (hp : R p c) (hc : c.length = size) : Reps R size [p] c := by
  refine ⟨by simp [hc], fun j q hj => ?_⟩
  cases j with
  | zero =>
    simp at hj
    subst hj
    rw [Nat.zero_mul, List.drop_zero, List.take_of_length_le (by omega)]
    exact hp
  | succ j => simp at hj
theorem OR_cells1 {α : Type} {d : Kd α} {w : World} {B : Nat} {ok : Nat → Prop} {xs : List α} {inner : List Value} (hr : Reps (fun x c => d.M w B ok x c) d.sz xs inner) : ∀ u ∈ inner, u.oneCell' = true := by
  intro u hu
  obtain ⟨q, hq, rfl⟩ := List.mem_iff_getElem.1 hu
  have hs0 : 0 < d.sz := by
    rcases Nat.eq_zero_or_pos d.sz with h | h
    · rw [hr.1, h, Nat.mul_zero] at hq; omega
    · exact h
  have hql : q / d.sz < xs.length := by
    rw [Nat.div_lt_iff_lt_mul hs0, ← hr.1]
    exact hq
  refine d.K_one (d.K_of_M (hr.2 (q / d.sz) _ (List.getElem?_eq_getElem hql))) _ ?_
  rw [List.mem_iff_getElem?]
  refine ⟨q % d.sz, ?_⟩
  rw [List.getElem?_take, if_pos (Nat.mod_lt _ hs0), List.getElem?_drop, Nat.mul_comm, Nat.div_add_mod, List.getElem?_eq_getElem hq]
/-- The cells of a row into which a thing is set in place: first what stood from i on, then the thing. -/
theorem ins_cells (k i n : Nat) (cur lit : List Value) (hl : lit.length = k) (hi : i ≤ n) (hc : (n + 1) * k ≤ cur.length) :
    (((cur.take ((i + 1) * k) ++ ((cur.take (n * k)).drop (i * k)) ++ cur.drop ((i + 1) * k + ((cur.take (n * k)).drop (i * k)).length)).take (i * k) ++ lit ++
      (cur.take ((i + 1) * k) ++ ((cur.take (n * k)).drop (i * k)) ++ cur.drop ((i + 1) * k + ((cur.take (n * k)).drop (i * k)).length)).drop (i * k + lit.length)).take ((n + 1) * k)) =
      (cur.take (n * k)).take (i * k) ++ lit ++ (cur.take (n * k)).drop (i * k) := by
  have e1 : (i + 1) * k = i * k + k := Nat.succ_mul _ _
  have e2 : (n + 1) * k = n * k + k := Nat.succ_mul _ _
  have e3 : i * k ≤ n * k := Nat.mul_le_mul_right _ hi
  rw [e2] at hc
  rw [e1, e2]
  clear e1 e2
  generalize i * k = a at *
  generalize n * k = b at *
  subst hl
  have hd : ((cur.take b).drop a).length = b - a := by rw [List.length_drop, List.length_take]; omega
  apply List.ext_getElem?
  intro j
  simp only [List.getElem?_take, List.getElem?_append, List.getElem?_drop, List.length_append, List.length_take, List.length_drop]
  have m1 : min a cur.length = a := by omega
  have m2 : min b cur.length = b := by omega
  have m3 : min (a + lit.length) cur.length = a + lit.length := by omega
  simp only [m1, m2, m3]
  repeat' split
  all_goals first
    | rfl
    | omega
    | (congr 1; omega)
    | skip
/-- The same, where the row is a new one. -/
theorem ins_new (T Z lit cs X : List Value) : ((((T ++ Z).take T.length ++ lit ++ (T ++ Z).drop (T.length + lit.length)).take (T.length + lit.length) ++ cs ++ X).take (T.length + lit.length + cs.length)) = T ++ lit ++ cs := by
  have e1 : (T ++ Z).take T.length = T := List.take_left' rfl
  rw [e1]
  have e2 : (T ++ lit ++ (T ++ Z).drop (T.length + lit.length)).take (T.length + lit.length) = T ++ lit := List.take_left' (by simp)
  rw [e2]
  exact List.take_left' (by simp; omega)
theorem setCells_heap (g : Nat) : ∀ (vs : List Value) (o : Nat) {w w' : World}, w.heap = w'.heap → (w.setCells g o vs).heap = (w'.setCells g o vs).heap
  | [], _, _, _, h => h
  | v :: r, o, w, w', h => setCells_heap g r (o + 1) (by unfold World.setCell; simp only [h])
end Go.Proofs.Ytheoodbkjgfdfaa.A
