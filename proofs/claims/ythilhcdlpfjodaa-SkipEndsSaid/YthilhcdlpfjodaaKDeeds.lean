/- Deeds that came in; a list and the document's row beside it, told by keys alone. -/
import Derived.Test.YthilhcdlpfjodaaKLives
import Derived.Test.YthilhcdlpfjodaaAOpen
namespace Go.Proofs.Ythilhcdlpfjodaa.A
open Go.RowKit Go.Proofs.YthilhcdlpfjodaaW.PrintWords Go.Proofs.YthilhcdlpfjodaaW.PrintLast Go.Proofs.YthilhcdlpfjodaaW.PrintMore
set_option linter.unusedVariables false
set_option linter.unusedSimpArgs false

def KDd : Kd Dd := Kd.iso (Kd.pair (Kd.int .i64) (Kd.pair (Kd.int .i64) (Kd.pair (Kd.int .i64) Kd.string))) (fun p => (p.kind, p.lv, p.v, p.key))
theorem KDd_K (w : World) (p : Dd) : KDd.K w p [.int .i64 p.kind, .int .i64 p.lv, .int .i64 p.v, .string p.key] := ⟨[.int .i64 p.kind], _, rfl, rfl, ⟨[.int .i64 p.lv], _, rfl, rfl, ⟨[.int .i64 p.v], _, rfl, rfl, rfl⟩⟩⟩
theorem KDd_of {w : World} {p : Dd} {cs : List Value} (h : KDd.K w p cs) : cs = [.int .i64 p.kind, .int .i64 p.lv, .int .i64 p.v, .string p.key] := by
  obtain ⟨_, _, rfl, rfl, ⟨_, _, rfl, rfl, ⟨_, _, rfl, rfl, rfl⟩⟩⟩ := h
  rfl
def Dd.fits (d : Dd) : Prop := d.key.size ≤ maxLen
theorem opens_deed : Opens 29 KDd Dd.fits := by
  intro H enc w base spare held fuel cs x h
  obtain ⟨xs, n, rfl, rfl, hl, hx, hf⟩ := DataW.trod_struct Try.underlying29 h
  have hl2 : cs.length = 4 := hl.trans (by kernel_rfl)
  match cs, hl2 with
  | [c0, c1, c2, c3], _ =>
    have f0 := hf 0 _ rfl
    have f1 := hf 1 _ rfl
    have f2 := hf 2 _ rfl
    have f3 := hf 3 _ rfl
    have hx2 : xs.length = 4 := hx
    match xs, hx2 with
    | [x0, x1, x2, x3], _ =>
      obtain ⟨a, ha, _, _⟩ := DataW.trod_int (x := x0) Try.underlying3 f0
      obtain ⟨b, hb, _, _⟩ := DataW.trod_int (x := x1) Try.underlying3 f1
      obtain ⟨c, hc, _, _⟩ := DataW.trod_int (x := x2) Try.underlying3 f2
      obtain ⟨s, hs, _, hsw⟩ := DataW.trod_string (x := x3) Try.underlying9 f3
      have hci : Try.prog.cellsOf 3 = 1 := by kernel_rfl
      have hcs : Try.prog.cellsOf 9 = 1 := by kernel_rfl
      have ha' : c0 = .int .i64 a := by simpa [hci, hcs] using ha
      have hb' : c1 = .int .i64 b := by simpa [hci, hcs] using hb
      have hc' : c2 = .int .i64 c := by simpa [hci, hcs] using hc
      have hs' : c3 = .string s := by simpa [hci, hcs] using hs
      subst ha' hb' hc' hs'
      exact ⟨⟨a, b, c, s⟩, KDd_K _ _, hsw⟩
/-- A row of deeds, read at a place. -/
theorem C_atDd {A : Option Addr} {n : Nat} {l : List Dd} {w : World} (h : KDd.C w A n l) (i : Nat) (hi : i < n) :
    ∃ ad, A = some ad ∧ w.cell? (ad.add (i * 4)) = some (.int .i64 (l.getD i default).kind) ∧ w.cell? ⟨(ad.add (i * 4)).block, (ad.add (i * 4)).off + 1, none⟩ = some (.int .i64 (l.getD i default).lv) ∧ w.cell? ⟨(ad.add (i * 4)).block, (ad.add (i * 4)).off + 2, none⟩ = some (.int .i64 (l.getD i default).v) ∧ w.cell? ⟨(ad.add (i * 4)).block, (ad.add (i * 4)).off + 3, none⟩ = some (.string (l.getD i default).key) := by
  have hn := h.1
  subst hn
  obtain ⟨ad, e, hc⟩ := h.2.2 (by omega)
  obtain ⟨c, h1, h2, h3⟩ := hc i _ (List.getElem?_eq_getElem hi)
  have h2' := KDd_of h2
  subst h2'
  have e2 : l.getD i default = l[i] := by simp [List.getD_eq_getElem?_getD, hi]
  rw [e2]
  have a1 := h3 1 _ rfl
  have a2 := h3 2 _ rfl
  have a3 := h3 3 _ rfl
  rw [show KDd.sz = 4 from rfl, add_fieldI] at a1 a2 a3
  exact ⟨ad, e, h3 0 _ rfl, a1, a2, a3⟩
/-- A list at L, the document's row v of the same, i deeds behind the beginning. -/
def DI (w W : World) (L i : Nat) (v : Value) (l : List It) : Prop := ∃ xs, LB W w.heap.size L xs v l ∧ (∀ k ∈ L :: blks xs, w.heap.size ≤ k) ∧ Below w.heap.size w W ∧ l.length ≤ i
section
variable {w W W1 : World} {L i : Nat} {v : Value} {l : List It}
theorem DI_below (h : DI w W L i v l) (hb : Below W.heap.size W W1) : DI w W1 L i v l := by
  obtain ⟨xs, h1, h2, h3, h4⟩ := h
  exact ⟨xs, LB_below h1 hb, h2, below_step h3 hb, h4⟩
theorem DI_b (h : DI w W L i v l) : Below w.heap.size w W := by
  obtain ⟨xs, h1, h2, h3, h4⟩ := h
  exact h3
theorem DI_srt (h : DI w W L i v l) : Srt l := by
  obtain ⟨xs, h1, h2, h3, h4⟩ := h
  rw [← h1.2.1]
  exact h1.1.2.2
theorem DI_len (h : DI w W L i v l) : l.length ≤ i := by
  obtain ⟨xs, h1, h2, h3, h4⟩ := h
  exact h4
theorem DI_xs {xs : List Nd} (h : LB W w.heap.size L xs v l) : xs.length = l.length + 1 := by
  have h9 := tail_len xs
  rw [h.2.1] at h9
  have := h.1.1.2.1
  omega
theorem DI_new (w : World) : Calls Try.prog 8 #[] w fun e w' => ∃ L, e = .returned (.pointer (some ⟨L, 0, none⟩)) ∧ DI w w' L 0 (.slice none 0 0) [] :=
  (new_calls w).mono (fun e w' ⟨L, h1, ⟨xs, k1, k2, k3⟩, h3⟩ => ⟨L, h1, xs, ⟨k1, k2, OIt_nil _ _⟩, k3, h3, Nat.le_refl _⟩)
theorem DI_does (h : DI w W L i v l) (d : Dd) (hi : i ≤ 900) (hk : d.key.size ≤ 9223372036854775807) :
    Calls Try.prog 9 #[.pointer (some ⟨L, 0, none⟩), v, .agg #[.int .i64 d.kind, .int .i64 d.lv, .int .i64 d.v, .string d.key]] W fun e w' => ∃ v', e = .returned (.tuple #[v', .bool true]) ∧ DI w w' L (i + 1) v' (doS l d) := by
  obtain ⟨xs, h1, h2, h3, h4⟩ := h
  refine (does_calls W w.heap.size L xs v l d h1 h3.size (by omega) hk).mono ?_
  rintro e w' ⟨v', rfl, xs', k1, k2, k3⟩
  refine ⟨v', rfl, xs', k1, fun k hk => ?_, Frm.below h3 k2 h2 (Nat.le_refl _), by have := doS_len l d; omega⟩
  rcases List.mem_cons.1 hk with rfl | hk
  · exact h2 _ List.mem_cons_self
  · rcases k3 k hk with h9 | h9
    · exact h2 _ (List.mem_cons_of_mem _ h9)
    · exact Nat.le_trans h3.size h9
theorem DI_row (h : DI w W L i v l) (hi : i ≤ 900) (level : Int) (hl0 : -9223372036854775808 ≤ level) (hl1 : level ≤ 9223372036854775807) :
    Calls Try.prog 10 #[.pointer (some ⟨L, 0, none⟩), .int .i64 level] W fun e w' => ∃ A c, e = .returned (.slice A (rowS l level).length c) ∧ (rowS l level).length ≤ c ∧ Kd.string.C w' A (rowS l level).length (rowS l level) ∧ Below W.heap.size W w' := by
  obtain ⟨xs, h1, h2, h3, h4⟩ := h
  have hx := DI_xs h1
  have hr := row_calls W L xs level h1.1 (by omega) hl0 hl1
  rw [h1.2.1] at hr
  refine hr.mono ?_
  rintro e w' ⟨u, rfl, hO, hb⟩
  obtain ⟨A, c, rfl, hc, hC⟩ := OStr_readn hO _ rfl
  exact ⟨A, c, rfl, hc, hC, hb⟩
theorem DI_lenc (h : DI w W L i v l) : Calls Try.prog 11 #[.pointer (some ⟨L, 0, none⟩)] W fun e w' => e = .returned (.int .i64 (l.length : Int)) ∧ W = w' := by
  obtain ⟨xs, h1, h2, h3, h4⟩ := h
  have hr := len_calls W L xs h1.1
  rw [h1.2.1] at hr
  exact hr
theorem DI_height (h : DI w W L i v l) : Calls Try.prog 16 #[.pointer (some ⟨L, 0, none⟩)] W fun e w' => e = .returned (.int .i64 (heightS l : Int)) ∧ W = w' := by
  obtain ⟨xs, h1, h2, h3, h4⟩ := h
  have hr := height_calls W L xs h1.1
  rw [h1.2.1] at hr
  exact hr
theorem DI_get (h : DI w W L i v l) (key : ByteArray) : Calls Try.prog 17 #[.pointer (some ⟨L, 0, none⟩), .string key] W fun e w' => e = .returned (.tuple #[.int .i64 (getS l key).1, .bool (getS l key).2]) ∧ Below W.heap.size W w' := by
  obtain ⟨xs, h1, h2, h3, h4⟩ := h
  have hr := get_calls W L xs key h1.1
  rw [h1.2.1] at hr
  exact hr
theorem DI_floor (h : DI w W L i v l) (key : ByteArray) : Calls Try.prog 13 #[.pointer (some ⟨L, 0, none⟩), .string key] W fun e w' => e = .returned (.tuple #[.string (floorS l key).1, .bool (floorS l key).2]) ∧ Below W.heap.size W w' := by
  obtain ⟨xs, h1, h2, h3, h4⟩ := h
  have hr := floor_calls W L xs key h1.1
  rw [h1.2.1] at hr
  exact hr
theorem DI_doc (h : DI w W L i v l) : ∃ A c, v = .slice A l.length c ∧ l.length ≤ c ∧ KIt.C W A l.length l := by
  obtain ⟨xs, h1, h2, h3, h4⟩ := h
  exact OIt_readn h1.2.2 _ rfl
end
end Go.Proofs.Ythilhcdlpfjodaa.A
