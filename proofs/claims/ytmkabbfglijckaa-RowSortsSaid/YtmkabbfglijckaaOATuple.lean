/- Tuples: parts as three cells; the first parts of a tuple; the order of two. -/
import Derived.Test.YtmkabbfglijckaaABytes
import Derived.Test.YtmkabbfglijckaaAOpen
import Derived.Deep.Slices
namespace Go.Proofs.Ytmkabbfglijckaa.A.O
open Go.RowKit Go.Proofs.YtmkabbfglijckaaW.PrintWords Go.Proofs.YtmkabbfglijckaaW.PrintLast Go.Proofs.YtmkabbfglijckaaW.PrintMore
set_option linter.unusedVariables false
set_option linter.unusedSimpArgs false

/-- A part of a tuple. -/
structure Pt where
  t : Bool
  n : Int
  s : ByteArray
instance : Inhabited Pt := ⟨⟨false, 0, ByteArray.empty⟩⟩
abbrev Pt.val (p : Pt) : Value := .agg #[.bool p.t, .int .i64 p.n, .string p.s]
def Pt.ok (p : Pt) : Prop := (IntKind.i64.min ≤ p.n ∧ p.n ≤ IntKind.i64.max) ∧ p.s.size ≤ maxLen
def KPt : Kd Pt := Kd.iso (Kd.pair Kd.bool (Kd.pair (Kd.int .i64) Kd.string)) (fun p => (p.t, p.n, p.s))
theorem KPt_M (w : World) (B : Nat) (ok : Nat → Prop) (t : Bool) (n : Int) (s : ByteArray) : KPt.M w B ok ⟨t, n, s⟩ [.bool t, .int .i64 n, .string s] := ⟨[.bool t], [.int .i64 n, .string s], rfl, rfl, ⟨[.int .i64 n], [.string s], rfl, rfl, rfl⟩⟩
theorem KPt_K (w : World) (t : Bool) (n : Int) (s : ByteArray) : KPt.K w ⟨t, n, s⟩ [.bool t, .int .i64 n, .string s] := ⟨[.bool t], [.int .i64 n, .string s], rfl, rfl, ⟨[.int .i64 n], [.string s], rfl, rfl, rfl⟩⟩
theorem infoPt : (Try.prog.info? 78).map (fun i => (i.zero, i.size, i.bytes)) = some (some (.agg #[.bool false, .int .i64 0, .string ByteArray.empty]), 3, 32) := by kernel_rfl
abbrev OPt (w : World) (B : Nat) (v : Value) (l : List Pt) : Prop := OR KPt 78 w B v l
section
variable {ops : Array Oper} {rest : List Oper} {o : Oper} {a : Act} {Q : Exit → Act → World → Prop} {W : World} {B : Nat}
theorem app_pt {s x : Operand} (hgd : o.guard = none) (ho : o.op = .call { callee := .builtin .append, args := #[s, x], argTypes := #[79, 79] }) {v : Value} {xs : List Pt} {pt : Bool} {pn : Int} {ps : ByteArray}
    (hs : a.eval s = v) (hx : a.eval x = .slice (some ⟨W.heap.size, 0, none⟩) 1 1) (HO : OPt W B v xs) (hB : B ≤ W.heap.size) (hl : xs.length ≤ 1000000)
    (h : ∀ v1 w1, OPt w1 B v1 (xs ++ [⟨pt, pn, ps⟩]) → Below B W w1 → W.grownBy w1 v.ownBlock → wpList Try.prog ops Q rest (a.put o.dst v1) w1) : wpList Try.prog ops Q (o :: rest) a (W.alloc (.cells #[.bool pt, .int .i64 pn, .string ps] 78)) :=
  app_one KPt 79 78 (.agg #[.bool false, .int .i64 0, .string ByteArray.empty]) 32 Try.underlying79 infoPt rfl (by decide) (by decide) hgd ho hs hx (fun okp => KPt_M W B okp pt pn ps) HO hB (by omega) h
end
theorem add_field (ad : Addr) (m j : Nat) : ad.add (m + (j + 1)) = ⟨(ad.add m).block, (ad.add m).off + (j + 1), none⟩ := by
  rw [← Go.Deep.add_add]
  unfold Addr.add
  rw [if_neg (by omega)]
/-- A row of parts, read at a place. -/
theorem C_atPt {A : Option Addr} {n : Nat} {l : List Pt} {w : World} (h : KPt.C w A n l) (i : Nat) (hi : i < n) :
    ∃ ad, A = some ad ∧ w.cell? (ad.add (i * 3)) = some (.bool (l.getD i default).t) ∧ w.cell? ⟨(ad.add (i * 3)).block, (ad.add (i * 3)).off + 1, none⟩ = some (.int .i64 (l.getD i default).n) ∧ w.cell? ⟨(ad.add (i * 3)).block, (ad.add (i * 3)).off + 2, none⟩ = some (.string (l.getD i default).s) := by
  have hn := h.1
  subst hn
  obtain ⟨ad, e, hc⟩ := h.2.2 (by omega)
  obtain ⟨c, h1, ⟨_, _, rfl, rfl, ⟨_, _, rfl, rfl, rfl⟩⟩, h3⟩ := hc i _ (List.getElem?_eq_getElem hi)
  have e2 : l.getD i default = l[i] := by simp [List.getD_eq_getElem?_getD, hi]
  rw [e2]
  have a1 := h3 1 _ rfl
  have a2 := h3 2 _ rfl
  rw [show KPt.sz = 3 from rfl, add_field] at a1 a2
  exact ⟨ad, e, h3 0 _ rfl, a1, a2⟩
theorem opens_part : Opens 78 KPt Pt.ok := by
  intro H enc w base spare held fuel cs x h
  obtain ⟨xs, n, rfl, rfl, hl, hx, hf⟩ := DataW.trod_struct Try.underlying78 h
  have hl2 : cs.length = 3 := hl.trans (by kernel_rfl)
  match cs, hl2 with
  | [c0, c1, c2], _ =>
    have f0 := hf 0 _ rfl
    have f1 := hf 1 _ rfl
    have f2 := hf 2 _ rfl
    have hx2 : xs.length = 3 := hx
    match xs, hx2 with
    | [x0, x1, x2], _ =>
      obtain ⟨a, ha, _⟩ := DataW.trod_bool (x := x0) Try.underlying4 f0
      obtain ⟨b, hb, _, hbw⟩ := DataW.trod_int (x := x1) Try.underlying3 f1
      obtain ⟨s, hs, _, hsw⟩ := DataW.trod_string (x := x2) Try.underlying9 f2
      have hc0 : Try.prog.cellsOf 4 = 1 := by kernel_rfl
      have hci : Try.prog.cellsOf 3 = 1 := by kernel_rfl
      have hcs : Try.prog.cellsOf 9 = 1 := by kernel_rfl
      have ha' : c0 = .bool a := by simpa [hc0, hci, hcs] using ha
      have hb' : c1 = .int .i64 b := by simpa [hc0, hci, hcs] using hb
      have hs' : c2 = .string s := by simpa [hc0, hci, hcs] using hs
      subst ha' hb' hs'
      exact ⟨⟨a, b, s⟩, KPt_K _ a b s, by simpa [Lit.wf] using hbw, hsw⟩

/-- The first parts, each cut. -/
def cutP (p : Pt) : Pt := if 50 < p.s.size then ⟨p.t, p.n, p.s.extract 0 50⟩ else p
def cutL (l : List Pt) : List Pt := (l.take 6).map cutP

end Go.Proofs.Ytmkabbfglijckaa.A.O
