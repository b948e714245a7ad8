/- Pieces: a span and a text as three cells; rows of them. -/
import Derived.Test.YtloachifhaigjaaASpanEq
import Derived.Test.YtloachifhaigjaaALaw4
import Derived.Deep.Slices
namespace Go.Proofs.Ytloachifhaigjaa.A
open Go.RowKit Go.Proofs.YtloachifhaigjaaW.PrintWords Go.Proofs.YtloachifhaigjaaW.PrintLast Go.Proofs.YtloachifhaigjaaW.PrintMore
set_option linter.unusedVariables false
set_option linter.unusedSimpArgs false

/-- A piece. -/
structure Pc where
  f : Int
  t : Int
  v : ByteArray
instance : Inhabited Pc := ⟨⟨0, 0, ByteArray.empty⟩⟩
abbrev Pc.sp (p : Pc) : Sp := ⟨p.f, p.t⟩
def KPc : Kd Pc := Kd.iso (Kd.pair (Kd.int .i64) (Kd.pair (Kd.int .i64) Kd.string)) (fun p => (p.f, p.t, p.v))
theorem KPc_M (w : World) (B : Nat) (ok : Nat → Prop) (f t : Int) (s : ByteArray) : KPc.M w B ok ⟨f, t, s⟩ [.int .i64 f, .int .i64 t, .string s] := ⟨[.int .i64 f], [.int .i64 t, .string s], rfl, rfl, ⟨[.int .i64 t], [.string s], rfl, rfl, rfl⟩⟩
theorem KPc_K (w : World) (f t : Int) (s : ByteArray) : KPc.K w ⟨f, t, s⟩ [.int .i64 f, .int .i64 t, .string s] := ⟨[.int .i64 f], [.int .i64 t, .string s], rfl, rfl, ⟨[.int .i64 t], [.string s], rfl, rfl, rfl⟩⟩
theorem infoPc : (Try.prog.info? 42).map (fun i => (i.zero, i.size, i.bytes)) = some (some (.agg #[.int .i64 0, .int .i64 0, .string ByteArray.empty]), 3, 32) := by kernel_rfl
abbrev OPc (w : World) (B : Nat) (v : Value) (l : List Pc) : Prop := OR KPc 42 w B v l
section
variable {ops : Array Oper} {rest : List Oper} {o : Oper} {a : Act} {Q : Exit → Act → World → Prop} {W : World} {B : Nat}
theorem app_pc {s x : Operand} (hgd : o.guard = none) (ho : o.op = .call { callee := .builtin .append, args := #[s, x], argTypes := #[33, 33] }) {v : Value} {xs : List Pc} {f t : Int} {ps : ByteArray}
    (hs : a.eval s = v) (hx : a.eval x = .slice (some ⟨W.heap.size, 0, none⟩) 1 1) (HO : OPc W B v xs) (hB : B ≤ W.heap.size) (hl : xs.length ≤ 1000000)
    (h : ∀ v1 w1, OPc w1 B v1 (xs ++ [⟨f, t, ps⟩]) → Below B W w1 → W.grownBy w1 v.ownBlock → wpList Try.prog ops Q rest (a.put o.dst v1) w1) : wpList Try.prog ops Q (o :: rest) a (W.alloc (.cells #[.int .i64 f, .int .i64 t, .string ps] 42)) :=
  app_one KPc 33 42 (.agg #[.int .i64 0, .int .i64 0, .string ByteArray.empty]) 32 Try.underlying33 infoPc rfl (by decide) (by decide) hgd ho hs hx (fun okp => KPc_M W B okp f t ps) HO hB (by omega) h
theorem app_pc_step {s x : Operand} (hgd : o.guard = none) (ho : o.op = .call { callee := .builtin .append, args := #[s, x], argTypes := #[33, 33] }) {v : Value} {xs : List Pc} {f t : Int} {ps : ByteArray} {Kc : Act → World → Prop}
    (hs : a.eval s = v) (hx : a.eval x = .slice (some ⟨W.heap.size, 0, none⟩) 1 1) (HO : OPc W B v xs) (hB : B ≤ W.heap.size) (hl : xs.length ≤ 1000000)
    (h : ∀ v1 w1, OPc w1 B v1 (xs ++ [⟨f, t, ps⟩]) → Below B W w1 → W.grownBy w1 v.ownBlock → Kc (a.put o.dst v1) w1) :
    if Region.wanted o (yielded ops a.tmps) = true then Oper.wp Try.prog o a (W.alloc (.cells #[.int .i64 f, .int .i64 t, .string ps] 42)) Kc Q else Kc (a.put o.dst undef) (W.alloc (.cells #[.int .i64 f, .int .i64 t, .string ps] 42)) :=
  app_one_step KPc 33 42 (.agg #[.int .i64 0, .int .i64 0, .string ByteArray.empty]) 32 Try.underlying33 infoPc rfl (by decide) (by decide) hgd ho hs hx (fun okp => KPc_M W B okp f t ps) HO hB (by omega) h
end
theorem OPc_readn {w : World} {B : Nat} {v : Value} {l : List Pc} (h : OPc w B v l) (n : Nat) (hn : l.length = n) : ∃ A c, v = .slice A n c ∧ n ≤ c ∧ KPc.C w A n l := by
  subst hn
  exact Kd.R_reads h
theorem add_field (ad : Addr) (m j : Nat) : ad.add (m + (j + 1)) = ⟨(ad.add m).block, (ad.add m).off + (j + 1), none⟩ := by
  rw [← Go.Deep.add_add]
  unfold Addr.add
  rw [if_neg (by omega)]
/-- A row of pieces, read at a place. -/
theorem C_atPc {A : Option Addr} {n : Nat} {l : List Pc} {w : World} (h : KPc.C w A n l) (i : Nat) (hi : i < n) :
    ∃ ad, A = some ad ∧ w.cell? (ad.add (i * 3)) = some (.int .i64 (l.getD i default).f) ∧ w.cell? ⟨(ad.add (i * 3)).block, (ad.add (i * 3)).off + 1, none⟩ = some (.int .i64 (l.getD i default).t) ∧ w.cell? ⟨(ad.add (i * 3)).block, (ad.add (i * 3)).off + 2, none⟩ = some (.string (l.getD i default).v) := by
  have hn := h.1
  subst hn
  obtain ⟨ad, e, hc⟩ := h.2.2 (by omega)
  obtain ⟨c, h1, ⟨_, _, rfl, rfl, ⟨_, _, rfl, rfl, rfl⟩⟩, h3⟩ := hc i _ (List.getElem?_eq_getElem hi)
  have e2 : l.getD i default = l[i] := by simp [List.getD_eq_getElem?_getD, hi]
  rw [e2]
  have a1 := h3 1 _ rfl
  have a2 := h3 2 _ rfl
  rw [show KPc.sz = 3 from rfl, add_field] at a1 a2
  exact ⟨ad, e, h3 0 _ rfl, a1, a2⟩
def Pc.ok (p : Pc) : Prop := ((IntKind.i64.min ≤ p.f ∧ p.f ≤ IntKind.i64.max) ∧ (IntKind.i64.min ≤ p.t ∧ p.t ≤ IntKind.i64.max)) ∧ p.v.size ≤ maxLen

/-- What stands at a time. -/
def atL : List Pc → Int → ByteArray × Bool
  | [], _ => (ByteArray.empty, false)
  | p :: l, x => if p.sp.has x then (p.v, true) else atL l x
/-- What is left of pieces without a span. -/
def withoutL (l : List Pc) (s : Sp) : List Pc := if s.may then l.flatMap (fun p => (minusL p.sp s).map fun r => ⟨r.f, r.t, p.v⟩) else l
def cutP (p : Pc) : Pc := if 10 < p.v.size then ⟨p.f, p.t, p.v.extract 0 10⟩ else p
/-- Where one is laid over others. -/
def overGo (p : Pc) : List Pc → Bool → List Pc
  | [], done => if done then [] else [p]
  | q :: l, done => if !done && decide (p.t ≤ q.f) then p :: q :: overGo p l true else q :: overGo p l done
def overL (l : List Pc) (p : Pc) : List Pc := if p.sp.may then overGo p (withoutL l p.sp) false else l
def madeL (l : List Pc) : List Pc := (l.take 8).foldl (fun o p => overL o (cutP p)) []
end Go.Proofs.Ytloachifhaigjaa.A
