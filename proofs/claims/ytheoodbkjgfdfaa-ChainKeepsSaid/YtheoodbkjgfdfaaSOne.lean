/- Spans: which may be, which times lie in them, what two have in common. -/
import Derived.Test.YtheoodbkjgfdfaaABase
namespace Go.Proofs.Ytheoodbkjgfdfaa.A.S
open Go.RowKit Go.Proofs.YtheoodbkjgfdfaaW.PrintWords Go.Proofs.YtheoodbkjgfdfaaW.PrintLast Go.Proofs.YtheoodbkjgfdfaaW.PrintMore
attribute [local go_sem] max2_int min2_int
set_option linter.unusedVariables false
set_option linter.unusedSimpArgs false

structure Sp where
  f : Int
  t : Int
  deriving DecidableEq
abbrev Sp.val (s : Sp) : Value := .agg #[.int .i64 s.f, .int .i64 s.t]
def Sp.may (s : Sp) : Bool := decide (0 ≤ s.f ∧ s.f < s.t ∧ s.t ≤ 1099511627776)
def Sp.has (s : Sp) (x : Int) : Bool := s.may && decide (s.f ≤ x ∧ x < s.t)
theorem may_iff (s : Sp) : s.may = true ↔ 0 ≤ s.f ∧ s.f < s.t ∧ s.t ≤ 1099511627776 := by simp [Sp.may]
theorem may_not (s : Sp) : s.may = false ↔ ¬ (0 ≤ s.f ∧ s.f < s.t ∧ s.t ≤ 1099511627776) := by simp [Sp.may]
/-- The block of a span's variable. -/
abbrev spBox (a b : Int) : Obj := .cells #[.int .i64 a, .int .i64 b] 33

set_option maxHeartbeats 400000 in
theorem may_calls (a b : Int) (w : World) : Calls Try.prog 50 #[.agg #[.int .i64 a, .int .i64 b]] w fun e w' => e = .returned (.bool (Sp.may ⟨a, b⟩)) ∧ w' = w.alloc (spBox a b) := by
  by_cases h1 : 0 ≤ a
  · by_cases h2 : a < b
    · by_cases h3 : b ≤ 1099511627776
      · have hm : Sp.may ⟨a, b⟩ = true := (may_iff _).2 ⟨h1, h2, h3⟩
        rw [hm]
        clear hm
        go_enter Try.func50, Try.ntmps50
        go_wp2
        go_ret
        exact ⟨rfl, rfl⟩
      · have hm : Sp.may ⟨a, b⟩ = false := (may_not _).2 (fun h => h3 h.2.2)
        rw [hm]
        clear hm
        have hd : decide (b ≤ 1099511627776) = false := decide_eq_false h3
        go_enter Try.func50, Try.ntmps50
        go_wp2
        go_ret
        exact ⟨rfl, rfl⟩
    · have hm : Sp.may ⟨a, b⟩ = false := (may_not _).2 (fun h => h2 h.2.1)
      rw [hm]
      clear hm
      have hd : decide (a < b) = false := decide_eq_false h2
      go_enter Try.func50, Try.ntmps50
      go_wp2
      go_ret
      exact ⟨rfl, rfl⟩
  · have hm : Sp.may ⟨a, b⟩ = false := (may_not _).2 (fun h => h1 h.1)
    rw [hm]
    clear hm
    have hd : decide (0 ≤ a) = false := decide_eq_false h1
    go_enter Try.func50, Try.ntmps50
    go_wp2
    go_ret
    exact ⟨rfl, rfl⟩

theorem has_iff (s : Sp) (x : Int) : s.has x = true ↔ s.may = true ∧ s.f ≤ x ∧ x < s.t := by simp [Sp.has]
theorem has_not (s : Sp) (x : Int) : s.has x = false ↔ ¬ (s.may = true ∧ s.f ≤ x ∧ x < s.t) := by rw [← has_iff]; cases s.has x <;> simp

/-- What two have in common, if anything. -/
def meetV (a b : Sp) : Sp := ⟨if a.f < b.f then b.f else a.f, if b.t < a.t then b.t else a.t⟩
def meetB (a b : Sp) : Bool := a.may && b.may && (meetV a b).may
def meetR (a b : Sp) : Sp := if meetB a b then meetV a b else ⟨0, 0⟩

end Go.Proofs.Ytheoodbkjgfdfaa.A.S

/- What of a span is left without another one. -/
namespace Go.Proofs.Ytheoodbkjgfdfaa.A.S
open Go.RowKit Go.Proofs.YtheoodbkjgfdfaaW.PrintWords Go.Proofs.YtheoodbkjgfdfaaW.PrintLast Go.Proofs.YtheoodbkjgfdfaaW.PrintMore
attribute [local go_sem] max2_int min2_int
set_option linter.unusedVariables false
set_option linter.unusedSimpArgs false

/-- A span as two cells. -/
def KSp : Kd Sp := Kd.iso (Kd.pair (Kd.int .i64) (Kd.int .i64)) (fun s => (s.f, s.t))
theorem KSp_M (w : World) (B : Nat) (ok : Nat → Prop) (a b : Int) : KSp.M w B ok ⟨a, b⟩ [.int .i64 a, .int .i64 b] := ⟨[.int .i64 a], [.int .i64 b], rfl, rfl, rfl⟩
theorem KSp_K (w : World) (a b : Int) : KSp.K w ⟨a, b⟩ [.int .i64 a, .int .i64 b] := ⟨[.int .i64 a], [.int .i64 b], rfl, rfl, rfl⟩
theorem infoSp : (Try.prog.info? 33).map (fun i => (i.zero, i.size, i.bytes)) = some (some (.agg #[.int .i64 0, .int .i64 0]), 2, 16) := by kernel_rfl
abbrev OSp (w : World) (B : Nat) (v : Value) (l : List Sp) : Prop := OR KSp 33 w B v l
section
variable {ops : Array Oper} {rest : List Oper} {o : Oper} {a : Act} {Q : Exit → Act → World → Prop} {W : World} {B : Nat}
end
theorem reps_one {α : Type} {R : α → List Value → Prop} {size : Nat} {p : α} {cs : List Value} (h : R p cs) (hl : cs.length = size := by rfl) : Reps R size [p] cs := by
  subst hl
  refine ⟨by simp, fun j q hj => ?_⟩
  have hj0 : j = 0 := by
    have := (List.getElem?_eq_some_iff.1 hj).1
    simpa using this
  subst hj0
  have hq : p = q := by simpa using hj
  subst hq
  simpa using h
theorem OSp_lit1 {W : World} {B g : Nat} (f t : Int) (hg : g = W.heap.size) (hB : B ≤ W.heap.size) : OSp (W.alloc (.cells #[.int .i64 f, .int .i64 t] 33)) B (.slice (some ⟨g, 0, none⟩) 1 1) [⟨f, t⟩] := by
  subst hg
  refine ⟨fun _ _ => trivial, [.int .i64 f, .int .i64 t], ?_, ?_⟩
  · exact World.ownsRow_lit (base := B) (e := 33) (size := 2) W #[.int .i64 f, .int .i64 t] 1 hB (by simp [maxLen]) rfl
  · exact reps_one (KSp_M _ _ _ f t)

def twoOf (a m : Sp) : List Sp := [⟨a.f, m.f⟩, ⟨m.t, a.t⟩]
def minusL (a b : Sp) : List Sp := if a.may then (if meetB a b then (twoOf a (meetV a b)).filter Sp.may else [a]) else []

end Go.Proofs.Ytheoodbkjgfdfaa.A.S

/- The document's spans. -/
namespace Go.Proofs.Ytheoodbkjgfdfaa.A.S
open Go.RowKit Go.Proofs.YtheoodbkjgfdfaaW.PrintWords Go.Proofs.YtheoodbkjgfdfaaW.PrintLast Go.Proofs.YtheoodbkjgfdfaaW.PrintMore
set_option linter.unusedVariables false
set_option linter.unusedSimpArgs false

set_option maxHeartbeats 400000 in
theorem rmay_calls (a b : Int) (w : World) : Calls Try.prog 61 #[.agg #[.int .i64 a, .int .i64 b]] w fun e w' => e = .returned (.bool (Sp.may ⟨a, b⟩)) ∧ w' = w.alloc (spBox a b) := by
  by_cases h1 : 0 ≤ a
  · by_cases h2 : a < b
    · by_cases h3 : b ≤ 1099511627776
      · have hm : Sp.may ⟨a, b⟩ = true := (may_iff _).2 ⟨h1, h2, h3⟩
        rw [hm]
        clear hm
        go_enter Try.func61, Try.ntmps61
        go_wp2
        go_ret
        exact ⟨rfl, rfl⟩
      · have hm : Sp.may ⟨a, b⟩ = false := (may_not _).2 (fun h => h3 h.2.2)
        rw [hm]
        clear hm
        have hd : decide (b ≤ 1099511627776) = false := decide_eq_false h3
        go_enter Try.func61, Try.ntmps61
        go_wp2
        go_ret
        exact ⟨rfl, rfl⟩
    · have hm : Sp.may ⟨a, b⟩ = false := (may_not _).2 (fun h => h2 h.2.1)
      rw [hm]
      clear hm
      have hd : decide (a < b) = false := decide_eq_false h2
      go_enter Try.func61, Try.ntmps61
      go_wp2
      go_ret
      exact ⟨rfl, rfl⟩
  · have hm : Sp.may ⟨a, b⟩ = false := (may_not _).2 (fun h => h1 h.1)
    rw [hm]
    clear hm
    have hd : decide (0 ≤ a) = false := decide_eq_false h1
    go_enter Try.func61, Try.ntmps61
    go_wp2
    go_ret
    exact ⟨rfl, rfl⟩

theorem meetB_iff (a b c d : Int) (h1 : Sp.may ⟨a, b⟩ = true) (h2 : Sp.may ⟨c, d⟩ = true) : meetB ⟨a, b⟩ ⟨c, d⟩ = true ↔ c < b ∧ a < d := by
  rw [may_iff] at h1 h2
  have e : meetB ⟨a, b⟩ ⟨c, d⟩ = (meetV ⟨a, b⟩ ⟨c, d⟩).may := by
    unfold meetB
    rw [(may_iff _).2 h1, (may_iff _).2 h2]
    rfl
  rw [e, may_iff]
  simp only [meetV]
  simp only at h1 h2
  constructor
  · intro h
    split at h <;> split at h <;> omega
  · intro h
    split <;> split <;> omega

end Go.Proofs.Ytheoodbkjgfdfaa.A.S
