/- What all statements of span lean on: the example; spans that come in; cells of rows of spans. -/
import Derived.Test.YtloachifhaigjaaAMinus
import Derived.Test.YtloachifhaigjaaAOpen
import Derived.Test.YtloachifhaigjaaWEqStruct
namespace Go.Proofs.Ytloachifhaigjaa.A
open Go.RowKit Go.Proofs.YtloachifhaigjaaW.PrintWords Go.Proofs.YtloachifhaigjaaW.PrintLast Go.Proofs.YtloachifhaigjaaW.PrintMore
set_option linter.unusedVariables false
set_option linter.unusedSimpArgs false

theorem eqA23 (d : Nat) (w : World) (x0 y0 : Int) (x1 y1 : Int) :
    (Op.equalIn (d + 2) 23 (.agg #[.int .i64 x0, .int .i64 x1]) (.agg #[.int .i64 y0, .int .i64 y1])).run Try.prog w = .ok (x0 == y0 && (x1 == y1)) w := by
  refine eqA_of Try.underlying23 (by kernel_rfl) ?_
  refine eqf_cons (by rfl) (by go_simp; rfl) (by go_simp; rfl) (by go_simp) ?_
  exact eqf_last (by rfl) (by go_simp; rfl) (by go_simp; rfl) (by go_simp)

theorem opens_span : Opens 23 KSp (fun _ => True) := by
  intro H enc w base spare held fuel cs x h
  obtain ⟨xs, n, rfl, rfl, hl, hx, hf⟩ := DataW.trod_struct Try.underlying23 h
  have hl2 : cs.length = 2 := hl.trans (by kernel_rfl)
  match cs, hl2 with
  | [c0, c1], _ =>
    have f0 := hf 0 _ rfl
    have f1 := hf 1 _ rfl
    have hx2 : xs.length = 2 := hx
    match xs, hx2 with
    | [x0, x1], _ =>
      obtain ⟨a, ha, _, _⟩ := DataW.trod_int (x := x0) Try.underlying3 f0
      obtain ⟨b, hb, _, _⟩ := DataW.trod_int (x := x1) Try.underlying3 f1
      have hci : Try.prog.cellsOf 3 = 1 := by kernel_rfl
      have ha' : c0 = .int .i64 a := by simpa [hci] using ha
      have hb' : c1 = .int .i64 b := by simpa [hci] using hb
      subst ha' hb'
      exact ⟨⟨a, b⟩, KSp_K _ a b, trivial⟩

theorem span_agg {c : Array Value} {w : World} {y : Sp} (h : KSp.K w y (Value.agg c).cells.toList) : c = #[.int .i64 y.f, .int .i64 y.t] := by
  obtain ⟨_, _, h1, rfl, rfl⟩ := h
  have : c.toList = [.int .i64 y.f, .int .i64 y.t] := by simpa [Value.cells] using h1
  apply Array.ext'
  exact this
/-- The cells of a row of spans of one's own. -/
theorem OSp_cell {W : World} {B g n cap : Nat} {l : List Sp} (h : OSp W B (.slice (some ⟨g, 0, none⟩) n cap) l) (i : Nat) (hi : i < l.length) : W.cell? ⟨g, i * 2, none⟩ = some (.int .i64 (l.getD i ⟨0, 0⟩).f) ∧ W.cell? ⟨g, i * 2 + 1, none⟩ = some (.int .i64 (l.getD i ⟨0, 0⟩).t) := by
  have hr := (Kd.R_reads' h).2.2
  have hn := (Kd.R_reads' h).1
  obtain ⟨ad, e, hc⟩ := hr.2.2 (by omega)
  injection e with e
  subst e
  obtain ⟨c, h1, ⟨_, _, rfl, rfl, rfl⟩, h3⟩ := hc i _ (List.getElem?_eq_getElem hi)
  have e2 : l.getD i ⟨0, 0⟩ = l[i] := by simp [List.getD_eq_getElem?_getD, hi]
  rw [e2]
  have a0 := h3 0 _ rfl
  have a1 := h3 1 _ rfl
  rw [add_plain] at a0 a1
  exact ⟨a0, a1⟩
theorem lives_list : minusL ⟨0, 9⟩ ⟨3, 5⟩ = [⟨0, 3⟩, ⟨5, 9⟩] := by decide
theorem lives_has : Sp.has ⟨2, 4⟩ 2 = true := by decide

set_option maxHeartbeats 1000000 in
theorem lives_calls (w : World) : Calls Try.prog 18 #[] w fun e w' => e = .returned (.bool true) ∧ Below w.heap.size w w' := by
  have hq := eqA23
  go_enter Try.func18, Try.ntmps18
  go_wp2_with fail
  (with_reducible refine (minus_calls _ _ _ _ _).mono ?_)
  rw [lives_list]
  rintro e w1 ⟨v, rfl, HO, hb⟩
  obtain ⟨g, cap, rfl, hg, _⟩ := Kd.R_form HO (by decide)
  obtain ⟨h0, h1⟩ := OSp_cell HO 0 (by decide)
  obtain ⟨h2, h3⟩ := OSp_cell HO 1 (by decide)
  simp at h0 h1 h2 h3
  have HB := Aside0.mk hb
  clear HO hb
  go_wp2
  go_ret
  exact ⟨rfl, by repeat (with_reducible first | exact HB.out | apply below_alloc)⟩

theorem meetV_comm (a b : Sp) : meetV a b = meetV b a := by
  unfold meetV
  congr 1
  · by_cases h : a.f < b.f <;> by_cases h2 : b.f < a.f <;> simp [h, h2] <;> omega
  · by_cases h : b.t < a.t <;> by_cases h2 : a.t < b.t <;> simp [h, h2] <;> omega
theorem meetB_comm (a b : Sp) : meetB a b = meetB b a := by unfold meetB; rw [meetV_comm, Bool.and_comm a.may b.may]
theorem meetR_comm (a b : Sp) : meetR a b = meetR b a := by unfold meetR; rw [meetB_comm, meetV_comm]
theorem meet_le (a b : Sp) : a.f ≤ (meetV a b).f ∧ (meetV a b).t ≤ a.t ∧ b.f ≤ (meetV a b).f ∧ (meetV a b).t ≤ b.t := by
  simp only [meetV]
  refine ⟨?_, ?_, ?_, ?_⟩ <;> split <;> omega
theorem meetB_may {a b : Sp} (h : meetB a b = true) : a.may = true ∧ b.may = true ∧ (meetV a b).may = true := by simpa [meetB, and_assoc] using h
/-- Nothing is left of what lies in the other one. -/
theorem minus_in {m a : Sp} (hm : m.may = true) (ha : a.may = true) (h1 : a.f ≤ m.f) (h2 : m.t ≤ a.t) : minusL m a = [] := by
  have hv : meetV m a = m := by
    unfold meetV
    rw [if_neg (by omega), if_neg (by omega)]
  have hb : meetB m a = true := by unfold meetB; rw [hv, hm, ha]; rfl
  have e1 : Sp.may ⟨m.f, m.f⟩ = false := (may_not _).2 (by simp)
  have e2 : Sp.may ⟨m.t, m.t⟩ = false := (may_not _).2 (by simp)
  unfold minusL
  rw [if_pos hm, if_pos hb, hv]
  simp [twoOf, e1, e2]

end Go.Proofs.Ytloachifhaigjaa.A
