/- Items of the document's: a key, its level, its thing; rows of them. -/
import Derived.Test.YthilhcdlpfjodaaKFrom
import Derived.Deep.Slices
import Derived.Laws.Cover1
namespace Go.Proofs.Ythilhcdlpfjodaa.A
open Go.RowKit Go.Proofs.YthilhcdlpfjodaaW.PrintWords Go.Proofs.YthilhcdlpfjodaaW.PrintLast Go.Proofs.YthilhcdlpfjodaaW.PrintMore
set_option linter.unusedVariables false
set_option linter.unusedSimpArgs false

def KIt : Kd It := Kd.iso (Kd.pair Kd.string (Kd.pair (Kd.int .i64) (Kd.int .i64))) (fun p => (p.k, ((p.lv : Int), p.v)))
theorem KIt_M (w : World) (B : Nat) (ok : Nat → Prop) (k : ByteArray) (lv : Nat) (v : Int) : KIt.M w B ok ⟨k, lv, v⟩ [.string k, .int .i64 (lv : Int), .int .i64 v] := ⟨[.string k], [.int .i64 (lv : Int), .int .i64 v], rfl, rfl, ⟨[.int .i64 (lv : Int)], [.int .i64 v], rfl, rfl, rfl⟩⟩
theorem KIt_of {w : World} {p : It} {cs : List Value} (h : KIt.K w p cs) : cs = [.string p.k, .int .i64 (p.lv : Int), .int .i64 p.v] := by
  obtain ⟨_, _, rfl, rfl, ⟨_, _, rfl, rfl, rfl⟩⟩ := h
  rfl
theorem infoIt : (Try.prog.info? 47).map (fun i => (i.zero, i.size, i.bytes)) = some (some (.agg #[.string ByteArray.empty, .int .i64 0, .int .i64 0]), 3, 32) := by kernel_rfl
abbrev OIt (w : World) (B : Nat) (v : Value) (l : List It) : Prop := OR KIt 47 w B v l
theorem OIt_nil (w : World) (B : Nat) : OIt w B (.slice none 0 0) [] := Kd.R_nil _ _ _ _ _
section
variable {ops : Array Oper} {rest : List Oper} {o : Oper} {a : Act} {Q : Exit → Act → World → Prop} {W : World} {B : Nat}
theorem app_it {s x : Operand} (hgd : o.guard = none) (ho : o.op = .call { callee := .builtin .append, args := #[s, x], argTypes := #[25, 25] }) {v : Value} {xs : List It} {k : ByteArray} {lv : Nat} {z : Int}
    (hs : a.eval s = v) (hx : a.eval x = .slice (some ⟨W.heap.size, 0, none⟩) 1 1) (HO : OIt W B v xs) (hB : B ≤ W.heap.size) (hl : xs.length ≤ 1000000)
    (h : ∀ v1 w1, OIt w1 B v1 (xs ++ [⟨k, lv, z⟩]) → Below B W w1 → W.grownBy w1 v.ownBlock → wpList Try.prog ops Q rest (a.put o.dst v1) w1) : wpList Try.prog ops Q (o :: rest) a (W.alloc (.cells #[.string k, .int .i64 (lv : Int), .int .i64 z] 47)) :=
  app_one KIt 25 47 (.agg #[.string ByteArray.empty, .int .i64 0, .int .i64 0]) 32 Try.underlying25 infoIt rfl (by decide) (by decide) hgd ho hs hx (fun okp => KIt_M W B okp k lv z) HO hB (by omega) h
theorem app_its {s x : Operand} (hgd : o.guard = none) (ho : o.op = .call { callee := .builtin .append, args := #[s, x], argTypes := #[25, 25] }) {v : Value} {xs ys : List It} {A : Option Addr} {m c : Nat}
    (hs : a.eval s = v) (hx : a.eval x = .slice A m c) (HO : OIt W B v xs) (HR : KIt.C W A m ys) (hB : B ≤ W.heap.size) (hl : xs.length + m ≤ 1000000)
    (h : ∀ v1 w1, OIt w1 B v1 (xs ++ ys) → Below B W w1 → W.grownBy w1 v.ownBlock → wpList Try.prog ops Q rest (a.put o.dst v1) w1) : wpList Try.prog ops Q (o :: rest) a W := by
  refine Kd.R_append_rows KIt (Rr := KIt.K W) (w0 := W) B hgd s x 25 47 (.agg #[.string ByteArray.empty, .int .i64 0, .int .i64 0]) 32 ho Try.underlying25 infoIt rfl (by decide) (by decide) v xs ys A m c (fun _ => True) (fun _ => False) hs hx HO HR ?_ (fun _ h => h.elim) (fun _ _ => trivial) (Below.refl B W) hB (by omega) (fun v1 w1 h1 h2 h3 _ => h v1 w1 h1 h2 h3)
  intro p cs hK
  have e := KIt_of hK
  subst e
  exact KIt_M _ _ _ p.k p.lv p.v
end
theorem OIt_readn {w : World} {B : Nat} {v : Value} {l : List It} (h : OIt w B v l) (n : Nat) (hn : l.length = n) : ∃ A c, v = .slice A n c ∧ n ≤ c ∧ KIt.C w A n l := by
  subst hn
  exact Kd.R_reads h
theorem add_fieldI (ad : Addr) (m j : Nat) : ad.add (m + (j + 1)) = ⟨(ad.add m).block, (ad.add m).off + (j + 1), none⟩ := by
  rw [← Go.Deep.add_add]
  unfold Addr.add
  rw [if_neg (by omega)]
/-- A row of items, read at a place. -/
theorem C_atIt {A : Option Addr} {n : Nat} {l : List It} {w : World} (h : KIt.C w A n l) (i : Nat) (hi : i < n) :
    ∃ ad, A = some ad ∧ w.cell? (ad.add (i * 3)) = some (.string (l.getD i default).k) ∧ w.cell? ⟨(ad.add (i * 3)).block, (ad.add (i * 3)).off + 1, none⟩ = some (.int .i64 ((l.getD i default).lv : Int)) ∧ w.cell? ⟨(ad.add (i * 3)).block, (ad.add (i * 3)).off + 2, none⟩ = some (.int .i64 (l.getD i default).v) := by
  have hn := h.1
  subst hn
  obtain ⟨ad, e, hc⟩ := h.2.2 (by omega)
  obtain ⟨c, h1, h2, h3⟩ := hc i _ (List.getElem?_eq_getElem hi)
  have h2' := KIt_of h2
  subst h2'
  have e2 : l.getD i default = l[i] := by simp [List.getD_eq_getElem?_getD, hi]
  rw [e2]
  have a1 := h3 1 _ rfl
  have a2 := h3 2 _ rfl
  rw [show KIt.sz = 3 from rfl, add_fieldI] at a1 a2
  exact ⟨ad, e, h3 0 _ rfl, a1, a2⟩
theorem cuttI (A : Option Addr) (n c j : Nat) (hj : j ≤ n) (hc : n ≤ c) (W : World) :
    (Instr.slice 25 (.slice A n c) none (some (.int .i64 (j : Int))) none).run Try.prog W = .ok (.slice A j c) W := by
  obtain ⟨i0, hi, _, hsz, _⟩ := info_parts infoIt
  rw [cut_to 25 47 .i64 Try.underlying25 hi A n c (j : Int) (by omega) (by omega) hc W]
  rfl
theorem cutfI (A : Option Addr) (n c : Nat) (l : List It) (j : Nat) (hn : l.length = n) (hj : j ≤ n) (hc : n ≤ c) :
    ∃ (A' : Option Addr) (c' : Nat), (∀ W : World, (Instr.slice 25 (.slice A n c) (some (.int .i64 (j : Int))) none none).run Try.prog W = .ok (.slice A' (n - j) c') W) ∧
      (∀ w : World, KIt.C w A n l → KIt.C w A' (n - j) (l.drop j)) ∧ n - j ≤ c' := by
  subst hn
  obtain ⟨i0, hi, _, hsz, _⟩ := info_parts infoIt
  refine ⟨_, c - j, fun W => ?_, fun w h => by rw [← List.length_drop]; exact Kd.C_drop h (by omega) hc, by omega⟩
  rw [cut_from 25 47 .i64 Try.underlying25 hi 3 hsz A l.length c (j : Int) (by omega) (by omega) W]
  rfl
theorem C_takeI {w : World} {A : Option Addr} {n j : Nat} {l : List It} (h : KIt.C w A n l) (hn : l.length = n) (hj : j ≤ n) : KIt.C w A j (l.take j) := by
  subst hn
  have h7 := Kd.C_take h hj
  rw [show (l.take j).length = j by rw [List.length_take]; omega] at h7
  exact h7
/-- The place of a key, met in a walk. -/
theorem atS_step {l : List It} {key : ByteArray} {i : Nat} (hi : i ≤ atS l key) (hl : i < l.length) : (ltS (l.getD i default).k key = true ∧ i + 1 ≤ atS l key) ∨ (ltS (l.getD i default).k key = false ∧ i = atS l key) := by
  cases h : ltS (l.getD i default).k key with
  | true =>
    left
    refine ⟨rfl, ?_⟩
    rcases Nat.lt_or_ge i (atS l key) with h1 | h1
    · omega
    · obtain rfl : i = atS l key := by omega
      rw [atS_ge l key hl] at h
      cases h
  | false =>
    right
    refine ⟨rfl, ?_⟩
    rcases Nat.lt_or_ge i (atS l key) with h1 | h1
    · rw [atS_lt l key i h1] at h
      cases h
    · omega
set_option maxHeartbeats 2000000 in
theorem rat_calls (A : Option Addr) (n c : Nat) (l : List It) (key : ByteArray) (w : World) (hr : KIt.C w A n l) (hc : n ≤ c) (hn : n ≤ 1000) :
    Calls Try.prog 28 #[.slice A n c, .string key] w fun e w' => e = .returned (.tuple #[.int .i64 (atS l key : Int), .bool (isS l key)]) ∧ Below w.heap.size w w' := by
  have HR := Aside0.mk hr
  have HN := Aside0.mk hr.1
  clear hr
  go_enter Try.func28, Try.ntmps28
  go_wp2_with fail
  go_loopw [6] (fun v6 w' => ∃ (i : Nat), i ≤ n ∧ v6 = .int .i64 i ∧ Aside0 (i ≤ atS l key) ∧ Aside0 (Below w.heap.size w w')) (fun v6 _ => n - (intOf v6).toNat)
  case atStart => exact ⟨0, Nat.zero_le _, rfl, ⟨Nat.zero_le _⟩, ⟨Below.refl _ _⟩⟩
  case round =>
    obtain ⟨i, hin, rfl, HI, HB⟩ := hrel
    by_cases hlt : i < n
    · have hbd := below_step HB.out (below_drew1 (Below.refl wr.heap.size wr))
      obtain ⟨ad, rfl, q0, -, -⟩ := C_atIt HR.out i hlt
      have p0 := pw_cell_below HB.out q0
      have p1 := pw_cell_below hbd q0
      have HBD := Aside0.mk hbd
      have j1 : (i : Int) < (n : Int) := by omega
      have j2 : (0 : Int) ≤ (i : Int) := by omega
      have hst := atS_step HI.out (by rw [HN.out]; exact hlt)
      obtain ⟨k, hk⟩ : ∃ k, (l.getD i default).k = k := ⟨_, rfl⟩
      rw [hk] at p0 p1 hst
      rcases hst with ⟨h1, h2⟩ | ⟨h1, h2⟩
      · have H2 := Aside0.mk h2
        have h1' : (!Go.Op.bytesLess k.toList key.toList) = false := by rw [show Go.Op.bytesLess k.toList key.toList = true from h1]; rfl
        clear q0 hbd h2 hk h1
        go_wp2_with fail
        go_roundw
        case rel => exact ⟨i + 1, hlt, by push_cast; rfl, H2, HB⟩
        case measure => simp [intOf]; omega
      · have H2 := Aside0.mk h2
        have h1' : (!Go.Op.bytesLess k.toList key.toList) = true := by rw [show Go.Op.bytesLess k.toList key.toList = false from h1]; rfl
        have hI : isS l key = (k.toList == key.toList) := by
          unfold isS
          rw [← h2, hk, decide_eq_true (by rw [HN.out]; exact hlt), Bool.true_and]
        have H3 := Aside0.mk hI
        obtain ⟨b, hb⟩ : ∃ b, (k.toList == key.toList) = b := ⟨_, rfl⟩
        have HBB := Aside0.mk hb
        clear q0 hbd h2 hk h1 hI
        go_wp2_with fail
        go_region
        all_goals go_wp2_with fail
        all_goals go_ret2
        all_goals exact ⟨by rw [H3.out, ← H2.out, HBB.out]; rfl, HBD.out⟩
    · have j1 : ¬ (i : Int) < (n : Int) := by omega
      have h1 : i = atS l key := by
        have := HI.out
        have := atS_le l key
        have := HN.out
        omega
      have h2 : isS l key = false := by
        unfold isS
        rw [← h1, decide_eq_false (by rw [HN.out]; exact hlt), Bool.false_and]
      have H1 := Aside0.mk h1
      have H2 := Aside0.mk h2
      have H3 : Aside0 (i = n) := ⟨by omega⟩
      clear h1 h2
      go_wp2_with fail
      go_ret2
      exact ⟨by rw [H2.out, ← H1.out, H3.out]; rfl, HB.out⟩
end Go.Proofs.Ythilhcdlpfjodaa.A
