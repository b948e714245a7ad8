/- Rows of versions: one read at a place, one put behind; lists compared that are the same. -/
import Derived.Test.YtmkabbfglijckaaBLawApart
import Derived.Test.YtmkabbfglijckaaBRefWrite
namespace Go.Proofs.Ytmkabbfglijckaa.A
open Go.RowKit Go.Proofs.YtmkabbfglijckaaW.PrintWords Go.Proofs.YtmkabbfglijckaaW.PrintLast Go.Proofs.YtmkabbfglijckaaW.PrintMore
set_option linter.unusedVariables false
set_option linter.unusedSimpArgs false

theorem OVr_nil (w : World) (B : Nat) : OVr w B (.slice none 0 0) [] := Kd.R_nil _ _ _ _ _
theorem OVr_readn {w : World} {B : Nat} {v : Value} {l : List Vr} (h : OVr w B v l) (n : Nat) (hn : l.length = n) : ∃ A c, v = .slice A n c ∧ n ≤ c ∧ KVr.C w A n l := by
  subst hn
  exact Kd.R_reads h
section
variable {ops : Array Oper} {rest : List Oper} {o : Oper} {a : Act} {Q : Exit → Act → World → Prop} {W : World} {B : Nat}
theorem app_vr {s x : Operand} (hgd : o.guard = none) (ho : o.op = .call { callee := .builtin .append, args := #[s, x], argTypes := #[49, 49] }) {v : Value} {xs : List Vr} {k : ByteArray} {br ep sq f t : Int} {vv : ByteArray} {g : Bool}
    (hs : a.eval s = v) (hx : a.eval x = .slice (some ⟨W.heap.size, 0, none⟩) 1 1) (HO : OVr W B v xs) (hB : B ≤ W.heap.size) (hl : xs.length ≤ 1000000)
    (h : ∀ v1 w1, OVr w1 B v1 (xs ++ [⟨k, br, ep, sq, f, t, vv, g⟩]) → Below B W w1 → W.grownBy w1 v.ownBlock → wpList Try.prog ops Q rest (a.put o.dst v1) w1) : wpList Try.prog ops Q (o :: rest) a (W.alloc (.cells #[.string k, .int .i64 br, .int .i64 ep, .int .i64 sq, .int .i64 f, .int .i64 t, .string vv, .bool g] 27)) :=
  app_one KVr 49 27 (.agg #[.string ByteArray.empty, .int .i64 0, .int .i64 0, .int .i64 0, .int .i64 0, .int .i64 0, .string ByteArray.empty, .bool false]) 80 Try.underlying49 infoVr rfl (by decide) (by decide) hgd ho hs hx (fun okp => KVr_M W B okp ⟨k, br, ep, sq, f, t, vv, g⟩) HO hB (by omega) h
end
theorem add_fieldV (ad : Addr) (m j : Nat) : ad.add (m + (j + 1)) = ⟨(ad.add m).block, (ad.add m).off + (j + 1), none⟩ := by
  rw [← Go.Deep.add_add]
  unfold Addr.add
  rw [if_neg (by omega)]
/-- A row of versions, read at a place. -/
theorem C_atVr {A : Option Addr} {n : Nat} {l : List Vr} {w : World} (h : KVr.C w A n l) (i : Nat) (hi : i < n) :
    ∃ ad, A = some ad ∧ w.cell? (ad.add (i * 8)) = some (.string (l.getD i default).k) ∧ w.cell? ⟨(ad.add (i * 8)).block, (ad.add (i * 8)).off + 1, none⟩ = some (.int .i64 (l.getD i default).br) ∧ w.cell? ⟨(ad.add (i * 8)).block, (ad.add (i * 8)).off + 2, none⟩ = some (.int .i64 (l.getD i default).ep) ∧ w.cell? ⟨(ad.add (i * 8)).block, (ad.add (i * 8)).off + 3, none⟩ = some (.int .i64 (l.getD i default).sq) ∧ w.cell? ⟨(ad.add (i * 8)).block, (ad.add (i * 8)).off + 4, none⟩ = some (.int .i64 (l.getD i default).f) ∧ w.cell? ⟨(ad.add (i * 8)).block, (ad.add (i * 8)).off + 5, none⟩ = some (.int .i64 (l.getD i default).t) ∧ w.cell? ⟨(ad.add (i * 8)).block, (ad.add (i * 8)).off + 6, none⟩ = some (.string (l.getD i default).v) ∧ w.cell? ⟨(ad.add (i * 8)).block, (ad.add (i * 8)).off + 7, none⟩ = some (.bool (l.getD i default).g) := by
  have hn := h.1
  subst hn
  obtain ⟨ad, e, hc⟩ := h.2.2 (by omega)
  obtain ⟨c, h1, hK, h3⟩ := hc i _ (List.getElem?_eq_getElem hi)
  have e2 : l.getD i default = l[i] := by simp [List.getD_eq_getElem?_getD, hi]
  rw [e2]
  have hcc := KVr_of hK
  subst hcc
  have a1 := h3 1 _ rfl
  have a2 := h3 2 _ rfl
  have a3 := h3 3 _ rfl
  have a4 := h3 4 _ rfl
  have a5 := h3 5 _ rfl
  have a6 := h3 6 _ rfl
  have a7 := h3 7 _ rfl
  rw [show KVr.sz = 8 from rfl, add_fieldV] at a1 a2 a3 a4 a5 a6 a7
  exact ⟨ad, e, h3 0 _ rfl, a1, a2, a3, a4, a5, a6, a7⟩
set_option maxRecDepth 100000 in
set_option maxHeartbeats 4000000 in
/-- Lists compared that are the same. -/
theorem same_calls (A B : Option Addr) (n c d : Nat) (l : List Vr) (w : World) (hr : KVr.C w A n l) (hs : KVr.C w B n l) (hc : n ≤ c) (hd : n ≤ d) :
    Calls Try.prog 22 #[.slice A n c, .slice B n d] w fun e w' => e = .returned (.bool true) ∧ Below w.heap.size w w' := by
  have hq := eqA27
  have HR := Aside0.mk hr
  have HS := Aside0.mk hs
  have hm : n ≤ 9223372036854775807 := hr.2.1
  clear hr hs
  go_enter Try.func22, Try.ntmps22
  go_wp2_with fail
  go_loopw [5] (fun v5 w' => ∃ k : Nat, k ≤ n ∧ v5 = .int .i64 k ∧ Aside0 (Below w.heap.size w w')) (fun v5 _ => n - (intOf v5).toNat)
  case atStart => exact ⟨0, Nat.zero_le _, rfl, ⟨Below.refl _ _⟩⟩
  case round =>
    obtain ⟨k, hk, rfl, HB⟩ := hrel
    by_cases hlt : k < n
    · obtain ⟨ad, rfl, q0, q1, q2, q3, q4, q5, q6, q7⟩ := C_atVr HR.out k hlt
      obtain ⟨bd, rfl, r0, r1, r2, r3, r4, r5, r6, r7⟩ := C_atVr HS.out k hlt
      have p0 := pw_cell_below HB.out q0
      have p1 := pw_cell_below HB.out q1
      have p2 := pw_cell_below HB.out q2
      have p3 := pw_cell_below HB.out q3
      have p4 := pw_cell_below HB.out q4
      have p5 := pw_cell_below HB.out q5
      have p6 := pw_cell_below HB.out q6
      have p7 := pw_cell_below HB.out q7
      have s0 := pw_cell_below HB.out r0
      have s1 := pw_cell_below HB.out r1
      have s2 := pw_cell_below HB.out r2
      have s3 := pw_cell_below HB.out r3
      have s4 := pw_cell_below HB.out r4
      have s5 := pw_cell_below HB.out r5
      have s6 := pw_cell_below HB.out r6
      have s7 := pw_cell_below HB.out r7
      clear q0 q1 q2 q3 q4 q5 q6 q7 r0 r1 r2 r3 r4 r5 r6 r7
      generalize l.getD k default = q at *
      obtain ⟨qk, qbr, qep, qsq, qf, qt, qv, qg⟩ := q
      simp only at p0 p1 p2 p3 p4 p5 p6 p7 s0 s1 s2 s3 s4 s5 s6 s7
      have hself : eqV ⟨qk, qbr, qep, qsq, qf, qt, qv, qg⟩ ⟨qk, qbr, qep, qsq, qf, qt, qv, qg⟩ = true := (eqV_iff _ _).2 rfl
      have i1 : (k : Int) < (n : Int) := by omega
      have i2 : (0 : Int) ≤ (k : Int) := by omega
      go_wp2_with fail
      go_quiet (fail)
      have hbr : Below wr.heap.size wr (wr.drewN nq) := by repeat (with_reducible first | exact Below.refl _ _ | apply pw_below_drewN)
      have HBn := Aside0.mk (below_step HB.out hbr)
      clear hbr HB p0 p1 p2 p3 p4 p5 p6 p7 s0 s1 s2 s3 s4 s5 s6 s7 hq
      go_wp2_with fail
      go_roundw
      case rel => exact ⟨k + 1, hlt, rfl, HBn⟩
      case measure => simp [intOf]; omega
    · obtain rfl : k = n := by omega
      go_wp2_with fail
      go_ret
      exact ⟨rfl, HB.out⟩
end Go.Proofs.Ytmkabbfglijckaa.A
