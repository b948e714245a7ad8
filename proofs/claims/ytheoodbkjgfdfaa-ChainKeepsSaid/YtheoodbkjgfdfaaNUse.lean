/- What an index answers; the document's Add. -/
import Derived.Test.YtheoodbkjgfdfaaNIadd
import Derived.Test.YtheoodbkjgfdfaaNAdd
import Derived.Test.YtheoodbkjgfdfaaNDoc
import Derived.Test.YtheoodbkjgfdfaaMTwo
namespace Go.Proofs.Ytheoodbkjgfdfaa.A
open R
open Go.RowKit Go.Proofs.YtheoodbkjgfdfaaW.PrintWords Go.Proofs.YtheoodbkjgfdfaaW.PrintLast Go.Proofs.YtheoodbkjgfdfaaW.PrintMore
set_option linter.unusedVariables false
set_option linter.unusedSimpArgs false

theorem radd_calls (A : Option Addr) (n c B : Nat) (l : List Vr) (v : Vr) (w : World) (h : OVr w B (.slice A n c) l) (hB : B ≤ w.heap.size) (hn : n ≤ 5000) (hs : SrtV l) (hk : v.k.size ≤ 100000) (hv : v.v.size ≤ 9223372036854775807) :
    Calls Try.prog 24 #[.slice A n c, (.agg #[.string v.k, .int .i64 v.br, .int .i64 v.ep, .int .i64 v.sq, .int .i64 v.f, .int .i64 v.t, .string v.v, .bool v.g])] w fun e w' => ∃ u, e = .returned (.tuple #[u, .int .i64 (addV l v).2]) ∧ OVr w' B u (addV l v).1 ∧ Below w.heap.size w w' := by
  obtain ⟨h1, hnc, hC⟩ := Kd.R_reads' h
  have hC' : KVr.C w A n l := by rw [h1]; exact hC
  cases hm : mayV v with
  | false =>
    have e1 : addV l v = (l, 1) := by unfold addV; rw [if_pos hm]
    rw [e1]
    refine (radd_bad A n c l v w hC' hnc hn hk hv hm).mono ?_
    rintro e w' ⟨rfl, hb⟩
    exact ⟨_, rfl, Kd.R_below h hb, hb⟩
  | true =>
    cases hh : hadV l v with
    | true =>
      have e1 : addV l v = (l, 9) := by unfold addV; rw [if_neg (by simp [hm]), if_pos hh]
      rw [e1]
      obtain ⟨a1, a2⟩ := (had_at hs).1 hh
      refine (radd_had A n c l v (aV l v).length w hC' hnc hn hk hv hm (by omega) (fun j hj => aV_lo l v j hj) a2).mono ?_
      rintro e w' ⟨rfl, hb⟩
      exact ⟨_, rfl, Kd.R_below h hb, hb⟩
    | false =>
      have e1 : addV l v = (aV l v ++ v :: bV l v, 0) := by unfold addV; rw [if_neg (by simp [hm]), if_neg (by simp [hh])]
      rw [e1]
      have h2 := aV_len l v
      refine (radd_new A n c l v (aV l v).length w hC' hnc hn hk hv hm (by omega) (fun j hj => aV_lo l v j hj) (fun j h3 h4 => had_hi hs hh j h3 (by omega))).mono ?_
      rintro e w' ⟨u, rfl, hO, hb⟩
      rw [take_aV, drop_aV] at hO
      exact ⟨u, rfl, Kd.R_lower hO hB, hb⟩
section
variable {w : World} {B X : Nat} {m : Int} {its : List M.It} {l : List Vr}
theorem xof_calls (h : IXi w B X m its l) (hl : l.length ≤ 4000) (key : ByteArray) :
    Calls Try.prog 15 #[.pointer (some ⟨X, 0, none⟩), .string key] w fun e w' => ∃ v, e = .returned v ∧ OVr w' w.heap.size v (ofV l key) ∧ Below w.heap.size w w' := by
  obtain ⟨A, n, c, b, hget, hrow⟩ := get_row h key
  obtain ⟨L, xs, h1, h2, h3, h4, h5, h6⟩ := h
  obtain ⟨a1, a2, a3⟩ := Kd.R_reads' hrow
  have hle : (ofV l key).length ≤ l.length := List.length_filter_le _ _
  exact iof_calls w X L m xs key (ofV l key) ⟨A, n, c⟩ b h1 h3 (by rw [h4]; exact hget) (by rw [a1]; exact a3) a2 (by show n ≤ 5000; omega)
theorem xkeys_calls (h : IXi w B X m its l) (hl : l.length ≤ 4000) :
    Calls Try.prog 16 #[.pointer (some ⟨X, 0, none⟩)] w fun e w' => ∃ v, e = .returned v ∧ M.OStr w' w.heap.size v (keysV l) ∧ Below w.heap.size w w' := by
  have hlen := its_len h
  obtain ⟨k1, k2, k3, k4⟩ := its_keys h
  have hk := keysV_is k1 k2 k3 k4
  obtain ⟨L, xs, h1, h2, h3, h4, h5, h6⟩ := h
  have hxl : xs.length ≤ 100000 := by
    have h9 := congrArg List.length h4
    rw [List.length_map, List.length_tail] at h9
    omega
  have hr : M.rowS its 1 = its.map M.It.k := by
    have hs := (sk_srt h3).2
    rw [h4] at hs
    unfold M.rowS
    rw [if_pos (by omega), List.filter_eq_self.2]
    intro p hp
    exact decide_eq_true (by have := (hs p hp).1; omega)
  have := ikeys_calls w X L m xs h1 h3 hxl
  rw [h4, hr, ← hk] at this
  exact this
theorem xlen_calls (h : IXi w B X m its l) :
    Calls Try.prog 37 #[.pointer (some ⟨X, 0, none⟩)] w fun e w' => e = .returned (.int .i64 m) ∧ w' = w := by
  obtain ⟨L, xs, h1, h2, h3, h4, h5, h6⟩ := h
  exact ilen_calls w X L m h1
end
theorem xnew_calls (w : World) :
    Calls Try.prog 9 #[] w fun e w' => ∃ X, e = .returned (.pointer (some ⟨X, 0, none⟩)) ∧ IXi w' w.heap.size X 0 [] [] ∧ Below w.heap.size w w' := by
  refine (inew_calls w).mono ?_
  rintro e w' ⟨X, L, rfl, h1, ⟨xs, a1, a2, a3⟩, h3, h4, h5⟩
  exact ⟨X, rfl, ⟨L, xs, h1, h4, a1, a2, a3, List.Pairwise.nil, (fun p hp => nomatch hp), (fun p hp => nomatch hp)⟩, h5⟩
end Go.Proofs.Ytheoodbkjgfdfaa.A
