/- ABytes -/
import Derived.Test.YtmfnbkghfmeekaaZABase
namespace Go.Proofs.Ytmfnbkghfmeekaa.A
open Go.RowKit Go.Proofs.YtmfnbkghfmeekaaW.PrintWords Go.Proofs.YtmfnbkghfmeekaaW.PrintLast Go.Proofs.YtmfnbkghfmeekaaW.PrintMore
set_option linter.unusedVariables false
set_option linter.unusedSimpArgs false
abbrev U8 : Kd Int := Kd.int .u8
abbrev OB (w : World) (B : Nat) (v : Value) (l : List Int) : Prop := U8.R 5 w B (fun _ => True) v l
theorem infoU8 : (Try.prog.info? 5).map (fun i => (i.zero, i.size, i.bytes)) = some (some (.int .u8 0), 1, 1) := by kernel_rfl
section
variable {ops : Array Oper} {rest : List Oper} {o : Oper} {a : Act} {Q : Exit → Act → World → Prop} {W : World} {B : Nat}
theorem cutf (A : Option Addr) (c : Nat) (l : List Int) (j : Int) (h0 : 0 ≤ j) (hm : j ≤ l.length) (hc : l.length ≤ c) :
    ∃ (A' : Option Addr) (c' : Nat), (∀ W : World, (Instr.slice 31 (.slice A l.length c) (some (.int .i64 j)) none none).run Try.prog W = .ok (.slice A' (l.drop j.toNat).length c') W) ∧
      (∀ w : World, U8.C w A l.length l → U8.C w A' (l.drop j.toNat).length (l.drop j.toNat)) ∧ (l.drop j.toNat).length ≤ c' := by
  obtain ⟨i0, hi, _, hsz, _⟩ := info_parts infoU8
  refine ⟨_, c - j.toNat, fun W => ?_, fun w h => Kd.C_drop h (by omega) hc, by rw [List.length_drop]; omega⟩
  rw [cut_from 31 5 .i64 Try.underlying31 hi 1 hsz A l.length c j h0 hm W, List.length_drop]
  rfl
theorem cutm (A : Option Addr) (c : Nat) (l : List Int) (lo hi : Int) (h0 : 0 ≤ lo) (h1 : lo ≤ hi) (hm : hi ≤ l.length) (hc : l.length ≤ c) :
    ∃ (A' : Option Addr) (c' : Nat), (∀ W : World, (Instr.slice 31 (.slice A l.length c) (some (.int .i64 lo)) (some (.int .i64 hi)) none).run Try.prog W = .ok (.slice A' ((l.take hi.toNat).drop lo.toNat).length c') W) ∧
      (∀ w : World, U8.C w A l.length l → U8.C w A' ((l.take hi.toNat).drop lo.toNat).length ((l.take hi.toNat).drop lo.toNat)) ∧ ((l.take hi.toNat).drop lo.toNat).length ≤ c' := by
  obtain ⟨i0, hi0, _, hsz, _⟩ := info_parts infoU8
  refine ⟨_, c - lo.toNat, fun W => ?_, fun w h => Kd.C_mid h (by omega) (by omega) hc, by rw [List.length_drop, List.length_take]; omega⟩
  rw [cut_mid 31 5 .i64 .i64 Try.underlying31 hi0 1 hsz A l.length c lo hi h0 h1 hm hc W, List.length_drop, List.length_take, Nat.min_eq_left (by omega)]
  rfl
theorem app_bytes {s x : Operand} (hgd : o.guard = none) (ho : o.op = .call { callee := .builtin .append, args := #[s, x], argTypes := #[31, 31] }) {v : Value} {xs ys : List Int} {A : Option Addr} {m c : Nat}
    (hs : a.eval s = v) (hx : a.eval x = .slice A m c) (HO : OB W B v xs) (HR : U8.C W A m ys) (hB : B ≤ W.heap.size) (hl : xs.length + m ≤ 140737488355328)
    (h : ∀ v1 w1, OB w1 B v1 (xs ++ ys) → Below B W w1 → W.grownBy w1 v.ownBlock → (v1.ownBlock = v.ownBlock ∨ ∃ b, v1.ownBlock = some b ∧ W.heap.size ≤ b) → wpList Try.prog ops Q rest (a.put o.dst v1) w1) : wpList Try.prog ops Q (o :: rest) a W :=
  Kd.R_append_row (Value.int .u8) (0 : Int) B hgd s x 31 5 (.int .u8 0) 1 ho Try.underlying31 infoU8 rfl (by decide) v xs ys A m c (fun _ => True) hs hx (fun _ _ => trivial) HO HR (Below.refl B W) hB (by omega) h
theorem app_byte {s x : Operand} (hgd : o.guard = none) (ho : o.op = .call { callee := .builtin .append, args := #[s, x], argTypes := #[31, 31] }) {v : Value} {xs : List Int} {p : Int}
    (hs : a.eval s = v) (hx : a.eval x = .slice (some ⟨W.heap.size, 0, none⟩) 1 1) (HO : OB W B v xs) (hB : B ≤ W.heap.size) (hl : xs.length + 1 ≤ 140737488355328)
    (h : ∀ v1 w1, OB w1 B v1 (xs ++ [p]) → Below B W w1 → W.grownBy w1 v.ownBlock → wpList Try.prog ops Q rest (a.put o.dst v1) w1) : wpList Try.prog ops Q (o :: rest) a (W.alloc (.cells #[.int .u8 p] 5)) :=
  app_one U8 31 5 (.int .u8 0) 1 Try.underlying31 infoU8 rfl (by decide) (by decide) hgd ho hs hx (fun okp => rfl) HO hB (by omega) h
theorem app_str {s x : Operand} (hgd : o.guard = none) (ho : o.op = .call { callee := .builtin .append, args := #[s, x], argTypes := #[31, 9] }) {v : Value} {xs : List Int} {y : ByteArray}
    (hs : a.eval s = v) (hx : a.eval x = .string y) (HO : OB W B v xs) (hB : B ≤ W.heap.size) (hl : xs.length + y.size ≤ 140737488355328)
    (h : ∀ v1 w1, OB w1 B v1 (xs ++ bytesOf y) → Below B W w1 → W.grownBy w1 v.ownBlock → wpList Try.prog ops Q rest (a.put o.dst v1) w1) : wpList Try.prog ops Q (o :: rest) a W :=
  print_append_str B hgd s x 31 9 5 ho Try.underlying31 Try.underlying9 infoU8 v xs y hs hx (Kd.own_of_R HO) (Below.refl B W) hB hl (fun v1 w1 h1 h2 h3 => h v1 w1 (Kd.R_of_own h1 (fun _ _ => trivial)) h2 h3)
theorem OB_lit (l : List Int) (hB : B ≤ W.heap.size) (hl : l.length ≤ 9223372036854775807) : OB (W.alloc (.cells (l.map (Value.int .u8)).toArray 5)) B (.slice (some ⟨W.heap.size, 0, none⟩) l.length l.length) l := by
  refine Kd.R_of_own (enc := Value.int .u8) ?_ (fun _ _ => trivial)
  have h := World.ownsRow_lit (base := B) (e := 5) (size := 1) W (l.map (Value.int .u8)).toArray l.length hB (by simpa [maxLen] using hl) (by simp)
  simpa [encs] using h
theorem lit_S1 {α : Type} {d : Kd α} {e te : Nat} {A : Option Addr} {c : Nat} {x : List α} (h : d.C W A x.length x) (hc : x.length ≤ c) : (Kd.slice e d).C (W.alloc (.cells #[.slice A x.length c] te)) (some ⟨W.heap.size, 0, none⟩) 1 [x] := by
  refine ⟨rfl, by omega, fun _ => ⟨_, rfl, fun j p hj => ⟨[.slice A x.length c], rfl, ?_, fun i u hu => ?_⟩⟩⟩
  · have hj0 : j = 0 := by
      have := (List.getElem?_eq_some_iff.1 hj).1
      simpa using this
    subst hj0
    have hp : x = p := by simpa using hj
    subst hp
    exact ⟨A, c, rfl, hc, Kd.C_alloc h _⟩
  · have hj0 : j = 0 := by
      have := (List.getElem?_eq_some_iff.1 hj).1
      simpa using this
    have hi : i = 0 := by
      have := (List.getElem?_eq_some_iff.1 hu).1
      simpa using this
    subst hi hj0
    have hu' : u = .slice A x.length c := by simpa using hu.symm
    subst hu'
    rw [add_plain, cell_of_row _ _ _ #[.slice A x.length c] te (0, 0) (heap_alloc_new W _)]
    rfl
theorem lit_C (l : List Int) (hl : l.length ≤ 9223372036854775807) : U8.C (W.alloc (.cells (l.map (Value.int .u8)).toArray 5)) (some ⟨W.heap.size, 0, none⟩) l.length l :=
  (Kd.R_reads' (OB_lit (W := W) (B := 0) l (Nat.zero_le _) hl)).2.2
theorem OB_string {v : Value} {l : List Int} (h : OB W B v l) : (convert 31 9 v).run Try.prog W = .ok (.string (strOfNums l)) W := by
  obtain ⟨A, c, rfl, _, hr⟩ := Kd.R_reads h
  exact Kd.C_string Try.underlying31 Try.underlying5 Try.underlying9 hr
theorem C_string' {A : Option Addr} {n c : Nat} {l : List Int} (h : U8.C W A n l) : (convert 31 9 (.slice A n c)).run Try.prog W = .ok (.string (strOfNums l)) W :=
  Kd.C_string Try.underlying31 Try.underlying5 Try.underlying9 h
theorem OB_grown {v u : Value} {xs : List Int} {w1 : World} {row : Option Nat} (h : OB W B u xs) (hg : W.grownBy w1 row) (hne : u.ownBlock = none ∨ u.ownBlock ≠ row) : OB w1 B u xs := by
  obtain ⟨h0, inner, ho, hr⟩ := h
  exact ⟨h0, inner, ho.kept hg hne, hr⟩
theorem OB_nil (w : World) (B : Nat) : OB w B (.slice none 0 0) [] := Kd.R_nil _ _ _ _ _
theorem OB_readn {w : World} {v : Value} {l : List Int} (h : OB w B v l) (n : Nat) (hn : l.length = n) : ∃ A c, v = .slice A n c ∧ n ≤ c ∧ U8.C w A n l := by
  subst hn
  exact Kd.R_reads h
theorem OB_read {w : World} {v : Value} {l : List Int} (h : OB w B v l) : ∃ A c, v = .slice A l.length c ∧ l.length ≤ c ∧ U8.C w A l.length l := Kd.R_reads h
end
end Go.Proofs.Ytmfnbkghfmeekaa.A
