/- The document's rows of a key, and of keys. -/
import Derived.Test.YtheoodbkjgfdfaaNSearch
import Derived.Test.YtheoodbkjgfdfaaMOne
import Derived.Laws.Cover1
namespace Go.Proofs.Ytheoodbkjgfdfaa.A
open R
open Go.RowKit Go.Proofs.YtheoodbkjgfdfaaW.PrintWords Go.Proofs.YtheoodbkjgfdfaaW.PrintLast Go.Proofs.YtheoodbkjgfdfaaW.PrintMore
open Go.Op (bytesLess)
set_option linter.unusedVariables false
set_option linter.unusedSimpArgs false

theorem filt_take {α : Type} [Inhabited α] (f : α → Bool) (l : List α) (k : Nat) (hk : k < l.length) : (l.take (k + 1)).filter f = (l.take k).filter f ++ (if f (l.getD k default) = true then [l.getD k default] else []) := by
  rw [List.take_succ_eq_append_getElem hk, List.filter_append, List.getD_eq_getElem?_getD, List.getElem?_eq_getElem hk]
  simp only [Option.getD_some, List.filter_cons, List.filter_nil]
def ofV (l : List Vr) (key : ByteArray) : List Vr := l.filter (fun p => p.k.toList == key.toList)
def rangeV (l : List Vr) (fr til : ByteArray) : List Vr := l.filter (fun p => !bytesLess p.k.toList fr.toList && bytesLess p.k.toList til.toList)
set_option maxRecDepth 100000 in
set_option maxHeartbeats 2000000 in
theorem of9_calls (A : Option Addr) (n c : Nat) (l : List Vr) (key : ByteArray) (w : World) (hr : KVr.C w A n l) (hc : n ≤ c) (hn : n ≤ 100000) :
    Calls Try.prog 18 #[.slice A n c, .string key] w fun e w' => ∃ v, e = .returned v ∧ OVr w' w.heap.size v (ofV l key) ∧ Below w.heap.size w w' := by
  have HR := Aside0.mk hr
  have HN := Aside0.mk hr.1
  have HLE := Aside0.mk (fun k => List.length_filter_le (fun p : Vr => p.k.toList == key.toList) (l.take k))
  clear hr
  go_enter Try.func18, Try.ntmps18
  go_wp2_with fail
  go_loopw [5, 6] (fun v5 v6 w' => ∃ k : Nat, k ≤ n ∧ v6 = .int .i64 k ∧ Aside0 (OVr w' w.heap.size v5 (ofV (l.take k) key)) ∧ Aside0 (Below w.heap.size w w')) (fun _ v6 _ => n - (intOf v6).toNat)
  case atStart => exact ⟨0, Nat.zero_le _, rfl, ⟨OVr_nil _ _⟩, ⟨Below.refl _ _⟩⟩
  case round =>
    obtain ⟨k, hk, rfl, HO, HB⟩ := hrel
    by_cases hlt : k < n
    · have hln : k < l.length := by rw [HN.out]; exact hlt
      obtain ⟨ad, hA, -⟩ := C_atVr HR.out k hlt
      subst hA
      have h1 := filt_take (fun p : Vr => p.k.toList == key.toList) l k hln
      obtain ⟨p, hp⟩ : ∃ p, l.getD k default = p := ⟨_, rfl⟩
      rw [hp] at h1
      obtain ⟨q0, q1, q2, q3, q4, q5, q6, q7⟩ := vr8 rfl (Kd.C_below HR.out HB.out) k hlt p hp
      obtain ⟨b, hb⟩ : ∃ b, (p.k.toList == key.toList) = b := ⟨_, rfl⟩
      rw [hb] at h1
      have H1 := Aside0.mk h1
      have hll : (ofV (l.take k) key).length ≤ 100000 := by
        have := HLE.out k
        rw [List.length_take] at this
        unfold ofV
        omega
      have HLL := Aside0.mk hll
      have j1 : (k : Int) < (n : Int) := by omega
      have j2 : (0 : Int) ≤ (k : Int) := by omega
      clear h1 hp hln hll
      cases b with
      | true =>
        go_wp2_with ((with_reducible refine gate_dst (N := 26) rfl ?_); refine app_vr rfl rfl rfl rfl HO.out HB.out.size (by have := HLL.out; omega) ?_; intro v7 w7 hO7 hb7 _; have HO7 := Aside0.mk hO7; have HB7 := Aside0.mk (HB.out.trans hb7); clear hO7 hb7)
        go_roundw
        case rel => exact ⟨k + 1, hlt, by push_cast; rfl, ⟨by unfold ofV; rw [H1.out]; exact HO7.out⟩, HB7⟩
        case measure => simp [intOf]; omega
      | false =>
        go_wp2_with fail
        go_roundw
        case rel => exact ⟨k + 1, hlt, by push_cast; rfl, ⟨by unfold ofV; rw [H1.out, if_neg (by simp), List.append_nil]; exact HO.out⟩, HB⟩
        case measure => simp [intOf]; omega
    · have j1 : ¬ (k : Int) < (n : Int) := by omega
      have HF : Aside0 (ofV (l.take k) key = ofV l key) := ⟨by rw [List.take_of_length_le (by have := HN.out; omega)]⟩
      go_wp2_with fail
      go_ret
      exact ⟨_, rfl, by rw [← HF.out]; exact HO.out, HB.out⟩
set_option maxRecDepth 100000 in
set_option maxHeartbeats 2000000 in
theorem range9_calls (A : Option Addr) (n c : Nat) (l : List Vr) (fr til : ByteArray) (w : World) (hr : KVr.C w A n l) (hc : n ≤ c) (hn : n ≤ 100000) :
    Calls Try.prog 19 #[.slice A n c, .string fr, .string til] w fun e w' => ∃ v, e = .returned v ∧ OVr w' w.heap.size v (rangeV l fr til) ∧ Below w.heap.size w w' := by
  have HR := Aside0.mk hr
  have HN := Aside0.mk hr.1
  have HLE := Aside0.mk (fun k => List.length_filter_le (fun p : Vr => !bytesLess p.k.toList fr.toList && bytesLess p.k.toList til.toList) (l.take k))
  clear hr
  go_enter Try.func19, Try.ntmps19
  go_wp2_with fail
  go_loopw [7, 8] (fun v5 v6 w' => ∃ k : Nat, k ≤ n ∧ v6 = .int .i64 k ∧ Aside0 (OVr w' w.heap.size v5 (rangeV (l.take k) fr til)) ∧ Aside0 (Below w.heap.size w w')) (fun _ v6 _ => n - (intOf v6).toNat)
  case atStart => exact ⟨0, Nat.zero_le _, rfl, ⟨OVr_nil _ _⟩, ⟨Below.refl _ _⟩⟩
  case round =>
    obtain ⟨k, hk, rfl, HO, HB⟩ := hrel
    by_cases hlt : k < n
    · have hln : k < l.length := by rw [HN.out]; exact hlt
      obtain ⟨ad, hA, -⟩ := C_atVr HR.out k hlt
      subst hA
      have h1 := filt_take (fun p : Vr => !bytesLess p.k.toList fr.toList && bytesLess p.k.toList til.toList) l k hln
      obtain ⟨p, hp⟩ : ∃ p, l.getD k default = p := ⟨_, rfl⟩
      rw [hp] at h1
      obtain ⟨q0, q1, q2, q3, q4, q5, q6, q7⟩ := vr8 rfl (Kd.C_below HR.out HB.out) k hlt p hp
      obtain ⟨b1, hb1⟩ : ∃ b, bytesLess p.k.toList fr.toList = b := ⟨_, rfl⟩
      obtain ⟨b2, hb2⟩ : ∃ b, bytesLess p.k.toList til.toList = b := ⟨_, rfl⟩
      rw [hb1, hb2] at h1
      have H1 := Aside0.mk h1
      have hll : (rangeV (l.take k) fr til).length ≤ 100000 := by
        have := HLE.out k
        rw [List.length_take] at this
        unfold rangeV
        omega
      have HLL := Aside0.mk hll
      have j1 : (k : Int) < (n : Int) := by omega
      have j2 : (0 : Int) ≤ (k : Int) := by omega
      clear h1 hp hln hll
      by_cases hb : b1 = false ∧ b2 = true
      · obtain ⟨rfl, rfl⟩ := hb
        go_wp2_with ((with_reducible refine gate_dst (N := 37) rfl ?_); refine app_vr rfl rfl rfl rfl HO.out HB.out.size (by have := HLL.out; omega) ?_; intro v7 w7 hO7 hb7 _; have HO7 := Aside0.mk hO7; have HB7 := Aside0.mk (HB.out.trans hb7); clear hO7 hb7)
        go_roundw
        case rel => exact ⟨k + 1, hlt, by push_cast; rfl, ⟨by unfold rangeV; rw [H1.out]; exact HO7.out⟩, HB7⟩
        case measure => simp [intOf]; omega
      · have HN2 : Aside0 ((!b1 && b2) = false) := ⟨by cases b1 <;> cases b2 <;> simp_all⟩
        cases b1 <;> cases b2
        case false.true => exact absurd ⟨rfl, rfl⟩ hb
        all_goals
          clear hb
          go_wp2_with fail
          go_roundw
          case rel => exact ⟨k + 1, hlt, by push_cast; rfl, ⟨by unfold rangeV; rw [H1.out, if_neg (by simp), List.append_nil]; exact HO.out⟩, HB⟩
          case measure => simp [intOf]; omega
    · have j1 : ¬ (k : Int) < (n : Int) := by omega
      have HF : Aside0 (rangeV (l.take k) fr til = rangeV l fr til) := ⟨by rw [List.take_of_length_le (by have := HN.out; omega)]⟩
      go_wp2_with fail
      go_ret
      exact ⟨_, rfl, by rw [← HF.out]; exact HO.out, HB.out⟩
end Go.Proofs.Ytheoodbkjgfdfaa.A
