/- GOpened -/
import Derived.Test.YtmfnbkghfmeekaaZGBlock
import Derived.Test.YtmfnbkghfmeekaaZGLives
namespace Go.Proofs.Ytmfnbkghfmeekaa.A
open Go Go.RowKit Go.Proofs.YtmfnbkghfmeekaaW.PrintWords Go.Proofs.YtmfnbkghfmeekaaW.PrintLast Go.Proofs.YtmfnbkghfmeekaaW.PrintMore
open R C
set_option linter.unusedVariables false
set_option linter.unusedSimpArgs false
structure PR (w : World) (v : Value) (B : List Int) (A1 : Option Addr) (z : Nat) (Z : List Vr) (r : Nat) (W : World) : Prop where
  ob : OB W 0 v B
  kv : KVr.C W A1 z Z
  rn : RnG W r (pcs Z)
  bel : Below w.heap.size w W
theorem PR.step {w : World} {v : Value} {B : List Int} {A1 : Option Addr} {z : Nat} {Z : List Vr} {r : Nat} {W W1 : World} (h : PR w v B A1 z Z r W) (hb : Below W.heap.size W W1) : PR w v B A1 z Z r W1 := ⟨Kd.R_below h.ob hb, Kd.C_below h.kv hb, h.rn.below hb, below_step h.bel hb⟩
theorem PR_S {w : World} {A : Option Addr} {p c : Nat} {B : List Int} {A1 : Option Addr} {z : Nat} {Z : List Vr} {r : Nat} {W : World} (h : PR w (.slice A p c) B A1 z Z r W) : (convert 31 9 (.slice A p c)).run Try.prog W = .ok (.string (strOfNums B)) W ∧ Aside0 (PR w (.slice A p c) B A1 z Z r W) := ⟨OB_string h.ob, ⟨h⟩⟩
theorem allZ_calls {w : World} {r : Nat} {Z : List Vr} (h : RnG w r (pcs Z)) : Calls Try.prog 17 #[.pointer (some ⟨r, 0, none⟩)] w fun e w' => ∃ v, e = .returned v ∧ OVr w' w.heap.size v Z ∧ Below w.heap.size w w' := by
  have h1 := all_calls w r (pcs Z) h
  rwa [pcs_flat] at h1
theorem ofZ_calls {w : World} {r : Nat} {Z : List Vr} (h : RnG w r (pcs Z)) (key : ByteArray) : Calls Try.prog 22 #[.pointer (some ⟨r, 0, none⟩), .string key] w fun e w' => ∃ v, e = .returned v ∧ OVr w' w.heap.size v (ofR Z key) ∧ Below w.heap.size w w' := by
  have h1 := of_calls w r (pcs Z) h key
  rwa [pcs_flat] at h1
theorem rangeZ_calls {w : World} {r : Nat} {Z : List Vr} (h : RnG w r (pcs Z)) (key til : ByteArray) : Calls Try.prog 24 #[.pointer (some ⟨r, 0, none⟩), .string key, .string til] w fun e w' => ∃ v, e = .returned v ∧ OVr w' w.heap.size v (rangeR Z key til) ∧ Below w.heap.size w w' := by
  have h1 := range_calls w r (pcs Z) h key til
  rwa [pcs_flat] at h1
theorem lastZ_calls {w : World} {r : Nat} {Z : List Vr} (h : RnG w r (pcs Z)) (key : ByteArray) (br ep : Int) : Calls Try.prog 21 #[.pointer (some ⟨r, 0, none⟩), .string key, .int .i64 br, .int .i64 ep] w fun e w' => e = .returned (.tuple #[vrV (lastV (lastsR Z key br ep)), .bool (decide (lastsR Z key br ep ≠ []))]) ∧ Below w.heap.size w w' := by
  have h1 := last_calls w r (pcs Z) h key br ep
  rwa [pcs_flat] at h1
theorem lenZ_calls {w : World} {r : Nat} {Z : List Vr} (h : RnG w r (pcs Z)) (z : Nat) (hz : Z.length = z) : Calls Try.prog 19 #[.pointer (some ⟨r, 0, none⟩)] w fun e w' => e = .returned (.int .i64 (z : Int)) ∧ w = w' := by
  have h1 := len_calls w r (pcs Z) h.rn
  rwa [pcs_flat, hz] at h1
end Go.Proofs.Ytmfnbkghfmeekaa.A
