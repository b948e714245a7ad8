/- Has an index just the document's versions? -/
import Derived.Test.YtheoodbkjgfdfaaNFill
namespace Go.Proofs.Ytheoodbkjgfdfaa.A
open R
open Go.RowKit Go.Proofs.YtheoodbkjgfdfaaW.PrintWords Go.Proofs.YtheoodbkjgfdfaaW.PrintLast Go.Proofs.YtheoodbkjgfdfaaW.PrintMore
set_option linter.unusedVariables false
set_option linter.unusedSimpArgs false

set_option maxRecDepth 100000 in
set_option maxHeartbeats 2000000 in
theorem like_calls (w : World) (B X : Nat) (its : List M.It) (l : List Vr) (A : Option Addr) (n c : Nat) (h : IXi w B X l.length its l) (hr : KVr.C w A n l) (hc : n ≤ c) (hl : l.length ≤ 4000) :
    Calls Try.prog 13 #[.pointer (some ⟨X, 0, none⟩), .slice A n c] w fun e w' => e = .returned (.bool true) ∧ Below w.heap.size w w' := by
  have hn := hr.1
  have H := Aside0.mk h
  have HR := Aside0.mk hr
  have HN := Aside0.mk hn
  have HL := Aside0.mk hl
  have hn4 : n ≤ 4000 := by omega
  have HA := Aside0.mk (xall_calls w B X l.length its l h hl)
  have HKL : Aside0 ((keysV l).length ≤ l.length) := ⟨by have h9 := keysV_len l l.length (Nat.le_refl _); rwa [List.take_length] at h9⟩
  clear h hr hn
  go_enter Try.func13, Try.ntmps13
  go_wp2_with fail
  (with_reducible refine HA.out.mono ?_)
  rintro e w1 ⟨v1, rfl, hO1, hb1⟩
  obtain ⟨A1, c1, rfl, hc1, hC1⟩ := OVr_readn hO1 n HN.out
  have HC1 := Aside0.mk hC1
  have HB1 := Aside0.mk hb1
  clear hO1 hC1 hb1
  go_wp2_with fail
  (with_reducible refine (same_calls A1 A n c1 c l w1 HC1.out (Kd.C_below HR.out HB1.out) hc1 hc).mono ?_)
  rintro e w2 ⟨rfl, hb2⟩
  have HB2 := Aside0.mk (below_step HB1.out hb2)
  have HK := Aside0.mk (xkeys_calls (IXi_below H.out HB2.out) HL.out)
  clear hb2
  go_wp2_with fail
  (with_reducible refine HK.out.mono ?_)
  rintro e w3 ⟨v3, rfl, hO3, hb3⟩
  obtain ⟨k3, hk3⟩ : ∃ k3, (keysV l).length = k3 := ⟨_, rfl⟩
  obtain ⟨A3, c3, rfl, hc3, hC3⟩ := M.OStr_readn hO3 k3 hk3
  have HK3 : Aside0 (k3 ≤ 4000) := ⟨by have := HKL.out; omega⟩
  have HC3 := Aside0.mk hC3
  have HE3 := Aside0.mk hk3
  have HB3 := Aside0.mk (below_step HB2.out hb3)
  clear hO3 hC3 hb3 hk3
  go_wp2_with fail
  (with_reducible refine (keys13_calls A n c l w3 (Kd.C_below HR.out HB3.out) hc (by omega)).mono ?_)
  rintro e w4 ⟨v4, rfl, hO4, hb4⟩
  obtain ⟨A4, c4, rfl, hc4, hC4⟩ := M.OStr_readn hO4 k3 HE3.out
  have HC4 := Aside0.mk hC4
  have HB4 := Aside0.mk (below_step HB3.out hb4)
  have HC34 := Aside0.mk (Kd.C_below HC3.out hb4)
  clear hO4 hC4 hb4
  have HS := Aside0.mk (M.same_calls A3 A4 k3 c3 k3 c4 (keysV l) (keysV l) w4 HC34.out HC4.out hc3 hc4 (by have := HK3.out; omega) (by have := HK3.out; omega))
  rw [decide_eq_true rfl] at HS
  go_wp2_with fail
  (with_reducible refine HS.out.mono ?_)
  rintro e w5 ⟨rfl, hb5⟩
  have HB5 := Aside0.mk (below_step HB4.out hb5)
  have HX := Aside0.mk (xlen_calls (IXi_below H.out HB5.out))
  clear hb5
  obtain ⟨z, hz⟩ : ∃ z : Int, (l.length : Int) = z := ⟨_, rfl⟩
  rw [hz] at HX
  have hz2 : (n : Int) = z := by rw [← hz, HN.out]
  clear hz
  go_wp2_with fail
  (with_reducible refine HX.out.mono ?_)
  rintro e w6 ⟨rfl, rfl⟩
  go_wp2_with fail
  go_ret
  exact ⟨by simp, HB5.out⟩
end Go.Proofs.Ytheoodbkjgfdfaa.A
