/- The document's example. -/
import Derived.Test.YthilhcdlpfjodaaKDoes
namespace Go.Proofs.Ythilhcdlpfjodaa.A
open Go.RowKit Go.Proofs.YthilhcdlpfjodaaW.PrintWords Go.Proofs.YthilhcdlpfjodaaW.PrintLast Go.Proofs.YthilhcdlpfjodaaW.PrintMore
set_option linter.unusedVariables false
set_option linter.unusedSimpArgs false

abbrev aS : ByteArray := { data := #[97] }
abbrev bS : ByteArray := { data := #[98] }
theorem aL : aS.toList = [97] := by rw [ByteArray.toList_eq]
theorem bL : bS.toList = [98] := by rw [ByteArray.toList_eq]
theorem lt_ba : Go.Op.bytesLess bS.toList aS.toList = false := by rw [aL, bL]; decide
theorem lt_ab : Go.Op.bytesLess aS.toList bS.toList = true := by rw [aL, bL]; decide
theorem lives1 : putS [] bS 1 5 = [⟨bS, 1, 5⟩] := by simp [putS, isS, atS, clampL]
theorem lives2 : putS [⟨bS, 1, 5⟩] aS 3 6 = [⟨aS, 3, 6⟩, ⟨bS, 1, 5⟩] := by
  have h1 : atS [⟨bS, 1, 5⟩] aS = 0 := by
    unfold atS
    rw [if_neg (by rw [show ltS bS aS = false from lt_ba]; simp)]
  have h2 : isS [⟨bS, 1, 5⟩] aS = false := by
    unfold isS
    rw [h1]
    show (true && (bS.toList == aS.toList)) = false
    rw [aL, bL]
    rfl
  unfold putS
  rw [h2, h1]
  simp [clampL]
theorem lives3 : getS [⟨aS, 3, 6⟩, ⟨bS, 1, 5⟩] bS = (5, true) := by
  have h1 : atS [⟨aS, 3, 6⟩, ⟨bS, 1, 5⟩] bS = 1 := by
    unfold atS
    rw [if_pos (show ltS aS bS = true from lt_ab)]
    unfold atS
    rw [if_neg (by rw [show ltS bS bS = false from ltS_self _]; simp)]
  have h2 : isS [⟨aS, 3, 6⟩, ⟨bS, 1, 5⟩] bS = true := by
    unfold isS
    rw [h1]
    show (true && (bS.toList == bS.toList)) = true
    simp
  unfold getS
  rw [h2, h1]
  rfl
theorem lives4 : rowS [⟨aS, 3, 6⟩, ⟨bS, 1, 5⟩] 2 = [aS] := by simp [rowS]
theorem lives5 : rowS [⟨aS, 3, 6⟩, ⟨bS, 1, 5⟩] 1 = [aS, bS] := by simp [rowS]
theorem lives6 : heightS [⟨aS, 3, 6⟩, ⟨bS, 1, 5⟩] = 3 := by simp [heightS]
set_option maxRecDepth 100000 in
set_option maxHeartbeats 4000000 in
theorem lives_calls (w : World) : Calls Try.prog 12 #[] w fun e w' => e = .returned (.bool true) ∧ Below w.heap.size w w' := by
  go_enter Try.func12, Try.ntmps12
  go_wp2_with fail
  (with_reducible refine (new_calls w).mono ?_)
  rintro e w1 ⟨L, rfl, ⟨xs1, k1, k2, k3⟩, hb1⟩
  have HB1 := Aside0.mk hb1
  have HK1 := Aside0.mk k1
  have hlen1 : xs1.length = 1 := by
    have h9 := tail_len xs1
    rw [k2] at h9
    have := k1.1.2.1
    simp at h9
    omega
  have HP1 := put_calls w1 L xs1 bS 1 5 k1 (by omega)
  rw [k2, lives1, show isS [] bS = false from rfl] at HP1
  have HP := Aside0.mk HP1
  have HG1 : Aside0 (∀ k ∈ L :: blks xs1, w.heap.size ≤ k) := ⟨k3⟩
  clear hb1 k1 k2 k3 HP1 hlen1
  go_wp2_with fail
  (with_reducible refine HP.out.mono ?_)
  rintro e w2 ⟨rfl, xs2, k1, k2, k3, k4⟩
  have HB2 : Aside0 (Below w.heap.size w w2) := ⟨Frm.below HB1.out k3 HG1.out (Nat.le_refl _)⟩
  have HG2 : Aside0 (∀ k ∈ L :: blks xs2, w.heap.size ≤ k) := ⟨fun k hk => by
    rcases List.mem_cons.1 hk with rfl | hk
    · exact HG1.out _ List.mem_cons_self
    · rcases k4 k hk with h9 | h9
      · exact HG1.out _ (List.mem_cons_of_mem _ h9)
      · exact Nat.le_trans HB1.out.size h9⟩
  have hlen2 : xs2.length = 2 := by
    have h9 := tail_len xs2
    rw [k2] at h9
    have := k1.1.2.1
    simp at h9
    omega
  have HP2 := put_calls w2 L xs2 aS 3 6 k1 (by omega)
  have hi2 : isS [⟨bS, 1, 5⟩] aS = false := by
    have h1 : atS [⟨bS, 1, 5⟩] aS = 0 := by
      unfold atS
      rw [if_neg (by rw [show ltS bS aS = false from lt_ba]; simp)]
    unfold isS
    rw [h1]
    show (true && (bS.toList == aS.toList)) = false
    rw [aL, bL]
    rfl
  rw [k2, lives2, hi2] at HP2
  have HPP2 := Aside0.mk HP2
  clear k1 k2 k3 k4 HP2 hlen2 HP hi2
  go_wp2_with fail
  (with_reducible refine HPP2.out.mono ?_)
  rintro e w3 ⟨rfl, xs3, k1, k2, k3, k4⟩
  have HB3 : Aside0 (Below w.heap.size w w3) := ⟨Frm.below HB2.out k3 HG2.out (Nat.le_refl _)⟩
  have hlen3 : xs3.length = 3 := by
    have h9 := tail_len xs3
    rw [k2] at h9
    have := k1.1.2.1
    simp at h9
    omega
  have HS3 : Aside0 (SK w3 L xs3) := ⟨k1⟩
  have HT3 : Aside0 (xs3.tail.map Nd.it = [⟨aS, 3, 6⟩, ⟨bS, 1, 5⟩]) := ⟨k2⟩
  have HR3 := row_calls w3 L xs3 2 k1 (by omega) (by omega) (by omega)
  rw [k2, lives4] at HR3
  have HR := Aside0.mk HR3
  have HLN : Aside0 (xs3.length = 3) := ⟨hlen3⟩
  clear k1 k2 k3 k4 HR3 hlen3 HPP2
  go_wp2_with fail
  (with_reducible refine HR.out.mono ?_)
  rintro e w4 ⟨v4, rfl, hO4, hb4⟩
  obtain ⟨A4, c4, rfl, hc4, hC4⟩ := OStr_readn hO4 1 rfl
  have HC4 := Aside0.mk hC4
  have HS4 : Aside0 (SK w4 L xs3) := ⟨SL_below HS3.out.1 hb4, HS3.out.2⟩
  have HB4 := Aside0.mk (below_step HB3.out hb4)
  have HG := get_calls w4 L xs3 bS HS4.out
  rw [HT3.out, lives3] at HG
  have HGG := Aside0.mk HG
  clear hO4 hb4 hC4 HG
  go_wp2_with fail
  (with_reducible refine HGG.out.mono ?_)
  rintro e w5 ⟨rfl, hb5⟩
  have HC5 := Aside0.mk (Kd.C_below HC4.out hb5)
  have HS5 : Aside0 (SK w5 L xs3) := ⟨SL_below HS4.out.1 hb5, HS4.out.2⟩
  have HB5 := Aside0.mk (below_step HB4.out hb5)
  have HR5 := row_calls w5 L xs3 1 HS5.out (by have := HLN.out; omega) (by omega) (by omega)
  rw [HT3.out, lives5] at HR5
  have HRR5 := Aside0.mk HR5
  clear hb5 HR5
  go_wp2_with fail
  (with_reducible refine HRR5.out.mono ?_)
  rintro e w6 ⟨v6, rfl, hO6, hb6⟩
  obtain ⟨A6, c6, rfl, hc6, hC6⟩ := OStr_readn hO6 2 rfl
  have HS6 : Aside0 (SK w6 L xs3) := ⟨SL_below HS5.out.1 hb6, HS5.out.2⟩
  have HB6 := Aside0.mk (below_step HB5.out hb6)
  obtain ⟨ad, rfl, q0⟩ := C_atStr (Kd.C_below HC5.out hb6) 0 (by omega)
  have q1 : w6.cell? ad = some (.string aS) := by simpa [Addr.add] using q0
  have HH := height_calls w6 L xs3 HS6.out
  rw [HT3.out, lives6] at HH
  have HHH := Aside0.mk HH
  clear hO6 hb6 hC6 q0 HH
  go_wp2_with fail
  (with_reducible refine HHH.out.mono ?_)
  rintro e w7 ⟨rfl, rfl⟩
  go_wp2_with fail
  go_ret
  exact ⟨rfl, HB6.out⟩
end Go.Proofs.Ythilhcdlpfjodaa.A
