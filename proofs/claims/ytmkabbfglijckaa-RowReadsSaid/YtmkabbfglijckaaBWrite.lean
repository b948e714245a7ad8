/- A version's bytes: row.Write; the document's example. -/
import Derived.Test.YtmkabbfglijckaaBPut
import Derived.Test.YtmkabbfglijckaaOThree
namespace Go.Proofs.Ytmkabbfglijckaa.A
open Go.RowKit Go.Proofs.YtmkabbfglijckaaW.PrintWords Go.Proofs.YtmkabbfglijckaaW.PrintLast Go.Proofs.YtmkabbfglijckaaW.PrintMore
set_option linter.unusedVariables false
set_option linter.unusedSimpArgs false

def writeE (p : Vr) : Int := if mayV p then 0 else 1
def writeB (p : Vr) : List Int := if mayV p then bytesV p else []
set_option maxRecDepth 100000 in
set_option maxHeartbeats 2000000 in
theorem write_calls (k : ByteArray) (br ep sq f t : Int) (v : ByteArray) (g : Bool) (w : World) (hk : k.size ≤ 100000) (hv : v.size ≤ 9223372036854775807) :
    Calls Try.prog 10 #[.agg #[.string k, .int .i64 br, .int .i64 ep, .int .i64 sq, .int .i64 f, .int .i64 t, .string v, .bool g]] w fun e w' => ∃ u, e = .returned (.tuple #[u, .int .i64 (writeE ⟨k, br, ep, sq, f, t, v, g⟩)]) ∧ OB w' w.heap.size u (writeB ⟨k, br, ep, sq, f, t, v, g⟩) ∧ Below w.heap.size w w' := by
  unfold writeE writeB
  cases hm : mayV ⟨k, br, ep, sq, f, t, v, g⟩ with
  | false =>
    simp only [Bool.false_eq_true, if_false]
    have HM := Aside0.mk hm
    clear hm
    go_enter Try.func10, Try.ntmps10
    go_wp2_with fail
    (with_reducible refine (may_calls k br ep sq f t v g _ hk hv).mono ?_)
    rw [HM.out]
    rintro e w1 ⟨rfl, hb1⟩
    have HB := Aside0.mk (below_step (below_alloc (Below.refl w.heap.size w) (vrBox k br ep sq f t v g)) hb1)
    clear hb1
    go_wp2_with fail
    go_ret2
    exact ⟨_, rfl, OB_nil _ _, HB.out⟩
  | true =>
    simp only [if_true]
    have HM := Aside0.mk hm
    clear hm
    go_enter Try.func10, Try.ntmps10
    go_wp2_with fail
    (with_reducible refine (may_calls k br ep sq f t v g _ hk hv).mono ?_)
    rw [HM.out]
    rintro e w1 ⟨rfl, hb1⟩
    have HB := Aside0.mk (below_step (below_alloc (Below.refl w.heap.size w) (vrBox k br ep sq f t v g)) hb1)
    obtain ⟨x0, x1, x2, x3, x4, x5, x6, x7⟩ := vr_cells (box_keep (heap_alloc_new w (vrBox k br ep sq f t v g)) hb1)
    clear hb1
    go_wp2_with fail
    (with_reducible refine (put_calls none 0 0 [] k br ep sq f t v g _ (Kd.C_nil _ _) (Nat.le_refl _) (by omega) HM.out hk).mono ?_)
    rintro e w2 ⟨u, rfl, HO, hb2⟩
    rw [List.nil_append] at HO
    have HB2 := Aside0.mk (below_step HB.out hb2)
    have HO2 := Aside0.mk (Kd.R_lower HO HB.out.size)
    clear hb2 HO
    go_wp2_with fail
    go_ret2
    exact ⟨_, rfl, HO2.out, HB2.out⟩
abbrev exK : ByteArray := O.keyStr 0 { data := #[97] }
theorem exK_split : O.splitK exK = (0, { data := #[97] }, 0) := O.split_key 0 { data := #[97] } (by omega) (by omega) (by decide)
theorem ex_may : mayV ⟨exK, 0, 1, 2, 5, 7, { data := #[120] }, false⟩ = true := by
  rw [mayV_iff, exK_split]
  refine ⟨rfl, ⟨⟨⟨by decide, by decide⟩, ⟨by decide, by decide⟩⟩, ⟨by decide, by decide⟩⟩, ⟨by decide, by decide, by decide⟩, by decide, ?_⟩
  intro h
  cases h
theorem exK_len : exK.size ≤ 100000 := by
  have h := O.writeL_len (O.keyParts 0 { data := #[97] }) 40 (O.keyParts_size 0 { data := #[97] } 40 (by decide))
  have e1 : O.keyErr 0 { data := #[97] } = 0 := by decide
  have e2 : exK = strOfNums (O.writeL (O.keyParts 0 { data := #[97] })) := by unfold exK O.keyStr; rw [if_pos e1]
  have hl : (O.keyParts 0 { data := #[97] }).length = 2 := rfl
  rw [e2, strOfNums_size]
  omega
theorem ex_bytes : bytesV ⟨exK, 0, 1, 2, 5, 7, { data := #[120] }, false⟩ = [0, 1, 2, 5, 2, 0] ++ (V.vtext exK ++ V.vtext { data := #[120] }) := by
  unfold bytesV
  have e : ([0, 1, 2, 5, 7 - 5, goneI false].flatMap V.vput : List Int) = [0, 1, 2, 5, 2, 0] := by
    simp [V.vput, goneI, V.vnat_small]
  rw [e]
theorem ex_str : strOfNums [0, 1, 2, 5, 2, 0] = { data := #[0, 1, 2, 5, 2, 0] } := by
  apply ByteArray.ext
  rfl
set_option maxRecDepth 100000 in
set_option maxHeartbeats 2000000 in
theorem lives_calls (w : World) : Calls Try.prog 11 #[] w fun e w' => e = .returned (.bool true) ∧ Below w.heap.size w w' := by
  have hW : writeB ⟨exK, 0, 1, 2, 5, 7, { data := #[120] }, false⟩ = [0, 1, 2, 5, 2, 0] ++ (V.vtext exK ++ V.vtext { data := #[120] }) := by unfold writeB; rw [ex_may]; exact ex_bytes
  have hE : writeE ⟨exK, 0, 1, 2, 5, 7, { data := #[120] }, false⟩ = 0 := by unfold writeE; rw [ex_may]; rfl
  have hlt : 1 ≤ (V.vtext exK).length := by rw [V.vtext_len]; have := V.vnat_pos (exK.size : Int).toNat; unfold V.vput; omega
  obtain ⟨x, hx⟩ : ∃ x, O.keyStr 0 { data := #[97] } = x := ⟨_, rfl⟩
  have hxk : exK = x := hx
  have hL := exK_len
  have hM := ex_may
  rw [hxk] at hW hE hL hM hlt
  have HK := Aside0.mk (fun w => O.refkey_calls 0 { data := #[97] } w (by omega) (by omega) (by decide))
  rw [hx] at HK
  have HW := Aside0.mk hW
  have HE := Aside0.mk hE
  have HL := Aside0.mk hL
  have HM := Aside0.mk hM
  clear hW hE hL hM hx hxk
  go_enter Try.func11, Try.ntmps11
  go_wp2_with fail
  (with_reducible refine (HK.out _).mono ?_)
  rintro e w1 ⟨rfl, hb1⟩
  have HB1 := Aside0.mk (below_alloc hb1 (vrBox x 0 1 2 5 7 { data := #[120] } false))
  have HX1 := Aside0.mk (heap_alloc_new w1 (vrBox x 0 1 2 5 7 { data := #[120] } false))
  clear hb1
  go_wp2_with fail
  (with_reducible refine (write_calls x 0 1 2 5 7 { data := #[120] } false _ HL.out (by decide)).mono ?_)
  rw [HW.out, HE.out]
  rintro e w2 ⟨u, rfl, HO, hb2⟩
  have HB2 := Aside0.mk (below_step HB1.out hb2)
  obtain ⟨x0, x1, x2, x3, x4, x5, x6, x7⟩ := vr_cells (box_keep HX1.out hb2)
  generalize hT : V.vtext x ++ V.vtext { data := #[120] } = T at *
  have hT1 : 1 ≤ T.length := by rw [← hT, List.length_append]; omega
  obtain ⟨n, hn⟩ : ∃ n, ([0, 1, 2, 5, 2, 0] ++ T : List Int).length = n := ⟨_, rfl⟩
  have hn7 : 7 ≤ n := by rw [← hn, List.length_append]; simp; omega
  obtain ⟨A, c, rfl, hc, hC⟩ := OB_readn HO n hn
  have hC6 := hC
  rw [← hn] at hC6
  have h6 := Kd.C_take hC6 (m := 6) (by rw [hn]; omega)
  have e6 : ([0, 1, 2, 5, 2, 0] ++ T : List Int).take 6 = [0, 1, 2, 5, 2, 0] := rfl
  rw [e6] at h6
  have hcv : (convert 29 9 (.slice A 6 c)).run Try.prog w2 = .ok (.string (strOfNums [0, 1, 2, 5, 2, 0])) w2 := C_string' (c := c) h6
  rw [ex_str] at hcv
  have hm : n ≤ 9223372036854775807 := hC.2.1
  have i6 : (6 : Int) < (n : Int) := by omega
  clear HO hb2 hT hn hC hC6 h6 e6 hlt
  go_wp2_with fail
  (with_reducible refine (may_calls x 0 1 2 5 7 { data := #[120] } false _ HL.out (by decide)).mono ?_)
  rw [HM.out]
  rintro e w3 ⟨rfl, hb3⟩
  have HB3 := Aside0.mk (below_step HB2.out hb3)
  clear hb3
  go_wp2_with fail
  go_ret
  exact ⟨rfl, HB3.out⟩
end Go.Proofs.Ytmkabbfglijckaa.A
