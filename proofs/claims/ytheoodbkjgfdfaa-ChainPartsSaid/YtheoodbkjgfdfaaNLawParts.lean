/- ChainParts: the rows of all keys, one key after the other, are all rows; two ranges that touch are one. -/
import Derived.Test.YtheoodbkjgfdfaaNLives
namespace Go.Proofs.Ytheoodbkjgfdfaa.A
open R
open Go.RowKit Go.Proofs.YtheoodbkjgfdfaaW.PrintWords Go.Proofs.YtheoodbkjgfdfaaW.PrintLast Go.Proofs.YtheoodbkjgfdfaaW.PrintMore
open Go.Op (bytesLess)
set_option linter.unusedVariables false
set_option linter.unusedSimpArgs false

theorem key_low {k : ByteArray} (h : (O.splitK k).2.2 = 0) : bytesLess k.toList [255] = true := by
  unfold O.splitK at h
  split at h
  · split at h
    · rename_i p q heq
      split at h
      · rename_i hc
        obtain ⟨_, _, h1, h2⟩ := hc
        have e2 : O.keyStr p.n q.s = strOfNums (O.writeL (O.keyParts p.n q.s)) := by unfold O.keyStr; rw [if_pos h1]
        have e3 : bytesOf k = O.writeL (O.keyParts p.n q.s) := by rw [← h2, e2, O.bytesOf_str _ (O.write_range _)]
        obtain ⟨t, e4⟩ : ∃ t, O.writeL (O.keyParts p.n q.s) = 1 :: t := ⟨_, rfl⟩
        rw [e4] at e3
        unfold bytesOf at e3
        rw [ByteArray.toList_eq]
        cases hd : k.data.toList with
        | nil => rw [hd] at e3; cases e3
        | cons b t =>
          rw [hd, List.map_cons] at e3
          injection e3 with e5 _
          have hb : b < 255 := by rw [UInt8.lt_iff_toNat_lt]; show b.toNat < 255; omega
          unfold bytesLess
          rw [decide_eq_true hb]
          rfl
      · exact absurd h (by decide)
    · exact absurd h (by decide)
  · rename_i hne
    exact absurd h hne
theorem may_split {p : Vr} (h : mayV p = true) : (O.splitK p.k).2.2 = 0 := by
  unfold mayV at h
  simp only [Bool.and_eq_true, decide_eq_true_eq] at h
  exact h.1.1.1.1
theorem part_flt (key : ByteArray) : ∀ l : List Vr, SrtV l → l.filter (fun p => bytesLess p.k.toList key.toList) ++ l.filter (fun p => !bytesLess p.k.toList key.toList) = l
  | [], _ => rfl
  | q :: l, h => by
    by_cases hb : bytesLess q.k.toList key.toList = true
    · rw [List.filter_cons, List.filter_cons, if_pos hb, if_neg (by rw [hb]; simp), List.cons_append, part_flt key l (List.Pairwise.tail h)]
    · have hall : ∀ p ∈ q :: l, ¬ bytesLess p.k.toList key.toList = true := by
        intro p hp hc
        rcases List.mem_cons.1 hp with rfl | hp
        · exact hb hc
        · rcases cmpV_key (List.rel_of_pairwise_cons h hp) with h1 | h1
          · exact hb (M.ltS_trans h1 hc)
          · exact hb (by rw [h1]; exact hc)
      rw [List.filter_eq_nil_iff.2 hall, List.nil_append, List.filter_eq_self.2]
      intro p hp
      have := hall p hp
      simpa using this
theorem part_range {l : List Vr} (h : SrtV l) (hg : GdV l) (key : ByteArray) : rangeV l { data := #[] } key ++ rangeV l key { data := #[255] } = l := by
  have e0 : ({ data := #[] } : ByteArray).toList = [] := ByteArray.toList_eq _
  have e1 : ({ data := #[255] } : ByteArray).toList = [255] := ByteArray.toList_eq _
  have h1 : rangeV l { data := #[] } key = l.filter (fun p => bytesLess p.k.toList key.toList) := by
    unfold rangeV
    refine List.filter_congr fun p _ => ?_
    rw [e0]
    have : bytesLess p.k.toList [] = false := by cases p.k.toList <;> rfl
    rw [this]
    rfl
  have h2 : rangeV l key { data := #[255] } = l.filter (fun p => !bytesLess p.k.toList key.toList) := by
    unfold rangeV
    refine List.filter_congr fun p hp => ?_
    rw [e1, key_low (may_split (hg p hp).1), Bool.and_true]
  rw [h1, h2]
  exact part_flt key l h
theorem tk_len (f : ByteArray → List Vr) (ks : List ByteArray) (i : Nat) : ((ks.take i).flatMap f).length ≤ (ks.flatMap f).length := by
  conv => rhs; rw [← List.take_append_drop i ks]
  rw [List.flatMap_append, List.length_append]
  omega
theorem tk_succ (ks : List ByteArray) (i : Nat) (h : i < ks.length) : ks.take (i + 1) = ks.take i ++ [ks.getD i ByteArray.empty] := by
  rw [List.take_succ_eq_append_getElem h, List.getD_eq_getElem?_getD, List.getElem?_eq_getElem h]
  rfl
set_option maxRecDepth 100000 in
set_option maxHeartbeats 4000000 in
theorem parts_calls (w : World) (A : Option Addr) (c : Nat) (pl : List Pu) (hr : KPu.C w A pl.length pl) (hc : pl.length ≤ c) (hg : ∀ d ∈ pl, d.fits) (key : ByteArray) (hkey : key.size ≤ maxLen) :
    Calls Try.prog 5 #[.slice A pl.length c, .string key] w fun e w' => e = .returned (.bool true) ∧ Below w.heap.size w w' := by
  clear hkey
  have HFL := Aside0.mk (filled_calls w A pl.length c pl hr hc hg)
  clear hr hc hg
  go_enter Try.func5, Try.ntmps5
  go_wp2_with fail
  (with_reducible refine HFL.out.mono ?_)
  rintro e w1 ⟨X, v, l, rfl, hF, hl40⟩
  obtain ⟨n, hn⟩ : ∃ n, l.length = n := ⟨_, rfl⟩
  obtain ⟨A1, c1, rfl, hc1, hC1⟩ := OVr_readn hF.2.1 n hn
  obtain ⟨its, hI⟩ := hF.1
  have HI := Aside0.mk hI
  have HF := Aside0.mk hF
  have HN := Aside0.mk hn
  have HL := Aside0.mk (show l.length ≤ 4000 by omega)
  have HC := Aside0.mk hC1
  have HB1 := Aside0.mk hF.2.2.1
  have hn40 : n ≤ 40 := by omega
  clear hF hI hC1 hn hl40 HFL
  obtain ⟨ks, hks⟩ : ∃ ks, keysV l = ks := ⟨_, rfl⟩
  have hki := its_keys HI.out
  have hke := keysV_is hki.1 hki.2.1 hki.2.2.1 hki.2.2.2
  have HFL2 : Aside0 (ks.flatMap (ofV l) = l) := ⟨by rw [← hks, hke]; exact flatV _ l hki.1 hki.2.1 hki.2.2.1⟩
  have HPR := Aside0.mk (part_range hki.1 HF.out.2.2.2 key)
  have hxk := xkeys_calls HI.out HL.out
  rw [hks] at hxk
  have HXK := Aside0.mk hxk
  obtain ⟨nk, hnk⟩ : ∃ nk, ks.length = nk := ⟨_, rfl⟩
  have HNK := Aside0.mk hnk
  have hnk4 : nk ≤ 4000 := by
    have h9 := keysV_len l l.length (Nat.le_refl _)
    rw [List.take_length, hks] at h9
    have := HL.out
    omega
  clear hks hki hke hxk
  go_wp2_with fail
  (with_reducible refine HXK.out.mono ?_)
  rintro e w2 ⟨v2, rfl, hO2, hb2⟩
  obtain ⟨A2, c2, rfl, hc2, hC2⟩ := M.OStr_readn hO2 nk hnk
  have HC2 := Aside0.mk hC2
  have HK2 := Aside0.mk hb2
  clear hO2 hC2 hb2 hnk HXK
  go_wp2_with fail
  go_loopw [8, 10] (fun v8 v10 w' => ∃ i : Nat, v10 = .int .i64 i ∧ i ≤ nk ∧ Aside0 (OVr w' w2.heap.size v8 ((ks.take i).flatMap (ofV l))) ∧ Aside0 (Below w2.heap.size w2 w')) (fun _ v10 _ => nk - (intOf v10).toNat)
  case atStart => exact ⟨0, rfl, Nat.zero_le _, ⟨OVr_nil _ _⟩, ⟨Below.refl _ _⟩⟩
  case round =>
    obtain ⟨i, rfl, hin, HO, HK22⟩ := hrel
    have HK := Aside0.mk (below_step HK2.out HK22.out)
    by_cases hlt : i < nk
    · obtain ⟨ad, rfl, q0⟩ := M.C_atStr (Kd.C_below HC2.out HK22.out) i hlt
      have HTS := Aside0.mk (tk_succ ks i (by rw [HNK.out]; exact hlt))
      obtain ⟨k, hk⟩ : ∃ k, ks.getD i ByteArray.empty = k := ⟨_, rfl⟩
      rw [hk] at q0 HTS
      have hbd := tk_len (ofV l) ks (i + 1)
      rw [HTS.out, HFL2.out, List.flatMap_append, List.length_append, List.flatMap_cons, List.flatMap_nil, List.append_nil] at hbd
      have HBD : Aside0 (((ks.take i).flatMap (ofV l)).length + (ofV l k).length ≤ 4000) := ⟨by have := HL.out; omega⟩
      have HXO := Aside0.mk (xof_calls (IXi_below HI.out HK.out) HL.out k)
      have j1 : (i : Int) < (nk : Int) := by omega
      have j2 : (0 : Int) ≤ (i : Int) := by omega
      clear hk hbd
      go_wp2_with fail
      (with_reducible refine HXO.out.mono ?_)
      rintro e w3 ⟨v3, rfl, hO3, hb3⟩
      obtain ⟨n3, hn3⟩ : ∃ n3, (ofV l k).length = n3 := ⟨_, rfl⟩
      obtain ⟨A3, c3, rfl, hc3, hC3⟩ := OVr_readn hO3 n3 hn3
      have HC3 := Aside0.mk hC3
      have HO3 := Aside0.mk (Kd.R_below HO.out hb3)
      have HK3 := Aside0.mk (below_step HK.out hb3)
      have HK23 := Aside0.mk (below_step HK22.out hb3)
      have hl3 : ((ks.take i).flatMap (ofV l)).length + n3 ≤ 1000000 := by have := HBD.out; omega
      clear hO3 hC3 hn3 hb3 q0
      go_wp2_with ((with_reducible refine gate_dst (N := 35) rfl ?_); refine app_vrs rfl rfl rfl rfl HO3.out HC3.out HK23.out.size hl3 ?_; intro v8 w8 hO8 hb8 _; have HO8 := Aside0.mk hO8; have HK28 := Aside0.mk (HK23.out.trans hb8); clear hO8 hb8)
      go_roundw
      case rel => exact ⟨i + 1, by push_cast; rfl, hlt, ⟨by rw [HTS.out, List.flatMap_append, List.flatMap_cons, List.flatMap_nil, List.append_nil]; exact HO8.out⟩, HK28⟩
      case measure => simp [intOf]; omega
    · have j1 : ¬ (i : Int) < (nk : Int) := by omega
      have HOL : Aside0 (OVr wr w2.heap.size u8 l) := ⟨by have h9 := HO.out; rwa [List.take_of_length_le (by rw [HNK.out]; omega), HFL2.out] at h9⟩
      obtain ⟨A8, c8, rfl, hc8, hC8⟩ := OVr_readn HOL.out n HN.out
      have HC8 := Aside0.mk hC8
      have HXR := Aside0.mk (xrange_calls wr w.heap.size X l.length its l (IXi_below HI.out HK.out) HL.out { data := #[] } key)
      clear hC8 hlt
      go_wp2_with fail
      (with_reducible refine HXR.out.mono ?_)
      rintro e w3 ⟨v3, rfl, hO3, hb3⟩
      obtain ⟨n3, hn3⟩ : ∃ n3, (rangeV l { data := #[] } key).length = n3 := ⟨_, rfl⟩
      obtain ⟨A3, c3, rfl, hc3, hC3⟩ := OVr_readn hO3 n3 hn3
      have hle3 : (rangeV l { data := #[] } key).length ≤ l.length := List.length_filter_le _ _
      have hl3 : ([] : List Vr).length + n3 ≤ 1000000 := by have := HL.out; simp; omega
      have HC3 := Aside0.mk hC3
      have HC83 := Aside0.mk (Kd.C_below HC8.out hb3)
      have HK3 := Aside0.mk (below_step HK.out hb3)
      have HN3 := Aside0.mk hn3
      clear hO3 hC3 hn3 hb3 hle3
      go_wp2_with ((with_reducible refine gate_dst (N := 40) rfl ?_); refine app_vrs rfl rfl rfl rfl (OVr_nil _ w3.heap.size) HC3.out (Nat.le_refl _) hl3 ?_; intro v4 w4 hO4 hb4 _; have HO4 := Aside0.mk hO4; have HB4 := Aside0.mk hb4; have HXR2 := Aside0.mk (xrange_calls w4 w.heap.size X l.length its l (IXi_below HI.out (below_step HK3.out hb4)) HL.out key { data := #[255] }); clear hO4 hb4)
      (with_reducible refine HXR2.out.mono ?_)
      rintro e w5 ⟨v5, rfl, hO5, hb5⟩
      obtain ⟨n5, hn5⟩ : ∃ n5, (rangeV l key { data := #[255] }).length = n5 := ⟨_, rfl⟩
      obtain ⟨A5, c5, rfl, hc5, hC5⟩ := OVr_readn hO5 n5 hn5
      have hle5 : (rangeV l key { data := #[255] }).length ≤ l.length := List.length_filter_le _ _
      have hl5 : ([] ++ rangeV l { data := #[] } key).length + n5 ≤ 1000000 := by have := HL.out; have := HN3.out; have : (rangeV l { data := #[] } key).length ≤ l.length := List.length_filter_le _ _; rw [List.nil_append]; omega
      have HO45 := Aside0.mk (Kd.R_below HO4.out hb5)
      have HC5 := Aside0.mk hC5
      have HB5 := Aside0.mk (below_step HB4.out hb5)
      clear hO5 hC5 hn5 hb5 hle5
      go_wp2_with ((with_reducible refine gate_dst (N := 45) rfl ?_); refine app_vrs rfl rfl rfl rfl HO45.out HC5.out HB5.out.size hl5 ?_; intro v6 w6 hO6 hb6 _; rw [List.nil_append, HPR.out] at hO6; obtain ⟨A6, c6, rfl, hc6, hC6⟩ := OVr_readn hO6 n HN.out; have HC6 := Aside0.mk hC6; have HB6 := Aside0.mk (HB5.out.trans hb6); have HS6 := Aside0.mk (same_calls A8 A1 n c8 c1 l w6 (Kd.C_below HC83.out (HB5.out.trans hb6)) (Kd.C_below HC.out (below_step HK3.out (HB5.out.trans hb6))) hc8 hc1); clear hO6 hb6 hC6)
      (with_reducible refine HS6.out.mono ?_)
      rintro e w7 ⟨rfl, hb7⟩
      have HB7 := Aside0.mk (below_step (below_step HK3.out HB6.out) hb7)
      have HS7 := Aside0.mk (same_calls A6 A1 n c6 c1 l w7 (Kd.C_below HC6.out hb7) (Kd.C_below HC.out HB7.out) hc6 hc1)
      clear hb7
      go_wp2_with fail
      (with_reducible refine HS7.out.mono ?_)
      rintro e w8 ⟨rfl, hb8⟩
      have HB8 := Aside0.mk (below_step HB7.out hb8)
      clear hb8
      go_wp2_with fail
      (with_reducible refine (lives_calls w8).mono ?_)
      rintro e w9 ⟨rfl, hb9⟩
      have HB9 := Aside0.mk (below_step (below_step HB1.out HB8.out) hb9)
      clear hb9
      go_wp2_with fail
      go_ret
      exact ⟨rfl, HB9.out⟩
end Go.Proofs.Ytheoodbkjgfdfaa.A
