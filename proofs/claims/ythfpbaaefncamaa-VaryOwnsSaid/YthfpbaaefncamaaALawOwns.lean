/- VaryOwns: what is handed in stays, what is told is new. -/
import Derived.Test.YthfpbaaefncamaaAOwns
import Derived.Test.YthfpbaaefncamaaALawPuts
namespace Go.Proofs.Ythfpbaaefncamaa.A
open Go.RowKit Go.Proofs.YthfpbaaefncamaaW.PrintWords Go.Proofs.YthfpbaaefncamaaW.PrintLast Go.Proofs.YthfpbaaefncamaaW.PrintMore
set_option linter.unusedVariables false
set_option linter.unusedSimpArgs false

set_option maxRecDepth 100000 in
set_option maxHeartbeats 6400000 in
theorem owns_calls (w : World) (Ab : Option Addr) (cb : Nat) (b : List Int) (hrb : U8.C w Ab b.length b) (hcb0 : b.length ≤ cb) (_hgb : ∀ x ∈ b, IntKind.u8.min ≤ x ∧ x ≤ IntKind.u8.max) (x : Int) (hx : IntKind.i64.min ≤ x ∧ x ≤ IntKind.i64.max) :
    Calls Try.prog 6 #[.slice Ab b.length cb, .int .i64 x] w fun e w' => e = .returned (.bool true) ∧ Below w.heap.size w w' := by
  have hx2 : x ≤ 9223372036854775807 := hx.2
  have hrg : ∀ y ∈ b.take 100, 0 ≤ y ∧ y ≤ 255 := fun y hy => _hgb y (List.mem_of_mem_take hy)
  have HRB := Aside0.mk hrb
  have HRG := Aside0.mk hrg
  clear hrb _hgb hx hrg
  obtain ⟨bl, hbl⟩ : ∃ n, b.length = n := ⟨_, rfl⟩
  rw [hbl] at hcb0 HRB ⊢
  have hbx : (b.take 100).length ≤ 100 ∧ (b.take 100).length ≤ cb := by rw [List.length_take]; omega
  have HBB0 := Aside0.mk (C_take_any (by rw [hbl]; exact HRB.out) 100 : U8.C w Ab (b.take 100).length (b.take 100))
  clear hbl
  go_enter Try.func6, Try.ntmps6
  go_wp2_with fail
  (with_reducible refine (few_calls _ _ _ b _ HRB.out hcb0).mono ?_)
  rintro e w1 ⟨rfl, rfl⟩
  obtain ⟨hnb, hcb⟩ := hbx
  generalize b.take 100 = bb at *
  obtain ⟨nb, hnb2⟩ : ∃ n, bb.length = n := ⟨_, rfl⟩
  have HBB := HBB0
  rw [hnb2] at HBB hnb hcb ⊢
  have HNB := Aside0.mk hnb2
  have HSZ := Aside0.mk (show (strOfNums bb).size = nb by rw [← hnb2]; simp [strOfNums, ByteArray.size])
  clear hnb2 HBB0 HRB
  have HBS := Aside0.mk (bytesOf_str bb HRG.out)
  obtain ⟨S, hS⟩ : ∃ S, strOfNums bb = S := ⟨_, rfl⟩
  rw [hS] at HSZ HBS
  have kb : ∀ W : World, (convert 9 22 (.string S)).run Try.prog W = .ok (.slice (some ⟨W.heap.size, 0, none⟩) nb (grownCap W nb 0 5)) (Lib.bytesWorld W 5 S) := fun W => by
    have h := print_bytes (P := Try.prog) 9 22 5 Try.underlying9 Try.underlying22 Try.underlying5 S W
    rw [HSZ.out] at h
    exact h
  have HS := Aside0.mk hS
  have KB := Aside0.mk kb
  clear hS kb
  go_wp2_with ((with_reducible refine gate_dst (N := 16) rfl ?_); refine app_bytes rfl rfl rfl rfl (OB_nil _ _) HBB.out (Nat.le_refl _) (by rw [List.length_nil]; omega) ?_; intro v2 w2 HO20 hb20 _ _; rw [List.nil_append] at HO20; have HO2 := Aside0.mk HO20; have HB2 := Aside0.mk hb20; clear HO20 hb20; obtain ⟨A2, c2, rfl, hc2, HC20⟩ := OB_readn HO2.out nb HNB.out; have E2 := OB_string HO2.out; rw [HS.out] at E2; clear HC20)
  have HC2 := Aside0.mk (Kd.R_reads' HO2.out).2.2
  rw [HNB.out] at HC2
  (with_reducible refine (put1_calls _ _ _ bb x w2 _ HC2.out hc2 hx2 (by omega)).mono ?_)
  rintro e w3 ⟨v3, rfl, HO3, hb3⟩
  obtain ⟨n3, hn3⟩ : ∃ n, (bb ++ vput x).length = n := ⟨_, rfl⟩
  have hn32 : n3 ≤ 109 := by have := vput_le x hx2; rw [← hn3, List.length_append, HNB.out]; omega
  obtain ⟨A3, c3, rfl, hc3, _⟩ := OB_readn HO3 n3 hn3
  have NE32 := Aside0.mk (own_ne_newer HO2.out HO3 (Nat.le_refl _))
  have HO32 := Aside0.mk (Kd.R_lower HO3 HB2.out.size)
  have HO22 := Aside0.mk (Kd.R_below HO2.out hb3)
  have HB3 := Aside0.mk (below_step HB2.out hb3)
  have HC3 := Aside0.mk (Kd.R_reads' HO22.out).2.2
  rw [HNB.out] at HC3
  clear HO3 hb3 HB2 HC2 hn3 E2 HO2
  go_wp2_with fail
  (with_reducible refine (readO_calls _ _ _ bb _ HC3.out hc2 (by omega)).mono ?_)
  rintro e w4 ⟨g4, A4, c4, rfl, hX4, hc4, HO4, hb4, hg4⟩
  have NE43 := Aside0.mk (own_ne_newer HO32.out HO4 (Nat.le_refl _))
  have NE42 := Aside0.mk (own_ne_newer HO22.out HO4 (Nat.le_refl _))
  have hr3 := Kd.R_below HO32.out hb4
  have hr2 := Kd.R_below HO22.out hb4
  have NG3 := Aside0.mk (Kd.R_ne hr3 hX4 (by decide))
  have NG2 := Aside0.mk (Kd.R_ne hr2 hX4 (by decide))
  have HO42 := Aside0.mk (Kd.R_lower HO4 HB3.out.size)
  have HG4 := Aside0.mk (Nat.le_trans HB3.out.size hg4)
  have HI0 : Aside0 ((∃ l : List Int, OB w4 w.heap.size (.slice A3 n3 c3) l) ∧ OB w4 w.heap.size (.slice A2 nb c2) bb ∧ OB w4 w.heap.size (.slice A4 nb c4) bb ∧ w4.heap[g4]? = some (rdr A4 nb c4 0) ∧ Below w.heap.size w w4) := ⟨⟨_, hr3⟩, hr2, HO42.out, hX4, below_step HB3.out hb4⟩
  clear hX4 HO4 hb4 hr3 hr2 HO32 HO22 HB3 HC3 HO42
  go_wp2_with fail
  go_loopw [9] (fun v9 w' => ∃ k : Nat, k ≤ n3 ∧ v9 = .int .i64 k ∧ Aside0 ((∃ l : List Int, OB w' w.heap.size (.slice A3 n3 c3) l) ∧ OB w' w.heap.size (.slice A2 nb c2) bb ∧ OB w' w.heap.size (.slice A4 nb c4) bb ∧ w'.heap[g4]? = some (rdr A4 nb c4 0) ∧ Below w.heap.size w w')) (fun v9 _ => n3 - (intOf v9).toNat)
  case atStart => exact ⟨0, Nat.zero_le _, rfl, HI0⟩
  case round =>
    clear HI0
    obtain ⟨k, hk, rfl, HI⟩ := hrel
    by_cases hlt : k < n3
    · obtain ⟨⟨I1, I2, I3, I4, I5⟩⟩ := HI
      obtain ⟨g3, rfl, hg3, ⟨y, hy⟩, hf, hs⟩ := own_step I1 k hlt
      have I6 := I5.size
      have HI2 : Aside0 (∃ W2 : World, W2 = wr.setCell ⟨g3, k, none⟩ (.int .u8 1) ∧ (∃ l : List Int, OB W2 w.heap.size (.slice (some ⟨g3, 0, none⟩) n3 c3) l) ∧ OB W2 w.heap.size (.slice A2 nb c2) bb ∧ OB W2 w.heap.size (.slice A4 nb c4) bb ∧ W2.heap[g4]? = some (rdr A4 nb c4 0) ∧ Below w.heap.size w W2) :=
        ⟨_, rfl, (hs 1).1, OB_grown (v := .bool true) I2 (hs 1).2 (ne_turned NE32.out), OB_grown (v := .bool true) I3 (hs 1).2 NE43.out, blk_grown I4 (hs 1).2 NG3.out, I5.grown (hs 1).2 I6 (fun k e => by cases e; exact hg3)⟩
      clear hs I1 I2 I3 I4 I5 I6
      have i1 : (k : Int) < (n3 : Int) := by omega
      have i2 : (0 : Int) ≤ (k : Int) := by omega
      go_wp2_with fail
      go_roundw
      case rel =>
        obtain ⟨⟨W2, rfl, HI3⟩⟩ := HI2
        exact ⟨k + 1, hlt, rfl, ⟨HI3⟩⟩
      case measure => simp [intOf]; omega
    · obtain rfl : k = n3 := by omega
      obtain ⟨⟨I1, I2, I3, I4, I5⟩⟩ := HI
      have E2 := OB_string I2
      rw [HS.out] at E2
      have HI0 : Aside0 ((∃ l : List Int, OB wr w.heap.size (.slice A2 nb c2) l) ∧ OB wr w.heap.size (.slice A4 nb c4) bb ∧ wr.heap[g4]? = some (rdr A4 nb c4 0) ∧ Below w.heap.size w wr) := ⟨⟨_, I2⟩, I3, I4, I5⟩
      clear I1 I2 I3 I4 I5
      go_wp2_with fail
      clear E2 NE32 NE43 NG3
      go_loopw [11] (fun v11 w' => ∃ k : Nat, k ≤ nb ∧ v11 = .int .i64 k ∧ Aside0 ((∃ l : List Int, OB w' w.heap.size (.slice A2 nb c2) l) ∧ OB w' w.heap.size (.slice A4 nb c4) bb ∧ w'.heap[g4]? = some (rdr A4 nb c4 0) ∧ Below w.heap.size w w')) (fun v11 _ => nb - (intOf v11).toNat)
      case atStart => exact ⟨0, Nat.zero_le _, rfl, HI0⟩
      case round =>
        clear HI0
        obtain ⟨j, hj, rfl, HI⟩ := hrel
        by_cases hjl : j < nb
        · obtain ⟨⟨I2, I3, I4, I5⟩⟩ := HI
          obtain ⟨g2, rfl, hg2, ⟨y, hy⟩, hf, hs⟩ := own_step I2 j hjl
          have I6 := I5.size
          have HI2 : Aside0 (∃ W2 : World, W2 = wr.setCell ⟨g2, j, none⟩ (.int .u8 200) ∧ (∃ l : List Int, OB W2 w.heap.size (.slice (some ⟨g2, 0, none⟩) nb c2) l) ∧ OB W2 w.heap.size (.slice A4 nb c4) bb ∧ W2.heap[g4]? = some (rdr A4 nb c4 0) ∧ Below w.heap.size w W2) :=
            ⟨_, rfl, (hs 200).1, OB_grown (v := .bool true) I3 (hs 200).2 NE42.out, blk_grown I4 (hs 200).2 NG2.out, I5.grown (hs 200).2 I6 (fun k e => by cases e; exact hg2)⟩
          clear hs I2 I3 I4 I5 I6
          have i1 : (j : Int) < (nb : Int) := by omega
          have i2 : (0 : Int) ≤ (j : Int) := by omega
          go_wp2_with fail
          go_roundw
          case rel =>
            obtain ⟨⟨W2, rfl, HI3⟩⟩ := HI2
            exact ⟨j + 1, hjl, rfl, ⟨HI3⟩⟩
          case measure => simp [intOf]; omega
        · obtain rfl : j = nb := by omega
          have kb := KB.out
          go_wp2_with fail
          obtain ⟨⟨_, J3, J4, J5⟩⟩ := HI
          have hlt4 : g4 < wr.heap.size := (Array.getElem?_eq_some_iff.1 J4).1
          have hbW : ∀ o, Below wr.heap.size wr ((Lib.bytesWorld wr 5 S).alloc o) := fun o => below_alloc (bytes_below (Below.refl _ _) (Nat.le_refl _) 5 S) o
          have hr4 := (Kd.R_reads' J3).2.2
          rw [HNB.out] at hr4
          have hg4' : w.heap.size ≤ g4 := HG4.out
          have hcap := grownCap_ge wr j 0 5
          have hszb : (Lib.bytesWorld wr 5 S).heap.size = wr.heap.size + 1 := Lib.bytesWorld_size _ _ _
          have hnew : ((Lib.bytesWorld wr 5 S).alloc (rfr (some ⟨wr.heap.size, 0, none⟩) j (grownCap wr j 0 5) 0 0)).heap[(Lib.bytesWorld wr 5 S).heap.size]? = some (rfr (some ⟨wr.heap.size, 0, none⟩) j (grownCap wr j 0 5) 0 0) := heap_alloc_new _ _
          have hcr : U8.C ((Lib.bytesWorld wr 5 S).alloc (rfr (some ⟨wr.heap.size, 0, none⟩) j (grownCap wr j 0 5) 0 0)) (some ⟨wr.heap.size, 0, none⟩) j bb := by
            have h := bytes_C wr 5 S (by rw [HSZ.out]; omega)
            rw [HBS.out, HSZ.out] at h
            exact Kd.C_alloc h _
          have hbr := J5.trans ((hbW (rfr (some ⟨wr.heap.size, 0, none⟩) j (grownCap wr j 0 5) 0 0)).mono J5.size)
          (with_reducible refine (number_calls g4 _ A4 j c4 bb (box_keep J4 (hbW _)) (Kd.C_below hr4 (hbW _)) hc4 HRG.out).mono ?_)
          rintro e w6 ⟨A6, c6, rfl, _, _, _, hgr⟩
          have hX6 := blk_grown hnew hgr (by intro h; injection h with h; omega)
          have hC6 := C_block hcr (hgr.block wr.heap.size (Nat.lt_trans (show wr.heap.size < (Lib.bytesWorld wr 5 S).heap.size by rw [hszb]; omega) (Array.getElem?_eq_some_iff.1 hnew).1) (by intro h; injection h with h; omega))
          have hb6 := hbr.grown hgr hbr.size (fun k e => by cases e; exact hg4')
          rw [hszb] at hX6
          have HX6 := Aside0.mk hX6
          have HC6 := Aside0.mk hC6
          have HB6 := Aside0.mk hb6
          clear hX6 hC6 hb6 hgr hbr hcr hnew hr4 hbW J3 J4 J5 kb
          go_wp2_with fail
          (with_reducible refine (refnum_calls _ _ _ _ _ bb HX6.out HC6.out hcap HRG.out (by omega) w.heap.size (by omega)).mono ?_)
          rintro e w7 ⟨rfl, hb7⟩
          have HB7 := Aside0.mk (HB6.out.trans hb7)
          clear hb7 HB6 HX6 HC6
          go_wp2_with fail
          (with_reducible refine (lives_calls _).mono ?_)
          rintro e w8 ⟨rfl, hb8⟩
          have HB8 := Aside0.mk (below_step HB7.out hb8)
          go_wp2_with fail
          go_ret
          exact ⟨rfl, HB8.out⟩
end Go.Proofs.Ythfpbaaefncamaa.A
