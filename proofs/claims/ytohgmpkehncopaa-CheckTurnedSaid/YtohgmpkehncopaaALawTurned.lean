/- CheckTurned: a frame of which one byte of its own is another one is refused. -/
import Derived.Test.YtohgmpkehncopaaAFlip
import Derived.Test.YtohgmpkehncopaaALaw3
namespace Go.Proofs.Ytohgmpkehncopaa.A
open Go.RowKit Go.Proofs.YtohgmpkehncopaaW.PrintWords Go.Proofs.YtohgmpkehncopaaW.PrintLast Go.Proofs.YtohgmpkehncopaaW.PrintMore
set_option linter.unusedVariables false
set_option linter.unusedSimpArgs false

set_option maxRecDepth 100000 in
set_option maxHeartbeats 4000000 in
theorem turned_calls (w : World) (A : Option Addr) (c : Nat) (l : List Int) (hr : U8.C w A l.length l) (hc : l.length ≤ c) (hb : ∀ x ∈ l, 0 ≤ x ∧ x ≤ 255) (a : Int) (ga : IntKind.i64.min ≤ a ∧ a ≤ IntKind.i64.max) (y : Int) (gy : 0 ≤ y ∧ y ≤ 255) :
    Calls Try.prog 6 #[.slice A l.length c, .int .i64 a, .int .u8 y] w fun e w' => e = .returned (.bool true) ∧ Below w.heap.size w w' := by
  have HR := Aside0.mk hr
  have HBY := Aside0.mk hb
  have ga0 : -9223372036854775808 ≤ a := ga.1
  have ga1 : a ≤ 9223372036854775807 := ga.2
  clear hr hb ga
  go_enter Try.func6, Try.ntmps6
  go_wp2_with fail
  (with_reducible refine (few_calls _ _ _ _ _ HR.out hc (by omega) (by omega)).mono ?_)
  rintro e w1 ⟨rfl, rfl⟩
  obtain ⟨hx1, hx2⟩ := few_len l 60
  have HR1 := Aside0.mk (C_take_any HR.out (60 : Int).toNat)
  have HBY1 := Aside0.mk (fun x hx => HBY.out x (List.mem_of_mem_take hx) : ∀ x ∈ l.take (60 : Int).toNat, 0 ≤ x ∧ x ≤ 255)
  clear HR HBY
  generalize l.take (60 : Int).toNat = x at *
  have hcx : x.length ≤ c := by omega
  have hxl : x.length ≤ 60 := hx2
  clear hx1 hx2
  obtain ⟨n, hn⟩ : ∃ n, x.length + 1 = n := ⟨_, rfl⟩
  have HN := Aside0.mk hn
  have hnl : n ≤ 61 := by omega
  clear hn
  go_wp2_with (first
    | ((with_reducible refine gate_dst (N := 15) rfl ?_); refine app_bytes rfl rfl rfl rfl (OB_nil _ _) HR1.out (Nat.le_refl _) (by rw [List.length_nil]; omega) ?_; intro v2 w2 HO2 hb2 _ _; rw [List.nil_append] at HO2; have HP := Aside0.mk HO2; have HB := Aside0.mk hb2; clear HO2 hb2)
    | ((with_reducible refine gate_dst (N := 18) rfl ?_); refine app_byte rfl rfl rfl rfl HP.out HB.out.size (by omega) ?_; intro v3 w3 HO3 hb3 _; obtain ⟨A3, c3, rfl, hc3, HC3⟩ := OB_readn HO3 n (by rw [List.length_append, List.length_singleton]; exact HN.out)))
  have HO := Aside0.mk HO3
  have HC := Aside0.mk HC3
  have HB2 := Aside0.mk (HB.out.trans hb3)
  have HBY2 : Aside0 (∀ z ∈ x ++ [7], 0 ≤ z ∧ z ≤ 255) := ⟨fun z hz => by rw [List.mem_append, List.mem_singleton] at hz; rcases hz with hz | rfl; exact HBY1.out z hz; omega⟩
  have hn2 : (x ++ [7]).length = n := by rw [List.length_append, List.length_singleton]; exact HN.out
  have HN2 := Aside0.mk hn2
  have hn1 : 1 ≤ n := by have := HN.out; omega
  clear HO3 HC3 hb3 HB HP HR1 HBY1 hn2 HN hcx
  generalize x ++ [7] = o at *
  (with_reducible refine (frame1_calls _ _ o _ (lit_S1n HC.out hc3) (Nat.le_refl _) (by rw [HN2.out]; omega)).mono ?_)
  rintro e w4 ⟨v4, rfl, HO4, hb4⟩
  obtain ⟨m, hm⟩ : ∃ m, n + 8 = m := ⟨_, rfl⟩
  obtain ⟨A4, c4, rfl, hc4, HC4⟩ := OB_readn HO4 m (by rw [frame_len, HN2.out]; exact hm)
  have hm1 : m ≤ n + 8 := by omega
  have hm2 : n + 8 ≤ m := by omega
  have HO4' := Aside0.mk HO4
  have HOa := Aside0.mk (Kd.R_alloc HO.out (.cells #[.slice A3 n c3] 22))
  have HBa := Aside0.mk (below_alloc HB2.out (.cells #[.slice A3 n c3] 22))
  have HB34 := Aside0.mk hb4
  have hlt3 : w.heap.size ≤ (w3.alloc (.cells #[.slice A3 n c3] 22)).heap.size := HBa.out.size
  obtain ⟨g, rfl, hg⟩ := R_block HO4 (by omega)
  clear HO4 HC4 hb4 HB2 HC HO hm
  generalize w3.alloc (.cells #[.slice A3 n c3] 22) = wA at *
  obtain ⟨a', hA⟩ : ∃ a' : Nat, (if a < 0 then -(a + 1) else a) = (a' : Int) := ⟨(if a < 0 then -(a + 1) else a).toNat, by split <;> omega⟩
  have ha' : a' ≤ 9223372036854775807 := by split at hA <;> omega
  obtain ⟨j, hj⟩ : ∃ j, a' % n = j := ⟨_, rfl⟩
  have hjn : j < n := by rw [← hj]; exact Nat.mod_lt _ (by omega)
  have hjI : (a' : Int) % (n : Int) = (j : Int) := by rw [← hj]; rfl
  obtain ⟨k, hk⟩ : ∃ k, 8 + j = k := ⟨_, rfl⟩
  have hkm : k < m := by omega
  obtain ⟨hcel, hfro⟩ := R_cellN HO4'.out k hkm
  have hfl := flip_read o j (by rw [HN2.out]; omega) y (by rw [HN2.out]; omega) HBY2.out gy
  have hpt := R_putN HO4'.out k (bits .xor .u8 ((frame o).getD k 0) y)
  have hst := HB34.out.setCell (p := ⟨g, k, none⟩) hg (.int .u8 (bits .xor .u8 ((frame o).getD k 0) y))
  rw [hk] at hfl
  generalize (frame o).getD k 0 = z0 at *
  generalize (frame o).set k (bits .xor .u8 z0 y) = L at *
  obtain ⟨hLr, hLe, hLo⟩ := hfl
  have HLr := Aside0.mk hLr
  have HLe := Aside0.mk hLe
  have HLo := Aside0.mk hLo
  have HPT := Aside0.mk hpt
  have HST := Aside0.mk hst
  clear hLr hLe hLo hpt hst HO4'
  obtain ⟨aa, haa⟩ : ∃ aa : Int, aa = a := ⟨a, rfl⟩
  rcases Int.lt_or_le a 0 with sa | sa <;> (first | rw [if_pos sa] at hA | rw [if_neg (by omega)] at hA)
  · have hW : wrap64 (8 + -((a + 1).tmod (n : Int))) = (k : Int) := by
      have e1 : a + 1 = -(a' : Int) := by omega
      rw [e1, Int.neg_tmod, Int.neg_neg, Int.tmod_eq_emod_of_nonneg (by omega), hjI]
      unfold wrap64
      omega
    have HK := Aside0.mk hk
    clear hj hA hjI hk haa
    go_wp2_with fail
    (with_reducible refine (One_callsN _ _ _ L _ (OB_C HPT.out) hc4 HLr.out).mono ?_)
    rintro e w5 ⟨v5, rfl, ⟨A5, c5, rfl, hl5, HC5⟩, hb5⟩
    rw [HLe.out]
    rw [HLo.out] at HC5 hl5 ⊢
    have HB5 := Aside0.mk (below_step (below_step HBa.out HST.out) hb5)
    have E2 := OB_string (Kd.R_below (Kd.R_below HOa.out HST.out) hb5)
    by_cases hy : y = 0
    · subst hy
      rw [if_pos rfl] at HC5 hl5 ⊢
      rw [HN2.out] at HC5 hl5 ⊢
      have E1 := C_string' (c := c5) HC5
      clear HC5 hb5 HPT HST HOa HBa HB34 HLe HLo
      go_wp2_with ((go_at_call 15); (with_reducible refine (lives_calls _).mono ?_); rintro e w8 ⟨rfl, hb⟩)
      go_ret
      exact ⟨rfl, below_step HB5.out hb⟩
    · rw [if_neg hy] at HC5 hl5 ⊢
      rw [if_neg hy]
      clear HC5 hb5 HPT HST HOa HBa HB34 HLe HLo E2
      go_wp2_with ((go_at_call 15); (with_reducible refine (lives_calls _).mono ?_); rintro e w8 ⟨rfl, hb⟩)
      go_ret
      exact ⟨rfl, below_step HB5.out hb⟩
  · have hW : wrap64 (8 + a % (n : Int)) = (k : Int) := by
      rw [hA, hjI]
      unfold wrap64
      omega
    have HK := Aside0.mk hk
    clear hj hA hjI hk haa
    go_wp2_with fail
    (with_reducible refine (One_callsN _ _ _ L _ (OB_C HPT.out) hc4 HLr.out).mono ?_)
    rintro e w5 ⟨v5, rfl, ⟨A5, c5, rfl, hl5, HC5⟩, hb5⟩
    rw [HLe.out]
    rw [HLo.out] at HC5 hl5 ⊢
    have HB5 := Aside0.mk (below_step (below_step HBa.out HST.out) hb5)
    have E2 := OB_string (Kd.R_below (Kd.R_below HOa.out HST.out) hb5)
    by_cases hy : y = 0
    · subst hy
      rw [if_pos rfl] at HC5 hl5 ⊢
      rw [HN2.out] at HC5 hl5 ⊢
      have E1 := C_string' (c := c5) HC5
      clear HC5 hb5 HPT HST HOa HBa HB34 HLe HLo
      go_wp2_with ((go_at_call 15); (with_reducible refine (lives_calls _).mono ?_); rintro e w8 ⟨rfl, hb⟩)
      go_ret
      exact ⟨rfl, below_step HB5.out hb⟩
    · rw [if_neg hy] at HC5 hl5 ⊢
      rw [if_neg hy]
      clear HC5 hb5 HPT HST HOa HBa HB34 HLe HLo E2
      go_wp2_with ((go_at_call 15); (with_reducible refine (lives_calls _).mono ?_); rintro e w8 ⟨rfl, hb⟩)
      go_ret
      exact ⟨rfl, below_step HB5.out hb⟩

end Go.Proofs.Ytohgmpkehncopaa.A
