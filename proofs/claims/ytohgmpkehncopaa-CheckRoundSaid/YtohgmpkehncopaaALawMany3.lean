/- CheckMany: frames that are made at once are made one by one, and one alone is read as it. -/
import Derived.Test.YtohgmpkehncopaaAHeads
import Derived.Test.YtohgmpkehncopaaAFlip
import Derived.Test.YtohgmpkehncopaaALaw3
import Derived.OwnWalk
import Derived.Deep.RegionHeld
namespace Go.Proofs.Ytohgmpkehncopaa.A
open Go.RowKit Go.Proofs.YtohgmpkehncopaaW.PrintWords Go.Proofs.YtohgmpkehncopaaW.PrintLast Go.Proofs.YtohgmpkehncopaaW.PrintMore
set_option linter.unusedVariables false
set_option linter.unusedSimpArgs false

def cut40 (x : List Int) : List Int := x.take (40 : Int).toNat
theorem flat_frame_len (L : List (List Int)) (m : Nat) (h : ∀ x ∈ L, x.length ≤ m) : (L.flatMap frame).length ≤ (m + 8) * L.length := by
  induction L with
  | nil => simp
  | cons x L ih =>
    rw [List.flatMap_cons, List.length_append, List.length_cons, frame_len, Nat.mul_succ]
    have h1 := h x (by simp)
    have h2 := ih (fun y hy => h y (by simp [hy]))
    omega
theorem map_take {α β : Type} (f : α → β) (ll : List α) (d : α) (k : Nat) (hk : k < ll.length) : (ll.take (k + 1)).map f = (ll.take k).map f ++ [f (ll.getD k d)] := by
  rw [List.take_succ_eq_append_getElem hk, List.map_append]
  simp [List.getD_eq_getElem?_getD, hk]
theorem frame_callsN (A : Option Addr) (n c : Nat) (ll : List (List Int)) (w : World) (hr : Kd.C (Kd.slice 5 U8) w A n ll) (hc : n ≤ c) (hl : (ll.flatMap frame).length ≤ 140737488000000) :
    Calls Try.prog 13 #[.slice A n c] w fun e w' => ∃ v, e = .returned v ∧ OB w' w.heap.size v (ll.flatMap frame) ∧ Below w.heap.size w w' := by
  have hn := hr.1
  subst hn
  exact frame_calls A c ll w hr hc hl

set_option maxRecDepth 100000 in
set_option maxHeartbeats 4000000 in
theorem many3_calls (w : World) (A : Option Addr) (c : Nat) (ll : List (List Int)) (hr : Kd.C (Kd.slice 5 U8) w A ll.length ll) (hc : ll.length ≤ c) (hg : ∀ x ∈ ll, ∀ y ∈ x, 0 ≤ y ∧ y ≤ 255) :
    Calls Try.prog 7 #[.slice A ll.length c] w fun e w' => e = .returned (.bool true) ∧ Below w.heap.size w w' := by
  have hm : ll.length ≤ 9223372036854775807 := hr.2.1
  have HR := Aside0.mk hr
  have HG := Aside0.mk hg
  clear hr hg
  obtain ⟨ln, hln⟩ : ∃ n, ll.length = n := ⟨_, rfl⟩
  have HLN := Aside0.mk hln
  rw [hln] at hm hc ⊢
  clear hln
  go_enter Try.func7, Try.ntmps7
  go_wp2_with fail
  go_loopw [3, 4, 5] (fun v3 v4 v5 w' => ∃ k : Nat, k ≤ ln ∧ k ≤ 5 ∧ v5 = .int .i64 k ∧ Aside0 (∃ hs, OR Hd 22 w' w.heap.size v3 hs ∧ Heads w hs ((ll.take k).map cut40)) ∧ Aside0 (OB w' w.heap.size v4 (((ll.take k).map cut40).flatMap frame)) ∧ Aside0 (Below w.heap.size w w')) (fun _ _ v5 _ => ln - (intOf v5).toNat)
  case atStart => exact ⟨0, Nat.zero_le _, by omega, rfl, ⟨[], Kd.R_nil _ _ _ _ _, by simpa using Heads_nil w⟩, ⟨by simpa using OB_nil _ _⟩, ⟨Below.refl _ _⟩⟩
  case round =>
    obtain ⟨k, hk, hk5, rfl, ⟨hs, HH0, HS0⟩, HO, HB⟩ := hrel
    have HH := Aside0.mk HH0
    have HS := Aside0.mk HS0
    have hown : ((ll.take k).map cut40).length = k := by rw [List.length_map, List.length_take, HLN.out]; omega
    have hhl : hs.length ≤ 5 := by rw [HS0.1, hown]; exact hk5
    have hlen := flat_frame_len ((ll.take k).map cut40) 40 (fun x hx => by
      obtain ⟨y, _, rfl⟩ := List.mem_map.1 hx
      unfold cut40
      rw [List.length_take]
      exact Nat.min_le_left _ _)
    rw [hown] at hlen
    have hl240 : (((ll.take k).map cut40).flatMap frame).length ≤ 240 := by omega
    clear HH0 HS0 hlen
    by_cases hlt : k < ln
    · by_cases h5 : k < 5
      · obtain ⟨ad, A1, c1, rfl, hcell0, hc1, hC0⟩ := C_atS HR.out k (by rw [HLN.out]; exact hlt)
        have hcell := pw_cell_below HB.out hcell0
        have hmap := map_take cut40 ll [] k (by rw [HLN.out]; exact hlt)
        have hrg : ∀ y ∈ ll.getD k [], 0 ≤ y ∧ y ≤ 255 := by
          have : ll.getD k [] = ll[k]'(by rw [HLN.out]; exact hlt) := by simp [List.getD_eq_getElem?_getD, show k < ll.length by rw [HLN.out]; exact hlt]
          rw [this]
          exact HG.out _ (List.getElem_mem _)
        unfold cut40 at hmap
        have HRG := Aside0.mk (fun y hy => hrg y (List.mem_of_mem_take hy) : ∀ y ∈ (ll.getD k []).take (40 : Int).toNat, 0 ≤ y ∧ y ≤ 255)
        have hbl := few_len (ll.getD k []) 40
        have HMAP := Aside0.mk hmap
        have HC := Aside0.mk hC0
        have HCT := Aside0.mk (C_take_any hC0 (40 : Int).toNat)
        clear hcell0 hmap hrg hown hC0
        generalize ll.getD k [] = x at *
        go_wp2_with fail
        (with_reducible refine (few_calls _ _ _ x _ (Kd.C_below HC.out HB.out) hc1 (by omega) (by omega)).mono ?_)
        rintro e w1 ⟨rfl, rfl⟩
        generalize x.take (40 : Int).toNat = b at *
        obtain ⟨nb, hnb⟩ : ∃ n, b.length = n := ⟨_, rfl⟩
        obtain ⟨hb1, hb2⟩ := hbl
        have hnc : nb ≤ c1 := by omega
        have hn40 : nb ≤ 40 := by omega
        have HNB := Aside0.mk hnb
        rw [hnb] at HCT ⊢
        clear hb1 hb2 hnb HC hcell hc1
        go_wp2_with ((with_reducible refine gate_dst (N := 28) rfl ?_); refine app_head rfl rfl rfl rfl HH.out HB.out.size (by omega) ?_; intro v3 w2 HH2 hb2 hg2)
        have hg2' : wr.grownBy w2 u3.ownBlock := hg2
        have HO2 := Aside0.mk (OR_grown HO.out hg2' (own_ne_type HH.out HO.out (by decide)))
        have HH3 := Aside0.mk HH2
        have HB2 := Aside0.mk (HB.out.trans hb2)
        clear HH2 hb2 hg2 hg2' HH HO HB
        (with_reducible refine (frame1_calls _ _ b _ (lit_S1n (Kd.C_below HCT.out HB2.out) hnc) (Nat.le_refl _) (by rw [HNB.out]; omega)).mono ?_)
        rintro e w4 ⟨v6, rfl, HO6, hb4⟩
        obtain ⟨nf, hnf⟩ : ∃ n, nb + 8 = n := ⟨_, rfl⟩
        obtain ⟨A6, c6, rfl, hc6, HC6⟩ := OB_readn HO6 nf (by rw [frame_len, HNB.out]; exact hnf)
        have hnf1 : nf ≤ nb + 8 := by omega
        have hnf2 : nb + 8 ≤ nf := by omega
        have HF := Aside0.mk HO6
        have HNE := Aside0.mk (own_ne_new (Kd.R_alloc HO2.out (.cells #[.slice A1 nb c1] 22)) HO6 (Nat.le_refl _))
        have HH4 := Aside0.mk (Kd.R_below (Kd.R_alloc HH3.out _) hb4)
        have HO4 := Aside0.mk (Kd.R_below (Kd.R_alloc HO2.out _) hb4)
        have HB4 := Aside0.mk (below_step (below_alloc HB2.out _) hb4)
        have HFC := Aside0.mk HC6
        clear HO6 HC6 hb4 HH3 HO2 HB2 hnf
        go_wp2_with ((with_reducible refine gate_dst (N := 34) rfl ?_); refine app_bytes rfl rfl rfl rfl HO4.out HFC.out HB4.out.size (by omega) ?_; intro v4 w5 HO5 hb5 hg5 _)
        have hg5' : w4.grownBy w5 u4.ownBlock := hg5
        have HH5 := Aside0.mk (OR_grown HH4.out hg5' (own_ne_type HO4.out HH4.out (by decide)))
        have HF5 : Aside0 (OB w5 (w2.alloc (.cells #[.slice A1 nb c1] 22)).heap.size (.slice A6 nf c6) (frame b)) := Aside0.mk (OR_grown HF.out hg5' HNE.out)
        have HP5 := Aside0.mk HO5
        have HB5 := Aside0.mk (HB4.out.trans hb5)
        have HBC := Aside0.mk (Kd.C_below HCT.out HB5.out)
        clear HO5 hb5 hg5 hg5' HH4 HO4 HB4 HF HFC HNE
        (with_reducible refine (One_callsN _ _ _ (frame b) _ (OB_C HF5.out) hc6 (frame_range b HRG.out)).mono ?_)
        rintro e w6 ⟨v7, rfl, ⟨A7, c7, rfl, hl7, HC7⟩, hb6⟩
        rw [frame_err b (by rw [HNB.out]; omega)]
        rw [frame_own b (by rw [HNB.out]; omega), HNB.out] at HC7 hl7 ⊢
        have E1 := C_string' (c := c7) HC7
        have E2 := C_string' (c := c1) (Kd.C_below HBC.out hb6)
        have HH6 := Aside0.mk (Kd.R_below HH5.out hb6)
        have HP6 := Aside0.mk (Kd.R_below HP5.out hb6)
        have HB6 := Aside0.mk (below_step HB5.out hb6)
        clear HC7 hb6 HH5 HP5 HB5 HBC HF5
        go_wp2_with fail
        go_roundw
        case rel =>
          have hmap' : (ll.take (k + 1)).map cut40 = (ll.take k).map cut40 ++ [b] := HMAP.out
          refine ⟨k + 1, hlt, h5, rfl, ⟨hs ++ [(A1, nb, c1)], HH6.out, ?_⟩, ⟨?_⟩, HB6⟩
          · rw [hmap']
            exact Heads_add HS.out HCT.out hnc
          · rw [hmap', List.flatMap_append]
            simpa using HP6.out
        case measure => simp [intOf]; omega
      · have hmore := h5
        obtain ⟨A3, c3, rfl, hc3, hC3⟩ : ∃ A c, u3 = .slice A hs.length c ∧ hs.length ≤ c ∧ Hd.C wr A hs.length hs := Kd.R_reads HH.out
        have HCC := Aside0.mk (Heads_C (e := 5) (Kd.C_below hC3 (below_drew1 (Below.refl _ _))) (Heads_below HS.out (below_drew1 HB.out)))
        generalize (ll.take k).map cut40 = own at *
        generalize hs.length = hn at *
        have hP5 : Aside0 (OB wr.drew w.heap.size u4 (own.flatMap frame)) := ⟨Kd.R_drew HO.out⟩
        have hHB := below_drew1 HB.out
        have hE5 := OB_string hP5.out
        have hl2 : (own.flatMap frame).length ≤ 1000 := by omega
        clear HH HS HO HB hown hC3
        go_wp2_with fail
        go_region_held (fun w' => Aside0 (OB w' w.heap.size u4 (own.flatMap frame)) ∧ Below w.heap.size w w' ∧ (convert 22 9 u4).run Try.prog w' = .ok (.string (strOfNums (own.flatMap frame))) w')
          (first
            | (go_split_ands; exact ⟨by assumption, by assumption, by assumption⟩)
            | (go_split_ands; have r5 : OB _ w.heap.size u4 (own.flatMap frame) := Kd.R_below (Aside0.out (by assumption)) hb; exact ⟨⟨r5⟩, below_step (by assumption) hb, OB_string r5⟩))
          (first | ((go_at_call 13); (with_reducible refine (frame_callsN _ _ _ own _ HCC.out hc3 (by omega)).mono ?_); rintro e w9 ⟨v9, rfl, HO9, hb⟩; have E38 := OB_string HO9) | ((go_at_call 15); (with_reducible refine (lives_calls _).mono ?_); rintro e w8 ⟨rfl, hb⟩))
        all_goals go_wp2
        all_goals go_ret
        all_goals exact ⟨by first | rfl | kernel_rfl, by first | assumption | (go_split_ands; assumption)⟩
    · have hmore := hlt
      obtain ⟨A3, c3, rfl, hc3, hC3⟩ : ∃ A c, u3 = .slice A hs.length c ∧ hs.length ≤ c ∧ Hd.C wr A hs.length hs := Kd.R_reads HH.out
      have HCC := Aside0.mk (Heads_C (e := 5) (Kd.C_below hC3 (below_drew1 (Below.refl _ _))) (Heads_below HS.out (below_drew1 HB.out)))
      generalize (ll.take k).map cut40 = own at *
      generalize hs.length = hn at *
      have hP5 : Aside0 (OB wr.drew w.heap.size u4 (own.flatMap frame)) := ⟨Kd.R_drew HO.out⟩
      have hHB := below_drew1 HB.out
      have hE5 := OB_string hP5.out
      have hl2 : (own.flatMap frame).length ≤ 1000 := by omega
      clear HH HS HO HB hown hC3
      go_wp2_with fail
      go_region_held (fun w' => Aside0 (OB w' w.heap.size u4 (own.flatMap frame)) ∧ Below w.heap.size w w' ∧ (convert 22 9 u4).run Try.prog w' = .ok (.string (strOfNums (own.flatMap frame))) w')
        (first
          | (go_split_ands; exact ⟨by assumption, by assumption, by assumption⟩)
          | (go_split_ands; have r5 : OB _ w.heap.size u4 (own.flatMap frame) := Kd.R_below (Aside0.out (by assumption)) hb; exact ⟨⟨r5⟩, below_step (by assumption) hb, OB_string r5⟩))
        (first | ((go_at_call 13); (with_reducible refine (frame_callsN _ _ _ own _ HCC.out hc3 (by omega)).mono ?_); rintro e w9 ⟨v9, rfl, HO9, hb⟩; have E38 := OB_string HO9) | ((go_at_call 15); (with_reducible refine (lives_calls _).mono ?_); rintro e w8 ⟨rfl, hb⟩))
      all_goals go_wp2
      all_goals go_ret
      all_goals exact ⟨by first | rfl | kernel_rfl, by first | assumption | (go_split_ands; assumption)⟩

end Go.Proofs.Ytohgmpkehncopaa.A
