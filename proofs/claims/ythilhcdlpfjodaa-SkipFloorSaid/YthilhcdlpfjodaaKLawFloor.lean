/- SkipFloor: the last key up to one is a key that is there, and none is between. -/
import Derived.Test.YthilhcdlpfjodaaKLawRows
namespace Go.Proofs.Ythilhcdlpfjodaa.A
open Go.RowKit Go.Proofs.YthilhcdlpfjodaaW.PrintWords Go.Proofs.YthilhcdlpfjodaaW.PrintLast Go.Proofs.YthilhcdlpfjodaaW.PrintMore
set_option linter.unusedVariables false
set_option linter.unusedSimpArgs false

theorem floor_up {l : List It} (h : Srt l) (key : ByteArray) (p : It) (hp : p ∈ l) (hk : ltS p.k key = true ∨ p.k = key) : (floorS l key).2 = true ∧ (ltS p.k (floorS l key).1 = true ∨ p.k = (floorS l key).1) := by
  unfold floorS
  cases hi : isS l key with
  | true => exact ⟨rfl, hk⟩
  | false =>
    rw [if_neg (by simp)]
    have hne : p.k ≠ key := fun e => by
      have := (isS_iff h key).2 ⟨p, hp, e⟩
      rw [hi] at this
      cases this
    have hlt : ltS p.k key = true := hk.resolve_right hne
    obtain ⟨j, hj, rfl⟩ := List.mem_iff_getElem.1 hp
    have e : l.getD j default = l[j] := by rw [List.getD_eq_getElem?_getD, List.getElem?_eq_getElem hj]; rfl
    rw [← e] at hlt ⊢
    have hja := (srt_iff h key j hj).1 hlt
    rw [if_neg (by omega)]
    refine ⟨rfl, ?_⟩
    rcases Nat.lt_or_ge j (atS l key - 1) with h1 | h1
    · exact .inl (srt_lt h j _ h1 (by have := atS_le l key; omega))
    · obtain rfl : j = atS l key - 1 := by omega
      exact .inr rfl
theorem floor_there {l : List It} (h : Srt l) (key : ByteArray) (hk : (floorS l key).2 = true) : (getS l (floorS l key).1).2 = true ∧ (ltS (floorS l key).1 key = true ∨ (floorS l key).1 = key) := by
  have get : ∀ k, isS l k = true → (getS l k).2 = true := fun k hk => by unfold getS; rw [if_pos hk]
  unfold floorS at hk ⊢
  cases hi : isS l key with
  | true => exact ⟨get _ hi, .inr rfl⟩
  | false =>
    rw [hi, if_neg (by simp)] at hk
    rw [if_neg (by simp)]
    by_cases h0 : atS l key = 0
    · rw [if_pos h0] at hk
      cases hk
    · rw [if_neg h0]
      have hl := atS_le l key
      refine ⟨get _ ((isS_iff h _).2 ⟨_, getD_memI l (atS l key - 1) (by omega), rfl⟩), .inl (atS_lt l key _ (by omega))⟩
theorem floor_none {l : List It} {key : ByteArray} (hk : (floorS l key).2 = false) : (floorS l key).1 = { data := #[] } := by
  unfold floorS at hk ⊢
  split
  · rename_i h
    rw [if_pos h] at hk
    cases hk
  · rename_i h
    rw [if_neg h] at hk
    split
    · rfl
    · rename_i h2
      rw [if_neg h2] at hk
      cases hk
theorem row1_mem {l : List It} (h : Srt l) (i : Nat) (hi : i < (rowS l 1).length) : ∃ p ∈ l, p.k = (rowS l 1).getD i ByteArray.empty := by
  rw [row1 h, List.length_map] at hi
  refine ⟨l.getD i default, getD_memI l i hi, ?_⟩
  rw [row1 h, List.getD_eq_getElem?_getD, List.getD_eq_getElem?_getD, List.getElem?_map, List.getElem?_eq_getElem hi]
  rfl
theorem str_cases (x y : ByteArray) : (Go.Op.bytesLess x.toList y.toList = true ∧ (x.toList == y.toList) = false) ∨ (Go.Op.bytesLess x.toList y.toList = false ∧ x = y) ∨ (Go.Op.bytesLess x.toList y.toList = false ∧ (x.toList == y.toList) = false ∧ x ≠ y) := by
  by_cases e : x = y
  · exact .inr (.inl ⟨by rw [e]; exact ltS_self y, e⟩)
  · have hne : (x.toList == y.toList) = false := by rw [beq_eq_false_iff_ne]; exact fun h => e (toL_inj h)
    cases h : Go.Op.bytesLess x.toList y.toList with
    | true => exact .inl ⟨rfl, hne⟩
    | false => exact .inr (.inr ⟨rfl, hne, e⟩)
set_option maxRecDepth 100000 in
set_option maxHeartbeats 4000000 in
theorem lfloor_calls (w : World) (A : Option Addr) (c : Nat) (dl : List Dd) (hr : KDd.C w A dl.length dl) (hc : dl.length ≤ c) (hg : ∀ d ∈ dl, d.fits) (key : ByteArray) (hkey : key.size ≤ maxLen) :
    Calls Try.prog 5 #[.slice A dl.length c, .string key] w fun e w' => e = .returned (.bool true) ∧ Below w.heap.size w w' := by
  have hm := hr.2.1
  obtain ⟨n, hn⟩ : ∃ n, dl.length = n := ⟨_, rfl⟩
  rw [hn] at hr hc hm ⊢
  have HR := Aside0.mk hr
  have HN := Aside0.mk hn
  have HG := Aside0.mk hg
  have HKEY : Aside0 (key.size ≤ 9223372036854775807) := ⟨by simp only [maxLen] at hkey; omega⟩
  clear hr hn hg hkey
  go_enter Try.func5, Try.ntmps5
  go_wp2_with fail
  (with_reducible refine (DI_new w).mono ?_)
  rintro e w1 ⟨L, rfl, hD1⟩
  have HD1 := Aside0.mk hD1
  clear hD1
  go_wp2_with fail
  go_loopw [6, 7] (fun v6 v7 w' => ∃ (i : Nat) (l : List It), v7 = .int .i64 i ∧ i ≤ n ∧ i ≤ 40 ∧ Aside0 (DI w w' L i v6 l)) (fun _ v7 _ => 60 - (intOf v7).toNat)
  case atStart => exact ⟨0, [], rfl, Nat.zero_le _, by omega, HD1⟩
  case round =>
    obtain ⟨i, l, rfl, hin, hi40, HD⟩ := hrel
    by_cases hlt : i < n ∧ i < 40
    · obtain ⟨hl1, hl2⟩ := hlt
      obtain ⟨ad, rfl, q0, q1, q2, q3⟩ := C_atDd (Kd.C_below HR.out (DI_b HD.out)) i hl1
      have hfd : (dl.getD i default).fits := HG.out _ (by
        rw [List.getD_eq_getElem?_getD, List.getElem?_eq_getElem (by rw [HN.out]; exact hl1)]
        exact List.getElem_mem _)
      obtain ⟨d, hd⟩ : ∃ d, dl.getD i default = d := ⟨_, rfl⟩
      rw [hd] at q0 q1 q2 q3 hfd
      have HDO := Aside0.mk (DI_does HD.out d (by omega) (by unfold Dd.fits at hfd; simp only [maxLen] at hfd; omega))
      have j1 : (i : Int) < (n : Int) := by omega
      have j2 : (0 : Int) ≤ (i : Int) := by omega
      have j3 : (i : Int) < 40 := by omega
      clear hd hfd
      go_wp2_with fail
      (with_reducible refine HDO.out.mono ?_)
      rintro e w2 ⟨v2, rfl, hD2⟩
      have HD2 := Aside0.mk hD2
      clear hD2
      go_wp2_with fail
      go_roundw
      case rel => exact ⟨i + 1, _, by push_cast; rfl, hl1, by omega, HD2⟩
      case measure => simp [intOf]; omega
    · have j1 : (¬ (i : Int) < (n : Int)) ∨ ((i : Int) < (n : Int) ∧ ¬ (i : Int) < 40) := by omega
      have hsr := DI_srt HD.out
      have HUP := Aside0.mk (floor_up hsr (fewS key))
      have HTH := Aside0.mk (floor_there hsr (fewS key))
      have HNO := Aside0.mk (@floor_none l (fewS key))
      have HMEM := Aside0.mk (row1_mem hsr)
      have HSR := Aside0.mk hsr
      have hlen : (rowS l 1).length = l.length := by rw [row1 hsr, List.length_map]
      have hll := DI_len HD.out
      have HFL := Aside0.mk (DI_floor HD.out (fewS key))
      obtain ⟨key2, hk2⟩ : ∃ k, fewS key = k := ⟨_, rfl⟩
      obtain ⟨f, hf⟩ : ∃ k, (floorS l (fewS key)).1 = k := ⟨_, rfl⟩
      obtain ⟨is, his⟩ : ∃ k, (floorS l (fewS key)).2 = k := ⟨_, rfl⟩
      rw [hf, his] at HUP HTH HNO HFL
      rw [hk2] at HUP HTH HFL
      have HK2 := Aside0.mk hk2
      have HLEN := Aside0.mk hlen
      obtain ⟨n1, hn1⟩ : ∃ n1, (rowS l 1).length = n1 := ⟨_, rfl⟩
      rw [hn1] at HMEM hlen
      have hn1b : n1 ≤ 60 := by omega
      have HN1 := Aside0.mk hn1
      clear hlt hlen hn1 hll hsr hk2 hf his
      rcases j1 with j1 | ⟨j1, j2⟩
      all_goals
        go_wp2_with fail
        (with_reducible refine (few_calls key _ HKEY.out).mono ?_)
        rintro e w2 ⟨rfl, rfl⟩
        rw [HK2.out]
        go_wp2_with fail
        (with_reducible refine HFL.out.mono ?_)
        rintro e w3 ⟨rfl, hb3⟩
        have HD3 := Aside0.mk (DI_below HD.out hb3)
        clear hb3
        go_wp2_with fail
        (with_reducible refine (DI_row HD3.out (by omega) 1 (by omega) (by omega)).mono ?_)
        rintro e w4 ⟨A4, c4, rfl, hc4, hC4, hb4⟩
        rw [HN1.out] at hc4 hC4 ⊢
        have HC4 := Aside0.mk hC4
        have HD4 := Aside0.mk (DI_below HD3.out hb4)
        clear hC4 hb4
        go_wp2_with fail
        go_loopw [11] (fun v11 w' => ∃ (k : Nat), v11 = .int .i64 k ∧ k ≤ n1 ∧ w' = w4) (fun v11 _ => 100 - (intOf v11).toNat)
        case atStart => exact ⟨0, rfl, Nat.zero_le _, rfl⟩
        case round =>
          obtain ⟨k, rfl, hk, rfl⟩ := hrel
          by_cases hlt2 : k < n1
          · obtain ⟨ad, rfl, q0⟩ := C_atStr HC4.out k hlt2
            obtain ⟨p, hp, hpk⟩ := HMEM.out k hlt2
            have hup := HUP.out p hp
            obtain ⟨x, hx⟩ : ∃ x, (rowS l 1).getD k ByteArray.empty = x := ⟨_, rfl⟩
            rw [hpk, hx] at hup
            rw [hx] at q0
            have i4 : (k : Int) < (n1 : Int) := by omega
            have i5 : (0 : Int) ≤ (k : Int) := by omega
            clear hx hp hpk
            have fin : (is = true ∧ ((Go.Op.bytesLess x.toList f.toList = true) ∨ x = f)) ∨ True := .inr trivial
            clear fin
            rcases str_cases x key2 with ⟨s1, s2⟩ | ⟨s1, s2⟩ | ⟨s1, s2, s3⟩
            · obtain ⟨u1, u2⟩ := hup (.inl s1)
              subst u1
              rcases u2 with u2 | u2
              · have u3 : Go.Op.bytesLess x.toList f.toList = true := u2
                clear hup u2
                go_wp2_with fail
                go_roundw
                case rel => exact ⟨k + 1, by push_cast; rfl, hlt2, trivial⟩
                case measure => simp [intOf]; omega
              · subst u2
                clear hup
                go_wp2_with fail
                go_roundw
                case rel => exact ⟨k + 1, by push_cast; rfl, hlt2, trivial⟩
                case measure => simp [intOf]; omega
            · obtain ⟨u1, u2⟩ := hup (.inr s2)
              subst u1
              subst s2
              rcases u2 with u2 | u2
              · have u3 : Go.Op.bytesLess x.toList f.toList = true := u2
                clear hup u2
                go_wp2_with fail
                go_roundw
                case rel => exact ⟨k + 1, by push_cast; rfl, hlt2, trivial⟩
                case measure => simp [intOf]; omega
              · subst u2
                clear hup
                go_wp2_with fail
                go_roundw
                case rel => exact ⟨k + 1, by push_cast; rfl, hlt2, trivial⟩
                case measure => simp [intOf]; omega
            · clear hup s3
              go_wp2_with fail
              go_roundw
              case rel => exact ⟨k + 1, by push_cast; rfl, hlt2, trivial⟩
              case measure => simp [intOf]; omega
          · have i1 : ¬ (k : Int) < (n1 : Int) := by omega
            cases is with
            | false =>
              have hno := HNO.out rfl
              subst hno
              obtain ⟨Av, cv, rfl, hcv, hCv⟩ := DI_doc HD4.out
              have HLC := Aside0.mk (DI_lenc HD4.out)
              obtain ⟨m, hm2⟩ : ∃ m, l.length = m := ⟨_, rfl⟩
              rw [hm2] at HLC hcv
              have HM2 := Aside0.mk hm2
              simp only [hm2]
              clear hCv hm2
              go_wp2_with fail
              (with_reducible refine HLC.out.mono ?_)
              rintro e w5 ⟨rfl, rfl⟩
              go_wp2_with fail
              (with_reducible refine (lives_calls _).mono ?_)
              rintro e w7 ⟨rfl, hb7⟩
              have HB7 := Aside0.mk (below_step (DI_b HD4.out) hb7)
              clear hb7
              go_wp2_with fail
              go_ret
              exact ⟨rfl, HB7.out⟩
            | true =>
              obtain ⟨g1, g2⟩ := HTH.out rfl
              have HGT := DI_get HD4.out f
              rw [g1] at HGT
              have HGT2 := Aside0.mk HGT
              have g3 : (Go.Op.bytesLess f.toList key2.toList = true ∧ (f.toList == key2.toList) = false) ∨ (Go.Op.bytesLess f.toList key2.toList = false ∧ f = key2) := by
                rcases str_cases f key2 with h | h | ⟨h1, h2, h3⟩
                · exact .inl h
                · exact .inr h
                · rcases g2 with g2 | g2
                  · rw [show Go.Op.bytesLess f.toList key2.toList = true from g2] at h1
                    cases h1
                  · exact absurd g2 h3
              clear HGT g1 g2
              rcases g3 with ⟨g3, g4⟩ | ⟨g3, g4⟩
              · go_wp2_with fail
                (with_reducible refine HGT2.out.mono ?_)
                rintro e w5 ⟨rfl, hb5⟩
                have HB5 := Aside0.mk (below_step (DI_b HD4.out) hb5)
                clear hb5
                go_wp2_with fail
                (with_reducible refine (lives_calls _).mono ?_)
                rintro e w7 ⟨rfl, hb7⟩
                have HB7 := Aside0.mk (below_step HB5.out hb7)
                clear hb7
                go_wp2_with fail
                go_ret
                exact ⟨rfl, HB7.out⟩
              · subst g4
                go_wp2_with fail
                (with_reducible refine HGT2.out.mono ?_)
                rintro e w5 ⟨rfl, hb5⟩
                have HB5 := Aside0.mk (below_step (DI_b HD4.out) hb5)
                clear hb5
                go_wp2_with fail
                (with_reducible refine (lives_calls _).mono ?_)
                rintro e w7 ⟨rfl, hb7⟩
                have HB7 := Aside0.mk (below_step HB5.out hb7)
                clear hb7
                go_wp2_with fail
                go_ret
                exact ⟨rfl, HB7.out⟩
end Go.Proofs.Ythilhcdlpfjodaa.A
