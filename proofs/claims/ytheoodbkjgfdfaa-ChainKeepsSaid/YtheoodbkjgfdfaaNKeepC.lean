/- chain's Keep: some stay, the others are told. -/
import Derived.Test.YtheoodbkjgfdfaaNKp
namespace Go.Proofs.Ytheoodbkjgfdfaa.A
open R
open Go.RowKit Go.Proofs.YtheoodbkjgfdfaaW.PrintWords Go.Proofs.YtheoodbkjgfdfaaW.PrintLast Go.Proofs.YtheoodbkjgfdfaaW.PrintMore
set_option linter.unusedVariables false
set_option linter.unusedSimpArgs false

theorem put_len (l : List M.It) (k : ByteArray) (lv : Int) (s : M.Sl) : (M.putS l k lv s).length ≤ l.length + 1 := by
  unfold M.putS
  split
  · rw [List.length_append, List.length_cons, List.length_take, List.length_drop]
    omega
  · rw [List.length_append, List.length_cons, List.length_take, List.length_drop]
    omega
theorem tk_len (f : ByteArray → List Vr) (ks : List ByteArray) (i : Nat) : ((ks.take i).flatMap f).length ≤ (ks.flatMap f).length := by
  conv => rhs; rw [← List.take_append_drop i ks]
  rw [List.flatMap_append, List.length_append]
  omega
theorem tk_succ (ks : List ByteArray) (i : Nat) (h : i < ks.length) : ks.take (i + 1) = ks.take i ++ [ks.getD i ByteArray.empty] := by
  rw [List.take_succ_eq_append_getElem h, List.getD_eq_getElem?_getD, List.getElem?_eq_getElem h]
  rfl
theorem one_calls (v : Vr) (w : World) : Calls Try.prog 43 #[(.agg #[.string v.k, .int .i64 v.br, .int .i64 v.ep, .int .i64 v.sq, .int .i64 v.f, .int .i64 v.t, .string v.v, .bool v.g])] w fun e w' => e = .returned (.bool (decide (v.ep ≤ 1))) ∧ Below w.heap.size w w' := by
  go_enter Try.func43, Try.ntmps43
  go_wp2_with fail
  go_ret
  exact ⟨rfl, below_alloc (Below.refl _ _) _⟩
set_option maxRecDepth 100000 in
set_option maxHeartbeats 8000000 in
theorem keep_one_calls (w : World) (B X : Nat) (its0 : List M.It) (l : List Vr) (h : IXi w B X l.length its0 l) (hl : l.length ≤ 4000) :
    Calls Try.prog 20 #[.pointer (some ⟨X, 0, none⟩), .func (.func 43) #[] #[]] w fun e w' => ∃ u, e = .returned u ∧ OVr w' w.heap.size u (goneV l 1) ∧ (∃ its', IXi w' B X (stayV l 1).length its' (stayV l 1)) ∧ IFr w w' ∧ Below B w w' := by
  have hki := its_keys h
  obtain ⟨ks, hks⟩ : ∃ ks, keysV l = ks := ⟨_, rfl⟩
  have hke := keysV_is hki.1 hki.2.1 hki.2.2.1 hki.2.2.2
  rw [hks] at hke
  rw [← hke] at hki
  obtain ⟨hs, hsk, hin, hne⟩ := hki
  have HBW : Aside0 (B ≤ w.heap.size) := ⟨by obtain ⟨L, xs, a1, a2, _⟩ := h; exact Nat.le_trans a2 (Nat.le_of_lt (box_lt a1))⟩
  have hxk := xkeys_calls h hl
  rw [hks] at hxk
  have HXK := Aside0.mk hxk
  obtain ⟨nk, hnk⟩ : ∃ nk, ks.length = nk := ⟨_, rfl⟩
  have HNK := Aside0.mk hnk
  have hnk4 : nk ≤ 4000 := by
    have h9 := keysV_len l l.length (Nat.le_refl _)
    rw [List.take_length, hks] at h9
    omega
  have HS := Aside0.mk hs
  have HSK := Aside0.mk hsk
  have HL := Aside0.mk hl
  have HFL := Aside0.mk (flatV ks l hs hsk hin)
  have HCZ := Aside0.mk (clV_zero hin 1)
  have H0 := Aside0.mk h
  clear h hl hxk hks hke hs hsk hin hne
  go_enter Try.func20, Try.ntmps20
  go_wp2_with fail
  (with_reducible refine HXK.out.mono ?_)
  rintro e w2 ⟨v2, rfl, hO2, hb2⟩
  obtain ⟨A2, c2, rfl, hc2, -⟩ := M.OStr_readn hO2 nk hnk
  have HI2 : Aside0 (KpI w B X l.length (clV l ks 1 0) (.slice A2 nk c2) ks (.slice none 0 0) [] w2) := ⟨⟨its0, by rw [HCZ.out]; exact IXi_below H0.out hb2, OVr_nil _ _, Sep_nil _, hO2, IFr.of_below hb2, hb2.mono HBW.out⟩⟩
  clear hO2 hb2 hnk HXK
  go_wp2_with fail
  go_loopw [5, 7, 8, 9, 10, 12, 16] (fun v5 v7 v8 v9 v10 v12 v16 w' => ∃ i : Nat, v16 = .int .i64 i ∧ i ≤ nk ∧ Aside0 (KpI w B X l.length (clV l ks 1 i) (.slice A2 nk c2) ks v5 (goneV ((ks.take i).flatMap (ofV l)) 1) w')) (fun _ _ _ _ _ _ v16 _ => nk - (intOf v16).toNat)
  case atStart => exact ⟨0, rfl, Nat.zero_le _, HI2⟩
  case round =>
    obtain ⟨i, rfl, hin, HI⟩ := hrel
    by_cases hlt : i < nk
    · have hik : i < ks.length := by rw [HNK.out]; exact hlt
      obtain ⟨its, hJ⟩ := KpJ_start HI.out
      have HKC : Aside0 (Kd.string.C wr A2 nk ks) := ⟨by
        have h9 := (Kd.R_reads' hJ.2.2.2.1).2.2
        rwa [HNK.out] at h9⟩
      obtain ⟨ad, hA2, q0⟩ := M.C_atStr HKC.out i hlt
      subst hA2
      have hts := tk_succ ks i hik
      have hca := clV_at (l := l) 1 i hik
      have hcn := clV_next (l := l) HSK.out 1 i hik
      have hcs := clV_srt HS.out ks 1 (i + 1)
      obtain ⟨k, hk⟩ : ∃ k, ks.getD i ByteArray.empty = k := ⟨_, rfl⟩
      obtain ⟨cl, hcl⟩ : ∃ cl, clV l ks 1 i = cl := ⟨_, rfl⟩
      obtain ⟨cl', hcl'⟩ : ∃ cl', clV l ks 1 (i + 1) = cl' := ⟨_, rfl⟩
      obtain ⟨lk, hlk⟩ : ∃ lk, ofV l k = lk := ⟨_, rfl⟩
      obtain ⟨lo, hlo⟩ : ∃ lo, goneV ((ks.take i).flatMap (ofV l)) 1 = lo := ⟨_, rfl⟩
      have HLN : Aside0 (lo ++ goneV lk 1 = goneV ((ks.take (i + 1)).flatMap (ofV l)) 1) := ⟨by
        rw [hts, List.flatMap_append, List.flatMap_cons, List.flatMap_nil, List.append_nil, hk, hlk, ← hlo]
        unfold goneV
        rw [List.filter_append]⟩
      have HLKL : Aside0 (lk.length ≤ 4000) := ⟨by have : (ofV l k).length ≤ l.length := List.length_filter_le _ _; have := HL.out; rw [← hlk]; omega⟩
      have HLOL : Aside0 (lo.length ≤ 4000) := ⟨by
        have a1 : (goneV ((ks.take i).flatMap (ofV l)) 1).length ≤ ((ks.take i).flatMap (ofV l)).length := List.length_filter_le _ _
        have a2 := tk_len (ofV l) ks i
        rw [HFL.out] at a2
        have := HL.out
        rw [← hlo]
        omega⟩
      rw [hk, hcl, hlk] at hca
      rw [hk, hcl, hcl', hlk] at hcn
      rw [hcl'] at hcs
      rw [hk] at q0
      rw [hcl, hlo] at hJ
      have HLK := Aside0.mk hca
      have HCN1 := Aside0.mk hcn.1
      have HCN2 := Aside0.mk hcn.2.1
      have HCN3 := Aside0.mk hcn.2.2
      have HCS := Aside0.mk hcs
      have HCE := Aside0.mk hcl'
      have HITL : Aside0 (its.length ≤ 4000) := ⟨by
        have a1 := its_len hJ.1
        have a2 : cl.length ≤ l.length := by rw [← hcl]; exact List.length_filter_le _ _
        have := HL.out
        omega⟩
      have HJ0 := Aside0.mk hJ
      obtain ⟨A3, n3, c3, b3, hgk, hrow⟩ := get_row hJ.1 k
      have HN3 : Aside0 (n3 = lk.length) := ⟨by have h9 := (Kd.R_reads' hrow).1; rw [HLK.out] at h9; exact h9⟩
      have HGK := Aside0.mk hgk
      obtain ⟨L, xs, d1, d2, d3, d4, d5, d6⟩ := hJ.1
      have hgt := M.get_calls wr L xs k d3
      rw [d4, hgk] at hgt
      have HGT := Aside0.mk hgt
      obtain ⟨x0, x1, x2⟩ := ix_cells d1
      have j1 : (i : Int) < (nk : Int) := by omega
      have j2 : (0 : Int) ≤ (i : Int) := by omega
      have hn34 : n3 ≤ 4000 := by have := HN3.out; have := HLKL.out; omega
      clear hts hca hcn hcs hk hcl hlk hlo hJ hgk hrow d1 d2 d3 d4 d5 d6 hgt hik
      go_wp2_with fail
      (with_reducible refine HGT.out.mono ?_)
      rintro e w3 ⟨rfl, hb3⟩
      have HJ3 := Aside0.mk (KpJ_below HJ0.out hb3)
      clear hb3 x0 x1 x2 q0
      go_wp2_with fail
      go_loopw [5, 10, 12, 31] (fun v5 v10 v12 v31 w' => ∃ j : Nat, v31 = .int .i64 j ∧ j ≤ n3 ∧ Aside0 (KpJ its w B X l.length cl (.slice (some ad) nk c2) ks v5 (lo ++ goneV (lk.take j) 1) v10 (stayV (lk.take j) 1) w')) (fun _ _ _ v31 _ => n3 - (intOf v31).toNat)
      case atStart => exact ⟨0, rfl, Nat.zero_le _, ⟨by rw [List.take_zero]; show KpJ _ _ _ _ _ _ _ _ _ (lo ++ []) _ [] _; rw [List.append_nil]; exact HJ3.out⟩⟩
      case round =>
        obtain ⟨j, rfl, hjn, HJ⟩ := hrel
        by_cases hlt2 : j < n3
        · have hln : j < lk.length := by have := HN3.out; omega
          have HC3 := Aside0.mk (show KVr.C wr A3 n3 lk from by
            obtain ⟨q1, q2, q3⟩ := Kd.R_reads' (get_row' HJ.out.1 k HGK.out)
            rw [HLK.out] at q1 q3
            rw [← q1] at q3
            exact q3)
          obtain ⟨ad3, hA3, -⟩ := C_atVr HC3.out j hlt2
          subst hA3
          have h1 := filt_take (fun p : Vr => decide (p.ep ≤ 1)) lk j hln
          have h2 := filt_take (fun p : Vr => !decide (p.ep ≤ 1)) lk j hln
          obtain ⟨p, hp⟩ : ∃ p, lk.getD j default = p := ⟨_, rfl⟩
          rw [hp] at h1 h2
          obtain ⟨q0, q1, q2, q3, q4, q5, q6, q7⟩ := vr8 rfl HC3.out j hlt2 p hp
          have HLB : Aside0 ((stayV (lk.take j) 1).length ≤ 4000 ∧ (lo ++ goneV (lk.take j) 1).length ≤ 8000) := ⟨by
            have a1 : (stayV (lk.take j) 1).length ≤ (lk.take j).length := List.length_filter_le _ _
            have a2 : (goneV (lk.take j) 1).length ≤ (lk.take j).length := List.length_filter_le _ _
            have a3 := List.length_take_le j lk
            have a4 := HLKL.out
            have a5 := HLOL.out
            rw [List.length_append]
            constructor <;> omega⟩
          have k1 : (j : Int) < (n3 : Int) := by omega
          have k2 : (0 : Int) ≤ (j : Int) := by omega
          obtain ⟨g, hg⟩ : ∃ g, wr.heap.size = g := ⟨_, rfl⟩
          obtain ⟨w4, hw4⟩ : ∃ w4, wr.alloc (vrBox p.k p.br p.ep p.sq p.f p.t p.v p.g) = w4 := ⟨_, rfl⟩
          have HB4 : Aside0 (Below wr.heap.size wr w4) := ⟨by rw [← hw4]; exact below_alloc (Below.refl _ _) _⟩
          have HZ4 : Aside0 (w4.heap[g]? = some (vrB p)) := ⟨by rw [← hw4, ← hg]; exact blk_new wr _⟩
          have HW4 := Aside0.mk hw4
          have HONE := Aside0.mk (fun W => one_calls p W)
          clear hp hln hw4
          by_cases hb : p.ep ≤ 1
          · have H1 : Aside0 (stayV (lk.take (j + 1)) 1 = stayV (lk.take j) 1 ++ [p]) := ⟨by unfold stayV; rw [h1, decide_eq_true hb]; rfl⟩
            have H2 : Aside0 (goneV (lk.take (j + 1)) 1 = goneV (lk.take j) 1) := ⟨by unfold goneV; rw [h2, decide_eq_true hb]; simp⟩
            rw [decide_eq_true hb] at HONE
            clear h1 h2
            go_wp2_with fail
            rw [HW4.out]
            (with_reducible refine (HONE.out w4).mono ?_)
            rintro e w5 ⟨rfl, hb5⟩
            have HJ5 := Aside0.mk (KpJ_below HJ.out (below_step HB4.out hb5))
            have HO5 := Aside0.mk HJ5.out.2.2.2.2.2.2.1
            have HSZ := Aside0.mk HJ5.out.2.2.2.2.1.size
            obtain ⟨r0, r1, r2, r3, r4, r5, r6, r7⟩ := vr_cells (box_keep HZ4.out hb5)
            clear hb5 q0 q1 q2 q3 q4 q5 q6 q7
            go_wp2_with ((with_reducible refine gate_dst (N := 41) rfl ?_); refine app_vr4 rfl rfl rfl rfl HO5.out HSZ.out (by have := HLB.out.1; omega) ?_; intro v1 w7 hO7 hb7 hg7 ha7; have HJ7 := Aside0.mk (KpJ_stay HJ5.out HBW.out hO7 hg7 ha7); clear hO7 hb7 hg7 ha7)
            go_roundw
            case rel => exact ⟨j + 1, by push_cast; rfl, hlt2, ⟨by rw [H1.out, H2.out]; exact HJ7.out⟩⟩
            case measure => simp [intOf]; omega
          · have H1 : Aside0 (stayV (lk.take (j + 1)) 1 = stayV (lk.take j) 1) := ⟨by unfold stayV; rw [h1, decide_eq_false hb]; simp⟩
            have H2 : Aside0 (goneV (lk.take (j + 1)) 1 = goneV (lk.take j) 1 ++ [p]) := ⟨by unfold goneV; rw [h2, decide_eq_false hb]; rfl⟩
            rw [decide_eq_false hb] at HONE
            clear h1 h2
            go_wp2_with fail
            rw [HW4.out]
            (with_reducible refine (HONE.out w4).mono ?_)
            rintro e w5 ⟨rfl, hb5⟩
            have HJ5 := Aside0.mk (KpJ_below HJ.out (below_step HB4.out hb5))
            have HO5 := Aside0.mk HJ5.out.2.1
            have HSZ := Aside0.mk HJ5.out.2.2.2.2.1.size
            obtain ⟨r0, r1, r2, r3, r4, r5, r6, r7⟩ := vr_cells (box_keep HZ4.out hb5)
            clear hb5 q0 q1 q2 q3 q4 q5 q6 q7
            go_wp2_with ((with_reducible refine gate_dst (N := 45) rfl ?_); refine app_vr4 rfl rfl rfl rfl HO5.out HSZ.out (by have := HLB.out.2; omega) ?_; intro v1 w7 hO7 hb7 hg7 ha7; have HJ7 := Aside0.mk (KpJ_gone HJ5.out HBW.out hO7 hg7 ha7); clear hO7 hb7 hg7 ha7)
            go_roundw
            case rel => exact ⟨j + 1, by push_cast; rfl, hlt2, ⟨by rw [H1.out, H2.out, ← List.append_assoc]; exact HJ7.out⟩⟩
            case measure => simp [intOf]; omega
        · have k1 : ¬ (j : Int) < (n3 : Int) := by omega
          have HJE : Aside0 (KpJ its w B X l.length cl (.slice (some ad) nk c2) ks u5 (lo ++ goneV lk 1) u10 (ofV cl' k) wr) := ⟨by
            have h9 := HJ.out
            rw [List.take_of_length_le (show lk.length ≤ j by have := HN3.out; omega)] at h9
            rw [HCN1.out]
            exact h9⟩
          obtain ⟨b1, b2, b3, b4, b5, b6, b7, b8, b9⟩ := HJE.out
          obtain ⟨L7, xs7, d1, d2, d3, d4, d5, d6⟩ := b1
          obtain ⟨ns, hns⟩ : ∃ ns, (ofV cl' k).length = ns := ⟨_, rfl⟩
          obtain ⟨As, cs, rfl, hcs, -⟩ := OVr_readn b7 ns hns
          have HNS := Aside0.mk hns
          have hxl : xs7.length ≤ 100000 := by
            have h9 := congrArg List.length d4
            rw [List.length_map, List.length_tail] at h9
            have := HITL.out
            omega
          have HPT := Aside0.mk (M.put_calls wr L7 xs7 k 1 ⟨As, ns, cs⟩ d3 hxl)
          have HKP := Aside0.mk (fun w7 xs' (hne : ofV cl' k ≠ []) => KpI_put (w7 := w7) (xs' := xs') (k := k) (lv := 1) (s := ⟨As, ns, cs⟩) d1 d2 d3 d4 d5 d6 b2 b3 b4 b5 b6 HBW.out b9 HCS.out hne HCN2.out HCN3.out b7)
          have HKD := Aside0.mk (fun w7 w8 xs' xs'' (hne : ofV cl' k = []) => KpI_drop (w7 := w7) (w8 := w8) (xs' := xs') (xs'' := xs'') (k := k) (lv := 1) (s := ⟨As, ns, cs⟩) d1 d2 d3 d4 d5 d6 b2 b3 b4 b5 b6 HBW.out HCS.out hne HCN2.out HCN3.out)
          have HX7 := Aside0.mk d1
          have HXO7 := Aside0.mk (X_out d3.1 d1)
          have HIT7 := Aside0.mk d4
          have HXL7 := Aside0.mk hxl
          obtain ⟨x0, x1, x2⟩ := ix_cells d1
          clear b2 b3 b4 b5 b6 b7 b8 b9 d1 d2 d3 d4 d5 d6 hns hxl hlt2
          go_wp2_with fail
          (with_reducible refine HPT.out.mono ?_)
          rintro e w7 ⟨rfl, xs', hS7, hp7, hf7, hk7⟩
          rw [HIT7.out] at hp7
          have hX7 : w7.heap[X]? = some (ixB L7 l.length) := (hf7.block X (box_lt HX7.out) HXO7.out).trans HX7.out
          have HLO2 : Aside0 (lo ++ goneV lk 1 = goneV ((ks.take (i + 1)).flatMap (ofV l)) 1) := HLN
          by_cases hz : ns = 0
          · subst hz
            have hem : ofV cl' k = [] := List.eq_nil_of_length_eq_zero HNS.out
            have hx' : xs'.length ≤ 100000 := by
              have h9 := congrArg List.length hp7
              have h8 := put_len its k 1 ⟨As, 0, cs⟩
              rw [List.length_map, List.length_tail] at h9
              have := HITL.out
              omega
            have HDR := Aside0.mk (M.drop_calls w7 L7 xs' k hS7 hx')
            have HKD2 := Aside0.mk (fun w8 xs'' => HKD.out w7 w8 xs' xs'' hem hS7 hp7 hf7 hk7)
            obtain ⟨y0, y1, y2⟩ := ix_cells hX7
            clear hS7 hp7 hf7 hk7 hX7 hem hx'
            go_wp2_with fail
            (with_reducible refine HDR.out.mono ?_)
            rintro e w8 ⟨rfl, xs'', hS8, hp8, hf8, hk8⟩
            have HI8 := Aside0.mk (HKD2.out w8 xs'' hS8 hp8 hf8 hk8)
            clear hS8 hp8 hf8 hk8 y0 y1 y2
            go_wp2_with fail
            go_roundw
            case rel => exact ⟨i + 1, by push_cast; rfl, hlt, ⟨by rw [← HLO2.out, HCE.out]; exact HI8.out⟩⟩
            case measure => simp [intOf]; omega
          · have hem : ofV cl' k ≠ [] := fun e => hz (by rw [← HNS.out, e]; rfl)
            have HI7 := Aside0.mk (HKP.out w7 xs' hem hS7 hp7 hf7 hk7)
            have k3 : ¬ (ns : Int) = 0 := by omega
            have k4 : ((ns : Int) == 0) = false := by simpa using k3
            clear hS7 hp7 hf7 hk7 hX7 hem
            go_wp2_with fail
            go_roundw
            case rel => exact ⟨i + 1, by push_cast; rfl, hlt, ⟨by rw [← HLO2.out, HCE.out]; exact HI7.out⟩⟩
            case measure => simp [intOf]; omega
    · have j1 : ¬ (i : Int) < (nk : Int) := by omega
      have HIE : Aside0 (KpI w B X l.length (stayV l 1) (.slice A2 nk c2) ks u5 (goneV l 1) wr) := ⟨by
        have h9 := HI.out
        rwa [clV_end 1 i (by rw [HNK.out]; omega), List.take_of_length_le (show ks.length ≤ i by rw [HNK.out]; omega), HFL.out] at h9⟩
      obtain ⟨its, b1, b2, b3, b4, b5, b6⟩ := HIE.out
      obtain ⟨ng, hng⟩ : ∃ ng, (goneV l 1).length = ng := ⟨_, rfl⟩
      obtain ⟨A5, c5, rfl, hc5, -⟩ := OVr_readn b2 ng hng
      have hsg := stay_gone l 1
      have HMY := Aside0.mk (IXi_many b1 ((stayV l 1).length : Int))
      have HO5 := Aside0.mk b2
      have HIF := Aside0.mk b5
      have HBL := Aside0.mk b6
      have hsub : IntKind.i64.wrap ((l.length : Int) - (ng : Int)) = ((stayV l 1).length : Int) := by
        rw [IntWalk.i64_in _ (by have := HL.out; omega)]
        omega
      obtain ⟨L, xs, d1, d2⟩ := b1
      obtain ⟨x0, x1, x2⟩ := ix_cells d1
      obtain ⟨z, hz⟩ : ∃ z : Int, (l.length : Int) = z := ⟨_, rfl⟩
      obtain ⟨s, hs9⟩ : ∃ s : Int, ((stayV l 1).length : Int) = s := ⟨_, rfl⟩
      rw [hz] at x1 hsub
      rw [hs9] at hsub HMY
      have HS9 := Aside0.mk hs9
      clear b2 b3 b4 b5 b6 hng hsg d1 d2 hlt hz hs9
      go_wp2_with fail
      go_ret
      exact ⟨_, rfl, OVr_ifr HO5.out HMY.out.2.1, ⟨its, by rw [HS9.out]; exact HMY.out.1⟩, HIF.out.trans HMY.out.2.1, HBL.out.trans HMY.out.2.2⟩
theorem two_calls (v : Vr) (w : World) : Calls Try.prog 44 #[(.agg #[.string v.k, .int .i64 v.br, .int .i64 v.ep, .int .i64 v.sq, .int .i64 v.f, .int .i64 v.t, .string v.v, .bool v.g])] w fun e w' => e = .returned (.bool (decide (v.ep ≤ 2))) ∧ Below w.heap.size w w' := by
  go_enter Try.func44, Try.ntmps44
  go_wp2_with fail
  go_ret
  exact ⟨rfl, below_alloc (Below.refl _ _) _⟩
set_option maxRecDepth 100000 in
set_option maxHeartbeats 8000000 in
theorem keep_two_calls (w : World) (B X : Nat) (its0 : List M.It) (l : List Vr) (h : IXi w B X l.length its0 l) (hl : l.length ≤ 4000) :
    Calls Try.prog 20 #[.pointer (some ⟨X, 0, none⟩), .func (.func 44) #[] #[]] w fun e w' => ∃ u, e = .returned u ∧ OVr w' w.heap.size u (goneV l 2) ∧ (∃ its', IXi w' B X (stayV l 2).length its' (stayV l 2)) ∧ IFr w w' ∧ Below B w w' := by
  have hki := its_keys h
  obtain ⟨ks, hks⟩ : ∃ ks, keysV l = ks := ⟨_, rfl⟩
  have hke := keysV_is hki.1 hki.2.1 hki.2.2.1 hki.2.2.2
  rw [hks] at hke
  rw [← hke] at hki
  obtain ⟨hs, hsk, hin, hne⟩ := hki
  have HBW : Aside0 (B ≤ w.heap.size) := ⟨by obtain ⟨L, xs, a1, a2, _⟩ := h; exact Nat.le_trans a2 (Nat.le_of_lt (box_lt a1))⟩
  have hxk := xkeys_calls h hl
  rw [hks] at hxk
  have HXK := Aside0.mk hxk
  obtain ⟨nk, hnk⟩ : ∃ nk, ks.length = nk := ⟨_, rfl⟩
  have HNK := Aside0.mk hnk
  have hnk4 : nk ≤ 4000 := by
    have h9 := keysV_len l l.length (Nat.le_refl _)
    rw [List.take_length, hks] at h9
    omega
  have HS := Aside0.mk hs
  have HSK := Aside0.mk hsk
  have HL := Aside0.mk hl
  have HFL := Aside0.mk (flatV ks l hs hsk hin)
  have HCZ := Aside0.mk (clV_zero hin 2)
  have H0 := Aside0.mk h
  clear h hl hxk hks hke hs hsk hin hne
  go_enter Try.func20, Try.ntmps20
  go_wp2_with fail
  (with_reducible refine HXK.out.mono ?_)
  rintro e w2 ⟨v2, rfl, hO2, hb2⟩
  obtain ⟨A2, c2, rfl, hc2, -⟩ := M.OStr_readn hO2 nk hnk
  have HI2 : Aside0 (KpI w B X l.length (clV l ks 2 0) (.slice A2 nk c2) ks (.slice none 0 0) [] w2) := ⟨⟨its0, by rw [HCZ.out]; exact IXi_below H0.out hb2, OVr_nil _ _, Sep_nil _, hO2, IFr.of_below hb2, hb2.mono HBW.out⟩⟩
  clear hO2 hb2 hnk HXK
  go_wp2_with fail
  go_loopw [5, 7, 8, 9, 10, 12, 16] (fun v5 v7 v8 v9 v10 v12 v16 w' => ∃ i : Nat, v16 = .int .i64 i ∧ i ≤ nk ∧ Aside0 (KpI w B X l.length (clV l ks 2 i) (.slice A2 nk c2) ks v5 (goneV ((ks.take i).flatMap (ofV l)) 2) w')) (fun _ _ _ _ _ _ v16 _ => nk - (intOf v16).toNat)
  case atStart => exact ⟨0, rfl, Nat.zero_le _, HI2⟩
  case round =>
    obtain ⟨i, rfl, hin, HI⟩ := hrel
    by_cases hlt : i < nk
    · have hik : i < ks.length := by rw [HNK.out]; exact hlt
      obtain ⟨its, hJ⟩ := KpJ_start HI.out
      have HKC : Aside0 (Kd.string.C wr A2 nk ks) := ⟨by
        have h9 := (Kd.R_reads' hJ.2.2.2.1).2.2
        rwa [HNK.out] at h9⟩
      obtain ⟨ad, hA2, q0⟩ := M.C_atStr HKC.out i hlt
      subst hA2
      have hts := tk_succ ks i hik
      have hca := clV_at (l := l) 2 i hik
      have hcn := clV_next (l := l) HSK.out 2 i hik
      have hcs := clV_srt HS.out ks 2 (i + 1)
      obtain ⟨k, hk⟩ : ∃ k, ks.getD i ByteArray.empty = k := ⟨_, rfl⟩
      obtain ⟨cl, hcl⟩ : ∃ cl, clV l ks 2 i = cl := ⟨_, rfl⟩
      obtain ⟨cl', hcl'⟩ : ∃ cl', clV l ks 2 (i + 1) = cl' := ⟨_, rfl⟩
      obtain ⟨lk, hlk⟩ : ∃ lk, ofV l k = lk := ⟨_, rfl⟩
      obtain ⟨lo, hlo⟩ : ∃ lo, goneV ((ks.take i).flatMap (ofV l)) 2 = lo := ⟨_, rfl⟩
      have HLN : Aside0 (lo ++ goneV lk 2 = goneV ((ks.take (i + 1)).flatMap (ofV l)) 2) := ⟨by
        rw [hts, List.flatMap_append, List.flatMap_cons, List.flatMap_nil, List.append_nil, hk, hlk, ← hlo]
        unfold goneV
        rw [List.filter_append]⟩
      have HLKL : Aside0 (lk.length ≤ 4000) := ⟨by have : (ofV l k).length ≤ l.length := List.length_filter_le _ _; have := HL.out; rw [← hlk]; omega⟩
      have HLOL : Aside0 (lo.length ≤ 4000) := ⟨by
        have a1 : (goneV ((ks.take i).flatMap (ofV l)) 2).length ≤ ((ks.take i).flatMap (ofV l)).length := List.length_filter_le _ _
        have a2 := tk_len (ofV l) ks i
        rw [HFL.out] at a2
        have := HL.out
        rw [← hlo]
        omega⟩
      rw [hk, hcl, hlk] at hca
      rw [hk, hcl, hcl', hlk] at hcn
      rw [hcl'] at hcs
      rw [hk] at q0
      rw [hcl, hlo] at hJ
      have HLK := Aside0.mk hca
      have HCN1 := Aside0.mk hcn.1
      have HCN2 := Aside0.mk hcn.2.1
      have HCN3 := Aside0.mk hcn.2.2
      have HCS := Aside0.mk hcs
      have HCE := Aside0.mk hcl'
      have HITL : Aside0 (its.length ≤ 4000) := ⟨by
        have a1 := its_len hJ.1
        have a2 : cl.length ≤ l.length := by rw [← hcl]; exact List.length_filter_le _ _
        have := HL.out
        omega⟩
      have HJ0 := Aside0.mk hJ
      obtain ⟨A3, n3, c3, b3, hgk, hrow⟩ := get_row hJ.1 k
      have HN3 : Aside0 (n3 = lk.length) := ⟨by have h9 := (Kd.R_reads' hrow).1; rw [HLK.out] at h9; exact h9⟩
      have HGK := Aside0.mk hgk
      obtain ⟨L, xs, d1, d2, d3, d4, d5, d6⟩ := hJ.1
      have hgt := M.get_calls wr L xs k d3
      rw [d4, hgk] at hgt
      have HGT := Aside0.mk hgt
      obtain ⟨x0, x1, x2⟩ := ix_cells d1
      have j1 : (i : Int) < (nk : Int) := by omega
      have j2 : (0 : Int) ≤ (i : Int) := by omega
      have hn34 : n3 ≤ 4000 := by have := HN3.out; have := HLKL.out; omega
      clear hts hca hcn hcs hk hcl hlk hlo hJ hgk hrow d1 d2 d3 d4 d5 d6 hgt hik
      go_wp2_with fail
      (with_reducible refine HGT.out.mono ?_)
      rintro e w3 ⟨rfl, hb3⟩
      have HJ3 := Aside0.mk (KpJ_below HJ0.out hb3)
      clear hb3 x0 x1 x2 q0
      go_wp2_with fail
      go_loopw [5, 10, 12, 31] (fun v5 v10 v12 v31 w' => ∃ j : Nat, v31 = .int .i64 j ∧ j ≤ n3 ∧ Aside0 (KpJ its w B X l.length cl (.slice (some ad) nk c2) ks v5 (lo ++ goneV (lk.take j) 2) v10 (stayV (lk.take j) 2) w')) (fun _ _ _ v31 _ => n3 - (intOf v31).toNat)
      case atStart => exact ⟨0, rfl, Nat.zero_le _, ⟨by rw [List.take_zero]; show KpJ _ _ _ _ _ _ _ _ _ (lo ++ []) _ [] _; rw [List.append_nil]; exact HJ3.out⟩⟩
      case round =>
        obtain ⟨j, rfl, hjn, HJ⟩ := hrel
        by_cases hlt2 : j < n3
        · have hln : j < lk.length := by have := HN3.out; omega
          have HC3 := Aside0.mk (show KVr.C wr A3 n3 lk from by
            obtain ⟨q1, q2, q3⟩ := Kd.R_reads' (get_row' HJ.out.1 k HGK.out)
            rw [HLK.out] at q1 q3
            rw [← q1] at q3
            exact q3)
          obtain ⟨ad3, hA3, -⟩ := C_atVr HC3.out j hlt2
          subst hA3
          have h1 := filt_take (fun p : Vr => decide (p.ep ≤ 2)) lk j hln
          have h2 := filt_take (fun p : Vr => !decide (p.ep ≤ 2)) lk j hln
          obtain ⟨p, hp⟩ : ∃ p, lk.getD j default = p := ⟨_, rfl⟩
          rw [hp] at h1 h2
          obtain ⟨q0, q1, q2, q3, q4, q5, q6, q7⟩ := vr8 rfl HC3.out j hlt2 p hp
          have HLB : Aside0 ((stayV (lk.take j) 2).length ≤ 4000 ∧ (lo ++ goneV (lk.take j) 2).length ≤ 8000) := ⟨by
            have a1 : (stayV (lk.take j) 2).length ≤ (lk.take j).length := List.length_filter_le _ _
            have a2 : (goneV (lk.take j) 2).length ≤ (lk.take j).length := List.length_filter_le _ _
            have a3 := List.length_take_le j lk
            have a4 := HLKL.out
            have a5 := HLOL.out
            rw [List.length_append]
            constructor <;> omega⟩
          have k1 : (j : Int) < (n3 : Int) := by omega
          have k2 : (0 : Int) ≤ (j : Int) := by omega
          obtain ⟨g, hg⟩ : ∃ g, wr.heap.size = g := ⟨_, rfl⟩
          obtain ⟨w4, hw4⟩ : ∃ w4, wr.alloc (vrBox p.k p.br p.ep p.sq p.f p.t p.v p.g) = w4 := ⟨_, rfl⟩
          have HB4 : Aside0 (Below wr.heap.size wr w4) := ⟨by rw [← hw4]; exact below_alloc (Below.refl _ _) _⟩
          have HZ4 : Aside0 (w4.heap[g]? = some (vrB p)) := ⟨by rw [← hw4, ← hg]; exact blk_new wr _⟩
          have HW4 := Aside0.mk hw4
          have HONE := Aside0.mk (fun W => two_calls p W)
          clear hp hln hw4
          by_cases hb : p.ep ≤ 2
          · have H1 : Aside0 (stayV (lk.take (j + 1)) 2 = stayV (lk.take j) 2 ++ [p]) := ⟨by unfold stayV; rw [h1, decide_eq_true hb]; rfl⟩
            have H2 : Aside0 (goneV (lk.take (j + 1)) 2 = goneV (lk.take j) 2) := ⟨by unfold goneV; rw [h2, decide_eq_true hb]; simp⟩
            rw [decide_eq_true hb] at HONE
            clear h1 h2
            go_wp2_with fail
            rw [HW4.out]
            (with_reducible refine (HONE.out w4).mono ?_)
            rintro e w5 ⟨rfl, hb5⟩
            have HJ5 := Aside0.mk (KpJ_below HJ.out (below_step HB4.out hb5))
            have HO5 := Aside0.mk HJ5.out.2.2.2.2.2.2.1
            have HSZ := Aside0.mk HJ5.out.2.2.2.2.1.size
            obtain ⟨r0, r1, r2, r3, r4, r5, r6, r7⟩ := vr_cells (box_keep HZ4.out hb5)
            clear hb5 q0 q1 q2 q3 q4 q5 q6 q7
            go_wp2_with ((with_reducible refine gate_dst (N := 41) rfl ?_); refine app_vr4 rfl rfl rfl rfl HO5.out HSZ.out (by have := HLB.out.1; omega) ?_; intro v1 w7 hO7 hb7 hg7 ha7; have HJ7 := Aside0.mk (KpJ_stay HJ5.out HBW.out hO7 hg7 ha7); clear hO7 hb7 hg7 ha7)
            go_roundw
            case rel => exact ⟨j + 1, by push_cast; rfl, hlt2, ⟨by rw [H1.out, H2.out]; exact HJ7.out⟩⟩
            case measure => simp [intOf]; omega
          · have H1 : Aside0 (stayV (lk.take (j + 1)) 2 = stayV (lk.take j) 2) := ⟨by unfold stayV; rw [h1, decide_eq_false hb]; simp⟩
            have H2 : Aside0 (goneV (lk.take (j + 1)) 2 = goneV (lk.take j) 2 ++ [p]) := ⟨by unfold goneV; rw [h2, decide_eq_false hb]; rfl⟩
            rw [decide_eq_false hb] at HONE
            clear h1 h2
            go_wp2_with fail
            rw [HW4.out]
            (with_reducible refine (HONE.out w4).mono ?_)
            rintro e w5 ⟨rfl, hb5⟩
            have HJ5 := Aside0.mk (KpJ_below HJ.out (below_step HB4.out hb5))
            have HO5 := Aside0.mk HJ5.out.2.1
            have HSZ := Aside0.mk HJ5.out.2.2.2.2.1.size
            obtain ⟨r0, r1, r2, r3, r4, r5, r6, r7⟩ := vr_cells (box_keep HZ4.out hb5)
            clear hb5 q0 q1 q2 q3 q4 q5 q6 q7
            go_wp2_with ((with_reducible refine gate_dst (N := 45) rfl ?_); refine app_vr4 rfl rfl rfl rfl HO5.out HSZ.out (by have := HLB.out.2; omega) ?_; intro v1 w7 hO7 hb7 hg7 ha7; have HJ7 := Aside0.mk (KpJ_gone HJ5.out HBW.out hO7 hg7 ha7); clear hO7 hb7 hg7 ha7)
            go_roundw
            case rel => exact ⟨j + 1, by push_cast; rfl, hlt2, ⟨by rw [H1.out, H2.out, ← List.append_assoc]; exact HJ7.out⟩⟩
            case measure => simp [intOf]; omega
        · have k1 : ¬ (j : Int) < (n3 : Int) := by omega
          have HJE : Aside0 (KpJ its w B X l.length cl (.slice (some ad) nk c2) ks u5 (lo ++ goneV lk 2) u10 (ofV cl' k) wr) := ⟨by
            have h9 := HJ.out
            rw [List.take_of_length_le (show lk.length ≤ j by have := HN3.out; omega)] at h9
            rw [HCN1.out]
            exact h9⟩
          obtain ⟨b1, b2, b3, b4, b5, b6, b7, b8, b9⟩ := HJE.out
          obtain ⟨L7, xs7, d1, d2, d3, d4, d5, d6⟩ := b1
          obtain ⟨ns, hns⟩ : ∃ ns, (ofV cl' k).length = ns := ⟨_, rfl⟩
          obtain ⟨As, cs, rfl, hcs, -⟩ := OVr_readn b7 ns hns
          have HNS := Aside0.mk hns
          have hxl : xs7.length ≤ 100000 := by
            have h9 := congrArg List.length d4
            rw [List.length_map, List.length_tail] at h9
            have := HITL.out
            omega
          have HPT := Aside0.mk (M.put_calls wr L7 xs7 k 1 ⟨As, ns, cs⟩ d3 hxl)
          have HKP := Aside0.mk (fun w7 xs' (hne : ofV cl' k ≠ []) => KpI_put (w7 := w7) (xs' := xs') (k := k) (lv := 1) (s := ⟨As, ns, cs⟩) d1 d2 d3 d4 d5 d6 b2 b3 b4 b5 b6 HBW.out b9 HCS.out hne HCN2.out HCN3.out b7)
          have HKD := Aside0.mk (fun w7 w8 xs' xs'' (hne : ofV cl' k = []) => KpI_drop (w7 := w7) (w8 := w8) (xs' := xs') (xs'' := xs'') (k := k) (lv := 1) (s := ⟨As, ns, cs⟩) d1 d2 d3 d4 d5 d6 b2 b3 b4 b5 b6 HBW.out HCS.out hne HCN2.out HCN3.out)
          have HX7 := Aside0.mk d1
          have HXO7 := Aside0.mk (X_out d3.1 d1)
          have HIT7 := Aside0.mk d4
          have HXL7 := Aside0.mk hxl
          obtain ⟨x0, x1, x2⟩ := ix_cells d1
          clear b2 b3 b4 b5 b6 b7 b8 b9 d1 d2 d3 d4 d5 d6 hns hxl hlt2
          go_wp2_with fail
          (with_reducible refine HPT.out.mono ?_)
          rintro e w7 ⟨rfl, xs', hS7, hp7, hf7, hk7⟩
          rw [HIT7.out] at hp7
          have hX7 : w7.heap[X]? = some (ixB L7 l.length) := (hf7.block X (box_lt HX7.out) HXO7.out).trans HX7.out
          have HLO2 : Aside0 (lo ++ goneV lk 2 = goneV ((ks.take (i + 1)).flatMap (ofV l)) 2) := HLN
          by_cases hz : ns = 0
          · subst hz
            have hem : ofV cl' k = [] := List.eq_nil_of_length_eq_zero HNS.out
            have hx' : xs'.length ≤ 100000 := by
              have h9 := congrArg List.length hp7
              have h8 := put_len its k 1 ⟨As, 0, cs⟩
              rw [List.length_map, List.length_tail] at h9
              have := HITL.out
              omega
            have HDR := Aside0.mk (M.drop_calls w7 L7 xs' k hS7 hx')
            have HKD2 := Aside0.mk (fun w8 xs'' => HKD.out w7 w8 xs' xs'' hem hS7 hp7 hf7 hk7)
            obtain ⟨y0, y1, y2⟩ := ix_cells hX7
            clear hS7 hp7 hf7 hk7 hX7 hem hx'
            go_wp2_with fail
            (with_reducible refine HDR.out.mono ?_)
            rintro e w8 ⟨rfl, xs'', hS8, hp8, hf8, hk8⟩
            have HI8 := Aside0.mk (HKD2.out w8 xs'' hS8 hp8 hf8 hk8)
            clear hS8 hp8 hf8 hk8 y0 y1 y2
            go_wp2_with fail
            go_roundw
            case rel => exact ⟨i + 1, by push_cast; rfl, hlt, ⟨by rw [← HLO2.out, HCE.out]; exact HI8.out⟩⟩
            case measure => simp [intOf]; omega
          · have hem : ofV cl' k ≠ [] := fun e => hz (by rw [← HNS.out, e]; rfl)
            have HI7 := Aside0.mk (HKP.out w7 xs' hem hS7 hp7 hf7 hk7)
            have k3 : ¬ (ns : Int) = 0 := by omega
            have k4 : ((ns : Int) == 0) = false := by simpa using k3
            clear hS7 hp7 hf7 hk7 hX7 hem
            go_wp2_with fail
            go_roundw
            case rel => exact ⟨i + 1, by push_cast; rfl, hlt, ⟨by rw [← HLO2.out, HCE.out]; exact HI7.out⟩⟩
            case measure => simp [intOf]; omega
    · have j1 : ¬ (i : Int) < (nk : Int) := by omega
      have HIE : Aside0 (KpI w B X l.length (stayV l 2) (.slice A2 nk c2) ks u5 (goneV l 2) wr) := ⟨by
        have h9 := HI.out
        rwa [clV_end 2 i (by rw [HNK.out]; omega), List.take_of_length_le (show ks.length ≤ i by rw [HNK.out]; omega), HFL.out] at h9⟩
      obtain ⟨its, b1, b2, b3, b4, b5, b6⟩ := HIE.out
      obtain ⟨ng, hng⟩ : ∃ ng, (goneV l 2).length = ng := ⟨_, rfl⟩
      obtain ⟨A5, c5, rfl, hc5, -⟩ := OVr_readn b2 ng hng
      have hsg := stay_gone l 2
      have HMY := Aside0.mk (IXi_many b1 ((stayV l 2).length : Int))
      have HO5 := Aside0.mk b2
      have HIF := Aside0.mk b5
      have HBL := Aside0.mk b6
      have hsub : IntKind.i64.wrap ((l.length : Int) - (ng : Int)) = ((stayV l 2).length : Int) := by
        rw [IntWalk.i64_in _ (by have := HL.out; omega)]
        omega
      obtain ⟨L, xs, d1, d2⟩ := b1
      obtain ⟨x0, x1, x2⟩ := ix_cells d1
      obtain ⟨z, hz⟩ : ∃ z : Int, (l.length : Int) = z := ⟨_, rfl⟩
      obtain ⟨s, hs9⟩ : ∃ s : Int, ((stayV l 2).length : Int) = s := ⟨_, rfl⟩
      rw [hz] at x1 hsub
      rw [hs9] at hsub HMY
      have HS9 := Aside0.mk hs9
      clear b2 b3 b4 b5 b6 hng hsg d1 d2 hlt hz hs9
      go_wp2_with fail
      go_ret
      exact ⟨_, rfl, OVr_ifr HO5.out HMY.out.2.1, ⟨its, by rw [HS9.out]; exact HMY.out.1⟩, HIF.out.trans HMY.out.2.1, HBL.out.trans HMY.out.2.2⟩
theorem three_calls (v : Vr) (w : World) : Calls Try.prog 45 #[(.agg #[.string v.k, .int .i64 v.br, .int .i64 v.ep, .int .i64 v.sq, .int .i64 v.f, .int .i64 v.t, .string v.v, .bool v.g])] w fun e w' => e = .returned (.bool (decide (v.ep ≤ 3))) ∧ Below w.heap.size w w' := by
  go_enter Try.func45, Try.ntmps45
  go_wp2_with fail
  go_ret
  exact ⟨rfl, below_alloc (Below.refl _ _) _⟩
set_option maxRecDepth 100000 in
set_option maxHeartbeats 8000000 in
theorem keep_three_calls (w : World) (B X : Nat) (its0 : List M.It) (l : List Vr) (h : IXi w B X l.length its0 l) (hl : l.length ≤ 4000) :
    Calls Try.prog 20 #[.pointer (some ⟨X, 0, none⟩), .func (.func 45) #[] #[]] w fun e w' => ∃ u, e = .returned u ∧ OVr w' w.heap.size u (goneV l 3) ∧ (∃ its', IXi w' B X (stayV l 3).length its' (stayV l 3)) ∧ IFr w w' ∧ Below B w w' := by
  have hki := its_keys h
  obtain ⟨ks, hks⟩ : ∃ ks, keysV l = ks := ⟨_, rfl⟩
  have hke := keysV_is hki.1 hki.2.1 hki.2.2.1 hki.2.2.2
  rw [hks] at hke
  rw [← hke] at hki
  obtain ⟨hs, hsk, hin, hne⟩ := hki
  have HBW : Aside0 (B ≤ w.heap.size) := ⟨by obtain ⟨L, xs, a1, a2, _⟩ := h; exact Nat.le_trans a2 (Nat.le_of_lt (box_lt a1))⟩
  have hxk := xkeys_calls h hl
  rw [hks] at hxk
  have HXK := Aside0.mk hxk
  obtain ⟨nk, hnk⟩ : ∃ nk, ks.length = nk := ⟨_, rfl⟩
  have HNK := Aside0.mk hnk
  have hnk4 : nk ≤ 4000 := by
    have h9 := keysV_len l l.length (Nat.le_refl _)
    rw [List.take_length, hks] at h9
    omega
  have HS := Aside0.mk hs
  have HSK := Aside0.mk hsk
  have HL := Aside0.mk hl
  have HFL := Aside0.mk (flatV ks l hs hsk hin)
  have HCZ := Aside0.mk (clV_zero hin 3)
  have H0 := Aside0.mk h
  clear h hl hxk hks hke hs hsk hin hne
  go_enter Try.func20, Try.ntmps20
  go_wp2_with fail
  (with_reducible refine HXK.out.mono ?_)
  rintro e w2 ⟨v2, rfl, hO2, hb2⟩
  obtain ⟨A2, c2, rfl, hc2, -⟩ := M.OStr_readn hO2 nk hnk
  have HI2 : Aside0 (KpI w B X l.length (clV l ks 3 0) (.slice A2 nk c2) ks (.slice none 0 0) [] w2) := ⟨⟨its0, by rw [HCZ.out]; exact IXi_below H0.out hb2, OVr_nil _ _, Sep_nil _, hO2, IFr.of_below hb2, hb2.mono HBW.out⟩⟩
  clear hO2 hb2 hnk HXK
  go_wp2_with fail
  go_loopw [5, 7, 8, 9, 10, 12, 16] (fun v5 v7 v8 v9 v10 v12 v16 w' => ∃ i : Nat, v16 = .int .i64 i ∧ i ≤ nk ∧ Aside0 (KpI w B X l.length (clV l ks 3 i) (.slice A2 nk c2) ks v5 (goneV ((ks.take i).flatMap (ofV l)) 3) w')) (fun _ _ _ _ _ _ v16 _ => nk - (intOf v16).toNat)
  case atStart => exact ⟨0, rfl, Nat.zero_le _, HI2⟩
  case round =>
    obtain ⟨i, rfl, hin, HI⟩ := hrel
    by_cases hlt : i < nk
    · have hik : i < ks.length := by rw [HNK.out]; exact hlt
      obtain ⟨its, hJ⟩ := KpJ_start HI.out
      have HKC : Aside0 (Kd.string.C wr A2 nk ks) := ⟨by
        have h9 := (Kd.R_reads' hJ.2.2.2.1).2.2
        rwa [HNK.out] at h9⟩
      obtain ⟨ad, hA2, q0⟩ := M.C_atStr HKC.out i hlt
      subst hA2
      have hts := tk_succ ks i hik
      have hca := clV_at (l := l) 3 i hik
      have hcn := clV_next (l := l) HSK.out 3 i hik
      have hcs := clV_srt HS.out ks 3 (i + 1)
      obtain ⟨k, hk⟩ : ∃ k, ks.getD i ByteArray.empty = k := ⟨_, rfl⟩
      obtain ⟨cl, hcl⟩ : ∃ cl, clV l ks 3 i = cl := ⟨_, rfl⟩
      obtain ⟨cl', hcl'⟩ : ∃ cl', clV l ks 3 (i + 1) = cl' := ⟨_, rfl⟩
      obtain ⟨lk, hlk⟩ : ∃ lk, ofV l k = lk := ⟨_, rfl⟩
      obtain ⟨lo, hlo⟩ : ∃ lo, goneV ((ks.take i).flatMap (ofV l)) 3 = lo := ⟨_, rfl⟩
      have HLN : Aside0 (lo ++ goneV lk 3 = goneV ((ks.take (i + 1)).flatMap (ofV l)) 3) := ⟨by
        rw [hts, List.flatMap_append, List.flatMap_cons, List.flatMap_nil, List.append_nil, hk, hlk, ← hlo]
        unfold goneV
        rw [List.filter_append]⟩
      have HLKL : Aside0 (lk.length ≤ 4000) := ⟨by have : (ofV l k).length ≤ l.length := List.length_filter_le _ _; have := HL.out; rw [← hlk]; omega⟩
      have HLOL : Aside0 (lo.length ≤ 4000) := ⟨by
        have a1 : (goneV ((ks.take i).flatMap (ofV l)) 3).length ≤ ((ks.take i).flatMap (ofV l)).length := List.length_filter_le _ _
        have a2 := tk_len (ofV l) ks i
        rw [HFL.out] at a2
        have := HL.out
        rw [← hlo]
        omega⟩
      rw [hk, hcl, hlk] at hca
      rw [hk, hcl, hcl', hlk] at hcn
      rw [hcl'] at hcs
      rw [hk] at q0
      rw [hcl, hlo] at hJ
      have HLK := Aside0.mk hca
      have HCN1 := Aside0.mk hcn.1
      have HCN2 := Aside0.mk hcn.2.1
      have HCN3 := Aside0.mk hcn.2.2
      have HCS := Aside0.mk hcs
      have HCE := Aside0.mk hcl'
      have HITL : Aside0 (its.length ≤ 4000) := ⟨by
        have a1 := its_len hJ.1
        have a2 : cl.length ≤ l.length := by rw [← hcl]; exact List.length_filter_le _ _
        have := HL.out
        omega⟩
      have HJ0 := Aside0.mk hJ
      obtain ⟨A3, n3, c3, b3, hgk, hrow⟩ := get_row hJ.1 k
      have HN3 : Aside0 (n3 = lk.length) := ⟨by have h9 := (Kd.R_reads' hrow).1; rw [HLK.out] at h9; exact h9⟩
      have HGK := Aside0.mk hgk
      obtain ⟨L, xs, d1, d2, d3, d4, d5, d6⟩ := hJ.1
      have hgt := M.get_calls wr L xs k d3
      rw [d4, hgk] at hgt
      have HGT := Aside0.mk hgt
      obtain ⟨x0, x1, x2⟩ := ix_cells d1
      have j1 : (i : Int) < (nk : Int) := by omega
      have j2 : (0 : Int) ≤ (i : Int) := by omega
      have hn34 : n3 ≤ 4000 := by have := HN3.out; have := HLKL.out; omega
      clear hts hca hcn hcs hk hcl hlk hlo hJ hgk hrow d1 d2 d3 d4 d5 d6 hgt hik
      go_wp2_with fail
      (with_reducible refine HGT.out.mono ?_)
      rintro e w3 ⟨rfl, hb3⟩
      have HJ3 := Aside0.mk (KpJ_below HJ0.out hb3)
      clear hb3 x0 x1 x2 q0
      go_wp2_with fail
      go_loopw [5, 10, 12, 31] (fun v5 v10 v12 v31 w' => ∃ j : Nat, v31 = .int .i64 j ∧ j ≤ n3 ∧ Aside0 (KpJ its w B X l.length cl (.slice (some ad) nk c2) ks v5 (lo ++ goneV (lk.take j) 3) v10 (stayV (lk.take j) 3) w')) (fun _ _ _ v31 _ => n3 - (intOf v31).toNat)
      case atStart => exact ⟨0, rfl, Nat.zero_le _, ⟨by rw [List.take_zero]; show KpJ _ _ _ _ _ _ _ _ _ (lo ++ []) _ [] _; rw [List.append_nil]; exact HJ3.out⟩⟩
      case round =>
        obtain ⟨j, rfl, hjn, HJ⟩ := hrel
        by_cases hlt2 : j < n3
        · have hln : j < lk.length := by have := HN3.out; omega
          have HC3 := Aside0.mk (show KVr.C wr A3 n3 lk from by
            obtain ⟨q1, q2, q3⟩ := Kd.R_reads' (get_row' HJ.out.1 k HGK.out)
            rw [HLK.out] at q1 q3
            rw [← q1] at q3
            exact q3)
          obtain ⟨ad3, hA3, -⟩ := C_atVr HC3.out j hlt2
          subst hA3
          have h1 := filt_take (fun p : Vr => decide (p.ep ≤ 3)) lk j hln
          have h2 := filt_take (fun p : Vr => !decide (p.ep ≤ 3)) lk j hln
          obtain ⟨p, hp⟩ : ∃ p, lk.getD j default = p := ⟨_, rfl⟩
          rw [hp] at h1 h2
          obtain ⟨q0, q1, q2, q3, q4, q5, q6, q7⟩ := vr8 rfl HC3.out j hlt2 p hp
          have HLB : Aside0 ((stayV (lk.take j) 3).length ≤ 4000 ∧ (lo ++ goneV (lk.take j) 3).length ≤ 8000) := ⟨by
            have a1 : (stayV (lk.take j) 3).length ≤ (lk.take j).length := List.length_filter_le _ _
            have a2 : (goneV (lk.take j) 3).length ≤ (lk.take j).length := List.length_filter_le _ _
            have a3 := List.length_take_le j lk
            have a4 := HLKL.out
            have a5 := HLOL.out
            rw [List.length_append]
            constructor <;> omega⟩
          have k1 : (j : Int) < (n3 : Int) := by omega
          have k2 : (0 : Int) ≤ (j : Int) := by omega
          obtain ⟨g, hg⟩ : ∃ g, wr.heap.size = g := ⟨_, rfl⟩
          obtain ⟨w4, hw4⟩ : ∃ w4, wr.alloc (vrBox p.k p.br p.ep p.sq p.f p.t p.v p.g) = w4 := ⟨_, rfl⟩
          have HB4 : Aside0 (Below wr.heap.size wr w4) := ⟨by rw [← hw4]; exact below_alloc (Below.refl _ _) _⟩
          have HZ4 : Aside0 (w4.heap[g]? = some (vrB p)) := ⟨by rw [← hw4, ← hg]; exact blk_new wr _⟩
          have HW4 := Aside0.mk hw4
          have HONE := Aside0.mk (fun W => three_calls p W)
          clear hp hln hw4
          by_cases hb : p.ep ≤ 3
          · have H1 : Aside0 (stayV (lk.take (j + 1)) 3 = stayV (lk.take j) 3 ++ [p]) := ⟨by unfold stayV; rw [h1, decide_eq_true hb]; rfl⟩
            have H2 : Aside0 (goneV (lk.take (j + 1)) 3 = goneV (lk.take j) 3) := ⟨by unfold goneV; rw [h2, decide_eq_true hb]; simp⟩
            rw [decide_eq_true hb] at HONE
            clear h1 h2
            go_wp2_with fail
            rw [HW4.out]
            (with_reducible refine (HONE.out w4).mono ?_)
            rintro e w5 ⟨rfl, hb5⟩
            have HJ5 := Aside0.mk (KpJ_below HJ.out (below_step HB4.out hb5))
            have HO5 := Aside0.mk HJ5.out.2.2.2.2.2.2.1
            have HSZ := Aside0.mk HJ5.out.2.2.2.2.1.size
            obtain ⟨r0, r1, r2, r3, r4, r5, r6, r7⟩ := vr_cells (box_keep HZ4.out hb5)
            clear hb5 q0 q1 q2 q3 q4 q5 q6 q7
            go_wp2_with ((with_reducible refine gate_dst (N := 41) rfl ?_); refine app_vr4 rfl rfl rfl rfl HO5.out HSZ.out (by have := HLB.out.1; omega) ?_; intro v1 w7 hO7 hb7 hg7 ha7; have HJ7 := Aside0.mk (KpJ_stay HJ5.out HBW.out hO7 hg7 ha7); clear hO7 hb7 hg7 ha7)
            go_roundw
            case rel => exact ⟨j + 1, by push_cast; rfl, hlt2, ⟨by rw [H1.out, H2.out]; exact HJ7.out⟩⟩
            case measure => simp [intOf]; omega
          · have H1 : Aside0 (stayV (lk.take (j + 1)) 3 = stayV (lk.take j) 3) := ⟨by unfold stayV; rw [h1, decide_eq_false hb]; simp⟩
            have H2 : Aside0 (goneV (lk.take (j + 1)) 3 = goneV (lk.take j) 3 ++ [p]) := ⟨by unfold goneV; rw [h2, decide_eq_false hb]; rfl⟩
            rw [decide_eq_false hb] at HONE
            clear h1 h2
            go_wp2_with fail
            rw [HW4.out]
            (with_reducible refine (HONE.out w4).mono ?_)
            rintro e w5 ⟨rfl, hb5⟩
            have HJ5 := Aside0.mk (KpJ_below HJ.out (below_step HB4.out hb5))
            have HO5 := Aside0.mk HJ5.out.2.1
            have HSZ := Aside0.mk HJ5.out.2.2.2.2.1.size
            obtain ⟨r0, r1, r2, r3, r4, r5, r6, r7⟩ := vr_cells (box_keep HZ4.out hb5)
            clear hb5 q0 q1 q2 q3 q4 q5 q6 q7
            go_wp2_with ((with_reducible refine gate_dst (N := 45) rfl ?_); refine app_vr4 rfl rfl rfl rfl HO5.out HSZ.out (by have := HLB.out.2; omega) ?_; intro v1 w7 hO7 hb7 hg7 ha7; have HJ7 := Aside0.mk (KpJ_gone HJ5.out HBW.out hO7 hg7 ha7); clear hO7 hb7 hg7 ha7)
            go_roundw
            case rel => exact ⟨j + 1, by push_cast; rfl, hlt2, ⟨by rw [H1.out, H2.out, ← List.append_assoc]; exact HJ7.out⟩⟩
            case measure => simp [intOf]; omega
        · have k1 : ¬ (j : Int) < (n3 : Int) := by omega
          have HJE : Aside0 (KpJ its w B X l.length cl (.slice (some ad) nk c2) ks u5 (lo ++ goneV lk 3) u10 (ofV cl' k) wr) := ⟨by
            have h9 := HJ.out
            rw [List.take_of_length_le (show lk.length ≤ j by have := HN3.out; omega)] at h9
            rw [HCN1.out]
            exact h9⟩
          obtain ⟨b1, b2, b3, b4, b5, b6, b7, b8, b9⟩ := HJE.out
          obtain ⟨L7, xs7, d1, d2, d3, d4, d5, d6⟩ := b1
          obtain ⟨ns, hns⟩ : ∃ ns, (ofV cl' k).length = ns := ⟨_, rfl⟩
          obtain ⟨As, cs, rfl, hcs, -⟩ := OVr_readn b7 ns hns
          have HNS := Aside0.mk hns
          have hxl : xs7.length ≤ 100000 := by
            have h9 := congrArg List.length d4
            rw [List.length_map, List.length_tail] at h9
            have := HITL.out
            omega
          have HPT := Aside0.mk (M.put_calls wr L7 xs7 k 1 ⟨As, ns, cs⟩ d3 hxl)
          have HKP := Aside0.mk (fun w7 xs' (hne : ofV cl' k ≠ []) => KpI_put (w7 := w7) (xs' := xs') (k := k) (lv := 1) (s := ⟨As, ns, cs⟩) d1 d2 d3 d4 d5 d6 b2 b3 b4 b5 b6 HBW.out b9 HCS.out hne HCN2.out HCN3.out b7)
          have HKD := Aside0.mk (fun w7 w8 xs' xs'' (hne : ofV cl' k = []) => KpI_drop (w7 := w7) (w8 := w8) (xs' := xs') (xs'' := xs'') (k := k) (lv := 1) (s := ⟨As, ns, cs⟩) d1 d2 d3 d4 d5 d6 b2 b3 b4 b5 b6 HBW.out HCS.out hne HCN2.out HCN3.out)
          have HX7 := Aside0.mk d1
          have HXO7 := Aside0.mk (X_out d3.1 d1)
          have HIT7 := Aside0.mk d4
          have HXL7 := Aside0.mk hxl
          obtain ⟨x0, x1, x2⟩ := ix_cells d1
          clear b2 b3 b4 b5 b6 b7 b8 b9 d1 d2 d3 d4 d5 d6 hns hxl hlt2
          go_wp2_with fail
          (with_reducible refine HPT.out.mono ?_)
          rintro e w7 ⟨rfl, xs', hS7, hp7, hf7, hk7⟩
          rw [HIT7.out] at hp7
          have hX7 : w7.heap[X]? = some (ixB L7 l.length) := (hf7.block X (box_lt HX7.out) HXO7.out).trans HX7.out
          have HLO2 : Aside0 (lo ++ goneV lk 3 = goneV ((ks.take (i + 1)).flatMap (ofV l)) 3) := HLN
          by_cases hz : ns = 0
          · subst hz
            have hem : ofV cl' k = [] := List.eq_nil_of_length_eq_zero HNS.out
            have hx' : xs'.length ≤ 100000 := by
              have h9 := congrArg List.length hp7
              have h8 := put_len its k 1 ⟨As, 0, cs⟩
              rw [List.length_map, List.length_tail] at h9
              have := HITL.out
              omega
            have HDR := Aside0.mk (M.drop_calls w7 L7 xs' k hS7 hx')
            have HKD2 := Aside0.mk (fun w8 xs'' => HKD.out w7 w8 xs' xs'' hem hS7 hp7 hf7 hk7)
            obtain ⟨y0, y1, y2⟩ := ix_cells hX7
            clear hS7 hp7 hf7 hk7 hX7 hem hx'
            go_wp2_with fail
            (with_reducible refine HDR.out.mono ?_)
            rintro e w8 ⟨rfl, xs'', hS8, hp8, hf8, hk8⟩
            have HI8 := Aside0.mk (HKD2.out w8 xs'' hS8 hp8 hf8 hk8)
            clear hS8 hp8 hf8 hk8 y0 y1 y2
            go_wp2_with fail
            go_roundw
            case rel => exact ⟨i + 1, by push_cast; rfl, hlt, ⟨by rw [← HLO2.out, HCE.out]; exact HI8.out⟩⟩
            case measure => simp [intOf]; omega
          · have hem : ofV cl' k ≠ [] := fun e => hz (by rw [← HNS.out, e]; rfl)
            have HI7 := Aside0.mk (HKP.out w7 xs' hem hS7 hp7 hf7 hk7)
            have k3 : ¬ (ns : Int) = 0 := by omega
            have k4 : ((ns : Int) == 0) = false := by simpa using k3
            clear hS7 hp7 hf7 hk7 hX7 hem
            go_wp2_with fail
            go_roundw
            case rel => exact ⟨i + 1, by push_cast; rfl, hlt, ⟨by rw [← HLO2.out, HCE.out]; exact HI7.out⟩⟩
            case measure => simp [intOf]; omega
    · have j1 : ¬ (i : Int) < (nk : Int) := by omega
      have HIE : Aside0 (KpI w B X l.length (stayV l 3) (.slice A2 nk c2) ks u5 (goneV l 3) wr) := ⟨by
        have h9 := HI.out
        rwa [clV_end 3 i (by rw [HNK.out]; omega), List.take_of_length_le (show ks.length ≤ i by rw [HNK.out]; omega), HFL.out] at h9⟩
      obtain ⟨its, b1, b2, b3, b4, b5, b6⟩ := HIE.out
      obtain ⟨ng, hng⟩ : ∃ ng, (goneV l 3).length = ng := ⟨_, rfl⟩
      obtain ⟨A5, c5, rfl, hc5, -⟩ := OVr_readn b2 ng hng
      have hsg := stay_gone l 3
      have HMY := Aside0.mk (IXi_many b1 ((stayV l 3).length : Int))
      have HO5 := Aside0.mk b2
      have HIF := Aside0.mk b5
      have HBL := Aside0.mk b6
      have hsub : IntKind.i64.wrap ((l.length : Int) - (ng : Int)) = ((stayV l 3).length : Int) := by
        rw [IntWalk.i64_in _ (by have := HL.out; omega)]
        omega
      obtain ⟨L, xs, d1, d2⟩ := b1
      obtain ⟨x0, x1, x2⟩ := ix_cells d1
      obtain ⟨z, hz⟩ : ∃ z : Int, (l.length : Int) = z := ⟨_, rfl⟩
      obtain ⟨s, hs9⟩ : ∃ s : Int, ((stayV l 3).length : Int) = s := ⟨_, rfl⟩
      rw [hz] at x1 hsub
      rw [hs9] at hsub HMY
      have HS9 := Aside0.mk hs9
      clear b2 b3 b4 b5 b6 hng hsg d1 d2 hlt hz hs9
      go_wp2_with fail
      go_ret
      exact ⟨_, rfl, OVr_ifr HO5.out HMY.out.2.1, ⟨its, by rw [HS9.out]; exact HMY.out.1⟩, HIF.out.trans HMY.out.2.1, HBL.out.trans HMY.out.2.2⟩
end Go.Proofs.Ytheoodbkjgfdfaa.A
