/- OrderJoins: the bytes of two tuples, one behind the other, are those of the tuple of all their parts. -/
import Derived.Test.YtfabgmekkhlogaaARound
import Derived.Test.YtfabgmekkhlogaaALawCmp
import Derived.OwnWalk
import Derived.Deep.RegionHeld
namespace Go.Proofs.Ytfabgmekkhlogaa.A
open Go.RowKit Go.Proofs.YtfabgmekkhlogaaW.PrintWords Go.Proofs.YtfabgmekkhlogaaW.PrintLast Go.Proofs.YtfabgmekkhlogaaW.PrintMore
set_option linter.unusedVariables false
set_option linter.unusedSimpArgs false

section
variable {ops : Array Oper} {rest : List Oper} {o : Oper} {a : Act} {Q : Exit → Act → World → Prop} {W : World} {B : Nat}
/-- append(v, ys...), parts behind a row of one's own. -/
theorem app_pts {s x : Operand} (hgd : o.guard = none) (ho : o.op = .call { callee := .builtin .append, args := #[s, x], argTypes := #[22, 22] }) {v : Value} {xs ys : List Pt} {A : Option Addr} {m c : Nat}
    (hs : a.eval s = v) (hx : a.eval x = .slice A m c) (HO : OPt W B v xs) (HR : KPt.C W A m ys) (hB : B ≤ W.heap.size) (hl : xs.length + m ≤ 1000000)
    (h : ∀ v1 w1, OPt w1 B v1 (xs ++ ys) → Below B W w1 → W.grownBy w1 v.ownBlock → wpList Try.prog ops Q rest (a.put o.dst v1) w1) : wpList Try.prog ops Q (o :: rest) a W := by
  refine Kd.R_append_rows KPt (Rr := KPt.K W) (w0 := W) B hgd s x 22 30 (.agg #[.bool false, .int .i64 0, .string ByteArray.empty]) 32 ho Try.underlying22 infoPt rfl (by decide) (by decide) v xs ys A m c (fun _ => True) (fun _ => False) hs hx HO HR ?_ (fun _ h => h.elim) (fun _ _ => trivial) (Below.refl B W) hB (by omega) (fun v1 w1 h1 h2 h3 _ => h v1 w1 h1 h2 h3)
  rintro p cs ⟨c1, c2, rfl, h1, ⟨c3, c4, rfl, h3, h4⟩⟩
  exact ⟨c1, _, rfl, h1, ⟨c3, c4, rfl, h3, h4⟩⟩
end
theorem str_app (x y : List Int) : strOfNums (x ++ y) = strOfNums x ++ strOfNums y := by
  apply ByteArray.ext
  unfold strOfNums
  rw [ByteArray.data_append]
  simp
theorem writeL_app (x y : List Pt) : writeL (x ++ y) = writeL x ++ writeL y := by unfold writeL; rw [List.flatMap_append]

set_option maxRecDepth 100000 in
set_option maxHeartbeats 4000000 in
theorem joins_calls (w : World) (A : Option Addr) (c : Nat) (a : List Pt) (hr : KPt.C w A a.length a) (hc : a.length ≤ c) (hok : ∀ p ∈ a, p.ok) (A' : Option Addr) (c' : Nat) (b : List Pt) (hr' : KPt.C w A' b.length b) (hc' : b.length ≤ c') (hok' : ∀ p ∈ b, p.ok) :
    Calls Try.prog 8 #[.slice A a.length c, .slice A' b.length c'] w fun e w' => e = .returned (.bool true) ∧ Below w.heap.size w w' := by
  have HR := Aside0.mk hr
  have HR' := Aside0.mk hr'
  have HOK := Aside0.mk hok
  have HOK' := Aside0.mk hok'
  clear hr hr' hok hok'
  go_enter Try.func8, Try.ntmps8
  go_wp2_with fail
  (with_reducible refine (cut_calls _ _ _ a _ HR.out hc HOK.out).mono ?_)
  rintro e w1 ⟨v1, rfl, HO1, hb1⟩
  obtain ⟨n1, hn1⟩ : ∃ n, (cutL a).length = n := ⟨_, rfl⟩
  have hn16 := cutL_len a
  rw [hn1] at hn16
  obtain ⟨A1, c1, rfl, hc1, HC1⟩ := OPt_readn HO1 n1 hn1
  have HX := Aside0.mk HC1
  have HB := Aside0.mk hb1
  have HXK := Aside0.mk (cutL_ok a HOK.out)
  have HXS := Aside0.mk (fun p hp => Nat.le_trans (cutL_size a p hp) (by omega) : ∀ p ∈ cutL a, p.s.size ≤ 100000)
  have hxl := writeL_len (cutL a) 50 (cutL_size a)
  rw [hn1] at hxl
  have HN1 := Aside0.mk hn1
  clear HO1 hn1 HC1 hb1
  generalize cutL a = x at *
  go_wp2_with fail
  (with_reducible refine (cut_calls _ _ _ b _ (Kd.C_below HR'.out HB.out) hc' HOK'.out).mono ?_)
  rintro e w2 ⟨v2, rfl, HO2, hb2⟩
  obtain ⟨n2, hn2⟩ : ∃ n, (cutL b).length = n := ⟨_, rfl⟩
  have hn26 := cutL_len b
  rw [hn2] at hn26
  obtain ⟨A2, c2, rfl, hc2, HC2⟩ := OPt_readn HO2 n2 hn2
  have HX2 := Aside0.mk (Kd.C_below HX.out hb2)
  have HY2 := Aside0.mk HC2
  have HB2 := Aside0.mk (below_step HB.out hb2)
  have HYK := Aside0.mk (cutL_ok b HOK'.out)
  have HYS := Aside0.mk (fun p hp => Nat.le_trans (cutL_size b p hp) (by omega) : ∀ p ∈ cutL b, p.s.size ≤ 100000)
  have hyl := writeL_len (cutL b) 50 (cutL_size b)
  rw [hn2] at hyl
  have HN2 := Aside0.mk hn2
  clear HO2 hn2 HC2 hb2 HX HB HR HR' HOK HOK'
  generalize cutL b = y at *
  obtain ⟨nx, hnx⟩ : ∃ n, (writeL x).length = n := ⟨_, rfl⟩
  obtain ⟨ny, hny⟩ : ∃ n, (writeL y).length = n := ⟨_, rfl⟩
  rw [hnx] at hxl
  rw [hny] at hyl
  have HNX := Aside0.mk hnx
  have HNY := Aside0.mk hny
  have hxn : x.length ≤ 6 := by rw [HN1.out]; exact hn16
  clear hnx hny
  go_wp2_with (first
    | ((with_reducible refine gate_dst (N := 15) rfl ?_); refine app_pts rfl rfl rfl rfl (Kd.R_nil _ _ _ _ _) HX2.out (Nat.le_refl _) (by simp; omega) ?_; intro v3 w3 HO3 hb3 _; rw [List.nil_append] at HO3; have HP3 := Aside0.mk HO3; have HB3 := Aside0.mk hb3; clear HO3 hb3)
    | ((with_reducible refine gate_dst (N := 18) rfl ?_); refine app_pts rfl rfl rfl rfl HP3.out (Kd.C_below HY2.out HB3.out) HB3.out.size (by omega) ?_; intro v4 w4 HO4 hb4 _; obtain ⟨nz, hnz⟩ : ∃ n, (x ++ y).length = n := ⟨_, rfl⟩; obtain ⟨A4, c4, rfl, hc4, HC4⟩ := OPt_readn HO4 nz hnz))
  have hnz12 : nz ≤ 12 := by rw [← hnz, List.length_append, HN1.out, HN2.out]; omega
  have HNZ := Aside0.mk hnz
  have hB24 := HB3.out.trans hb4
  have HX4 := Aside0.mk (Kd.C_below HX2.out hB24)
  have HY4 := Aside0.mk (Kd.C_below HY2.out hB24)
  have HZ4 := Aside0.mk HC4
  have HB4 := Aside0.mk (below_step HB2.out hB24)
  have HZK : Aside0 (∀ p ∈ x ++ y, p.ok) := ⟨fun p hp => by rcases List.mem_append.1 hp with h | h; exact HXK.out p h; exact HYK.out p h⟩
  have HZS : Aside0 (∀ p ∈ x ++ y, p.s.size ≤ 100000) := ⟨fun p hp => by rcases List.mem_append.1 hp with h | h; exact HXS.out p h; exact HYS.out p h⟩
  clear HO4 hb4 hnz HC4 hB24 HP3 HB3 HX2 HY2 HB2
  (with_reducible refine (write_calls _ _ _ x _ HX4.out hc1 HXK.out HXS.out (by omega)).mono ?_)
  rintro e w5 ⟨v5, rfl, HO5, hb5⟩
  have HP5 := Aside0.mk HO5
  have HX5 := Aside0.mk (Kd.C_below HX4.out hb5)
  have HY5 := Aside0.mk (Kd.C_below HY4.out hb5)
  have HZ5 := Aside0.mk (Kd.C_below HZ4.out hb5)
  have HB45 := Aside0.mk hb5
  clear HO5 hb5
  go_wp2_with fail
  (with_reducible refine (write_calls _ _ _ y _ HY5.out hc2 HYK.out HYS.out (by omega)).mono ?_)
  rintro e w6 ⟨v6, rfl, HO6, hb6⟩
  obtain ⟨A6, c6, rfl, hc6, HC6⟩ := OB_readn HO6 ny HNY.out
  have HP6 := Aside0.mk (Kd.R_below HP5.out hb6)
  have HC := Aside0.mk HC6
  have HB46 := Aside0.mk (below_step HB45.out hb6)
  have hlx : (writeL x).length ≤ 10000 := by rw [HNX.out]; omega
  clear HO6 HC6 hb6 HP5 HB45 HX5 HY5 HZ5
  go_wp2_with ((with_reducible refine gate_dst (N := 24) rfl ?_); refine app_bytes rfl rfl rfl rfl HP6.out HC.out HB46.out.size (by omega) ?_; intro v7 w7 HO7 hb7 _ _; rw [← writeL_app] at HO7; obtain ⟨n7, hn7⟩ : ∃ n, (writeL (x ++ y)).length = n := ⟨_, rfl⟩; obtain ⟨A7, c7, rfl, hc7, HC7⟩ := OB_readn HO7 n7 hn7)
  have hn72 : n7 ≤ 100000 := by rw [← hn7, writeL_app, List.length_append, HNX.out, HNY.out]; omega
  have hB47 := HB46.out.trans hb7
  have HX7 := Aside0.mk (Kd.C_below HX4.out hB47)
  have HY7 := Aside0.mk (Kd.C_below HY4.out hB47)
  have HZ7 := Aside0.mk (Kd.C_below HZ4.out hB47)
  have HB7 := Aside0.mk (below_step HB4.out hB47)
  have HC77 := Aside0.mk HC7
  clear HO7 hn7 hB47 hb7 HX4 HY4 HZ4 HB4 HB46 HP6 HC HC7
  (with_reducible refine (read_calls _ _ _ (writeL (x ++ y)) _ HC77.out hc7 (write_range _) hn72).mono ?_)
  rw [readB_write _ HZK.out]
  rintro e w8 ⟨v8, rfl, HO8, hb8⟩
  obtain ⟨A8, c8, rfl, hc8, HC8⟩ := OPt_readn HO8 nz (by rw [List.length_map]; exact HNZ.out)
  have HX8 := Aside0.mk (Kd.C_below HX7.out hb8)
  have HY8 := Aside0.mk (Kd.C_below HY7.out hb8)
  have HZ8 := Aside0.mk (Kd.C_below HZ7.out hb8)
  have HB8 := Aside0.mk (below_step HB7.out hb8)
  have HN8 := Aside0.mk HC8
  clear HO8 hb8 HC8 HX7 HY7 HZ7 HB7 HC77
  go_wp2_with fail
  (with_reducible refine (same_calls _ _ _ ((x ++ y).map norm) _ _ (x ++ y) _ HN8.out hc8 HZ8.out hc4 (cmp_norm _)).mono ?_)
  rintro e w9 ⟨rfl, hb9⟩
  have HX9 := Aside0.mk (Kd.C_below HX8.out hb9)
  have HY9 := Aside0.mk (Kd.C_below HY8.out hb9)
  have HZ9 := Aside0.mk (Kd.C_below HZ8.out hb9)
  have HB9 := Aside0.mk (below_step HB8.out hb9)
  have hS := Aside0.mk (show strOfNums (writeL (x ++ y)) = strOfNums (writeL x) ++ strOfNums (writeL y) by rw [writeL_app, str_app])
  have hsx : (strOfNums (writeL x)).size ≤ 100000 := by rw [strOfNums_size, HNX.out]; omega
  have hsy : (strOfNums (writeL y)).size ≤ 100000 := by rw [strOfNums_size, HNY.out]; omega
  clear hb9 HX8 HY8 HZ8 HB8 HN8
  have h0 : Below w9.heap.size w9 w9.drew := below_drew1 (Below.refl _ _)
  go_wp2_with fail
  go_region_held (fun w' => Below w9.heap.size w9 w')
    (first
      | (go_split_ands; assumption)
      | (go_split_ands; exact below_step (by assumption) hb))
    (first
      | ((go_at_call 15); (first
          | ((with_reducible refine (write_calls A4 nz _ (x ++ y) _ (Kd.C_below HZ9.out (by go_split_ands; assumption)) hc4 HZK.out HZS.out (by omega)).mono ?_); rintro e wA ⟨vA, rfl, HA, hb⟩; have HOa := Aside0.mk HA; have Ea := OB_string HA; rw [hS.out] at Ea; clear HA)
          | ((with_reducible refine (write_calls A1 n1 _ x _ (Kd.C_below HX9.out (by go_split_ands; assumption)) hc1 HXK.out HXS.out (by omega)).mono ?_); rintro e wB ⟨vB, rfl, HA, hb⟩; (try (have nA := Aside0.mk (Kd.R_below HOa.out hb); clear Ea HOa; have HOa := nA; have Ea := OB_string nA.out; rw [hS.out] at Ea; clear nA)); have HOb := Aside0.mk HA; have Eb := OB_string HA; clear HA)
          | ((with_reducible refine (write_calls A2 n2 _ y _ (Kd.C_below HY9.out (by go_split_ands; assumption)) hc2 HYK.out HYS.out (by omega)).mono ?_); rintro e wC ⟨vC, rfl, HA, hb⟩; (try (have nA := Aside0.mk (Kd.R_below HOa.out hb); clear Ea HOa; have HOa := nA; have Ea := OB_string nA.out; rw [hS.out] at Ea; clear nA)); (try (have nB := Aside0.mk (Kd.R_below HOb.out hb); clear Eb HOb; have HOb := nB; have Eb := OB_string nB.out; clear nB)); have HOc := Aside0.mk HA; have Ec := OB_string HA; clear HA)))
      | ((go_at_call 14); (with_reducible refine (lives_calls _).mono ?_); rintro e wD ⟨rfl, hb⟩))
  all_goals go_wp2
  all_goals go_ret
  all_goals exact ⟨by first | rfl | kernel_rfl, below_step HB9.out (by first | assumption | (go_split_ands; assumption))⟩

end Go.Proofs.Ytfabgmekkhlogaa.A
