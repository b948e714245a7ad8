/- A version cut; its bytes: the document's. -/
import Derived.Test.YtmkabbfglijckaaBRound
namespace Go.Proofs.Ytmkabbfglijckaa.A
open Go.RowKit Go.Proofs.YtmkabbfglijckaaW.PrintWords Go.Proofs.YtmkabbfglijckaaW.PrintLast Go.Proofs.YtmkabbfglijckaaW.PrintMore
set_option linter.unusedVariables false
set_option linter.unusedSimpArgs false

def cutS (s : ByteArray) (n : Nat) : ByteArray := if n < s.size then s.extract 0 n else s
def cutV (p : Vr) : Vr := ⟨cutS p.k 110, p.br, p.ep, p.sq, p.f, p.t, cutS p.v 210, p.g⟩
theorem cutS_size (s : ByteArray) (n : Nat) : (cutS s n).size ≤ n := by
  unfold cutS
  split
  · rw [ByteArray.size_extract]; omega
  · omega
set_option maxRecDepth 100000 in
set_option maxHeartbeats 2000000 in
theorem cut_calls (k : ByteArray) (br ep sq f t : Int) (v : ByteArray) (g : Bool) (w : World) (hk : k.size ≤ 9223372036854775807) (hv : v.size ≤ 9223372036854775807) :
    Calls Try.prog 9 #[.agg #[.string k, .int .i64 br, .int .i64 ep, .int .i64 sq, .int .i64 f, .int .i64 t, .string v, .bool g]] w fun e w' => e = .returned (.agg #[.string (cutS k 110), .int .i64 br, .int .i64 ep, .int .i64 sq, .int .i64 f, .int .i64 t, .string (cutS v 210), .bool g]) ∧ Below w.heap.size w w' := by
  have fin : ∀ (k' v' : ByteArray), cutS k 110 = k' → cutS v 210 = v' → True := fun _ _ _ _ => trivial
  by_cases h1 : 110 < k.size
  · by_cases h2 : 210 < v.size
    · have e1 : cutS k 110 = k.extract 0 110 := if_pos h1
      have e2 : cutS v 210 = v.extract 0 210 := if_pos h2
      rw [e1, e2]
      have i1 : (110 : Int) < (k.size : Int) := by omega
      have i2 : (210 : Int) < (v.size : Int) := by omega
      clear e1 e2
      go_enter Try.func9, Try.ntmps9
      go_wp2
      exact bodyPost_ret (v := .agg #[.string (k.extract 0 110), .int .i64 br, .int .i64 ep, .int .i64 sq, .int .i64 f, .int .i64 t, .string (v.extract 0 210), .bool g]) (by simp [results, Try.results9, go_sem]) rfl ⟨rfl, by repeat (with_reducible first | exact Below.refl _ _ | apply below_alloc)⟩
    · have e1 : cutS k 110 = k.extract 0 110 := if_pos h1
      have e2 : cutS v 210 = v := if_neg h2
      rw [e1, e2]
      have i1 : (110 : Int) < (k.size : Int) := by omega
      have i2 : ¬ (210 : Int) < (v.size : Int) := by omega
      clear e1 e2
      go_enter Try.func9, Try.ntmps9
      go_wp2
      exact bodyPost_ret (v := .agg #[.string (k.extract 0 110), .int .i64 br, .int .i64 ep, .int .i64 sq, .int .i64 f, .int .i64 t, .string v, .bool g]) (by simp [results, Try.results9, go_sem]) rfl ⟨rfl, by repeat (with_reducible first | exact Below.refl _ _ | apply below_alloc)⟩
  · by_cases h2 : 210 < v.size
    · have e1 : cutS k 110 = k := if_neg h1
      have e2 : cutS v 210 = v.extract 0 210 := if_pos h2
      rw [e1, e2]
      have i1 : ¬ (110 : Int) < (k.size : Int) := by omega
      have i2 : (210 : Int) < (v.size : Int) := by omega
      clear e1 e2
      go_enter Try.func9, Try.ntmps9
      go_wp2
      exact bodyPost_ret (v := .agg #[.string k, .int .i64 br, .int .i64 ep, .int .i64 sq, .int .i64 f, .int .i64 t, .string (v.extract 0 210), .bool g]) (by simp [results, Try.results9, go_sem]) rfl ⟨rfl, by repeat (with_reducible first | exact Below.refl _ _ | apply below_alloc)⟩
    · have e1 : cutS k 110 = k := if_neg h1
      have e2 : cutS v 210 = v := if_neg h2
      rw [e1, e2]
      have i1 : ¬ (110 : Int) < (k.size : Int) := by omega
      have i2 : ¬ (210 : Int) < (v.size : Int) := by omega
      clear e1 e2
      go_enter Try.func9, Try.ntmps9
      go_wp2
      exact bodyPost_ret (v := .agg #[.string k, .int .i64 br, .int .i64 ep, .int .i64 sq, .int .i64 f, .int .i64 t, .string v, .bool g]) (by simp [results, Try.results9, go_sem]) rfl ⟨rfl, by repeat (with_reducible first | exact Below.refl _ _ | apply below_alloc)⟩
set_option maxRecDepth 100000 in
set_option maxHeartbeats 4000000 in
theorem refwrite_calls (k : ByteArray) (br ep sq f t : Int) (v : ByteArray) (g : Bool) (w : World) (hm : mayV ⟨k, br, ep, sq, f, t, v, g⟩ = true) :
    Calls Try.prog 18 #[.agg #[.string k, .int .i64 br, .int .i64 ep, .int .i64 sq, .int .i64 f, .int .i64 t, .string v, .bool g]] w fun e w' => ∃ u, e = .returned u ∧ OB w' w.heap.size u (bytesV ⟨k, br, ep, sq, f, t, v, g⟩) ∧ Below w.heap.size w w' := by
  obtain ⟨hsp, ⟨⟨⟨r1, r2⟩, ⟨r3, r4⟩⟩, ⟨r5, r6⟩⟩, ⟨r7, r8, r9⟩, r10, _⟩ := (mayV_iff _).1 hm
  have hks := key_size hsp
  simp only at r1 r2 r3 r4 r5 r6 r7 r8 r9 r10 hks
  have hbv : bytesV ⟨k, br, ep, sq, f, t, v, g⟩ = [br, ep, sq, f, t - f, goneI g].flatMap V.vput ++ (V.vtext k ++ V.vtext v) := rfl
  obtain ⟨BV, hBV⟩ : ∃ BV, bytesV ⟨k, br, ep, sq, f, t, v, g⟩ = BV := ⟨_, rfl⟩
  rw [hBV] at hbv ⊢
  have HBV := Aside0.mk hbv
  obtain ⟨gi, hgi⟩ : ∃ gi, goneI g = gi := ⟨_, rfl⟩
  rw [hgi] at HBV
  have HGI := Aside0.mk hgi
  have hgr : 0 ≤ gi ∧ gi ≤ 1 := by rw [← hgi]; cases g <;> simp [goneI]
  have hd1 : IntKind.i64.wrap (t - f) = t - f := IntWalk.i64_in _ (by omega)
  have hlen := fun k => V.flat_put_len (([br, ep, sq, f, t - f, gi]).take k) (by intro y hy; have hy := List.mem_of_mem_take hy; simp only [List.mem_cons, List.not_mem_nil, or_false] at hy; rcases hy with rfl | rfl | rfl | rfl | rfl | rfl <;> omega)
  have HLEN := Aside0.mk hlen
  have HALL : Aside0 (∀ y ∈ [br, ep, sq, f, t - f, gi], y ≤ 9223372036854775807) := ⟨by intro y hy; simp only [List.mem_cons, List.not_mem_nil, or_false] at hy; rcases hy with rfl | rfl | rfl | rfl | rfl | rfl <;> omega⟩
  clear hm hsp hBV hbv hlen hgi
  cases g with
  | false =>
    obtain rfl : gi = 0 := HGI.out.symm
    go_enter Try.func18, Try.ntmps18
    go_wp2_with fail
    have hC0 : (Kd.int .i64).C ((w.alloc (vrBox k br ep sq f t v false)).alloc (.cells #[.int .i64 br, .int .i64 ep, .int .i64 sq, .int .i64 f, .int .i64 (t - f), .int .i64 0] 3)) (some ⟨w.heap.size + 1, 0, none⟩) 6 [br, ep, sq, f, t - f, 0] := lit_CKn _ [br, ep, sq, f, t - f, 0] 3 (by simp) (0, 0) _ (by rw [World.size_alloc])
    have hX0 := box_keep (heap_alloc_new w (vrBox k br ep sq f t v false)) (below_alloc (Below.refl _ _) (.cells #[.int .i64 br, .int .i64 ep, .int .i64 sq, .int .i64 f, .int .i64 (t - f), .int .i64 0] 3))
    have hB0 := below_alloc (below_alloc (Below.refl w.heap.size w) (vrBox k br ep sq f t v false)) (.cells #[.int .i64 br, .int .i64 ep, .int .i64 sq, .int .i64 f, .int .i64 (t - f), .int .i64 0] 3)
    obtain ⟨w1, hw1⟩ : ∃ w1, (w.alloc (.cells #[.string k, .int .i64 br, .int .i64 ep, .int .i64 sq, .int .i64 f, .int .i64 t, .string v, .bool false] 27)).alloc (.cells #[.int .i64 br, .int .i64 ep, .int .i64 sq, .int .i64 f, .int .i64 (t - f), .int .i64 0] 3) = w1 := ⟨_, rfl⟩
    rw [hw1]
    have HC : Aside0 ((Kd.int .i64).C w1 (some ⟨w.heap.size + 1, 0, none⟩) 6 [br, ep, sq, f, t - f, 0]) := by rw [← hw1]; exact ⟨hC0⟩
    have HX : Aside0 (w1.heap[w.heap.size]? = some (vrBox k br ep sq f t v false)) := by rw [← hw1]; exact ⟨hX0⟩
    have HB : Aside0 (Below w.heap.size w w1) := by rw [← hw1]; exact ⟨hB0⟩
    clear hC0 hX0 hB0 hw1
    obtain ⟨L, hLd⟩ : ∃ L, [br, ep, sq, f, t - f, 0] = L := ⟨_, rfl⟩
    rw [hLd] at HC HLEN HALL HBV
    have hLl : L.length = 6 := by rw [← hLd]; rfl
    have HLL := Aside0.mk hLl
    clear hLd hLl
    go_loopw [3, 6] (fun v3 v6 w' => ∃ j : Nat, j ≤ 6 ∧ v6 = .int .i64 j ∧ Aside0 (OB w' w1.heap.size v3 ((L.take j).flatMap V.vput)) ∧ Aside0 (Below w1.heap.size w1 w')) (fun _ v6 _ => 6 - (intOf v6).toNat)
    case atStart => exact ⟨0, by omega, rfl, ⟨OB_nil _ _⟩, ⟨Below.refl _ _⟩⟩
    case round =>
      obtain ⟨j, hj, rfl, HO, HBr⟩ := hrel
      by_cases hlt : j < 6
      · have hq := C_at (by rw [HLL.out]; exact HC.out) j (by rw [HLL.out]; exact hlt)
        obtain ⟨ad, e, q0⟩ := hq
        injection e with e
        subst e
        have p0 := pw_cell_below HBr.out q0
        rw [add_plain] at p0
        have hfl := flat_take V.vput L 0 j (by rw [HLL.out]; exact hlt)
        have hmem : L.getD j 0 ≤ 9223372036854775807 := by
          have e : L.getD j 0 = L[j]'(by rw [HLL.out]; exact hlt) := by simp [List.getD_eq_getElem?_getD, HLL.out, hlt]
          rw [e]
          exact HALL.out _ (List.getElem_mem _)
        have hll := HLEN.out j
        rw [List.length_take, HLL.out] at hll
        generalize L.getD j 0 = a at *
        generalize (L.take j).flatMap V.vput = mid at *
        have HFL := Aside0.mk hfl
        have i1 : (0 : Int) ≤ (j : Int) := by omega
        have i2 : (j : Int) < 6 := by omega
        have hml : mid.length ≤ 54 := by omega
        clear hfl q0 hll
        go_wp2_with fail
        (with_reducible refine (V.refput_calls a _ hmem).mono ?_)
        rintro e w2 ⟨v2, rfl, HO2, hb2⟩
        have hvl := V.vput_le a hmem
        obtain ⟨n2, hn2⟩ : ∃ n2, (V.vput a).length = n2 := ⟨_, rfl⟩
        rw [hn2] at hvl
        obtain ⟨A2, c2, rfl, hc2, HC2⟩ := OB_readn HO2 n2 hn2
        have HOa := Aside0.mk (Kd.R_below HO.out hb2)
        have HBa := Aside0.mk (below_step HBr.out hb2)
        have HCa := Aside0.mk HC2
        have hsz : w1.heap.size ≤ w2.heap.size := HBa.out.size
        clear HO2 HC2 hb2 HO HBr p0 hn2
        go_wp2_with ((with_reducible refine gate_dst (N := 42) rfl ?_); refine app_bytes rfl rfl rfl rfl HOa.out HCa.out hsz (by omega) ?_; intro v4 w4 HO4 hb4 hg4 hat4)
        go_roundw
        case rel => exact ⟨j + 1, hlt, rfl, ⟨by rw [HFL.out]; exact HO4⟩, ⟨HBa.out.trans hb4⟩⟩
        case measure => simp [intOf]; omega
      · obtain rfl : j = 6 := by omega
        have hta : L.take 6 = L := List.take_of_length_le (by rw [HLL.out]; omega)
        have hO := HO.out
        rw [hta] at hO
        have hll := HLEN.out 6
        rw [hta, HLL.out] at hll
        have HO := Aside0.mk hO
        have HLL2 := Aside0.mk hll
        have hXr := box_keep HX.out HBr.out
        obtain ⟨x0, x1, x2, x3, x4, x5, x6, x7⟩ := vr_cells hXr
        have HXr := Aside0.mk hXr
        clear hO hll hta hXr
        go_wp2_with fail
        (with_reducible refine (V.reftext_calls k _ (by omega)).mono ?_)
        rintro e w2 ⟨v2, rfl, HO2, hb2⟩
        obtain ⟨n2, hn2⟩ : ∃ n2, (V.vtext k).length = n2 := ⟨_, rfl⟩
        have hn2l : n2 ≤ 110 := by rw [← hn2, V.vtext_len]; have := V.vput_le (k.size : Int) (by omega); omega
        obtain ⟨A2, c2, rfl, hc2, HC2⟩ := OB_readn HO2 n2 hn2
        have HOa := Aside0.mk (Kd.R_below HO.out hb2)
        have HBa := Aside0.mk (below_step HBr.out hb2)
        have HXa := Aside0.mk (box_keep HXr.out hb2)
        have HCa := Aside0.mk HC2
        have HN2 := Aside0.mk hn2
        have hsz : w1.heap.size ≤ w2.heap.size := HBa.out.size
        have hxlt : w.heap.size < w1.heap.size := blk_lt HX.out
        clear HO2 HC2 hb2 HO HBr x0 x1 x2 x3 x4 x5 x6 x7 hn2 HXr
        go_wp2_with ((with_reducible refine gate_dst (N := 47) rfl ?_); refine app_bytes rfl rfl rfl rfl HOa.out HCa.out hsz (by have := HLL2.out; omega) ?_; intro v4 w4 HO4 hb4 hg4 hat4; have HOb := Aside0.mk HO4; have HBb := Aside0.mk (HBa.out.trans hb4); obtain ⟨x0, x1, x2, x3, x4, x5, x6, x7⟩ := vr_cells ((hb4.block _ hxlt).trans HXa.out); clear HO4 hb4 hg4 hat4 HOa HBa HCa HXa)
        (with_reducible refine (V.reftext_calls v _ (by omega)).mono ?_)
        rintro e w5 ⟨v5, rfl, HO5, hb5⟩
        obtain ⟨n5, hn5⟩ : ∃ n5, (V.vtext v).length = n5 := ⟨_, rfl⟩
        have hn5l : n5 ≤ 220 := by rw [← hn5, V.vtext_len]; have := V.vput_le (v.size : Int) (by omega); omega
        obtain ⟨A5, c5, rfl, hc5, HC5⟩ := OB_readn HO5 n5 hn5
        have HOc := Aside0.mk (Kd.R_below HOb.out hb5)
        have HBc := Aside0.mk (below_step HBb.out hb5)
        have HCc := Aside0.mk HC5
        have hsz5 : w1.heap.size ≤ w5.heap.size := HBc.out.size
        have hlx : (L.flatMap V.vput ++ V.vtext k).length ≤ 200 := by rw [List.length_append, HN2.out]; have := HLL2.out; omega
        clear HO5 HC5 hb5 hn5 x0 x1 x2 x3 x4 x5 x6 x7 HOb HBb
        go_wp2_with ((with_reducible refine gate_dst (N := 52) rfl ?_); refine app_bytes rfl rfl rfl rfl HOc.out HCc.out hsz5 (by omega) ?_; intro v6 w6 HO6 hb6 hg6 hat6)
        go_ret
        exact ⟨_, rfl, by rw [HBV.out, ← List.append_assoc]; exact Kd.R_lower HO6 HB.out.size, below_step HB.out (HBc.out.trans hb6)⟩
  | true =>
    obtain rfl : gi = 1 := HGI.out.symm
    go_enter Try.func18, Try.ntmps18
    go_wp2_with fail
    have hC0 : (Kd.int .i64).C ((w.alloc (vrBox k br ep sq f t v true)).alloc (.cells #[.int .i64 br, .int .i64 ep, .int .i64 sq, .int .i64 f, .int .i64 (t - f), .int .i64 1] 3)) (some ⟨w.heap.size + 1, 0, none⟩) 6 [br, ep, sq, f, t - f, 1] := lit_CKn _ [br, ep, sq, f, t - f, 1] 3 (by simp) (0, 0) _ (by rw [World.size_alloc])
    have hX0 := box_keep (heap_alloc_new w (vrBox k br ep sq f t v true)) (below_alloc (Below.refl _ _) (.cells #[.int .i64 br, .int .i64 ep, .int .i64 sq, .int .i64 f, .int .i64 (t - f), .int .i64 1] 3))
    have hB0 := below_alloc (below_alloc (Below.refl w.heap.size w) (vrBox k br ep sq f t v true)) (.cells #[.int .i64 br, .int .i64 ep, .int .i64 sq, .int .i64 f, .int .i64 (t - f), .int .i64 1] 3)
    obtain ⟨w1, hw1⟩ : ∃ w1, (w.alloc (.cells #[.string k, .int .i64 br, .int .i64 ep, .int .i64 sq, .int .i64 f, .int .i64 t, .string v, .bool true] 27)).alloc (.cells #[.int .i64 br, .int .i64 ep, .int .i64 sq, .int .i64 f, .int .i64 (t - f), .int .i64 1] 3) = w1 := ⟨_, rfl⟩
    rw [hw1]
    have HC : Aside0 ((Kd.int .i64).C w1 (some ⟨w.heap.size + 1, 0, none⟩) 6 [br, ep, sq, f, t - f, 1]) := by rw [← hw1]; exact ⟨hC0⟩
    have HX : Aside0 (w1.heap[w.heap.size]? = some (vrBox k br ep sq f t v true)) := by rw [← hw1]; exact ⟨hX0⟩
    have HB : Aside0 (Below w.heap.size w w1) := by rw [← hw1]; exact ⟨hB0⟩
    clear hC0 hX0 hB0 hw1
    obtain ⟨L, hLd⟩ : ∃ L, [br, ep, sq, f, t - f, 1] = L := ⟨_, rfl⟩
    rw [hLd] at HC HLEN HALL HBV
    have hLl : L.length = 6 := by rw [← hLd]; rfl
    have HLL := Aside0.mk hLl
    clear hLd hLl
    go_loopw [3, 6] (fun v3 v6 w' => ∃ j : Nat, j ≤ 6 ∧ v6 = .int .i64 j ∧ Aside0 (OB w' w1.heap.size v3 ((L.take j).flatMap V.vput)) ∧ Aside0 (Below w1.heap.size w1 w')) (fun _ v6 _ => 6 - (intOf v6).toNat)
    case atStart => exact ⟨0, by omega, rfl, ⟨OB_nil _ _⟩, ⟨Below.refl _ _⟩⟩
    case round =>
      obtain ⟨j, hj, rfl, HO, HBr⟩ := hrel
      by_cases hlt : j < 6
      · have hq := C_at (by rw [HLL.out]; exact HC.out) j (by rw [HLL.out]; exact hlt)
        obtain ⟨ad, e, q0⟩ := hq
        injection e with e
        subst e
        have p0 := pw_cell_below HBr.out q0
        rw [add_plain] at p0
        have hfl := flat_take V.vput L 0 j (by rw [HLL.out]; exact hlt)
        have hmem : L.getD j 0 ≤ 9223372036854775807 := by
          have e : L.getD j 0 = L[j]'(by rw [HLL.out]; exact hlt) := by simp [List.getD_eq_getElem?_getD, HLL.out, hlt]
          rw [e]
          exact HALL.out _ (List.getElem_mem _)
        have hll := HLEN.out j
        rw [List.length_take, HLL.out] at hll
        generalize L.getD j 0 = a at *
        generalize (L.take j).flatMap V.vput = mid at *
        have HFL := Aside0.mk hfl
        have i1 : (0 : Int) ≤ (j : Int) := by omega
        have i2 : (j : Int) < 6 := by omega
        have hml : mid.length ≤ 54 := by omega
        clear hfl q0 hll
        go_wp2_with fail
        (with_reducible refine (V.refput_calls a _ hmem).mono ?_)
        rintro e w2 ⟨v2, rfl, HO2, hb2⟩
        have hvl := V.vput_le a hmem
        obtain ⟨n2, hn2⟩ : ∃ n2, (V.vput a).length = n2 := ⟨_, rfl⟩
        rw [hn2] at hvl
        obtain ⟨A2, c2, rfl, hc2, HC2⟩ := OB_readn HO2 n2 hn2
        have HOa := Aside0.mk (Kd.R_below HO.out hb2)
        have HBa := Aside0.mk (below_step HBr.out hb2)
        have HCa := Aside0.mk HC2
        have hsz : w1.heap.size ≤ w2.heap.size := HBa.out.size
        clear HO2 HC2 hb2 HO HBr p0 hn2
        go_wp2_with ((with_reducible refine gate_dst (N := 42) rfl ?_); refine app_bytes rfl rfl rfl rfl HOa.out HCa.out hsz (by omega) ?_; intro v4 w4 HO4 hb4 hg4 hat4)
        go_roundw
        case rel => exact ⟨j + 1, hlt, rfl, ⟨by rw [HFL.out]; exact HO4⟩, ⟨HBa.out.trans hb4⟩⟩
        case measure => simp [intOf]; omega
      · obtain rfl : j = 6 := by omega
        have hta : L.take 6 = L := List.take_of_length_le (by rw [HLL.out]; omega)
        have hO := HO.out
        rw [hta] at hO
        have hll := HLEN.out 6
        rw [hta, HLL.out] at hll
        have HO := Aside0.mk hO
        have HLL2 := Aside0.mk hll
        have hXr := box_keep HX.out HBr.out
        obtain ⟨x0, x1, x2, x3, x4, x5, x6, x7⟩ := vr_cells hXr
        have HXr := Aside0.mk hXr
        clear hO hll hta hXr
        go_wp2_with fail
        (with_reducible refine (V.reftext_calls k _ (by omega)).mono ?_)
        rintro e w2 ⟨v2, rfl, HO2, hb2⟩
        obtain ⟨n2, hn2⟩ : ∃ n2, (V.vtext k).length = n2 := ⟨_, rfl⟩
        have hn2l : n2 ≤ 110 := by rw [← hn2, V.vtext_len]; have := V.vput_le (k.size : Int) (by omega); omega
        obtain ⟨A2, c2, rfl, hc2, HC2⟩ := OB_readn HO2 n2 hn2
        have HOa := Aside0.mk (Kd.R_below HO.out hb2)
        have HBa := Aside0.mk (below_step HBr.out hb2)
        have HXa := Aside0.mk (box_keep HXr.out hb2)
        have HCa := Aside0.mk HC2
        have HN2 := Aside0.mk hn2
        have hsz : w1.heap.size ≤ w2.heap.size := HBa.out.size
        have hxlt : w.heap.size < w1.heap.size := blk_lt HX.out
        clear HO2 HC2 hb2 HO HBr x0 x1 x2 x3 x4 x5 x6 x7 hn2 HXr
        go_wp2_with ((with_reducible refine gate_dst (N := 47) rfl ?_); refine app_bytes rfl rfl rfl rfl HOa.out HCa.out hsz (by have := HLL2.out; omega) ?_; intro v4 w4 HO4 hb4 hg4 hat4; have HOb := Aside0.mk HO4; have HBb := Aside0.mk (HBa.out.trans hb4); obtain ⟨x0, x1, x2, x3, x4, x5, x6, x7⟩ := vr_cells ((hb4.block _ hxlt).trans HXa.out); clear HO4 hb4 hg4 hat4 HOa HBa HCa HXa)
        (with_reducible refine (V.reftext_calls v _ (by omega)).mono ?_)
        rintro e w5 ⟨v5, rfl, HO5, hb5⟩
        obtain ⟨n5, hn5⟩ : ∃ n5, (V.vtext v).length = n5 := ⟨_, rfl⟩
        have hn5l : n5 ≤ 220 := by rw [← hn5, V.vtext_len]; have := V.vput_le (v.size : Int) (by omega); omega
        obtain ⟨A5, c5, rfl, hc5, HC5⟩ := OB_readn HO5 n5 hn5
        have HOc := Aside0.mk (Kd.R_below HOb.out hb5)
        have HBc := Aside0.mk (below_step HBb.out hb5)
        have HCc := Aside0.mk HC5
        have hsz5 : w1.heap.size ≤ w5.heap.size := HBc.out.size
        have hlx : (L.flatMap V.vput ++ V.vtext k).length ≤ 200 := by rw [List.length_append, HN2.out]; have := HLL2.out; omega
        clear HO5 HC5 hb5 hn5 x0 x1 x2 x3 x4 x5 x6 x7 HOb HBb
        go_wp2_with ((with_reducible refine gate_dst (N := 52) rfl ?_); refine app_bytes rfl rfl rfl rfl HOc.out HCc.out hsz5 (by omega) ?_; intro v6 w6 HO6 hb6 hg6 hat6)
        go_ret
        exact ⟨_, rfl, by rw [HBV.out, ← List.append_assoc]; exact Kd.R_lower HO6 HB.out.size, below_step HB.out (HBc.out.trans hb6)⟩
end Go.Proofs.Ytmkabbfglijckaa.A
