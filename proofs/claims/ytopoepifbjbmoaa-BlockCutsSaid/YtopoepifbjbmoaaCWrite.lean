/- A block's bytes: the program's. -/
import Derived.Test.YtopoepifbjbmoaaCCommon
import Derived.Test.YtopoepifbjbmoaaCMay
namespace Go.Proofs.Ytopoepifbjbmoaa.A
open Go.RowKit Go.Proofs.YtopoepifbjbmoaaW.PrintWords Go.Proofs.YtopoepifbjbmoaaW.PrintLast Go.Proofs.YtopoepifbjbmoaaW.PrintMore
open R
set_option linter.unusedVariables false
set_option linter.unusedSimpArgs false

/-- A version's bytes behind a key. -/
def sufS (key k : ByteArray) : ByteArray := k.extract (comS key k) k.size
def bytesP (key : ByteArray) (p : Vr) : List Int := (V.vput (comS key p.k) ++ V.vtext (sufS key p.k)) ++ ([p.br, p.ep, p.sq, p.f, p.t - p.f, goneI p.g].flatMap V.vput ++ V.vtext p.v)
def bytesW : ByteArray → List Vr → List Int
  | _, [] => []
  | key, p :: l => bytesP key p ++ bytesW p.k l
/-- A block's bytes. -/
def blockB (l : List Vr) : List Int := V.vput l.length ++ bytesW { data := #[] } l
def lastK : ByteArray → List Vr → ByteArray
  | key, [] => key
  | _, p :: l => lastK p.k l
theorem bytesW_snoc (p : Vr) : ∀ (l : List Vr) (key : ByteArray), bytesW key (l ++ [p]) = bytesW key l ++ bytesP (lastK key l) p
  | [], key => by simp [bytesW, lastK]
  | q :: l, key => by rw [List.cons_append, bytesW, bytesW, bytesW_snoc p l q.k, lastK, List.append_assoc]
theorem lastK_snoc (p : Vr) : ∀ (l : List Vr) (key : ByteArray), lastK key (l ++ [p]) = p.k
  | [], key => rfl
  | q :: l, key => by rw [List.cons_append, lastK, lastK_snoc p l q.k]
theorem suf_size (key k : ByteArray) : (sufS key k).size = k.size - comS key k := by unfold sufS; rw [ByteArray.size_extract]; omega
theorem vput_small (n : Nat) (h : n < 128) : (V.vput (n : Int)).length = 1 := by rw [V.vput_nat, V.vnat_small h]; rfl
theorem key_le {p : Vr} (hm : mayV p = true) : p.k.size ≤ 92 := key_size ((mayV_iff p).1 hm).1
theorem bytesP_le (key : ByteArray) (p : Vr) (hm : mayV p = true) : (bytesP key p).length ≤ (bytesV p).length + 1 := by
  have h1 := key_le hm
  have h2 := comS_le key p.k
  have h3 := suf_size key p.k
  unfold bytesP bytesV
  simp only [List.length_append, V.vtext_len]
  rw [vput_small _ (by omega), vput_small _ (by omega), vput_small p.k.size (by omega)]
  omega
theorem bytesW_len : ∀ (l : List Vr) (key : ByteArray), (∀ p ∈ l, mayV p = true) → (bytesW key l).length ≤ 401 * l.length
  | [], _, _ => by simp [bytesW]
  | p :: l, key, h => by
    have h1 := bytesP_le key p (h p List.mem_cons_self)
    have h2 := bytesV_len p (h p List.mem_cons_self)
    have h3 := bytesW_len l p.k (fun q hq => h q (List.mem_cons_of_mem _ hq))
    rw [bytesW, List.length_append, List.length_cons]
    omega
theorem ok_may {l : List Vr} {k : Nat} (h : okN l k = true) (i : Nat) (hi : i < k) : mayV (l.getD i default) = true := by
  have := List.all_eq_true.1 h i (List.mem_range.2 hi)
  unfold stepOk at this
  rw [Bool.and_eq_true] at this
  exact this.1
theorem mem_getD {l : List Vr} {p : Vr} (h : p ∈ l) : ∃ i, i < l.length ∧ l.getD i default = p := by
  obtain ⟨i, hi, e⟩ := List.mem_iff_getElem.1 h
  exact ⟨i, hi, by rw [List.getD_eq_getElem?_getD, List.getElem?_eq_getElem hi]; exact e⟩
theorem mayBl_all {l : List Vr} (h : mayBl l = true) : (∀ p ∈ l, mayV p = true) ∧ 1 ≤ l.length ∧ l.length ≤ 8 := by
  unfold mayBl at h
  rw [Bool.and_eq_true, decide_eq_true_iff] at h
  refine ⟨fun p hp => ?_, h.2.1, h.2.2⟩
  obtain ⟨i, hi, rfl⟩ := mem_getD hp
  exact ok_may h.1 i hi
/-- The bytes so far, beside a version's box. -/
def WB (w : World) (x : Nat) (q : Vr) (A : Option Addr) (m : Nat) (B : List Int) (W : World) : Prop := W.heap[x]? = some (vrB q) ∧ U8.C W A m B ∧ Below w.heap.size w W
theorem WB_step {w : World} {x : Nat} {q : Vr} {A : Option Addr} {m : Nat} {B : List Int} {W W1 : World} (h : WB w x q A m B W) (hb : Below W.heap.size W W1) : WB w x q A m B W1 := ⟨box_keep h.1 hb, Kd.C_below h.2.1 hb, below_step h.2.2 hb⟩
theorem WB_b {w : World} {x : Nat} {q : Vr} {A : Option Addr} {m : Nat} {B : List Int} {W : World} (h : WB w x q A m B W) : Below w.heap.size w W := h.2.2
theorem WB_c {w : World} {x : Nat} {q : Vr} {A : Option Addr} {m : Nat} {B : List Int} {W : World} (h : WB w x q A m B W) : U8.C W A m B := h.2.1
theorem WB_x {w : World} {x : Nat} {q : Vr} {A : Option Addr} {m : Nat} {B : List Int} {W : World} (h : WB w x q A m B W) : W.heap[x]? = some (vrB q) := h.1
theorem WB_S1 {w : World} {x : Nat} {q : Vr} {A : Option Addr} {m : Nat} {B : List Int} {W : World} (h : WB w x q A m B W) : W.cell? ⟨x, 0, none⟩ = some (.string q.k) ∧ Aside0 (WB w x q A m B W) := by
  obtain ⟨a0, _⟩ := vr_cells h.1
  exact ⟨a0, ⟨h⟩⟩
/-- vary.Put(b, n), the number wherever it lies. -/
theorem putC_calls (A : Option Addr) (n c : Nat) (b : List Int) (A1 : Option Addr) (c1 : Nat) (x : Int) (w : World) (hr : U8.C w A n b) (hc : n ≤ c) (hr1 : (Kd.int .i64).C w A1 1 [x]) (hx : x ≤ 9223372036854775807) (hl : n ≤ 100000) :
    Calls Try.prog 36 #[.slice A n c, .slice A1 1 1] w fun e w' => ∃ v, e = .returned v ∧ OB w' w.heap.size v (b ++ V.vput x) ∧ Below w.heap.size w w' := by
  have h9 := V.vput_le x hx
  have hn := hr.1
  refine (V.put_calls A n c b _ 1 1 [x] _ hr hc hr1 (Nat.le_refl _) (by simpa using hx) (by rw [V.vput1]; omega)).mono ?_
  rintro e w' ⟨v, rfl, hO, hb⟩
  rw [V.vput1] at hO
  exact ⟨v, rfl, hO, hb⟩
/-- vary.Text(b, s), the text wherever it lies. -/
theorem textC_calls (A : Option Addr) (n c : Nat) (b : List Int) (A1 : Option Addr) (c1 : Nat) (x : ByteArray) (w : World) (hr : U8.C w A n b) (hc : n ≤ c) (hr1 : Kd.string.C w A1 1 [x]) (hx : x.size ≤ 100000) (hl : n ≤ 100000) :
    Calls Try.prog 38 #[.slice A n c, .slice A1 1 1] w fun e w' => ∃ v, e = .returned v ∧ OB w' w.heap.size v (b ++ V.vtext x) ∧ Below w.heap.size w w' := by
  have h9 := V.vput_le x.size (by omega)
  have hn := hr.1
  have ht := V.vtext_len x
  have hf : [x].flatMap V.vtext = V.vtext x := by simp
  refine (V.text_calls A n c b _ 1 1 [x] _ hr hc hr1 (Nat.le_refl _) (by rw [hf]; omega)).mono ?_
  rintro e w' ⟨v, rfl, hO, hb⟩
  rw [hf] at hO
  exact ⟨v, rfl, hO, hb⟩
theorem lastK_le : ∀ (l : List Vr) (key : ByteArray), key.size ≤ 92 → (∀ p ∈ l, p.k.size ≤ 92) → (lastK key l).size ≤ 92
  | [], key, h, _ => h
  | p :: l, key, _, h => lastK_le l p.k (h p List.mem_cons_self) (fun q hq => h q (List.mem_cons_of_mem _ hq))
set_option maxRecDepth 100000 in
set_option maxHeartbeats 8000000 in
theorem writeb_calls (A : Option Addr) (n c : Nat) (l : List Vr) (w : World) (hr : KVr.C w A n l) (hc : n ≤ c) (h8 : n ≤ 8) (hm : ∀ p ∈ l, mayV p = true) :
    Calls Try.prog 22 #[.slice A n c] w fun e w' => ∃ u, e = .returned u ∧ OB w' w.heap.size u (blockB l) ∧ Below w.heap.size w w' := by
  have HR := Aside0.mk hr
  have HM := Aside0.mk hm
  have HN := Aside0.mk hr.1
  clear hr hm
  go_enter Try.func22, Try.ntmps22
  go_wp2_with fail
  (with_reducible refine (V.put1_calls none 0 0 [] n w _ (Kd.C_nil _ _) (Nat.le_refl _) (by omega) (by omega)).mono ?_)
  rintro e w1 ⟨v1, rfl, hO1, hb1⟩
  rw [List.nil_append] at hO1
  have HO1 := Aside0.mk hO1
  have HB1 := Aside0.mk hb1
  clear hO1 hb1
  go_wp2_with fail
  go_loopw [3, 4, 15] (fun v3 v4 v15 w' => ∃ k : Nat, k ≤ n ∧ v15 = .int .i64 k ∧ v4 = .string (lastK { data := #[] } (l.take k)) ∧ Aside0 (OB w' w.heap.size v3 (V.vput (n : Int) ++ bytesW { data := #[] } (l.take k))) ∧ Aside0 (Below w.heap.size w w')) (fun _ _ v15 _ => n - (intOf v15).toNat)
  case atStart => exact ⟨0, Nat.zero_le _, rfl, rfl, ⟨by simpa [bytesW] using HO1.out⟩, HB1⟩
  case round =>
    obtain ⟨k, hk, rfl, rfl, HO, HB⟩ := hrel
    by_cases hlt : k < n
    · obtain ⟨q, hq⟩ : ∃ q, l.getD k default = q := ⟨_, rfl⟩
      have hml := getD_mem l k (by rw [HN.out]; exact hlt)
      rw [hq] at hml
      have HMQ := Aside0.mk (HM.out _ hml)
      have HTK : Aside0 (l.take (k + 1) = l.take k ++ [q]) := ⟨by rw [take_getD l k (by rw [HN.out]; exact hlt), hq]⟩
      have hX := C_atVr' (ad := (A.getD ⟨0, 0, none⟩)) (by obtain ⟨ad, e, _⟩ := C_atVr HR.out k hlt; subst e; exact Kd.C_below HR.out HB.out) k hlt q hq
      obtain ⟨ad, rfl, -⟩ := C_atVr HR.out k hlt
      have hbl := bytesW_len (l.take k) { data := #[] } (fun p hp => HM.out p (List.mem_of_mem_take hp))
      rw [List.length_take] at hbl
      have hks := lastK_le (l.take k) { data := #[] } (by decide) (fun p hp => key_le (HM.out p (List.mem_of_mem_take hp)))
      generalize hLK : lastK { data := #[] } (l.take k) = key at *
      have HLK := Aside0.mk hLK
      obtain ⟨m, hm⟩ : ∃ m, (V.vput (n : Int) ++ bytesW { data := #[] } (l.take k)).length = m := ⟨_, rfl⟩
      have hm4 : m ≤ 4000 := by
        rw [← hm, List.length_append, vput_small n (by omega)]
        omega
      obtain ⟨A4, c4, rfl, hc4, HC4'⟩ := OB_readn HO.out m hm
      have HC4 := Aside0.mk HC4'
      have hk92 := key_le HMQ.out
      obtain ⟨_, ⟨⟨⟨r1, r2⟩, ⟨r3, r4⟩⟩, ⟨r5, r6⟩⟩, ⟨r7, r8, r9⟩, r10, _⟩ := (mayV_iff _).1 HMQ.out
      obtain ⟨qk, qbr, qep, qsq, qf, qt, qv, qg⟩ := q
      simp only at hk92 r1 r2 r3 r4 r5 r6 r7 r8 r9 r10
      obtain ⟨p0, p1, p2, p3, p4, p5, p6, p7⟩ := hX
      simp only [Option.getD_some] at p0 p1 p2 p3 p4 p5 p6 p7
      generalize hB : V.vput (n : Int) ++ bytesW { data := #[] } (l.take k) = B at *
      have HMB := Aside0.mk hm
      have HBB := Aside0.mk hB
      clear hml hbl hLK HC4' hm hq hB
      have i1 : (k : Int) < (n : Int) := by omega
      have i2 : (0 : Int) ≤ (k : Int) := by omega
      have HI0 : Aside0 (WB w wr.heap.size ⟨qk, qbr, qep, qsq, qf, qt, qv, qg⟩ A4 m B (wr.alloc (vrBox qk qbr qep qsq qf qt qv qg))) := by
        have hal := below_alloc (Below.refl wr.heap.size wr) (vrBox qk qbr qep qsq qf qt qv qg)
        exact ⟨heap_alloc_new wr _, Kd.C_below HC4.out hal, below_step HB.out hal⟩
      clear HC4 HB HO
      go_wp2_with fail
      (with_reducible refine (common_calls key qk _ (by omega) (by omega)).mono ?_)
      rintro e w2 ⟨rfl, hb2⟩
      have HI2 := Aside0.mk (WB_step HI0.out hb2)
      have hcs := comS_le key qk
      obtain ⟨cn, hcn⟩ : ∃ cn, comS key qk = cn := ⟨_, rfl⟩
      rw [hcn] at hcs ⊢
      have HCN := Aside0.mk hcn
      obtain ⟨x0, x1, x2, x3, x4, x5, x6, x7⟩ := vr_cells (WB_x HI2.out)
      clear hb2 HI0 p0 p1 p2 p3 p4 p5 p6 p7 hcn
      have hcs2 : cn ≤ qk.size := hcs.2
      have j1 : (0 : Int) ≤ (cn : Int) := by omega
      have j2 : (cn : Int) ≤ (qk.size : Int) := by omega
      have hcn92 : cn ≤ 92 := by omega
      have HVC : Aside0 ((V.vput (cn : Int)).length = 1) := ⟨vput_small cn (by omega)⟩
      clear hcs
      obtain ⟨SF, hSF⟩ : ∃ SF, qk.extract cn qk.size = SF := ⟨_, rfl⟩
      have hSFs : SF.size ≤ 92 := by rw [← hSF, ByteArray.size_extract]; omega
      have HSF : Aside0 (sufS key qk = SF) := ⟨by unfold sufS; rw [HCN.out]; exact hSF⟩
      cases qg with
      | false =>
        go_wp2_with fail
        have HI2d := Aside0.mk (WB_step HI2.out (below_drew1 (Below.refl _ _)))
        rename_i K hK
        clear x0 x1 x2 x3 x4 x5 x6 x7
        have HK : Aside0 (∀ (x27 x28 x33 u34 : Value) (W : World), OB W w.heap.size u34 ((B ++ V.vput cn) ++ V.vtext SF) → W.heap[wr.heap.size]? = some (vrBox qk qbr qep qsq qf qt qv false) → Below w.heap.size w W → K { tmps := #[.slice (some ad) n c, undef, .slice none 0 0, u34, .string key, undef, .pointer (some ⟨wr.heap.size, 0, none⟩), .int .i64 cn, .int .i64 0, .slice (some ad) n c, .int .i64 n, .slice (some ⟨w.heap.size, 0, none⟩) 1 1, v1, .slice (some ad) n c, .int .i64 n, .int .i64 k, .bool true, .pointer (some (ad.add (k * 8))), .agg #[.string qk, .int .i64 qbr, .int .i64 qep, .int .i64 qsq, .int .i64 qf, .int .i64 qt, .string qv, .bool false], .string key, .pointer (some ⟨wr.heap.size, 0, none⟩), .string qk, .int .i64 cn, .pointer (some ⟨wr.heap.size, 7, none⟩), .bool false, .slice A4 m c4, .int .i64 cn, x27, x28, .pointer (some ⟨wr.heap.size, 0, none⟩), .string qk, .int .i64 cn, .string SF, x33, u34, u35, u36, u37, u38, u39, u40, u41, u42, u43, u44, u45, u46, u47, u48, u49, u50, u51, u52, u53, u54, u55, u56, u57, u58, u59, u60, u61, u62, u63, u64, u65, undef], defers := [] } W) := ⟨by
          intro x27 x28 x33 u34 W HOW hXW HBW
          refine hK _ _ ?_
          clear hK
          have HXW := Aside0.mk hXW
          obtain ⟨y0, y1, y2, y3, y4, y5, y6, y7⟩ := vr_cells hXW
          obtain ⟨m5, hm5⟩ : ∃ m5, ((B ++ V.vput (cn : Int)) ++ V.vtext SF).length = m5 := ⟨_, rfl⟩
          have hm5l : m5 ≤ 5000 := by
            have h9 := V.vput_le SF.size (by omega)
            have hB5 := HMB.out
            have hv5 := HVC.out
            rw [← hm5, List.length_append, List.length_append, V.vtext_len]
            omega
          obtain ⟨A5, c5, rfl, hc5, hC5⟩ := OB_readn HOW m5 hm5
          have HC5 := Aside0.mk hC5
          have HBW := Aside0.mk HBW
          obtain ⟨B5, hB5⟩ : ∃ B5, ((B ++ V.vput (cn : Int)) ++ V.vtext SF) = B5 := ⟨_, rfl⟩
          have HB5 := Aside0.mk hB5
          rw [hB5] at HC5
          clear hB5
          clear hC5 HOW hm5 hXW
          go_wp2_with fail
          have hlen := V.flat_put_len [qbr, qep, qsq, qf, qt - qf, 0] (by intro y hy; simp only [List.mem_cons, List.not_mem_nil, or_false] at hy; rcases hy with rfl | rfl | rfl | rfl | rfl | rfl <;> omega)
          simp only [List.length_cons, List.length_nil] at hlen
          have HLEN := Aside0.mk hlen
          have HALL : Aside0 (∀ y ∈ [qbr, qep, qsq, qf, qt - qf, 0], y ≤ 9223372036854775807) := ⟨by intro y hy; simp only [List.mem_cons, List.not_mem_nil, or_false] at hy; rcases hy with rfl | rfl | rfl | rfl | rfl | rfl <;> omega⟩
          clear hlen
          have hal := below_alloc (Below.refl W.heap.size W) (.cells #[.int .i64 qbr, .int .i64 qep, .int .i64 qsq, .int .i64 qf, .int .i64 (qt - qf), .int .i64 0] 3)
          (with_reducible refine (V.put_calls A5 m5 c5 B5 _ 6 6 [qbr, qep, qsq, qf, qt - qf, 0] _ (Kd.C_below HC5.out hal) hc5 (lit_CKn _ [qbr, qep, qsq, qf, qt - qf, 0] _ (by simp) (0, 0) _ rfl) (Nat.le_refl _) ?_ ?_).mono ?_)
          · exact HALL.out
          · have := HLEN.out
            have := HC5.out.1
            omega
          rintro e V2 ⟨v2, rfl, HO2, hb2⟩
          have HXV := Aside0.mk (box_keep (box_keep HXW.out hal) hb2)
          have HBV := Aside0.mk (below_step (below_step HBW.out hal) hb2)
          obtain ⟨m6, hm6⟩ : ∃ m6, (B5 ++ [qbr, qep, qsq, qf, qt - qf, 0].flatMap V.vput).length = m6 := ⟨_, rfl⟩
          have hm6l : m6 ≤ 6000 := by
            have := HLEN.out
            have := HC5.out.1
            rw [← hm6, List.length_append]
            omega
          obtain ⟨A6, c6, rfl, hc6, hC6⟩ := OB_readn HO2 m6 hm6
          have HC6 := Aside0.mk hC6
          clear hC6 HO2 hb2 hal hm6 y0 y1 y2 y3 y4 y5 y6 y7
          obtain ⟨y0, y1, y2, y3, y4, y5, y6, y7⟩ := vr_cells HXV.out
          go_wp2_with fail
          (with_reducible refine (V.text1_calls A6 m6 c6 _ qv V2 _ HC6.out hc6 (by omega) (by omega)).mono ?_)
          rintro e V3 ⟨v3, rfl, HO3, hb3⟩
          have HXV3 := Aside0.mk (box_keep HXV.out hb3)
          have HO3' := Aside0.mk (Kd.R_lower HO3 HBV.out.size)
          have HBV3 := Aside0.mk (below_step HBV.out hb3)
          clear HO3 hb3 y0 y1 y2 y3 y4 y5 y6 y7
          obtain ⟨y0, y1, y2, y3, y4, y5, y6, y7⟩ := vr_cells HXV3.out
          go_wp2_with fail
          go_roundw
          case rel => exact ⟨k + 1, hlt, by push_cast; rfl, by rw [HTK.out, lastK_snoc], ⟨by rw [HTK.out, bytesW_snoc, HLK.out, ← List.append_assoc, HBB.out]; have h := HO3'.out; rw [← HB5.out] at h; unfold bytesP; rw [HCN.out, HSF.out]; simpa [goneI, List.append_assoc] using h⟩, HBV3⟩
          case measure => simp [intOf]; omega⟩
        refine wp_region_held_drew (S := (fun w' => w'.cell? ⟨wr.heap.size, 0, none⟩ = some (.string qk) ∧ Aside0 (WB w wr.heap.size ⟨qk, qbr, qep, qsq, qf, qt, qv, false⟩ A4 m B w'))) (by kernel_rfl) (WB_S1 HI2d.out) (fun hHeld => ?_)
        obtain ⟨wd, hwd⟩ : ∃ wd, w2.drew = wd := ⟨_, rfl⟩
        rw [hwd] at HI2d hHeld ⊢
        clear hwd
        (refine hd_take 0 (v := ?_) rfl (by kernel_rfl) (by kernel_rfl) (fun _ _ _ h => h) (by assumption) ?_ ?_; rotate_left; (intro w hSw; (try dsimp only at hSw); go_simp; first | done | with_reducible rfl); simp only [Act.put, List.setIfInBounds_toArray, List.set_cons_zero, List.set_cons_succ])
        (refine hd_take 1 (v := ?_) rfl (by kernel_rfl) (by kernel_rfl) (fun _ _ _ h => h) (by assumption) ?_ ?_; rotate_left; (intro w hSw; (try dsimp only at hSw); go_simp; first | done | with_reducible rfl); simp only [Act.put, List.setIfInBounds_toArray, List.set_cons_zero, List.set_cons_succ])
        (refine hd_take 4 (v := ?_) rfl (by kernel_rfl) (by kernel_rfl) (fun _ _ _ h => h) (by assumption) ?_ ?_; rotate_left; (intro w hSw; (try dsimp only at hSw); go_simp; first | done | with_reducible rfl); simp only [Act.put, List.setIfInBounds_toArray, List.set_cons_zero, List.set_cons_succ])
        (refine hd_take 5 (v := ?_) rfl (by kernel_rfl) (by kernel_rfl) (fun _ _ _ h => h) (by assumption) ?_ ?_; rotate_left; (intro w hSw; (try dsimp only at hSw); go_simp; first | done | with_reducible rfl); simp only [Act.put, List.setIfInBounds_toArray, List.set_cons_zero, List.set_cons_succ])
        (refine hd_take 6 (v := ?_) rfl (by kernel_rfl) (by kernel_rfl) (fun _ _ _ h => h) (by assumption) ?_ ?_; rotate_left; (intro w hSw; (try dsimp only at hSw); go_simp; first | done | with_reducible rfl); simp only [Act.put, List.setIfInBounds_toArray, List.set_cons_zero, List.set_cons_succ])
        (refine hd_take 7 (v := ?_) rfl (by kernel_rfl) (by kernel_rfl) (fun _ _ _ h => h) (by assumption) ?_ ?_; rotate_left; (intro w hSw; (try dsimp only at hSw); go_simp; first | done | with_reducible rfl); simp only [Act.put, List.setIfInBounds_toArray, List.set_cons_zero, List.set_cons_succ])
        refine hd_two 2 8 rfl rfl (by kernel_rfl) (fun K1 hK1 => ?_) (fun K1 hK1 => ?_)
        · go_simp
          obtain ⟨W1, hW1⟩ : ∃ W1, wd.alloc (.cells #[.int .i64 cn] 3) = W1 := ⟨_, rfl⟩
          have hz1 : wd.heap.size + 1 = W1.heap.size := by rw [← hW1, World.size_alloc]
          have HL1 : Aside0 ((Kd.int .i64).C W1 (some ⟨wd.heap.size, 0, none⟩) 1 [(cn : Int)]) := by rw [← hW1]; exact ⟨lit_CK wd [(cn : Int)] _ (by simp) (0, 0)⟩
          have HI3 : Aside0 (WB w wr.heap.size ⟨qk, qbr, qep, qsq, qf, qt, qv, false⟩ A4 m B W1) := by rw [← hW1]; exact ⟨WB_step HI2d.out (below_alloc (Below.refl _ _) _)⟩
          rw [hW1]
          refine hK1.out _ _ (WB_S1 HI3.out) (fun hHeld => ?_)
          clear hK1 K1 hW1
          refine hd_two 3 8 rfl rfl (by kernel_rfl) (fun K1 hK1 => ?_) (fun K1 hK1 => ?_)
          · go_simp
            go_wp2_with ((go_at_call 36); (with_reducible refine (putC_calls A4 m c4 B _ 1 cn W1 (WB_c HI3.out) hc4 HL1.out (by omega) (by omega)).mono ?_); rintro e W2 ⟨v28, rfl, hO2, hb2⟩; have HO2 := Aside0.mk hO2; have HI4 := Aside0.mk (WB_step HI3.out hb2); have hz2 := hb2.size; clear hO2 hb2)
            refine hK1.out _ _ (WB_S1 HI4.out) (fun hHeld => ?_)
            clear hK1 K1
            refine hd_one 8 rfl (by kernel_rfl) (fun K1 hK1 => ?_)
            go_simp
            obtain ⟨W3, hW3⟩ : ∃ W3, W2.alloc (.cells #[.string SF] 9) = W3 := ⟨_, rfl⟩
            have HL2 : Aside0 (Kd.string.C W3 (some ⟨W2.heap.size, 0, none⟩) 1 [SF]) := by rw [← hW3]; exact ⟨V.lit_CT W2 [SF] _ (by simp) (0, 0)⟩
            have HI5 : Aside0 (WB w wr.heap.size ⟨qk, qbr, qep, qsq, qf, qt, qv, false⟩ A4 m B W3) := by rw [← hW3]; exact ⟨WB_step HI4.out (below_alloc (Below.refl _ _) _)⟩
            have HO3 : Aside0 (OB W3 W1.heap.size v28 (B ++ V.vput cn)) := by rw [← hW3]; exact ⟨Kd.R_below HO2.out (below_alloc (Below.refl _ _) _)⟩
            rw [hW3]
            refine hK1.out _ _ (WB_S1 HI5.out) (fun hHeld => ?_)
            clear hK1 K1 hW3
            obtain ⟨A28, c28, rfl, hc28, hC28⟩ := OB_readn HO3.out (m + 1) (by rw [List.length_append, HMB.out, HVC.out])
            refine hd_one 9 rfl (by kernel_rfl) (fun K1 hK1 => ?_)
            go_simp
            go_wp2_with ((go_at_call 38); (with_reducible refine (textC_calls A28 _ c28 _ _ 1 SF W3 hC28 hc28 HL2.out (by omega) (by omega)).mono ?_); rintro e W4 ⟨v34, rfl, hO4, hb4⟩; have HO4 := Aside0.mk (Kd.R_lower hO4 (WB_b HI5.out).size); have HI6 := Aside0.mk (WB_step HI5.out hb4); clear hO4 hb4)
            refine hK1.out _ _ (WB_S1 HI6.out) (fun hHeld => ?_)
            clear hK1 K1
            (refine hd_take 10 (v := ?_) rfl (by kernel_rfl) (by kernel_rfl) (fun _ _ _ h => h) (by assumption) ?_ ?_; rotate_left; (intro w hSw; (try dsimp only at hSw); go_simp; first | done | with_reducible rfl); simp only [Act.put, List.setIfInBounds_toArray, List.set_cons_zero, List.set_cons_succ])
            refine wpAnyH_done (by kernel_rfl) ?_ _
            exact HK.out _ _ _ _ _ HO4.out (WB_x HI6.out) (WB_b HI6.out)
          · go_simp
            obtain ⟨W3, hW3⟩ : ∃ W3, W1.alloc (.cells #[.string SF] 9) = W3 := ⟨_, rfl⟩
            have HL2 : Aside0 (Kd.string.C W3 (some ⟨W1.heap.size, 0, none⟩) 1 [SF]) := by rw [← hW3]; exact ⟨V.lit_CT W1 [SF] _ (by simp) (0, 0)⟩
            have HL3 : Aside0 ((Kd.int .i64).C W3 (some ⟨wd.heap.size, 0, none⟩) 1 [(cn : Int)]) := by rw [← hW3]; exact ⟨Kd.C_alloc HL1.out _⟩
            have HI5 : Aside0 (WB w wr.heap.size ⟨qk, qbr, qep, qsq, qf, qt, qv, false⟩ A4 m B W3) := by rw [← hW3]; exact ⟨WB_step HI3.out (below_alloc (Below.refl _ _) _)⟩
            rw [hW3]
            refine hK1.out _ _ (WB_S1 HI5.out) (fun hHeld => ?_)
            clear hK1 K1 hW3
            refine hd_one 3 rfl (by kernel_rfl) (fun K1 hK1 => ?_)
            go_simp
            go_wp2_with ((go_at_call 36); (with_reducible refine (putC_calls A4 m c4 B _ 1 cn W3 (WB_c HI5.out) hc4 HL3.out (by omega) (by omega)).mono ?_); rintro e W2 ⟨v28, rfl, hO2, hb2⟩; have HO2 := Aside0.mk hO2; have HI4 := Aside0.mk (WB_step HI5.out hb2); have HL4 := Aside0.mk (Kd.C_below HL2.out hb2); clear hO2 hb2)
            refine hK1.out _ _ (WB_S1 HI4.out) (fun hHeld => ?_)
            clear hK1 K1
            obtain ⟨A28, c28, rfl, hc28, hC28⟩ := OB_readn HO2.out (m + 1) (by rw [List.length_append, HMB.out, HVC.out])
            refine hd_one 9 rfl (by kernel_rfl) (fun K1 hK1 => ?_)
            go_simp
            go_wp2_with ((go_at_call 38); (with_reducible refine (textC_calls A28 _ c28 _ _ 1 SF W2 hC28 hc28 HL4.out (by omega) (by omega)).mono ?_); rintro e W4 ⟨v34, rfl, hO4, hb4⟩; have HO4 := Aside0.mk (Kd.R_lower hO4 (WB_b HI4.out).size); have HI6 := Aside0.mk (WB_step HI4.out hb4); clear hO4 hb4)
            refine hK1.out _ _ (WB_S1 HI6.out) (fun hHeld => ?_)
            clear hK1 K1
            (refine hd_take 10 (v := ?_) rfl (by kernel_rfl) (by kernel_rfl) (fun _ _ _ h => h) (by assumption) ?_ ?_; rotate_left; (intro w hSw; (try dsimp only at hSw); go_simp; first | done | with_reducible rfl); simp only [Act.put, List.setIfInBounds_toArray, List.set_cons_zero, List.set_cons_succ])
            refine wpAnyH_done (by kernel_rfl) ?_ _
            exact HK.out _ _ _ _ _ HO4.out (WB_x HI6.out) (WB_b HI6.out)
        · go_simp
          obtain ⟨W1, hW1⟩ : ∃ W1, wd.alloc (.cells #[.string SF] 9) = W1 := ⟨_, rfl⟩
          have HL2 : Aside0 (Kd.string.C W1 (some ⟨wd.heap.size, 0, none⟩) 1 [SF]) := by rw [← hW1]; exact ⟨V.lit_CT wd [SF] _ (by simp) (0, 0)⟩
          have HI3 : Aside0 (WB w wr.heap.size ⟨qk, qbr, qep, qsq, qf, qt, qv, false⟩ A4 m B W1) := by rw [← hW1]; exact ⟨WB_step HI2d.out (below_alloc (Below.refl _ _) _)⟩
          rw [hW1]
          refine hK1.out _ _ (WB_S1 HI3.out) (fun hHeld => ?_)
          clear hK1 K1 hW1
          refine hd_one 2 rfl (by kernel_rfl) (fun K1 hK1 => ?_)
          go_simp
          obtain ⟨W3, hW3⟩ : ∃ W3, W1.alloc (.cells #[.int .i64 cn] 3) = W3 := ⟨_, rfl⟩
          have HL3 : Aside0 ((Kd.int .i64).C W3 (some ⟨W1.heap.size, 0, none⟩) 1 [(cn : Int)]) := by rw [← hW3]; exact ⟨lit_CK W1 [(cn : Int)] _ (by simp) (0, 0)⟩
          have HL5 : Aside0 (Kd.string.C W3 (some ⟨wd.heap.size, 0, none⟩) 1 [SF]) := by rw [← hW3]; exact ⟨Kd.C_alloc HL2.out _⟩
          have HI5 : Aside0 (WB w wr.heap.size ⟨qk, qbr, qep, qsq, qf, qt, qv, false⟩ A4 m B W3) := by rw [← hW3]; exact ⟨WB_step HI3.out (below_alloc (Below.refl _ _) _)⟩
          rw [hW3]
          refine hK1.out _ _ (WB_S1 HI5.out) (fun hHeld => ?_)
          clear hK1 K1 hW3
          · refine hd_one 3 rfl (by kernel_rfl) (fun K1 hK1 => ?_)
            go_simp
            go_wp2_with ((go_at_call 36); (with_reducible refine (putC_calls A4 m c4 B _ 1 cn W3 (WB_c HI5.out) hc4 HL3.out (by omega) (by omega)).mono ?_); rintro e W2 ⟨v28, rfl, hO2, hb2⟩; have HO2 := Aside0.mk hO2; have HI4 := Aside0.mk (WB_step HI5.out hb2); have HL4 := Aside0.mk (Kd.C_below HL5.out hb2); clear hO2 hb2)
            refine hK1.out _ _ (WB_S1 HI4.out) (fun hHeld => ?_)
            clear hK1 K1
            obtain ⟨A28, c28, rfl, hc28, hC28⟩ := OB_readn HO2.out (m + 1) (by rw [List.length_append, HMB.out, HVC.out])
            refine hd_one 9 rfl (by kernel_rfl) (fun K1 hK1 => ?_)
            go_simp
            go_wp2_with ((go_at_call 38); (with_reducible refine (textC_calls A28 _ c28 _ _ 1 SF W2 hC28 hc28 HL4.out (by omega) (by omega)).mono ?_); rintro e W4 ⟨v34, rfl, hO4, hb4⟩; have HO4 := Aside0.mk (Kd.R_lower hO4 (WB_b HI4.out).size); have HI6 := Aside0.mk (WB_step HI4.out hb4); clear hO4 hb4)
            refine hK1.out _ _ (WB_S1 HI6.out) (fun hHeld => ?_)
            clear hK1 K1
            (refine hd_take 10 (v := ?_) rfl (by kernel_rfl) (by kernel_rfl) (fun _ _ _ h => h) (by assumption) ?_ ?_; rotate_left; (intro w hSw; (try dsimp only at hSw); go_simp; first | done | with_reducible rfl); simp only [Act.put, List.setIfInBounds_toArray, List.set_cons_zero, List.set_cons_succ])
            refine wpAnyH_done (by kernel_rfl) ?_ _
            exact HK.out _ _ _ _ _ HO4.out (WB_x HI6.out) (WB_b HI6.out)
      | true =>
        go_wp2_with fail
        have HI2d := Aside0.mk (WB_step HI2.out (below_drew1 (Below.refl _ _)))
        rename_i K hK
        clear x0 x1 x2 x3 x4 x5 x6 x7
        have HK : Aside0 (∀ (x27 x28 x33 u34 : Value) (W : World), OB W w.heap.size u34 ((B ++ V.vput cn) ++ V.vtext SF) → W.heap[wr.heap.size]? = some (vrBox qk qbr qep qsq qf qt qv true) → Below w.heap.size w W → K { tmps := #[.slice (some ad) n c, undef, .slice none 0 0, u34, .string key, undef, .pointer (some ⟨wr.heap.size, 0, none⟩), .int .i64 cn, .int .i64 1, .slice (some ad) n c, .int .i64 n, .slice (some ⟨w.heap.size, 0, none⟩) 1 1, v1, .slice (some ad) n c, .int .i64 n, .int .i64 k, .bool true, .pointer (some (ad.add (k * 8))), .agg #[.string qk, .int .i64 qbr, .int .i64 qep, .int .i64 qsq, .int .i64 qf, .int .i64 qt, .string qv, .bool true], .string key, .pointer (some ⟨wr.heap.size, 0, none⟩), .string qk, .int .i64 cn, .pointer (some ⟨wr.heap.size, 7, none⟩), .bool true, .slice A4 m c4, .int .i64 cn, x27, x28, .pointer (some ⟨wr.heap.size, 0, none⟩), .string qk, .int .i64 cn, .string SF, x33, u34, u35, u36, u37, u38, u39, u40, u41, u42, u43, u44, u45, u46, u47, u48, u49, u50, u51, u52, u53, u54, u55, u56, u57, u58, u59, u60, u61, u62, u63, u64, u65, undef], defers := [] } W) := ⟨by
          intro x27 x28 x33 u34 W HOW hXW HBW
          refine hK _ _ ?_
          clear hK
          have HXW := Aside0.mk hXW
          obtain ⟨y0, y1, y2, y3, y4, y5, y6, y7⟩ := vr_cells hXW
          obtain ⟨m5, hm5⟩ : ∃ m5, ((B ++ V.vput (cn : Int)) ++ V.vtext SF).length = m5 := ⟨_, rfl⟩
          have hm5l : m5 ≤ 5000 := by
            have h9 := V.vput_le SF.size (by omega)
            have hB5 := HMB.out
            have hv5 := HVC.out
            rw [← hm5, List.length_append, List.length_append, V.vtext_len]
            omega
          obtain ⟨A5, c5, rfl, hc5, hC5⟩ := OB_readn HOW m5 hm5
          have HC5 := Aside0.mk hC5
          have HBW := Aside0.mk HBW
          obtain ⟨B5, hB5⟩ : ∃ B5, ((B ++ V.vput (cn : Int)) ++ V.vtext SF) = B5 := ⟨_, rfl⟩
          have HB5 := Aside0.mk hB5
          rw [hB5] at HC5
          clear hB5
          clear hC5 HOW hm5 hXW
          go_wp2_with fail
          have hlen := V.flat_put_len [qbr, qep, qsq, qf, qt - qf, 1] (by intro y hy; simp only [List.mem_cons, List.not_mem_nil, or_false] at hy; rcases hy with rfl | rfl | rfl | rfl | rfl | rfl <;> omega)
          simp only [List.length_cons, List.length_nil] at hlen
          have HLEN := Aside0.mk hlen
          have HALL : Aside0 (∀ y ∈ [qbr, qep, qsq, qf, qt - qf, 1], y ≤ 9223372036854775807) := ⟨by intro y hy; simp only [List.mem_cons, List.not_mem_nil, or_false] at hy; rcases hy with rfl | rfl | rfl | rfl | rfl | rfl <;> omega⟩
          clear hlen
          have hal := below_alloc (Below.refl W.heap.size W) (.cells #[.int .i64 qbr, .int .i64 qep, .int .i64 qsq, .int .i64 qf, .int .i64 (qt - qf), .int .i64 1] 3)
          (with_reducible refine (V.put_calls A5 m5 c5 B5 _ 6 6 [qbr, qep, qsq, qf, qt - qf, 1] _ (Kd.C_below HC5.out hal) hc5 (lit_CKn _ [qbr, qep, qsq, qf, qt - qf, 1] _ (by simp) (0, 0) _ rfl) (Nat.le_refl _) ?_ ?_).mono ?_)
          · exact HALL.out
          · have := HLEN.out
            have := HC5.out.1
            omega
          rintro e V2 ⟨v2, rfl, HO2, hb2⟩
          have HXV := Aside0.mk (box_keep (box_keep HXW.out hal) hb2)
          have HBV := Aside0.mk (below_step (below_step HBW.out hal) hb2)
          obtain ⟨m6, hm6⟩ : ∃ m6, (B5 ++ [qbr, qep, qsq, qf, qt - qf, 1].flatMap V.vput).length = m6 := ⟨_, rfl⟩
          have hm6l : m6 ≤ 6000 := by
            have := HLEN.out
            have := HC5.out.1
            rw [← hm6, List.length_append]
            omega
          obtain ⟨A6, c6, rfl, hc6, hC6⟩ := OB_readn HO2 m6 hm6
          have HC6 := Aside0.mk hC6
          clear hC6 HO2 hb2 hal hm6 y0 y1 y2 y3 y4 y5 y6 y7
          obtain ⟨y0, y1, y2, y3, y4, y5, y6, y7⟩ := vr_cells HXV.out
          go_wp2_with fail
          (with_reducible refine (V.text1_calls A6 m6 c6 _ qv V2 _ HC6.out hc6 (by omega) (by omega)).mono ?_)
          rintro e V3 ⟨v3, rfl, HO3, hb3⟩
          have HXV3 := Aside0.mk (box_keep HXV.out hb3)
          have HO3' := Aside0.mk (Kd.R_lower HO3 HBV.out.size)
          have HBV3 := Aside0.mk (below_step HBV.out hb3)
          clear HO3 hb3 y0 y1 y2 y3 y4 y5 y6 y7
          obtain ⟨y0, y1, y2, y3, y4, y5, y6, y7⟩ := vr_cells HXV3.out
          go_wp2_with fail
          go_roundw
          case rel => exact ⟨k + 1, hlt, by push_cast; rfl, by rw [HTK.out, lastK_snoc], ⟨by rw [HTK.out, bytesW_snoc, HLK.out, ← List.append_assoc, HBB.out]; have h := HO3'.out; rw [← HB5.out] at h; unfold bytesP; rw [HCN.out, HSF.out]; simpa [goneI, List.append_assoc] using h⟩, HBV3⟩
          case measure => simp [intOf]; omega⟩
        refine wp_region_held_drew (S := (fun w' => w'.cell? ⟨wr.heap.size, 0, none⟩ = some (.string qk) ∧ Aside0 (WB w wr.heap.size ⟨qk, qbr, qep, qsq, qf, qt, qv, true⟩ A4 m B w'))) (by kernel_rfl) (WB_S1 HI2d.out) (fun hHeld => ?_)
        obtain ⟨wd, hwd⟩ : ∃ wd, w2.drew = wd := ⟨_, rfl⟩
        rw [hwd] at HI2d hHeld ⊢
        clear hwd
        (refine hd_take 0 (v := ?_) rfl (by kernel_rfl) (by kernel_rfl) (fun _ _ _ h => h) (by assumption) ?_ ?_; rotate_left; (intro w hSw; (try dsimp only at hSw); go_simp; first | done | with_reducible rfl); simp only [Act.put, List.setIfInBounds_toArray, List.set_cons_zero, List.set_cons_succ])
        (refine hd_take 1 (v := ?_) rfl (by kernel_rfl) (by kernel_rfl) (fun _ _ _ h => h) (by assumption) ?_ ?_; rotate_left; (intro w hSw; (try dsimp only at hSw); go_simp; first | done | with_reducible rfl); simp only [Act.put, List.setIfInBounds_toArray, List.set_cons_zero, List.set_cons_succ])
        (refine hd_take 4 (v := ?_) rfl (by kernel_rfl) (by kernel_rfl) (fun _ _ _ h => h) (by assumption) ?_ ?_; rotate_left; (intro w hSw; (try dsimp only at hSw); go_simp; first | done | with_reducible rfl); simp only [Act.put, List.setIfInBounds_toArray, List.set_cons_zero, List.set_cons_succ])
        (refine hd_take 5 (v := ?_) rfl (by kernel_rfl) (by kernel_rfl) (fun _ _ _ h => h) (by assumption) ?_ ?_; rotate_left; (intro w hSw; (try dsimp only at hSw); go_simp; first | done | with_reducible rfl); simp only [Act.put, List.setIfInBounds_toArray, List.set_cons_zero, List.set_cons_succ])
        (refine hd_take 6 (v := ?_) rfl (by kernel_rfl) (by kernel_rfl) (fun _ _ _ h => h) (by assumption) ?_ ?_; rotate_left; (intro w hSw; (try dsimp only at hSw); go_simp; first | done | with_reducible rfl); simp only [Act.put, List.setIfInBounds_toArray, List.set_cons_zero, List.set_cons_succ])
        (refine hd_take 7 (v := ?_) rfl (by kernel_rfl) (by kernel_rfl) (fun _ _ _ h => h) (by assumption) ?_ ?_; rotate_left; (intro w hSw; (try dsimp only at hSw); go_simp; first | done | with_reducible rfl); simp only [Act.put, List.setIfInBounds_toArray, List.set_cons_zero, List.set_cons_succ])
        refine hd_two 2 8 rfl rfl (by kernel_rfl) (fun K1 hK1 => ?_) (fun K1 hK1 => ?_)
        · go_simp
          obtain ⟨W1, hW1⟩ : ∃ W1, wd.alloc (.cells #[.int .i64 cn] 3) = W1 := ⟨_, rfl⟩
          have hz1 : wd.heap.size + 1 = W1.heap.size := by rw [← hW1, World.size_alloc]
          have HL1 : Aside0 ((Kd.int .i64).C W1 (some ⟨wd.heap.size, 0, none⟩) 1 [(cn : Int)]) := by rw [← hW1]; exact ⟨lit_CK wd [(cn : Int)] _ (by simp) (0, 0)⟩
          have HI3 : Aside0 (WB w wr.heap.size ⟨qk, qbr, qep, qsq, qf, qt, qv, true⟩ A4 m B W1) := by rw [← hW1]; exact ⟨WB_step HI2d.out (below_alloc (Below.refl _ _) _)⟩
          rw [hW1]
          refine hK1.out _ _ (WB_S1 HI3.out) (fun hHeld => ?_)
          clear hK1 K1 hW1
          refine hd_two 3 8 rfl rfl (by kernel_rfl) (fun K1 hK1 => ?_) (fun K1 hK1 => ?_)
          · go_simp
            go_wp2_with ((go_at_call 36); (with_reducible refine (putC_calls A4 m c4 B _ 1 cn W1 (WB_c HI3.out) hc4 HL1.out (by omega) (by omega)).mono ?_); rintro e W2 ⟨v28, rfl, hO2, hb2⟩; have HO2 := Aside0.mk hO2; have HI4 := Aside0.mk (WB_step HI3.out hb2); have hz2 := hb2.size; clear hO2 hb2)
            refine hK1.out _ _ (WB_S1 HI4.out) (fun hHeld => ?_)
            clear hK1 K1
            refine hd_one 8 rfl (by kernel_rfl) (fun K1 hK1 => ?_)
            go_simp
            obtain ⟨W3, hW3⟩ : ∃ W3, W2.alloc (.cells #[.string SF] 9) = W3 := ⟨_, rfl⟩
            have HL2 : Aside0 (Kd.string.C W3 (some ⟨W2.heap.size, 0, none⟩) 1 [SF]) := by rw [← hW3]; exact ⟨V.lit_CT W2 [SF] _ (by simp) (0, 0)⟩
            have HI5 : Aside0 (WB w wr.heap.size ⟨qk, qbr, qep, qsq, qf, qt, qv, true⟩ A4 m B W3) := by rw [← hW3]; exact ⟨WB_step HI4.out (below_alloc (Below.refl _ _) _)⟩
            have HO3 : Aside0 (OB W3 W1.heap.size v28 (B ++ V.vput cn)) := by rw [← hW3]; exact ⟨Kd.R_below HO2.out (below_alloc (Below.refl _ _) _)⟩
            rw [hW3]
            refine hK1.out _ _ (WB_S1 HI5.out) (fun hHeld => ?_)
            clear hK1 K1 hW3
            obtain ⟨A28, c28, rfl, hc28, hC28⟩ := OB_readn HO3.out (m + 1) (by rw [List.length_append, HMB.out, HVC.out])
            refine hd_one 9 rfl (by kernel_rfl) (fun K1 hK1 => ?_)
            go_simp
            go_wp2_with ((go_at_call 38); (with_reducible refine (textC_calls A28 _ c28 _ _ 1 SF W3 hC28 hc28 HL2.out (by omega) (by omega)).mono ?_); rintro e W4 ⟨v34, rfl, hO4, hb4⟩; have HO4 := Aside0.mk (Kd.R_lower hO4 (WB_b HI5.out).size); have HI6 := Aside0.mk (WB_step HI5.out hb4); clear hO4 hb4)
            refine hK1.out _ _ (WB_S1 HI6.out) (fun hHeld => ?_)
            clear hK1 K1
            (refine hd_take 10 (v := ?_) rfl (by kernel_rfl) (by kernel_rfl) (fun _ _ _ h => h) (by assumption) ?_ ?_; rotate_left; (intro w hSw; (try dsimp only at hSw); go_simp; first | done | with_reducible rfl); simp only [Act.put, List.setIfInBounds_toArray, List.set_cons_zero, List.set_cons_succ])
            refine wpAnyH_done (by kernel_rfl) ?_ _
            exact HK.out _ _ _ _ _ HO4.out (WB_x HI6.out) (WB_b HI6.out)
          · go_simp
            obtain ⟨W3, hW3⟩ : ∃ W3, W1.alloc (.cells #[.string SF] 9) = W3 := ⟨_, rfl⟩
            have HL2 : Aside0 (Kd.string.C W3 (some ⟨W1.heap.size, 0, none⟩) 1 [SF]) := by rw [← hW3]; exact ⟨V.lit_CT W1 [SF] _ (by simp) (0, 0)⟩
            have HL3 : Aside0 ((Kd.int .i64).C W3 (some ⟨wd.heap.size, 0, none⟩) 1 [(cn : Int)]) := by rw [← hW3]; exact ⟨Kd.C_alloc HL1.out _⟩
            have HI5 : Aside0 (WB w wr.heap.size ⟨qk, qbr, qep, qsq, qf, qt, qv, true⟩ A4 m B W3) := by rw [← hW3]; exact ⟨WB_step HI3.out (below_alloc (Below.refl _ _) _)⟩
            rw [hW3]
            refine hK1.out _ _ (WB_S1 HI5.out) (fun hHeld => ?_)
            clear hK1 K1 hW3
            refine hd_one 3 rfl (by kernel_rfl) (fun K1 hK1 => ?_)
            go_simp
            go_wp2_with ((go_at_call 36); (with_reducible refine (putC_calls A4 m c4 B _ 1 cn W3 (WB_c HI5.out) hc4 HL3.out (by omega) (by omega)).mono ?_); rintro e W2 ⟨v28, rfl, hO2, hb2⟩; have HO2 := Aside0.mk hO2; have HI4 := Aside0.mk (WB_step HI5.out hb2); have HL4 := Aside0.mk (Kd.C_below HL2.out hb2); clear hO2 hb2)
            refine hK1.out _ _ (WB_S1 HI4.out) (fun hHeld => ?_)
            clear hK1 K1
            obtain ⟨A28, c28, rfl, hc28, hC28⟩ := OB_readn HO2.out (m + 1) (by rw [List.length_append, HMB.out, HVC.out])
            refine hd_one 9 rfl (by kernel_rfl) (fun K1 hK1 => ?_)
            go_simp
            go_wp2_with ((go_at_call 38); (with_reducible refine (textC_calls A28 _ c28 _ _ 1 SF W2 hC28 hc28 HL4.out (by omega) (by omega)).mono ?_); rintro e W4 ⟨v34, rfl, hO4, hb4⟩; have HO4 := Aside0.mk (Kd.R_lower hO4 (WB_b HI4.out).size); have HI6 := Aside0.mk (WB_step HI4.out hb4); clear hO4 hb4)
            refine hK1.out _ _ (WB_S1 HI6.out) (fun hHeld => ?_)
            clear hK1 K1
            (refine hd_take 10 (v := ?_) rfl (by kernel_rfl) (by kernel_rfl) (fun _ _ _ h => h) (by assumption) ?_ ?_; rotate_left; (intro w hSw; (try dsimp only at hSw); go_simp; first | done | with_reducible rfl); simp only [Act.put, List.setIfInBounds_toArray, List.set_cons_zero, List.set_cons_succ])
            refine wpAnyH_done (by kernel_rfl) ?_ _
            exact HK.out _ _ _ _ _ HO4.out (WB_x HI6.out) (WB_b HI6.out)
        · go_simp
          obtain ⟨W1, hW1⟩ : ∃ W1, wd.alloc (.cells #[.string SF] 9) = W1 := ⟨_, rfl⟩
          have HL2 : Aside0 (Kd.string.C W1 (some ⟨wd.heap.size, 0, none⟩) 1 [SF]) := by rw [← hW1]; exact ⟨V.lit_CT wd [SF] _ (by simp) (0, 0)⟩
          have HI3 : Aside0 (WB w wr.heap.size ⟨qk, qbr, qep, qsq, qf, qt, qv, true⟩ A4 m B W1) := by rw [← hW1]; exact ⟨WB_step HI2d.out (below_alloc (Below.refl _ _) _)⟩
          rw [hW1]
          refine hK1.out _ _ (WB_S1 HI3.out) (fun hHeld => ?_)
          clear hK1 K1 hW1
          refine hd_one 2 rfl (by kernel_rfl) (fun K1 hK1 => ?_)
          go_simp
          obtain ⟨W3, hW3⟩ : ∃ W3, W1.alloc (.cells #[.int .i64 cn] 3) = W3 := ⟨_, rfl⟩
          have HL3 : Aside0 ((Kd.int .i64).C W3 (some ⟨W1.heap.size, 0, none⟩) 1 [(cn : Int)]) := by rw [← hW3]; exact ⟨lit_CK W1 [(cn : Int)] _ (by simp) (0, 0)⟩
          have HL5 : Aside0 (Kd.string.C W3 (some ⟨wd.heap.size, 0, none⟩) 1 [SF]) := by rw [← hW3]; exact ⟨Kd.C_alloc HL2.out _⟩
          have HI5 : Aside0 (WB w wr.heap.size ⟨qk, qbr, qep, qsq, qf, qt, qv, true⟩ A4 m B W3) := by rw [← hW3]; exact ⟨WB_step HI3.out (below_alloc (Below.refl _ _) _)⟩
          rw [hW3]
          refine hK1.out _ _ (WB_S1 HI5.out) (fun hHeld => ?_)
          clear hK1 K1 hW3
          · refine hd_one 3 rfl (by kernel_rfl) (fun K1 hK1 => ?_)
            go_simp
            go_wp2_with ((go_at_call 36); (with_reducible refine (putC_calls A4 m c4 B _ 1 cn W3 (WB_c HI5.out) hc4 HL3.out (by omega) (by omega)).mono ?_); rintro e W2 ⟨v28, rfl, hO2, hb2⟩; have HO2 := Aside0.mk hO2; have HI4 := Aside0.mk (WB_step HI5.out hb2); have HL4 := Aside0.mk (Kd.C_below HL5.out hb2); clear hO2 hb2)
            refine hK1.out _ _ (WB_S1 HI4.out) (fun hHeld => ?_)
            clear hK1 K1
            obtain ⟨A28, c28, rfl, hc28, hC28⟩ := OB_readn HO2.out (m + 1) (by rw [List.length_append, HMB.out, HVC.out])
            refine hd_one 9 rfl (by kernel_rfl) (fun K1 hK1 => ?_)
            go_simp
            go_wp2_with ((go_at_call 38); (with_reducible refine (textC_calls A28 _ c28 _ _ 1 SF W2 hC28 hc28 HL4.out (by omega) (by omega)).mono ?_); rintro e W4 ⟨v34, rfl, hO4, hb4⟩; have HO4 := Aside0.mk (Kd.R_lower hO4 (WB_b HI4.out).size); have HI6 := Aside0.mk (WB_step HI4.out hb4); clear hO4 hb4)
            refine hK1.out _ _ (WB_S1 HI6.out) (fun hHeld => ?_)
            clear hK1 K1
            (refine hd_take 10 (v := ?_) rfl (by kernel_rfl) (by kernel_rfl) (fun _ _ _ h => h) (by assumption) ?_ ?_; rotate_left; (intro w hSw; (try dsimp only at hSw); go_simp; first | done | with_reducible rfl); simp only [Act.put, List.setIfInBounds_toArray, List.set_cons_zero, List.set_cons_succ])
            refine wpAnyH_done (by kernel_rfl) ?_ _
            exact HK.out _ _ _ _ _ HO4.out (WB_x HI6.out) (WB_b HI6.out)
    · obtain rfl : k = n := by omega
      have hO' := HO.out
      rw [List.take_of_length_le (by rw [HN.out]; exact Nat.le_refl _)] at hO'
      have HO' := Aside0.mk hO'
      clear hO' HO
      go_wp2_with fail
      go_ret
      exact ⟨_, rfl, by unfold blockB; rw [HN.out]; exact HO'.out, HB.out⟩
end Go.Proofs.Ytopoepifbjbmoaa.A
