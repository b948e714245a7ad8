/- CTwo -/
import Derived.Test.YtmfnbkghfmeekaaZCOne
import Derived.Deep.QuietTactic
import Derived.StillTailTactics
namespace Go.Proofs.Ytmfnbkghfmeekaa.A.C
open Go.RowKit Go.Proofs.YtmfnbkghfmeekaaW.PrintWords Go.Proofs.YtmfnbkghfmeekaaW.PrintLast Go.Proofs.YtmfnbkghfmeekaaW.PrintMore
open R
set_option linter.unusedVariables false
set_option linter.unusedSimpArgs false
def sufS (key k : ByteArray) : ByteArray := k.extract (comS key k) k.size
def bytesP (key : ByteArray) (p : Vr) : List Int := (V.vput (comS key p.k) ++ V.vtext (sufS key p.k)) ++ ([p.br, p.ep, p.sq, p.f, p.t - p.f, goneI p.g].flatMap V.vput ++ V.vtext p.v)
def bytesW : ByteArray → List Vr → List Int
  | _, [] => []
  | key, p :: l => bytesP key p ++ bytesW p.k l
def blockB (l : List Vr) : List Int := V.vput l.length ++ bytesW { data := #[] } l
def lastK : ByteArray → List Vr → ByteArray
  | key, [] => key
  | _, p :: l => lastK p.k l
theorem bytesW_snoc (p : Vr) : ∀ (l : List Vr) (key : ByteArray), bytesW key (l ++ [p]) = bytesW key l ++ bytesP (lastK key l) p
  | [], key => by simp [bytesW, lastK]
  | q :: l, key => by rw [List.cons_append, bytesW, bytesW, bytesW_snoc p l q.k, lastK, List.append_assoc]
theorem lastK_snoc (p : Vr) : ∀ (l : List Vr) (key : ByteArray), lastK key (l ++ [p]) = p.k
  | [], key => rfl
  | q :: l, key => by rw [List.cons_append, lastK, lastK_snoc p l q.k]
theorem suf_size (key k : ByteArray) : (sufS key k).size = k.size - comS key k := by unfold sufS; rw [ByteArray.size_extract]; omega
theorem vput_small (n : Nat) (h : n < 128) : (V.vput (n : Int)).length = 1 := by rw [V.vput_nat, V.vnat_small h]; rfl
theorem key_le {p : Vr} (hm : mayV p = true) : p.k.size ≤ 92 := key_size ((mayV_iff p).1 hm).1
theorem bytesP_le (key : ByteArray) (p : Vr) (hm : mayV p = true) : (bytesP key p).length ≤ (bytesV p).length + 1 := by
  have h1 := key_le hm
  have h2 := comS_le key p.k
  have h3 := suf_size key p.k
  unfold bytesP bytesV
  simp only [List.length_append, V.vtext_len]
  rw [vput_small _ (by omega), vput_small _ (by omega), vput_small p.k.size (by omega)]
  omega
theorem bytesW_len : ∀ (l : List Vr) (key : ByteArray), (∀ p ∈ l, mayV p = true) → (bytesW key l).length ≤ 401 * l.length
  | [], _, _ => by simp [bytesW]
  | p :: l, key, h => by
    have h1 := bytesP_le key p (h p List.mem_cons_self)
    have h2 := bytesV_len p (h p List.mem_cons_self)
    have h3 := bytesW_len l p.k (fun q hq => h q (List.mem_cons_of_mem _ hq))
    rw [bytesW, List.length_append, List.length_cons]
    omega
theorem ok_may {l : List Vr} {k : Nat} (h : okN l k = true) (i : Nat) (hi : i < k) : mayV (l.getD i default) = true := by
  have := List.all_eq_true.1 h i (List.mem_range.2 hi)
  unfold stepOk at this
  rw [Bool.and_eq_true] at this
  exact this.1
theorem mem_getD {l : List Vr} {p : Vr} (h : p ∈ l) : ∃ i, i < l.length ∧ l.getD i default = p := by
  obtain ⟨i, hi, e⟩ := List.mem_iff_getElem.1 h
  exact ⟨i, hi, by rw [List.getD_eq_getElem?_getD, List.getElem?_eq_getElem hi]; exact e⟩
theorem mayBl_all {l : List Vr} (h : mayBl l = true) : (∀ p ∈ l, mayV p = true) ∧ 1 ≤ l.length ∧ l.length ≤ 8 := by
  unfold mayBl at h
  rw [Bool.and_eq_true, decide_eq_true_iff] at h
  refine ⟨fun p hp => ?_, h.2.1, h.2.2⟩
  obtain ⟨i, hi, rfl⟩ := mem_getD hp
  exact ok_may h.1 i hi
def WB (w : World) (x : Nat) (q : Vr) (A : Option Addr) (m : Nat) (B : List Int) (W : World) : Prop := W.heap[x]? = some (vrB q) ∧ U8.C W A m B ∧ Below w.heap.size w W
theorem WB_step {w : World} {x : Nat} {q : Vr} {A : Option Addr} {m : Nat} {B : List Int} {W W1 : World} (h : WB w x q A m B W) (hb : Below W.heap.size W W1) : WB w x q A m B W1 := ⟨box_keep h.1 hb, Kd.C_below h.2.1 hb, below_step h.2.2 hb⟩
theorem WB_b {w : World} {x : Nat} {q : Vr} {A : Option Addr} {m : Nat} {B : List Int} {W : World} (h : WB w x q A m B W) : Below w.heap.size w W := h.2.2
theorem WB_c {w : World} {x : Nat} {q : Vr} {A : Option Addr} {m : Nat} {B : List Int} {W : World} (h : WB w x q A m B W) : U8.C W A m B := h.2.1
theorem WB_x {w : World} {x : Nat} {q : Vr} {A : Option Addr} {m : Nat} {B : List Int} {W : World} (h : WB w x q A m B W) : W.heap[x]? = some (vrB q) := h.1
theorem WB_S1 {w : World} {x : Nat} {q : Vr} {A : Option Addr} {m : Nat} {B : List Int} {W : World} (h : WB w x q A m B W) : W.cell? ⟨x, 0, none⟩ = some (.string q.k) ∧ Aside0 (WB w x q A m B W) := by
  obtain ⟨a0, _⟩ := vr_cells h.1
  exact ⟨a0, ⟨h⟩⟩
theorem putC_calls (A : Option Addr) (n c : Nat) (b : List Int) (A1 : Option Addr) (c1 : Nat) (x : Int) (w : World) (hr : U8.C w A n b) (hc : n ≤ c) (hr1 : (Kd.int .i64).C w A1 1 [x]) (hx : x ≤ 9223372036854775807) (hl : n ≤ 100000) :
    Calls Try.prog 31 #[.slice A n c, .slice A1 1 1] w fun e w' => ∃ v, e = .returned v ∧ OB w' w.heap.size v (b ++ V.vput x) ∧ Below w.heap.size w w' := by
  have h9 := V.vput_le x hx
  have hn := hr.1
  refine (V.put_calls A n c b _ 1 1 [x] _ hr hc hr1 (Nat.le_refl _) (by simpa using hx) (by rw [V.vput1]; omega)).mono ?_
  rintro e w' ⟨v, rfl, hO, hb⟩
  rw [V.vput1] at hO
  exact ⟨v, rfl, hO, hb⟩
theorem textC_calls (A : Option Addr) (n c : Nat) (b : List Int) (A1 : Option Addr) (c1 : Nat) (x : ByteArray) (w : World) (hr : U8.C w A n b) (hc : n ≤ c) (hr1 : Kd.string.C w A1 1 [x]) (hx : x.size ≤ 100000) (hl : n ≤ 100000) :
    Calls Try.prog 34 #[.slice A n c, .slice A1 1 1] w fun e w' => ∃ v, e = .returned v ∧ OB w' w.heap.size v (b ++ V.vtext x) ∧ Below w.heap.size w w' := by
  have h9 := V.vput_le x.size (by omega)
  have hn := hr.1
  have ht := V.vtext_len x
  have hf : [x].flatMap V.vtext = V.vtext x := by simp
  refine (V.text_calls A n c b _ 1 1 [x] _ hr hc hr1 (Nat.le_refl _) (by rw [hf]; omega)).mono ?_
  rintro e w' ⟨v, rfl, hO, hb⟩
  rw [hf] at hO
  exact ⟨v, rfl, hO, hb⟩
theorem lastK_le : ∀ (l : List Vr) (key : ByteArray), key.size ≤ 92 → (∀ p ∈ l, p.k.size ≤ 92) → (lastK key l).size ≤ 92
  | [], key, h, _ => h
  | p :: l, key, _, h => lastK_le l p.k (h p List.mem_cons_self) (fun q hq => h q (List.mem_cons_of_mem _ hq))
set_option maxRecDepth 100000 in
set_option maxHeartbeats 8000000 in
theorem writeb_calls (A : Option Addr) (n c : Nat) (l : List Vr) (w : World) (hr : KVr.C w A n l) (hc : n ≤ c) (h8 : n ≤ 8) (hm : ∀ p ∈ l, mayV p = true) :
    Calls Try.prog 64 #[.slice A n c] w fun e w' => ∃ u, e = .returned u ∧ OB w' w.heap.size u (blockB l) ∧ Below w.heap.size w w' := by
  have HR := Aside0.mk hr
  have HM := Aside0.mk hm
  have HN := Aside0.mk hr.1
  clear hr hm
  go_enter Try.func64, Try.ntmps64
  go_wp2_with fail
  (with_reducible refine (V.put1_calls none 0 0 [] n w _ (Kd.C_nil _ _) (Nat.le_refl _) (by omega) (by omega)).mono ?_)
  rintro e w1 ⟨v1, rfl, hO1, hb1⟩
  rw [List.nil_append] at hO1
  have HO1 := Aside0.mk hO1
  have HB1 := Aside0.mk hb1
  clear hO1 hb1
  go_wp2_with fail
  go_loopw [3, 4, 15] (fun v3 v4 v15 w' => ∃ k : Nat, k ≤ n ∧ v15 = .int .i64 k ∧ v4 = .string (lastK { data := #[] } (l.take k)) ∧ Aside0 (OB w' w.heap.size v3 (V.vput (n : Int) ++ bytesW { data := #[] } (l.take k))) ∧ Aside0 (Below w.heap.size w w')) (fun _ _ v15 _ => n - (intOf v15).toNat)
  case atStart => exact ⟨0, Nat.zero_le _, rfl, rfl, ⟨by simpa [bytesW] using HO1.out⟩, HB1⟩
  case round =>
    obtain ⟨k, hk, rfl, rfl, HO, HB⟩ := hrel
    by_cases hlt : k < n
    · obtain ⟨q, hq⟩ : ∃ q, l.getD k default = q := ⟨_, rfl⟩
      have hml := getD_mem l k (by rw [HN.out]; exact hlt)
      rw [hq] at hml
      have HMQ := Aside0.mk (HM.out _ hml)
      have HTK : Aside0 (l.take (k + 1) = l.take k ++ [q]) := ⟨by rw [take_getD l k (by rw [HN.out]; exact hlt), hq]⟩
      have hX := C_atVr' (ad := (A.getD ⟨0, 0, none⟩)) (by obtain ⟨ad, e, _⟩ := C_atVr HR.out k hlt; subst e; exact Kd.C_below HR.out HB.out) k hlt q hq
      obtain ⟨ad, rfl, -⟩ := C_atVr HR.out k hlt
      have hbl := bytesW_len (l.take k) { data := #[] } (fun p hp => HM.out p (List.mem_of_mem_take hp))
      rw [List.length_take] at hbl
      have hks := lastK_le (l.take k) { data := #[] } (by decide) (fun p hp => key_le (HM.out p (List.mem_of_mem_take hp)))
      generalize hLK : lastK { data := #[] } (l.take k) = key at *
      have HLK := Aside0.mk hLK
      obtain ⟨m, hm⟩ : ∃ m, (V.vput (n : Int) ++ bytesW { data := #[] } (l.take k)).length = m := ⟨_, rfl⟩
      have hm4 : m ≤ 4000 := by
        rw [← hm, List.length_append, vput_small n (by omega)]
        omega
      obtain ⟨A4, c4, rfl, hc4, HC4'⟩ := OB_readn HO.out m hm
      have HC4 := Aside0.mk HC4'
      have hk92 := key_le HMQ.out
      obtain ⟨_, ⟨⟨⟨r1, r2⟩, ⟨r3, r4⟩⟩, ⟨r5, r6⟩⟩, ⟨r7, r8, r9⟩, r10, _⟩ := (mayV_iff _).1 HMQ.out
      obtain ⟨qk, qbr, qep, qsq, qf, qt, qv, qg⟩ := q
      simp only at hk92 r1 r2 r3 r4 r5 r6 r7 r8 r9 r10
      obtain ⟨p0, p1, p2, p3, p4, p5, p6, p7⟩ := hX
      simp only [Option.getD_some] at p0 p1 p2 p3 p4 p5 p6 p7
      generalize hB : V.vput (n : Int) ++ bytesW { data := #[] } (l.take k) = B at *
      have HMB := Aside0.mk hm
      have HBB := Aside0.mk hB
      clear hml hbl hLK HC4' hm hq hB
      have i1 : (k : Int) < (n : Int) := by omega
      have i2 : (0 : Int) ≤ (k : Int) := by omega
      have HI0 : Aside0 (WB w wr.heap.size ⟨qk, qbr, qep, qsq, qf, qt, qv, qg⟩ A4 m B (wr.alloc (vrBox qk qbr qep qsq qf qt qv qg))) := by
        have hal := below_alloc (Below.refl wr.heap.size wr) (vrBox qk qbr qep qsq qf qt qv qg)
        exact ⟨heap_alloc_new wr _, Kd.C_below HC4.out hal, below_step HB.out hal⟩
      clear HC4 HB HO
      go_wp2_with fail
      (with_reducible refine (common_calls key qk _ (by omega) (by omega)).mono ?_)
      rintro e w2 ⟨rfl, hb2⟩
      have HI2 := Aside0.mk (WB_step HI0.out hb2)
      have hcs := comS_le key qk
      obtain ⟨cn, hcn⟩ : ∃ cn, comS key qk = cn := ⟨_, rfl⟩
      rw [hcn] at hcs ⊢
      have HCN := Aside0.mk hcn
      obtain ⟨x0, x1, x2, x3, x4, x5, x6, x7⟩ := vr_cells (WB_x HI2.out)
      clear hb2 HI0 p0 p1 p2 p3 p4 p5 p6 p7 hcn
      have hcs2 : cn ≤ qk.size := hcs.2
      have j1 : (0 : Int) ≤ (cn : Int) := by omega
      have j2 : (cn : Int) ≤ (qk.size : Int) := by omega
      have hcn92 : cn ≤ 92 := by omega
      have HVC : Aside0 ((V.vput (cn : Int)).length = 1) := ⟨vput_small cn (by omega)⟩
      clear hcs
      obtain ⟨SF, hSF⟩ : ∃ SF, qk.extract cn qk.size = SF := ⟨_, rfl⟩
      have hSFs : SF.size ≤ 92 := by rw [← hSF, ByteArray.size_extract]; omega
      have HSF : Aside0 (sufS key qk = SF) := ⟨by unfold sufS; rw [HCN.out]; exact hSF⟩
      cases qg with
      | false =>
        go_wp2_with fail
        have HI2d := Aside0.mk (WB_step HI2.out (below_drew1 (Below.refl _ _)))
        rename_i K hK
        clear x0 x1 x2 x3 x4 x5 x6 x7
        have HK : Aside0 (∀ (x27 x28 x33 u34 : Value) (W : World), OB W w.heap.size u34 ((B ++ V.vput cn) ++ V.vtext SF) → W.heap[wr.heap.size]? = some (vrBox qk qbr qep qsq qf qt qv false) → Below w.heap.size w W → K { tmps := #[.slice (some ad) n c, undef, .slice none 0 0, u34, .string key, undef, .pointer (some ⟨wr.heap.size, 0, none⟩), .int .i64 cn, .int .i64 0, .slice (some ad) n c, .int .i64 n, .slice (some ⟨w.heap.size, 0, none⟩) 1 1, v1, .slice (some ad) n c, .int .i64 n, .int .i64 k, .bool true, .pointer (some (ad.add (k * 8))), .agg #[.string qk, .int .i64 qbr, .int .i64 qep, .int .i64 qsq, .int .i64 qf, .int .i64 qt, .string qv, .bool false], .string key, .pointer (some ⟨wr.heap.size, 0, none⟩), .string qk, .int .i64 cn, .pointer (some ⟨wr.heap.size, 7, none⟩), .bool false, .slice A4 m c4, .int .i64 cn, x27, x28, .pointer (some ⟨wr.heap.size, 0, none⟩), .string qk, .int .i64 cn, .string SF, x33, u34, u35, u36, u37, u38, u39, u40, u41, u42, u43, u44, u45, u46, u47, u48, u49, u50, u51, u52, u53, u54, u55, u56, u57, u58, u59, u60, u61, u62, u63, u64, u65, undef], defers := [] } W) := ⟨by
          intro x27 x28 x33 u34 W HOW hXW HBW
          refine hK _ _ ?_
          clear hK
          have HXW := Aside0.mk hXW
          obtain ⟨y0, y1, y2, y3, y4, y5, y6, y7⟩ := vr_cells hXW
          obtain ⟨m5, hm5⟩ : ∃ m5, ((B ++ V.vput (cn : Int)) ++ V.vtext SF).length = m5 := ⟨_, rfl⟩
          have hm5l : m5 ≤ 5000 := by
            have h9 := V.vput_le SF.size (by omega)
            have hB5 := HMB.out
            have hv5 := HVC.out
            rw [← hm5, List.length_append, List.length_append, V.vtext_len]
            omega
          obtain ⟨A5, c5, rfl, hc5, hC5⟩ := OB_readn HOW m5 hm5
          have HC5 := Aside0.mk hC5
          have HBW := Aside0.mk HBW
          obtain ⟨B5, hB5⟩ : ∃ B5, ((B ++ V.vput (cn : Int)) ++ V.vtext SF) = B5 := ⟨_, rfl⟩
          have HB5 := Aside0.mk hB5
          rw [hB5] at HC5
          clear hB5
          clear hC5 HOW hm5 hXW
          go_wp2_with fail
          have hlen := V.flat_put_len [qbr, qep, qsq, qf, qt - qf, 0] (by intro y hy; simp only [List.mem_cons, List.not_mem_nil, or_false] at hy; rcases hy with rfl | rfl | rfl | rfl | rfl | rfl <;> omega)
          simp only [List.length_cons, List.length_nil] at hlen
          have HLEN := Aside0.mk hlen
          have HALL : Aside0 (∀ y ∈ [qbr, qep, qsq, qf, qt - qf, 0], y ≤ 9223372036854775807) := ⟨by intro y hy; simp only [List.mem_cons, List.not_mem_nil, or_false] at hy; rcases hy with rfl | rfl | rfl | rfl | rfl | rfl <;> omega⟩
          clear hlen
          have hal := below_alloc (Below.refl W.heap.size W) (.cells #[.int .i64 qbr, .int .i64 qep, .int .i64 qsq, .int .i64 qf, .int .i64 (qt - qf), .int .i64 0] 3)
          (with_reducible refine (V.put_calls A5 m5 c5 B5 _ 6 6 [qbr, qep, qsq, qf, qt - qf, 0] _ (Kd.C_below HC5.out hal) hc5 (lit_CKn _ [qbr, qep, qsq, qf, qt - qf, 0] _ (by simp) (0, 0) _ rfl) (Nat.le_refl _) ?_ ?_).mono ?_)
          · exact HALL.out
          · have := HLEN.out
            have := HC5.out.1
            omega
          rintro e V2 ⟨v2, rfl, HO2, hb2⟩
          have HXV := Aside0.mk (box_keep (box_keep HXW.out hal) hb2)
          have HBV := Aside0.mk (below_step (below_step HBW.out hal) hb2)
          obtain ⟨m6, hm6⟩ : ∃ m6, (B5 ++ [qbr, qep, qsq, qf, qt - qf, 0].flatMap V.vput).length = m6 := ⟨_, rfl⟩
          have hm6l : m6 ≤ 6000 := by
            have := HLEN.out
            have := HC5.out.1
            rw [← hm6, List.length_append]
            omega
          obtain ⟨A6, c6, rfl, hc6, hC6⟩ := OB_readn HO2 m6 hm6
          have HC6 := Aside0.mk hC6
          clear hC6 HO2 hb2 hal hm6 y0 y1 y2 y3 y4 y5 y6 y7
          obtain ⟨y0, y1, y2, y3, y4, y5, y6, y7⟩ := vr_cells HXV.out
          go_wp2_with fail
          (with_reducible refine (V.text1_calls A6 m6 c6 _ qv V2 _ HC6.out hc6 (by omega) (by omega)).mono ?_)
          rintro e V3 ⟨v3, rfl, HO3, hb3⟩
          have HXV3 := Aside0.mk (box_keep HXV.out hb3)
          have HO3' := Aside0.mk (Kd.R_lower HO3 HBV.out.size)
          have HBV3 := Aside0.mk (below_step HBV.out hb3)
          clear HO3 hb3 y0 y1 y2 y3 y4 y5 y6 y7
          obtain ⟨y0, y1, y2, y3, y4, y5, y6, y7⟩ := vr_cells HXV3.out
          go_wp2_with fail
          go_roundw
          case rel => exact ⟨k + 1, hlt, by push_cast; rfl, by rw [HTK.out, lastK_snoc], ⟨by rw [HTK.out, bytesW_snoc, HLK.out, ← List.append_assoc, HBB.out]; have h := HO3'.out; rw [← HB5.out] at h; unfold bytesP; rw [HCN.out, HSF.out]; simpa [goneI, List.append_assoc] using h⟩, HBV3⟩
          case measure => simp [intOf]; omega⟩
        refine wp_region_held_drew (S := (fun w' => w'.cell? ⟨wr.heap.size, 0, none⟩ = some (.string qk) ∧ Aside0 (WB w wr.heap.size ⟨qk, qbr, qep, qsq, qf, qt, qv, false⟩ A4 m B w'))) (by kernel_rfl) (WB_S1 HI2d.out) (fun hHeld => ?_)
        obtain ⟨wd, hwd⟩ : ∃ wd, w2.drew = wd := ⟨_, rfl⟩
        rw [hwd] at HI2d hHeld ⊢
        clear hwd
        (refine hd_take 0 (v := ?_) rfl (by kernel_rfl) (by kernel_rfl) (fun _ _ _ h => h) (by assumption) ?_ ?_; rotate_left; (intro w hSw; (try dsimp only at hSw); go_simp; first | done | with_reducible rfl); simp only [Act.put, List.setIfInBounds_toArray, List.set_cons_zero, List.set_cons_succ])
        (refine hd_take 1 (v := ?_) rfl (by kernel_rfl) (by kernel_rfl) (fun _ _ _ h => h) (by assumption) ?_ ?_; rotate_left; (intro w hSw; (try dsimp only at hSw); go_simp; first | done | with_reducible rfl); simp only [Act.put, List.setIfInBounds_toArray, List.set_cons_zero, List.set_cons_succ])
        (refine hd_take 4 (v := ?_) rfl (by kernel_rfl) (by kernel_rfl) (fun _ _ _ h => h) (by assumption) ?_ ?_; rotate_left; (intro w hSw; (try dsimp only at hSw); go_simp; first | done | with_reducible rfl); simp only [Act.put, List.setIfInBounds_toArray, List.set_cons_zero, List.set_cons_succ])
        (refine hd_take 5 (v := ?_) rfl (by kernel_rfl) (by kernel_rfl) (fun _ _ _ h => h) (by assumption) ?_ ?_; rotate_left; (intro w hSw; (try dsimp only at hSw); go_simp; first | done | with_reducible rfl); simp only [Act.put, List.setIfInBounds_toArray, List.set_cons_zero, List.set_cons_succ])
        (refine hd_take 6 (v := ?_) rfl (by kernel_rfl) (by kernel_rfl) (fun _ _ _ h => h) (by assumption) ?_ ?_; rotate_left; (intro w hSw; (try dsimp only at hSw); go_simp; first | done | with_reducible rfl); simp only [Act.put, List.setIfInBounds_toArray, List.set_cons_zero, List.set_cons_succ])
        (refine hd_take 7 (v := ?_) rfl (by kernel_rfl) (by kernel_rfl) (fun _ _ _ h => h) (by assumption) ?_ ?_; rotate_left; (intro w hSw; (try dsimp only at hSw); go_simp; first | done | with_reducible rfl); simp only [Act.put, List.setIfInBounds_toArray, List.set_cons_zero, List.set_cons_succ])
        refine hd_two 2 8 rfl rfl (by kernel_rfl) (fun K1 hK1 => ?_) (fun K1 hK1 => ?_)
        · go_simp
          obtain ⟨W1, hW1⟩ : ∃ W1, wd.alloc (.cells #[.int .i64 cn] 3) = W1 := ⟨_, rfl⟩
          have hz1 : wd.heap.size + 1 = W1.heap.size := by rw [← hW1, World.size_alloc]
          have HL1 : Aside0 ((Kd.int .i64).C W1 (some ⟨wd.heap.size, 0, none⟩) 1 [(cn : Int)]) := by rw [← hW1]; exact ⟨lit_CK wd [(cn : Int)] _ (by simp) (0, 0)⟩
          have HI3 : Aside0 (WB w wr.heap.size ⟨qk, qbr, qep, qsq, qf, qt, qv, false⟩ A4 m B W1) := by rw [← hW1]; exact ⟨WB_step HI2d.out (below_alloc (Below.refl _ _) _)⟩
          rw [hW1]
          refine hK1.out _ _ (WB_S1 HI3.out) (fun hHeld => ?_)
          clear hK1 K1 hW1
          refine hd_two 3 8 rfl rfl (by kernel_rfl) (fun K1 hK1 => ?_) (fun K1 hK1 => ?_)
          · go_simp
            go_wp2_with ((go_at_call 31); (with_reducible refine (putC_calls A4 m c4 B _ 1 cn W1 (WB_c HI3.out) hc4 HL1.out (by omega) (by omega)).mono ?_); rintro e W2 ⟨v28, rfl, hO2, hb2⟩; have HO2 := Aside0.mk hO2; have HI4 := Aside0.mk (WB_step HI3.out hb2); have hz2 := hb2.size; clear hO2 hb2)
            refine hK1.out _ _ (WB_S1 HI4.out) (fun hHeld => ?_)
            clear hK1 K1
            refine hd_one 8 rfl (by kernel_rfl) (fun K1 hK1 => ?_)
            go_simp
            obtain ⟨W3, hW3⟩ : ∃ W3, W2.alloc (.cells #[.string SF] 9) = W3 := ⟨_, rfl⟩
            have HL2 : Aside0 (Kd.string.C W3 (some ⟨W2.heap.size, 0, none⟩) 1 [SF]) := by rw [← hW3]; exact ⟨V.lit_CT W2 [SF] _ (by simp) (0, 0)⟩
            have HI5 : Aside0 (WB w wr.heap.size ⟨qk, qbr, qep, qsq, qf, qt, qv, false⟩ A4 m B W3) := by rw [← hW3]; exact ⟨WB_step HI4.out (below_alloc (Below.refl _ _) _)⟩
            have HO3 : Aside0 (OB W3 W1.heap.size v28 (B ++ V.vput cn)) := by rw [← hW3]; exact ⟨Kd.R_below HO2.out (below_alloc (Below.refl _ _) _)⟩
            rw [hW3]
            refine hK1.out _ _ (WB_S1 HI5.out) (fun hHeld => ?_)
            clear hK1 K1 hW3
            obtain ⟨A28, c28, rfl, hc28, hC28⟩ := OB_readn HO3.out (m + 1) (by rw [List.length_append, HMB.out, HVC.out])
            refine hd_one 9 rfl (by kernel_rfl) (fun K1 hK1 => ?_)
            go_simp
            go_wp2_with ((go_at_call 34); (with_reducible refine (textC_calls A28 _ c28 _ _ 1 SF W3 hC28 hc28 HL2.out (by omega) (by omega)).mono ?_); rintro e W4 ⟨v34, rfl, hO4, hb4⟩; have HO4 := Aside0.mk (Kd.R_lower hO4 (WB_b HI5.out).size); have HI6 := Aside0.mk (WB_step HI5.out hb4); clear hO4 hb4)
            refine hK1.out _ _ (WB_S1 HI6.out) (fun hHeld => ?_)
            clear hK1 K1
            (refine hd_take 10 (v := ?_) rfl (by kernel_rfl) (by kernel_rfl) (fun _ _ _ h => h) (by assumption) ?_ ?_; rotate_left; (intro w hSw; (try dsimp only at hSw); go_simp; first | done | with_reducible rfl); simp only [Act.put, List.setIfInBounds_toArray, List.set_cons_zero, List.set_cons_succ])
            refine wpAnyH_done (by kernel_rfl) ?_ _
            exact HK.out _ _ _ _ _ HO4.out (WB_x HI6.out) (WB_b HI6.out)
          · go_simp
            obtain ⟨W3, hW3⟩ : ∃ W3, W1.alloc (.cells #[.string SF] 9) = W3 := ⟨_, rfl⟩
            have HL2 : Aside0 (Kd.string.C W3 (some ⟨W1.heap.size, 0, none⟩) 1 [SF]) := by rw [← hW3]; exact ⟨V.lit_CT W1 [SF] _ (by simp) (0, 0)⟩
            have HL3 : Aside0 ((Kd.int .i64).C W3 (some ⟨wd.heap.size, 0, none⟩) 1 [(cn : Int)]) := by rw [← hW3]; exact ⟨Kd.C_alloc HL1.out _⟩
            have HI5 : Aside0 (WB w wr.heap.size ⟨qk, qbr, qep, qsq, qf, qt, qv, false⟩ A4 m B W3) := by rw [← hW3]; exact ⟨WB_step HI3.out (below_alloc (Below.refl _ _) _)⟩
            rw [hW3]
            refine hK1.out _ _ (WB_S1 HI5.out) (fun hHeld => ?_)
            clear hK1 K1 hW3
            refine hd_one 3 rfl (by kernel_rfl) (fun K1 hK1 => ?_)
            go_simp
            go_wp2_with ((go_at_call 31); (with_reducible refine (putC_calls A4 m c4 B _ 1 cn W3 (WB_c HI5.out) hc4 HL3.out (by omega) (by omega)).mono ?_); rintro e W2 ⟨v28, rfl, hO2, hb2⟩; have HO2 := Aside0.mk hO2; have HI4 := Aside0.mk (WB_step HI5.out hb2); have HL4 := Aside0.mk (Kd.C_below HL2.out hb2); clear hO2 hb2)
            refine hK1.out _ _ (WB_S1 HI4.out) (fun hHeld => ?_)
            clear hK1 K1
            obtain ⟨A28, c28, rfl, hc28, hC28⟩ := OB_readn HO2.out (m + 1) (by rw [List.length_append, HMB.out, HVC.out])
            refine hd_one 9 rfl (by kernel_rfl) (fun K1 hK1 => ?_)
            go_simp
            go_wp2_with ((go_at_call 34); (with_reducible refine (textC_calls A28 _ c28 _ _ 1 SF W2 hC28 hc28 HL4.out (by omega) (by omega)).mono ?_); rintro e W4 ⟨v34, rfl, hO4, hb4⟩; have HO4 := Aside0.mk (Kd.R_lower hO4 (WB_b HI4.out).size); have HI6 := Aside0.mk (WB_step HI4.out hb4); clear hO4 hb4)
            refine hK1.out _ _ (WB_S1 HI6.out) (fun hHeld => ?_)
            clear hK1 K1
            (refine hd_take 10 (v := ?_) rfl (by kernel_rfl) (by kernel_rfl) (fun _ _ _ h => h) (by assumption) ?_ ?_; rotate_left; (intro w hSw; (try dsimp only at hSw); go_simp; first | done | with_reducible rfl); simp only [Act.put, List.setIfInBounds_toArray, List.set_cons_zero, List.set_cons_succ])
            refine wpAnyH_done (by kernel_rfl) ?_ _
            exact HK.out _ _ _ _ _ HO4.out (WB_x HI6.out) (WB_b HI6.out)
        · go_simp
          obtain ⟨W1, hW1⟩ : ∃ W1, wd.alloc (.cells #[.string SF] 9) = W1 := ⟨_, rfl⟩
          have HL2 : Aside0 (Kd.string.C W1 (some ⟨wd.heap.size, 0, none⟩) 1 [SF]) := by rw [← hW1]; exact ⟨V.lit_CT wd [SF] _ (by simp) (0, 0)⟩
          have HI3 : Aside0 (WB w wr.heap.size ⟨qk, qbr, qep, qsq, qf, qt, qv, false⟩ A4 m B W1) := by rw [← hW1]; exact ⟨WB_step HI2d.out (below_alloc (Below.refl _ _) _)⟩
          rw [hW1]
          refine hK1.out _ _ (WB_S1 HI3.out) (fun hHeld => ?_)
          clear hK1 K1 hW1
          refine hd_one 2 rfl (by kernel_rfl) (fun K1 hK1 => ?_)
          go_simp
          obtain ⟨W3, hW3⟩ : ∃ W3, W1.alloc (.cells #[.int .i64 cn] 3) = W3 := ⟨_, rfl⟩
          have HL3 : Aside0 ((Kd.int .i64).C W3 (some ⟨W1.heap.size, 0, none⟩) 1 [(cn : Int)]) := by rw [← hW3]; exact ⟨lit_CK W1 [(cn : Int)] _ (by simp) (0, 0)⟩
          have HL5 : Aside0 (Kd.string.C W3 (some ⟨wd.heap.size, 0, none⟩) 1 [SF]) := by rw [← hW3]; exact ⟨Kd.C_alloc HL2.out _⟩
          have HI5 : Aside0 (WB w wr.heap.size ⟨qk, qbr, qep, qsq, qf, qt, qv, false⟩ A4 m B W3) := by rw [← hW3]; exact ⟨WB_step HI3.out (below_alloc (Below.refl _ _) _)⟩
          rw [hW3]
          refine hK1.out _ _ (WB_S1 HI5.out) (fun hHeld => ?_)
          clear hK1 K1 hW3
          · refine hd_one 3 rfl (by kernel_rfl) (fun K1 hK1 => ?_)
            go_simp
            go_wp2_with ((go_at_call 31); (with_reducible refine (putC_calls A4 m c4 B _ 1 cn W3 (WB_c HI5.out) hc4 HL3.out (by omega) (by omega)).mono ?_); rintro e W2 ⟨v28, rfl, hO2, hb2⟩; have HO2 := Aside0.mk hO2; have HI4 := Aside0.mk (WB_step HI5.out hb2); have HL4 := Aside0.mk (Kd.C_below HL5.out hb2); clear hO2 hb2)
            refine hK1.out _ _ (WB_S1 HI4.out) (fun hHeld => ?_)
            clear hK1 K1
            obtain ⟨A28, c28, rfl, hc28, hC28⟩ := OB_readn HO2.out (m + 1) (by rw [List.length_append, HMB.out, HVC.out])
            refine hd_one 9 rfl (by kernel_rfl) (fun K1 hK1 => ?_)
            go_simp
            go_wp2_with ((go_at_call 34); (with_reducible refine (textC_calls A28 _ c28 _ _ 1 SF W2 hC28 hc28 HL4.out (by omega) (by omega)).mono ?_); rintro e W4 ⟨v34, rfl, hO4, hb4⟩; have HO4 := Aside0.mk (Kd.R_lower hO4 (WB_b HI4.out).size); have HI6 := Aside0.mk (WB_step HI4.out hb4); clear hO4 hb4)
            refine hK1.out _ _ (WB_S1 HI6.out) (fun hHeld => ?_)
            clear hK1 K1
            (refine hd_take 10 (v := ?_) rfl (by kernel_rfl) (by kernel_rfl) (fun _ _ _ h => h) (by assumption) ?_ ?_; rotate_left; (intro w hSw; (try dsimp only at hSw); go_simp; first | done | with_reducible rfl); simp only [Act.put, List.setIfInBounds_toArray, List.set_cons_zero, List.set_cons_succ])
            refine wpAnyH_done (by kernel_rfl) ?_ _
            exact HK.out _ _ _ _ _ HO4.out (WB_x HI6.out) (WB_b HI6.out)
      | true =>
        go_wp2_with fail
        have HI2d := Aside0.mk (WB_step HI2.out (below_drew1 (Below.refl _ _)))
        rename_i K hK
        clear x0 x1 x2 x3 x4 x5 x6 x7
        have HK : Aside0 (∀ (x27 x28 x33 u34 : Value) (W : World), OB W w.heap.size u34 ((B ++ V.vput cn) ++ V.vtext SF) → W.heap[wr.heap.size]? = some (vrBox qk qbr qep qsq qf qt qv true) → Below w.heap.size w W → K { tmps := #[.slice (some ad) n c, undef, .slice none 0 0, u34, .string key, undef, .pointer (some ⟨wr.heap.size, 0, none⟩), .int .i64 cn, .int .i64 1, .slice (some ad) n c, .int .i64 n, .slice (some ⟨w.heap.size, 0, none⟩) 1 1, v1, .slice (some ad) n c, .int .i64 n, .int .i64 k, .bool true, .pointer (some (ad.add (k * 8))), .agg #[.string qk, .int .i64 qbr, .int .i64 qep, .int .i64 qsq, .int .i64 qf, .int .i64 qt, .string qv, .bool true], .string key, .pointer (some ⟨wr.heap.size, 0, none⟩), .string qk, .int .i64 cn, .pointer (some ⟨wr.heap.size, 7, none⟩), .bool true, .slice A4 m c4, .int .i64 cn, x27, x28, .pointer (some ⟨wr.heap.size, 0, none⟩), .string qk, .int .i64 cn, .string SF, x33, u34, u35, u36, u37, u38, u39, u40, u41, u42, u43, u44, u45, u46, u47, u48, u49, u50, u51, u52, u53, u54, u55, u56, u57, u58, u59, u60, u61, u62, u63, u64, u65, undef], defers := [] } W) := ⟨by
          intro x27 x28 x33 u34 W HOW hXW HBW
          refine hK _ _ ?_
          clear hK
          have HXW := Aside0.mk hXW
          obtain ⟨y0, y1, y2, y3, y4, y5, y6, y7⟩ := vr_cells hXW
          obtain ⟨m5, hm5⟩ : ∃ m5, ((B ++ V.vput (cn : Int)) ++ V.vtext SF).length = m5 := ⟨_, rfl⟩
          have hm5l : m5 ≤ 5000 := by
            have h9 := V.vput_le SF.size (by omega)
            have hB5 := HMB.out
            have hv5 := HVC.out
            rw [← hm5, List.length_append, List.length_append, V.vtext_len]
            omega
          obtain ⟨A5, c5, rfl, hc5, hC5⟩ := OB_readn HOW m5 hm5
          have HC5 := Aside0.mk hC5
          have HBW := Aside0.mk HBW
          obtain ⟨B5, hB5⟩ : ∃ B5, ((B ++ V.vput (cn : Int)) ++ V.vtext SF) = B5 := ⟨_, rfl⟩
          have HB5 := Aside0.mk hB5
          rw [hB5] at HC5
          clear hB5
          clear hC5 HOW hm5 hXW
          go_wp2_with fail
          have hlen := V.flat_put_len [qbr, qep, qsq, qf, qt - qf, 1] (by intro y hy; simp only [List.mem_cons, List.not_mem_nil, or_false] at hy; rcases hy with rfl | rfl | rfl | rfl | rfl | rfl <;> omega)
          simp only [List.length_cons, List.length_nil] at hlen
          have HLEN := Aside0.mk hlen
          have HALL : Aside0 (∀ y ∈ [qbr, qep, qsq, qf, qt - qf, 1], y ≤ 9223372036854775807) := ⟨by intro y hy; simp only [List.mem_cons, List.not_mem_nil, or_false] at hy; rcases hy with rfl | rfl | rfl | rfl | rfl | rfl <;> omega⟩
          clear hlen
          have hal := below_alloc (Below.refl W.heap.size W) (.cells #[.int .i64 qbr, .int .i64 qep, .int .i64 qsq, .int .i64 qf, .int .i64 (qt - qf), .int .i64 1] 3)
          (with_reducible refine (V.put_calls A5 m5 c5 B5 _ 6 6 [qbr, qep, qsq, qf, qt - qf, 1] _ (Kd.C_below HC5.out hal) hc5 (lit_CKn _ [qbr, qep, qsq, qf, qt - qf, 1] _ (by simp) (0, 0) _ rfl) (Nat.le_refl _) ?_ ?_).mono ?_)
          · exact HALL.out
          · have := HLEN.out
            have := HC5.out.1
            omega
          rintro e V2 ⟨v2, rfl, HO2, hb2⟩
          have HXV := Aside0.mk (box_keep (box_keep HXW.out hal) hb2)
          have HBV := Aside0.mk (below_step (below_step HBW.out hal) hb2)
          obtain ⟨m6, hm6⟩ : ∃ m6, (B5 ++ [qbr, qep, qsq, qf, qt - qf, 1].flatMap V.vput).length = m6 := ⟨_, rfl⟩
          have hm6l : m6 ≤ 6000 := by
            have := HLEN.out
            have := HC5.out.1
            rw [← hm6, List.length_append]
            omega
          obtain ⟨A6, c6, rfl, hc6, hC6⟩ := OB_readn HO2 m6 hm6
          have HC6 := Aside0.mk hC6
          clear hC6 HO2 hb2 hal hm6 y0 y1 y2 y3 y4 y5 y6 y7
          obtain ⟨y0, y1, y2, y3, y4, y5, y6, y7⟩ := vr_cells HXV.out
          go_wp2_with fail
          (with_reducible refine (V.text1_calls A6 m6 c6 _ qv V2 _ HC6.out hc6 (by omega) (by omega)).mono ?_)
          rintro e V3 ⟨v3, rfl, HO3, hb3⟩
          have HXV3 := Aside0.mk (box_keep HXV.out hb3)
          have HO3' := Aside0.mk (Kd.R_lower HO3 HBV.out.size)
          have HBV3 := Aside0.mk (below_step HBV.out hb3)
          clear HO3 hb3 y0 y1 y2 y3 y4 y5 y6 y7
          obtain ⟨y0, y1, y2, y3, y4, y5, y6, y7⟩ := vr_cells HXV3.out
          go_wp2_with fail
          go_roundw
          case rel => exact ⟨k + 1, hlt, by push_cast; rfl, by rw [HTK.out, lastK_snoc], ⟨by rw [HTK.out, bytesW_snoc, HLK.out, ← List.append_assoc, HBB.out]; have h := HO3'.out; rw [← HB5.out] at h; unfold bytesP; rw [HCN.out, HSF.out]; simpa [goneI, List.append_assoc] using h⟩, HBV3⟩
          case measure => simp [intOf]; omega⟩
        refine wp_region_held_drew (S := (fun w' => w'.cell? ⟨wr.heap.size, 0, none⟩ = some (.string qk) ∧ Aside0 (WB w wr.heap.size ⟨qk, qbr, qep, qsq, qf, qt, qv, true⟩ A4 m B w'))) (by kernel_rfl) (WB_S1 HI2d.out) (fun hHeld => ?_)
        obtain ⟨wd, hwd⟩ : ∃ wd, w2.drew = wd := ⟨_, rfl⟩
        rw [hwd] at HI2d hHeld ⊢
        clear hwd
        (refine hd_take 0 (v := ?_) rfl (by kernel_rfl) (by kernel_rfl) (fun _ _ _ h => h) (by assumption) ?_ ?_; rotate_left; (intro w hSw; (try dsimp only at hSw); go_simp; first | done | with_reducible rfl); simp only [Act.put, List.setIfInBounds_toArray, List.set_cons_zero, List.set_cons_succ])
        (refine hd_take 1 (v := ?_) rfl (by kernel_rfl) (by kernel_rfl) (fun _ _ _ h => h) (by assumption) ?_ ?_; rotate_left; (intro w hSw; (try dsimp only at hSw); go_simp; first | done | with_reducible rfl); simp only [Act.put, List.setIfInBounds_toArray, List.set_cons_zero, List.set_cons_succ])
        (refine hd_take 4 (v := ?_) rfl (by kernel_rfl) (by kernel_rfl) (fun _ _ _ h => h) (by assumption) ?_ ?_; rotate_left; (intro w hSw; (try dsimp only at hSw); go_simp; first | done | with_reducible rfl); simp only [Act.put, List.setIfInBounds_toArray, List.set_cons_zero, List.set_cons_succ])
        (refine hd_take 5 (v := ?_) rfl (by kernel_rfl) (by kernel_rfl) (fun _ _ _ h => h) (by assumption) ?_ ?_; rotate_left; (intro w hSw; (try dsimp only at hSw); go_simp; first | done | with_reducible rfl); simp only [Act.put, List.setIfInBounds_toArray, List.set_cons_zero, List.set_cons_succ])
        (refine hd_take 6 (v := ?_) rfl (by kernel_rfl) (by kernel_rfl) (fun _ _ _ h => h) (by assumption) ?_ ?_; rotate_left; (intro w hSw; (try dsimp only at hSw); go_simp; first | done | with_reducible rfl); simp only [Act.put, List.setIfInBounds_toArray, List.set_cons_zero, List.set_cons_succ])
        (refine hd_take 7 (v := ?_) rfl (by kernel_rfl) (by kernel_rfl) (fun _ _ _ h => h) (by assumption) ?_ ?_; rotate_left; (intro w hSw; (try dsimp only at hSw); go_simp; first | done | with_reducible rfl); simp only [Act.put, List.setIfInBounds_toArray, List.set_cons_zero, List.set_cons_succ])
        refine hd_two 2 8 rfl rfl (by kernel_rfl) (fun K1 hK1 => ?_) (fun K1 hK1 => ?_)
        · go_simp
          obtain ⟨W1, hW1⟩ : ∃ W1, wd.alloc (.cells #[.int .i64 cn] 3) = W1 := ⟨_, rfl⟩
          have hz1 : wd.heap.size + 1 = W1.heap.size := by rw [← hW1, World.size_alloc]
          have HL1 : Aside0 ((Kd.int .i64).C W1 (some ⟨wd.heap.size, 0, none⟩) 1 [(cn : Int)]) := by rw [← hW1]; exact ⟨lit_CK wd [(cn : Int)] _ (by simp) (0, 0)⟩
          have HI3 : Aside0 (WB w wr.heap.size ⟨qk, qbr, qep, qsq, qf, qt, qv, true⟩ A4 m B W1) := by rw [← hW1]; exact ⟨WB_step HI2d.out (below_alloc (Below.refl _ _) _)⟩
          rw [hW1]
          refine hK1.out _ _ (WB_S1 HI3.out) (fun hHeld => ?_)
          clear hK1 K1 hW1
          refine hd_two 3 8 rfl rfl (by kernel_rfl) (fun K1 hK1 => ?_) (fun K1 hK1 => ?_)
          · go_simp
            go_wp2_with ((go_at_call 31); (with_reducible refine (putC_calls A4 m c4 B _ 1 cn W1 (WB_c HI3.out) hc4 HL1.out (by omega) (by omega)).mono ?_); rintro e W2 ⟨v28, rfl, hO2, hb2⟩; have HO2 := Aside0.mk hO2; have HI4 := Aside0.mk (WB_step HI3.out hb2); have hz2 := hb2.size; clear hO2 hb2)
            refine hK1.out _ _ (WB_S1 HI4.out) (fun hHeld => ?_)
            clear hK1 K1
            refine hd_one 8 rfl (by kernel_rfl) (fun K1 hK1 => ?_)
            go_simp
            obtain ⟨W3, hW3⟩ : ∃ W3, W2.alloc (.cells #[.string SF] 9) = W3 := ⟨_, rfl⟩
            have HL2 : Aside0 (Kd.string.C W3 (some ⟨W2.heap.size, 0, none⟩) 1 [SF]) := by rw [← hW3]; exact ⟨V.lit_CT W2 [SF] _ (by simp) (0, 0)⟩
            have HI5 : Aside0 (WB w wr.heap.size ⟨qk, qbr, qep, qsq, qf, qt, qv, true⟩ A4 m B W3) := by rw [← hW3]; exact ⟨WB_step HI4.out (below_alloc (Below.refl _ _) _)⟩
            have HO3 : Aside0 (OB W3 W1.heap.size v28 (B ++ V.vput cn)) := by rw [← hW3]; exact ⟨Kd.R_below HO2.out (below_alloc (Below.refl _ _) _)⟩
            rw [hW3]
            refine hK1.out _ _ (WB_S1 HI5.out) (fun hHeld => ?_)
            clear hK1 K1 hW3
            obtain ⟨A28, c28, rfl, hc28, hC28⟩ := OB_readn HO3.out (m + 1) (by rw [List.length_append, HMB.out, HVC.out])
            refine hd_one 9 rfl (by kernel_rfl) (fun K1 hK1 => ?_)
            go_simp
            go_wp2_with ((go_at_call 34); (with_reducible refine (textC_calls A28 _ c28 _ _ 1 SF W3 hC28 hc28 HL2.out (by omega) (by omega)).mono ?_); rintro e W4 ⟨v34, rfl, hO4, hb4⟩; have HO4 := Aside0.mk (Kd.R_lower hO4 (WB_b HI5.out).size); have HI6 := Aside0.mk (WB_step HI5.out hb4); clear hO4 hb4)
            refine hK1.out _ _ (WB_S1 HI6.out) (fun hHeld => ?_)
            clear hK1 K1
            (refine hd_take 10 (v := ?_) rfl (by kernel_rfl) (by kernel_rfl) (fun _ _ _ h => h) (by assumption) ?_ ?_; rotate_left; (intro w hSw; (try dsimp only at hSw); go_simp; first | done | with_reducible rfl); simp only [Act.put, List.setIfInBounds_toArray, List.set_cons_zero, List.set_cons_succ])
            refine wpAnyH_done (by kernel_rfl) ?_ _
            exact HK.out _ _ _ _ _ HO4.out (WB_x HI6.out) (WB_b HI6.out)
          · go_simp
            obtain ⟨W3, hW3⟩ : ∃ W3, W1.alloc (.cells #[.string SF] 9) = W3 := ⟨_, rfl⟩
            have HL2 : Aside0 (Kd.string.C W3 (some ⟨W1.heap.size, 0, none⟩) 1 [SF]) := by rw [← hW3]; exact ⟨V.lit_CT W1 [SF] _ (by simp) (0, 0)⟩
            have HL3 : Aside0 ((Kd.int .i64).C W3 (some ⟨wd.heap.size, 0, none⟩) 1 [(cn : Int)]) := by rw [← hW3]; exact ⟨Kd.C_alloc HL1.out _⟩
            have HI5 : Aside0 (WB w wr.heap.size ⟨qk, qbr, qep, qsq, qf, qt, qv, true⟩ A4 m B W3) := by rw [← hW3]; exact ⟨WB_step HI3.out (below_alloc (Below.refl _ _) _)⟩
            rw [hW3]
            refine hK1.out _ _ (WB_S1 HI5.out) (fun hHeld => ?_)
            clear hK1 K1 hW3
            refine hd_one 3 rfl (by kernel_rfl) (fun K1 hK1 => ?_)
            go_simp
            go_wp2_with ((go_at_call 31); (with_reducible refine (putC_calls A4 m c4 B _ 1 cn W3 (WB_c HI5.out) hc4 HL3.out (by omega) (by omega)).mono ?_); rintro e W2 ⟨v28, rfl, hO2, hb2⟩; have HO2 := Aside0.mk hO2; have HI4 := Aside0.mk (WB_step HI5.out hb2); have HL4 := Aside0.mk (Kd.C_below HL2.out hb2); clear hO2 hb2)
            refine hK1.out _ _ (WB_S1 HI4.out) (fun hHeld => ?_)
            clear hK1 K1
            obtain ⟨A28, c28, rfl, hc28, hC28⟩ := OB_readn HO2.out (m + 1) (by rw [List.length_append, HMB.out, HVC.out])
            refine hd_one 9 rfl (by kernel_rfl) (fun K1 hK1 => ?_)
            go_simp
            go_wp2_with ((go_at_call 34); (with_reducible refine (textC_calls A28 _ c28 _ _ 1 SF W2 hC28 hc28 HL4.out (by omega) (by omega)).mono ?_); rintro e W4 ⟨v34, rfl, hO4, hb4⟩; have HO4 := Aside0.mk (Kd.R_lower hO4 (WB_b HI4.out).size); have HI6 := Aside0.mk (WB_step HI4.out hb4); clear hO4 hb4)
            refine hK1.out _ _ (WB_S1 HI6.out) (fun hHeld => ?_)
            clear hK1 K1
            (refine hd_take 10 (v := ?_) rfl (by kernel_rfl) (by kernel_rfl) (fun _ _ _ h => h) (by assumption) ?_ ?_; rotate_left; (intro w hSw; (try dsimp only at hSw); go_simp; first | done | with_reducible rfl); simp only [Act.put, List.setIfInBounds_toArray, List.set_cons_zero, List.set_cons_succ])
            refine wpAnyH_done (by kernel_rfl) ?_ _
            exact HK.out _ _ _ _ _ HO4.out (WB_x HI6.out) (WB_b HI6.out)
        · go_simp
          obtain ⟨W1, hW1⟩ : ∃ W1, wd.alloc (.cells #[.string SF] 9) = W1 := ⟨_, rfl⟩
          have HL2 : Aside0 (Kd.string.C W1 (some ⟨wd.heap.size, 0, none⟩) 1 [SF]) := by rw [← hW1]; exact ⟨V.lit_CT wd [SF] _ (by simp) (0, 0)⟩
          have HI3 : Aside0 (WB w wr.heap.size ⟨qk, qbr, qep, qsq, qf, qt, qv, true⟩ A4 m B W1) := by rw [← hW1]; exact ⟨WB_step HI2d.out (below_alloc (Below.refl _ _) _)⟩
          rw [hW1]
          refine hK1.out _ _ (WB_S1 HI3.out) (fun hHeld => ?_)
          clear hK1 K1 hW1
          refine hd_one 2 rfl (by kernel_rfl) (fun K1 hK1 => ?_)
          go_simp
          obtain ⟨W3, hW3⟩ : ∃ W3, W1.alloc (.cells #[.int .i64 cn] 3) = W3 := ⟨_, rfl⟩
          have HL3 : Aside0 ((Kd.int .i64).C W3 (some ⟨W1.heap.size, 0, none⟩) 1 [(cn : Int)]) := by rw [← hW3]; exact ⟨lit_CK W1 [(cn : Int)] _ (by simp) (0, 0)⟩
          have HL5 : Aside0 (Kd.string.C W3 (some ⟨wd.heap.size, 0, none⟩) 1 [SF]) := by rw [← hW3]; exact ⟨Kd.C_alloc HL2.out _⟩
          have HI5 : Aside0 (WB w wr.heap.size ⟨qk, qbr, qep, qsq, qf, qt, qv, true⟩ A4 m B W3) := by rw [← hW3]; exact ⟨WB_step HI3.out (below_alloc (Below.refl _ _) _)⟩
          rw [hW3]
          refine hK1.out _ _ (WB_S1 HI5.out) (fun hHeld => ?_)
          clear hK1 K1 hW3
          · refine hd_one 3 rfl (by kernel_rfl) (fun K1 hK1 => ?_)
            go_simp
            go_wp2_with ((go_at_call 31); (with_reducible refine (putC_calls A4 m c4 B _ 1 cn W3 (WB_c HI5.out) hc4 HL3.out (by omega) (by omega)).mono ?_); rintro e W2 ⟨v28, rfl, hO2, hb2⟩; have HO2 := Aside0.mk hO2; have HI4 := Aside0.mk (WB_step HI5.out hb2); have HL4 := Aside0.mk (Kd.C_below HL5.out hb2); clear hO2 hb2)
            refine hK1.out _ _ (WB_S1 HI4.out) (fun hHeld => ?_)
            clear hK1 K1
            obtain ⟨A28, c28, rfl, hc28, hC28⟩ := OB_readn HO2.out (m + 1) (by rw [List.length_append, HMB.out, HVC.out])
            refine hd_one 9 rfl (by kernel_rfl) (fun K1 hK1 => ?_)
            go_simp
            go_wp2_with ((go_at_call 34); (with_reducible refine (textC_calls A28 _ c28 _ _ 1 SF W2 hC28 hc28 HL4.out (by omega) (by omega)).mono ?_); rintro e W4 ⟨v34, rfl, hO4, hb4⟩; have HO4 := Aside0.mk (Kd.R_lower hO4 (WB_b HI4.out).size); have HI6 := Aside0.mk (WB_step HI4.out hb4); clear hO4 hb4)
            refine hK1.out _ _ (WB_S1 HI6.out) (fun hHeld => ?_)
            clear hK1 K1
            (refine hd_take 10 (v := ?_) rfl (by kernel_rfl) (by kernel_rfl) (fun _ _ _ h => h) (by assumption) ?_ ?_; rotate_left; (intro w hSw; (try dsimp only at hSw); go_simp; first | done | with_reducible rfl); simp only [Act.put, List.setIfInBounds_toArray, List.set_cons_zero, List.set_cons_succ])
            refine wpAnyH_done (by kernel_rfl) ?_ _
            exact HK.out _ _ _ _ _ HO4.out (WB_x HI6.out) (WB_b HI6.out)
    · obtain rfl : k = n := by omega
      have hO' := HO.out
      rw [List.take_of_length_le (by rw [HN.out]; exact Nat.le_refl _)] at hO'
      have HO' := Aside0.mk hO'
      clear hO' HO
      go_wp2_with fail
      go_ret
      exact ⟨_, rfl, by unfold blockB; rw [HN.out]; exact HO'.out, HB.out⟩
end Go.Proofs.Ytmfnbkghfmeekaa.A.C
namespace Go.Proofs.Ytmfnbkghfmeekaa.A.C
open Go.RowKit Go.Proofs.YtmfnbkghfmeekaaW.PrintWords Go.Proofs.YtmfnbkghfmeekaaW.PrintLast Go.Proofs.YtmfnbkghfmeekaaW.PrintMore
open R
set_option linter.unusedVariables false
set_option linter.unusedSimpArgs false
def wrE (l : List Vr) : Int := if mayBl l then 0 else 1
def wrB (l : List Vr) : List Int := if mayBl l then blockB l else []
theorem writeB_calls (A : Option Addr) (n c : Nat) (l : List Vr) (w : World) (hr : KVr.C w A n l) (hc : n ≤ c) (hs : smallB l) :
    Calls Try.prog 32 #[.slice A n c] w fun e w' => ∃ u, e = .returned (.tuple #[u, .int .i64 (wrE l)]) ∧ OB w' w.heap.size u (wrB l) ∧ Below w.heap.size w w' := by
  have HR := Aside0.mk hr
  have hmc := fun W h => mayB_calls A n c l W h hc hs
  clear hr
  cases hmb : mayBl l with
  | false =>
    have e1 : wrE l = 1 := by unfold wrE; rw [hmb]; rfl
    have e2 : wrB l = [] := by unfold wrB; rw [hmb]; rfl
    rw [e1, e2]
    rw [hmb] at hmc
    have HMC := Aside0.mk hmc
    clear e1 e2 hmb hs hmc
    go_enter Try.func32, Try.ntmps32
    go_wp2_with fail
    (with_reducible refine (HMC.out w HR.out).mono ?_)
    rintro e w1 ⟨rfl, hb1⟩
    have HB1 := Aside0.mk hb1
    clear hb1
    go_wp2_with fail
    go_ret2
    exact ⟨_, rfl, OB_nil _ _, HB1.out⟩
  | true =>
    have e1 : wrE l = 0 := by unfold wrE; rw [hmb]; rfl
    have e2 : wrB l = blockB l := by unfold wrB; rw [hmb]; rfl
    rw [e1, e2]
    obtain ⟨hm1, _, hm3⟩ := mayBl_all hmb
    have hn8 : n ≤ 8 := by rw [← HR.out.1]; exact hm3
    rw [hmb] at hmc
    have HMC := Aside0.mk hmc
    have HM := Aside0.mk hm1
    clear e1 e2 hmb hm1 hm3 hs hmc
    go_enter Try.func32, Try.ntmps32
    go_wp2_with fail
    (with_reducible refine (HMC.out w HR.out).mono ?_)
    rintro e w1 ⟨rfl, hb1⟩
    have HC1 := Aside0.mk (Kd.C_below HR.out hb1)
    have HB1 := Aside0.mk hb1
    clear hb1
    go_wp2_with fail
    (with_reducible refine (writeb_calls A n c l w1 HC1.out hc hn8 HM.out).mono ?_)
    rintro e w2 ⟨u, rfl, hO2, hb2⟩
    have HO2 := Aside0.mk (Kd.R_lower hO2 HB1.out.size)
    have HB2 := Aside0.mk (below_step HB1.out hb2)
    clear hO2 hb2
    go_wp2_with fail
    go_ret2
    exact ⟨_, rfl, HO2.out, HB2.out⟩
end Go.Proofs.Ytmfnbkghfmeekaa.A.C
namespace Go.Proofs.Ytmfnbkghfmeekaa.A.C
open Go.RowKit Go.Proofs.YtmfnbkghfmeekaaW.PrintWords Go.Proofs.YtmfnbkghfmeekaaW.PrintLast Go.Proofs.YtmfnbkghfmeekaaW.PrintMore
open R
set_option linter.unusedVariables false
set_option linter.unusedSimpArgs false
def cutN (key : ByteArray) (same : Int) : Nat := (if (key.size : Int) < same then (key.size : Int) else same).toNat
def keyB (key : ByteArray) (s : St) : ByteArray := key.extract 0 (cutN key (numS s).1) ++ (textS 200 (numS s).2).1
def s0B (s : St) : St := (textS 200 (numS s).2).2
def s1B (s : St) : St := (numS (s0B s)).2
def s2B (s : St) : St := (numS (s1B s)).2
def s3B (s : St) : St := (numS (s2B s)).2
def s4B (s : St) : St := (numS (s3B s)).2
def s5B (s : St) : St := (numS (s4B s)).2
def s6B (s : St) : St := (numS (s5B s)).2
def oneB (key : ByteArray) (s : St) : Vr × St := (⟨keyB key s, (numS (s0B s)).1, (numS (s1B s)).1, (numS (s2B s)).1, (numS (s3B s)).1, (numS (s3B s)).1 + (numS (s4B s)).1, (textS 200 (s6B s)).1, decide ((numS (s5B s)).1 = 1)⟩, (textS 200 (s6B s)).2)
def rb : Nat → Int → Nat → ByteArray → St → List Vr × St
  | 0, _, _, _, s => ([], s)
  | f + 1, N, c, key, s => if s.2 = 0 ∧ (c : Int) < N then ((oneB key s).1 :: (rb f N (c + 1) (oneB key s).1.k (oneB key s).2).1, (rb f N (c + 1) (oneB key s).1.k (oneB key s).2).2) else ([], s)
def rbAll (bs : List Int) : List Vr × St := rb (bs.length + 2) (numS (bs, 0)).1 0 { data := #[] } (numS (bs, 0)).2
def readB (bs : List Int) : List Vr × Int := if (rbAll bs).2.2 ≠ 0 then ([], (rbAll bs).2.2) else if mayBl (rbAll bs).1 && decide (blockB (rbAll bs).1 = bs) then ((rbAll bs).1, 0) else ([], 2)
def muS (s : St) : Nat := if s.2 = 0 then s.1.length + 1 else 0
theorem numG_lt : ∀ (bs : List Int) (i : Nat) (n : Int), (V.numG i n bs).2.2 = 0 → (V.numG i n bs).2.1.length < bs.length
  | [], i, n, h => by
    unfold V.numG at h
    split at h <;> simp at h
  | c :: r, i, n, h => by
    unfold V.numG at h ⊢
    split at h
    · simp at h
    · rename_i h9
      rw [if_neg h9]
      split at h
      · rename_i h1
        rw [if_pos h1]
        have := numG_lt r (i + 1) _ h
        simp only [List.length_cons]
        omega
      · rename_i h1
        rw [if_neg h1]
        split at h
        · simp at h
        · rename_i h2
          rw [if_neg h2]
          simp
theorem numS_ok {s : St} (h : (numS s).2.2 = 0) : s.2 = 0 ∧ (numS s).2.1.length < s.1.length := by
  by_cases h0 : s.2 = 0
  · refine ⟨h0, ?_⟩
    unfold numS at h ⊢
    rw [if_pos h0] at h ⊢
    exact numG_lt _ _ _ h
  · unfold numS at h
    rw [if_neg h0] at h
    exact absurd h h0
theorem textS_ok {most : Int} {s : St} (h : (textS most s).2.2 = 0) : (numS s).2.2 = 0 := by
  unfold textS at h
  split at h
  · exact h
  · rename_i h1
    simpa using h1
theorem len_num {s : St} (h : okS s) : (numS s).2.1.length ≤ s.1.length := by
  obtain ⟨_, _, k, hk⟩ := okS_num h
  rw [hk, List.length_drop]
  omega
theorem len_text {s : St} (most : Int) (h : okS s) : (textS most s).1.size + (textS most s).2.1.length ≤ s.1.length := by
  have h1 := len_num h
  obtain ⟨_, ⟨h2, _⟩, _⟩ := okS_num h
  unfold textS
  split
  · simp only
    have : ({ data := #[] } : ByteArray).size = 0 := rfl
    omega
  · split
    · simp only [List.length_nil]
      have : ({ data := #[] } : ByteArray).size = 0 := rfl
      omega
    · split
      · simp only [List.length_nil]
        have : ({ data := #[] } : ByteArray).size = 0 := rfl
        omega
      · simp only [strOfNums_size, List.length_take, List.length_drop]
        omega
theorem okB {s : St} (h : okS s) : okS (numS s).2 ∧ okS (s0B s) ∧ okS (s1B s) ∧ okS (s2B s) ∧ okS (s3B s) ∧ okS (s4B s) ∧ okS (s5B s) ∧ okS (s6B s) ∧ okS (textS 200 (s6B s)).2 := by
  have a0 := (okS_num h).1
  have a1 := (okS_text 200 a0).1
  have a2 := (okS_num a1).1
  have a3 := (okS_num a2).1
  have a4 := (okS_num a3).1
  have a5 := (okS_num a4).1
  have a6 := (okS_num a5).1
  have a7 := (okS_num a6).1
  exact ⟨a0, a1, a2, a3, a4, a5, a6, a7, (okS_text 200 a7).1⟩
theorem lenB {key : ByteArray} {s : St} (h : okS s) : (textS 200 (numS s).2).1.size + (s0B s).1.length ≤ s.1.length ∧ (oneB key s).2.1.length ≤ (s0B s).1.length := by
  obtain ⟨a0, a1, a2, a3, a4, a5, a6, a7, a8⟩ := okB h
  have b0 := len_num h
  have b1 := len_text 200 a0
  have b2 : (s1B s).1.length ≤ _ := len_num a1
  have b3 : (s2B s).1.length ≤ _ := len_num a2
  have b4 : (s3B s).1.length ≤ _ := len_num a3
  have b5 : (s4B s).1.length ≤ _ := len_num a4
  have b6 : (s5B s).1.length ≤ _ := len_num a5
  have b7 : (s6B s).1.length ≤ _ := len_num a6
  have b8 := len_text 200 a7
  have e : (oneB key s).2 = (textS 200 (s6B s)).2 := rfl
  rw [e]
  have e0 : s0B s = (textS 200 (numS s).2).2 := rfl
  rw [← e0] at b1
  omega
theorem mu_lt {s : St} (key : ByteArray) (h : okS s) (h0 : s.2 = 0) : muS (oneB key s).2 < muS s := by
  have hm : muS s = s.1.length + 1 := by unfold muS; rw [if_pos h0]
  rw [hm]
  unfold muS
  split
  · rename_i h1
    have c7 := textS_ok (show (textS 200 (s6B s)).2.2 = 0 from h1)
    have d6 : (s6B s).2 = 0 := (numS_ok c7).1
    have d5 : (s5B s).2 = 0 := (numS_ok d6).1
    have d4 : (s4B s).2 = 0 := (numS_ok d5).1
    have d3 : (s3B s).2 = 0 := (numS_ok d4).1
    have d2 : (s2B s).2 = 0 := (numS_ok d3).1
    have d1 : (s1B s).2 = 0 := (numS_ok d2).1
    have d0 : (s0B s).2 = 0 := (numS_ok d1).1
    have c0 := (numS_ok (textS_ok d0)).1
    have e0 := (numS_ok c0).2
    have h2 := lenB (key := key) h
    have h3 := len_text 200 (okB h).1
    have e1 : s0B s = (textS 200 (numS s).2).2 := rfl
    rw [← e1] at h3
    omega
  · omega
theorem rb_go {f : Nat} {N : Int} {c : Nat} {key : ByteArray} {s : St} (h0 : s.2 = 0) (hc : (c : Int) < N) : rb (f + 1) N c key s = ((oneB key s).1 :: (rb f N (c + 1) (oneB key s).1.k (oneB key s).2).1, (rb f N (c + 1) (oneB key s).1.k (oneB key s).2).2) := by
  rw [rb, if_pos ⟨h0, hc⟩]
theorem rb_stop {f : Nat} {N : Int} {c : Nat} {key : ByteArray} {s : St} (h : ¬ (s.2 = 0 ∧ (c : Int) < N)) : rb f N c key s = ([], s) := by
  cases f with
  | zero => rfl
  | succ f => rw [rb, if_neg h]
theorem keyB_size {key : ByteArray} {s : St} (h : okS s) : (keyB key s).size + (oneB key s).2.1.length ≤ key.size + s.1.length := by
  have h1 := lenB (key := key) h
  unfold keyB
  rw [ByteArray.size_append, ByteArray.size_extract]
  omega
theorem take_next {x : List Int} {k : Nat} (hk : k < x.length) : x.take (k + 1) = x.take k ++ [x.getD k 0] := by
  rw [List.take_succ_eq_append_getElem hk]
  simp [List.getD_eq_getElem?_getD, hk]
theorem C_atN8 {A : Option Addr} {n : Nat} {l : List Int} {w : World} (h : U8.C w A n l) (i : Nat) (hi : i < n) : ∃ ad, A = some ad ∧ w.cell? (ad.add i) = some (.int .u8 (l.getD i 0)) := by
  have hn := h.1
  subst hn
  exact C_at h i hi
set_option maxRecDepth 100000 in
set_option maxHeartbeats 4000000 in
theorem equal_calls (A B : Option Addr) (n m c d : Nat) (x y : List Int) (w : World) (hr : U8.C w A n x) (hs : U8.C w B m y) (hc : n ≤ c) (hd : m ≤ d) :
    Calls Try.prog 40 #[.slice A n c, .slice B m d] w fun e w' => e = .returned (.bool (decide (x = y))) ∧ Below w.heap.size w w' := by
  have HR := Aside0.mk hr
  have HS := Aside0.mk hs
  have HN := Aside0.mk hr.1
  have HM := Aside0.mk hs.1
  have hm : n ≤ 9223372036854775807 := hr.2.1
  have hm2 : m ≤ 9223372036854775807 := hs.2.1
  clear hr hs
  by_cases hnm : n = m
  · subst hnm
    go_enter Try.func40, Try.ntmps40
    go_wp2_with fail
    go_loopw [13] (fun v13 w' => ∃ k : Nat, k ≤ n ∧ v13 = .int .i64 k ∧ Aside0 (x.take k = y.take k) ∧ Aside0 (Below w.heap.size w w')) (fun v13 _ => n - (intOf v13).toNat)
    case atStart => exact ⟨0, Nat.zero_le _, rfl, ⟨rfl⟩, ⟨Below.refl _ _⟩⟩
    case round =>
      obtain ⟨k, hk, rfl, HE, HB⟩ := hrel
      by_cases hlt : k < n
      · have HBd := Aside0.mk (below_drew1 HB.out)
        obtain ⟨ad, rfl, p1⟩ := C_atN8 (Kd.C_below HR.out HBd.out) k hlt
        obtain ⟨bd, rfl, p2⟩ := C_atN8 (Kd.C_below HS.out HBd.out) k hlt
        have HX := Aside0.mk (take_next (x := x) (k := k) (by rw [HN.out]; exact hlt))
        have HY := Aside0.mk (take_next (x := y) (k := k) (by rw [HM.out]; exact hlt))
        have i1 : (k : Int) < (n : Int) := by omega
        have i2 : (0 : Int) ≤ (k : Int) := by omega
        generalize x.getD k 0 = a at *
        generalize y.getD k 0 = b at *
        by_cases hab : a = b
        · subst hab
          have hq : (a != a) = false := by simp
          go_wp2_with fail
          go_still (by kernel_rfl)
          go_wp2_with fail
          go_roundw
          case rel => exact ⟨k + 1, hlt, rfl, ⟨by rw [HX.out, HY.out, HE.out]⟩, HBd⟩
          case measure => simp [intOf]; omega
        · have hq : (a == b) = false := beq_eq_false_iff_ne.2 hab
          have hq2 : (a != b) = true := bne_iff_ne.2 hab
          have HNE : Aside0 (decide (x = y) = false) := ⟨decide_eq_false (fun e => hab (by
            have h1 := HX.out
            have h2 := HY.out
            rw [e, h2] at h1
            have := List.append_inj_right' h1 rfl
            simpa using this.symm))⟩
          clear hab
          go_wp2_with fail
          go_still (by kernel_rfl)
          go_wp2_with fail
          go_ret
          exact ⟨by rw [HNE.out]; rfl, HBd.out⟩
      · obtain rfl : k = n := by omega
        have HEQ : Aside0 (decide (x = y) = true) := ⟨decide_eq_true (by have h := HE.out; rwa [List.take_of_length_le (by rw [HN.out]; exact Nat.le_refl _), List.take_of_length_le (by rw [HM.out]; exact Nat.le_refl _)] at h)⟩
        go_wp2_with fail
        go_ret
        exact ⟨by rw [HEQ.out]; rfl, HB.out⟩
  · have HNE : Aside0 (decide (x = y) = false) := ⟨decide_eq_false (fun e => hnm (by rw [← HN.out, ← HM.out, e]))⟩
    have hq : ((n : Int) == (m : Int)) = false := beq_eq_false_iff_ne.2 (by omega)
    have hq2 : ((n : Int) != (m : Int)) = true := bne_iff_ne.2 (by omega)
    go_enter Try.func40, Try.ntmps40
    go_wp2_with fail
    go_ret
    exact ⟨by rw [HNE.out]; rfl, Below.refl _ _⟩
end Go.Proofs.Ytmfnbkghfmeekaa.A.C
namespace Go.Proofs.Ytmfnbkghfmeekaa.A.C
open Go.RowKit Go.Proofs.YtmfnbkghfmeekaaW.PrintWords Go.Proofs.YtmfnbkghfmeekaaW.PrintLast Go.Proofs.YtmfnbkghfmeekaaW.PrintMore
open R
attribute [local go_sem] max2_int min2_int max_two min_two
set_option linter.unusedVariables false
set_option linter.unusedSimpArgs false
def QA (w w0 : World) (g y : Nat) (u : Value) (out : List Vr) (W : World) (s : St) : Prop := RS w0 g W s ∧ KVr.R 28 W (g + 1) (fun k => k < y) u out ∧ Below w.heap.size w W
def QB (w w0 : World) (g y : Nat) (u : Value) (out : List Vr) (W : World) (s : St) (p : Vr) : Prop := QA w w0 g y u out W s ∧ W.heap[y]? = some (vrB p)
section
variable {w w0 : World} {g y : Nat} {u : Value} {out : List Vr} {W W1 : World} {s s1 : St} {p p' : Vr}
theorem QA_rs (h : QA w w0 g y u out W s) : RS w0 g W s := h.1
theorem QB_rs (h : QB w w0 g y u out W s p) : RS w0 g W s := h.1.1
theorem QB_x (h : QB w w0 g y u out W s p) : W.heap[y]? = some (vrB p) := h.2
theorem QA_num (h : QA w w0 g y u out W s) (h0 : w.heap.size ≤ g) (hR : RS w0 g W1 s1) (hg : W.grownBy W1 (some g)) : QA w w0 g y u out W1 s1 :=
  ⟨hR, Kd.R_mono (Kd.R_move (Kd.R_bound h.2.1) (fun k hk => hg.block k hk.2.2.1 (fun he => by injection he with he; have := hk.2.1; omega))) (fun _ hk => hk.1), h.2.2.grown hg h.2.2.size (fun k e => by cases e; exact h0)⟩
theorem QB_num (h : QB w w0 g y u out W s p) (h0 : w.heap.size ≤ g) (hy : g < y) (hR : RS w0 g W1 s1) (hg : W.grownBy W1 (some g)) : QB w w0 g y u out W1 s1 p :=
  ⟨QA_num h.1 h0 hR hg, blk_grown h.2 hg (by intro e; injection e with e; omega)⟩
theorem QA_below (h : QA w w0 g y u out W s) (hb : Below W.heap.size W W1) : QA w w0 g y u out W1 s := ⟨RS_below h.1 hb, Kd.R_below h.2.1 hb, below_step h.2.2 hb⟩
theorem QB_below (h : QB w w0 g y u out W s p) (hb : Below W.heap.size W W1) : QB w w0 g y u out W1 s p := ⟨QA_below h.1 hb, box_keep h.2 hb⟩
theorem QB_set (h : QB w w0 g y u out W s p) (h0 : w.heap.size ≤ g) (h00 : w0.heap.size ≤ g) (hy : g < y) (j : Nat) (v : Value)
    (e : (#[.string p.k, .int .i64 p.br, .int .i64 p.ep, .int .i64 p.sq, .int .i64 p.f, .int .i64 p.t, .string p.v, .bool p.g] : Array Value).setIfInBounds j v = #[.string p'.k, .int .i64 p'.br, .int .i64 p'.ep, .int .i64 p'.sq, .int .i64 p'.f, .int .i64 p'.t, .string p'.v, .bool p'.g]) : QB w w0 g y u out (W.setCell ⟨y, j, none⟩ v) s p' :=
  ⟨⟨RS_set h.1.1 (by omega) (by omega) j v, Kd.R_move h.1.2.1 (fun k hk => Below.heap_setCell _ _ v k (fun e => by simp only at e; omega)), h.1.2.2.setCell (p := ⟨y, j, none⟩) (by show w.heap.size ≤ y; omega) _⟩, blk_put h.2 j v e⟩
theorem QB_four (h : QB w w0 g y u out W s p) (h0 : w.heap.size ≤ g) (h00 : w0.heap.size ≤ g) (hy : g < y) (b e q : Int) : QB w w0 g y u out (((W.setCell ⟨y, 1, none⟩ (.int .i64 b)).setCell ⟨y, 2, none⟩ (.int .i64 e)).setCell ⟨y, 3, none⟩ (.int .i64 q)) s ⟨p.k, b, e, q, p.f, p.t, p.v, p.g⟩ :=
  QB_set (p := ⟨p.k, b, e, p.sq, p.f, p.t, p.v, p.g⟩) (QB_set (p := ⟨p.k, b, p.ep, p.sq, p.f, p.t, p.v, p.g⟩) (QB_set h h0 h00 hy 1 (.int .i64 b) rfl) h0 h00 hy 2 (.int .i64 e) rfl) h0 h00 hy 3 (.int .i64 q) rfl
theorem QB_eight (h : QB w w0 g y u out W s p) (h0 : w.heap.size ≤ g) (h00 : w0.heap.size ≤ g) (hy : g < y) (q : Vr) : QB w w0 g y u out ((((((((W.setCell ⟨y, 0, none⟩ (.string q.k)).setCell ⟨y, 1, none⟩ (.int .i64 q.br)).setCell ⟨y, 2, none⟩ (.int .i64 q.ep)).setCell ⟨y, 3, none⟩ (.int .i64 q.sq)).setCell ⟨y, 4, none⟩ (.int .i64 q.f)).setCell ⟨y, 5, none⟩ (.int .i64 q.t)).setCell ⟨y, 6, none⟩ (.string q.v)).setCell ⟨y, 7, none⟩ (.bool q.g)) s q :=
  (QB_set (p' := ⟨q.k, q.br, q.ep, q.sq, q.f, q.t, q.v, q.g⟩) (QB_set (p' := ⟨q.k, q.br, q.ep, q.sq, q.f, q.t, q.v, p.g⟩) (QB_set (p' := ⟨q.k, q.br, q.ep, q.sq, q.f, q.t, p.v, p.g⟩) (QB_set (p' := ⟨q.k, q.br, q.ep, q.sq, q.f, p.t, p.v, p.g⟩) (QB_set (p' := ⟨q.k, q.br, q.ep, q.sq, p.f, p.t, p.v, p.g⟩) (QB_set (p' := ⟨q.k, q.br, q.ep, p.sq, p.f, p.t, p.v, p.g⟩) (QB_set (p' := ⟨q.k, q.br, p.ep, p.sq, p.f, p.t, p.v, p.g⟩) (QB_set (p' := ⟨q.k, p.br, p.ep, p.sq, p.f, p.t, p.v, p.g⟩) h h0 h00 hy 0 (.string q.k) rfl) h0 h00 hy 1 (.int .i64 q.br) rfl) h0 h00 hy 2 (.int .i64 q.ep) rfl) h0 h00 hy 3 (.int .i64 q.sq) rfl) h0 h00 hy 4 (.int .i64 q.f) rfl) h0 h00 hy 5 (.int .i64 q.t) rfl) h0 h00 hy 6 (.string q.v) rfl) h0 h00 hy 7 (.bool q.g) rfl)
theorem QB_app {v1 : Value} {l1 : List Vr} (h : QB w w0 g y u out W s p) (h00 : w0.heap.size ≤ g) (hgy : g < W.heap.size) (hb : Below (g + 1) W W1) (hg : W.grownBy W1 u.ownBlock) (hO : OVr W1 (g + 1) v1 l1) (h0 : w.heap.size ≤ g) : QA w w0 g W1.heap.size v1 l1 W1 s ∧ W1.heap[y]? = some (vrB p) := by
  refine ⟨⟨?_, Kd.R_mono (Kd.R_bound hO) (fun k hk => hk.2.2.1), h.1.2.2.trans (hb.mono (by omega))⟩, ?_⟩
  · obtain ⟨A, c, h1, h2, h3, h4⟩ := h.1.1
    exact ⟨A, c, (hb.block _ (by omega)).trans h1, h2, h3, h4.trans (hb.mono (by omega))⟩
  · refine (hg.block _ (blk_lt h.2) (fun e => ?_)).trans h.2
    have := h.1.2.1.1 y e.symm
    omega
end
theorem app_vr_step {ops : Array Oper} {o : Oper} {a : Act} {Q : Exit → Act → World → Prop} {W : World} {B : Nat} {Kc : Act → World → Prop} {s x : Operand} (hgd : o.guard = none) (ho : o.op = .call { callee := .builtin .append, args := #[s, x], argTypes := #[22, 22] }) {v : Value} {xs : List Vr} {k : ByteArray} {br ep sq f t : Int} {vv : ByteArray} {g : Bool}
    (hs : a.eval s = v) (hx : a.eval x = .slice (some ⟨W.heap.size, 0, none⟩) 1 1) (HO : OVr W B v xs) (hB : B ≤ W.heap.size) (hl : xs.length ≤ 1000000)
    (h : ∀ v1 w1, OVr w1 B v1 (xs ++ [⟨k, br, ep, sq, f, t, vv, g⟩]) → Below B W w1 → W.grownBy w1 v.ownBlock → Kc (a.put o.dst v1) w1) :
    if Region.wanted o (yielded ops a.tmps) = true then Oper.wp Try.prog o a (W.alloc (.cells #[.string k, .int .i64 br, .int .i64 ep, .int .i64 sq, .int .i64 f, .int .i64 t, .string vv, .bool g] 28)) Kc Q else Kc (a.put o.dst undef) (W.alloc (.cells #[.string k, .int .i64 br, .int .i64 ep, .int .i64 sq, .int .i64 f, .int .i64 t, .string vv, .bool g] 28)) :=
  app_one_step KVr 22 28 (.agg #[.string ByteArray.empty, .int .i64 0, .int .i64 0, .int .i64 0, .int .i64 0, .int .i64 0, .string ByteArray.empty, .bool false]) 80 Try.underlying22 infoVr rfl (by decide) (by decide) hgd ho hs hx (fun okp => KVr_M W B okp ⟨k, br, ep, sq, f, t, vv, g⟩) HO hB (by omega) h
theorem cut_eq (key : ByteArray) (same : Int) (h : 0 ≤ same) : (if (key.size : Int) < same then (key.size : Int) else same) = (cutN key same : Int) ∧ cutN key same ≤ key.size := by
  unfold cutN
  split <;> omega
theorem okS_by {s : St} (h : okS s) : ∀ x ∈ s.1, 0 ≤ x ∧ x ≤ 255 := h.1
def muW (W : World) (g : Nat) : Nat := match W.heap[g]? with
  | some (Obj.cells cs _ _) => match cs.getD 0 (.bool true), cs.getD 1 (.bool true) with
    | Value.slice _ n _, Value.int _ e => if e = 0 then n + 1 else 0
    | _, _ => 0
  | _ => 0
theorem muW_eq {w0 W : World} {g : Nat} {s : St} (h : RS w0 g W s) : muW W g = muS s := by
  obtain ⟨A, c, h1, _⟩ := h
  unfold muW muS
  rw [h1]
  rfl
set_option maxRecDepth 100000 in
set_option maxHeartbeats 16000000 in
theorem readb_calls (A : Option Addr) (n c : Nat) (bs : List Int) (w : World) (hr : U8.C w A n bs) (hc : n ≤ c) (hl : n ≤ 100000) (hby : ∀ x ∈ bs, 0 ≤ x ∧ x ≤ 255) :
    Calls Try.prog 39 #[.slice A n c] w fun e w' => ∃ u, e = .returned (.tuple #[u, .int .i64 (readB bs).2]) ∧ OVr w' w.heap.size u (readB bs).1 ∧ Below w.heap.size w w' := by
  have HR := Aside0.mk hr
  have HBY := Aside0.mk hby
  have HN := Aside0.mk hr.1
  have HOK : Aside0 (okS (bs, 0)) := ⟨⟨hby, fun h => absurd rfl h⟩⟩
  have HSP : Aside0 (rbAll bs = rb (bs.length + 2) (numS (bs, 0)).1 0 { data := #[] } (numS (bs, 0)).2) := ⟨rfl⟩
  have HRD : Aside0 (readB bs = if (rbAll bs).2.2 ≠ 0 then ([], (rbAll bs).2.2) else if mayBl (rbAll bs).1 && decide (blockB (rbAll bs).1 = bs) then ((rbAll bs).1, 0) else ([], 2)) := ⟨rfl⟩
  obtain ⟨RB, hRB⟩ : ∃ RB, rbAll bs = RB := ⟨_, rfl⟩
  obtain ⟨RD, hRD⟩ : ∃ RD, readB bs = RD := ⟨_, rfl⟩
  rw [hRB] at HSP HRD
  rw [hRD] at HRD ⊢
  obtain ⟨rdl, rde⟩ := RD
  obtain ⟨rbl, rbs⟩ := RB
  simp only at HRD ⊢
  clear hr hby hRB hRD
  go_enter Try.func39, Try.ntmps39
  go_wp2_with fail
  (with_reducible refine (V.read_calls A n c bs _ HR.out hc hl).mono ?_)
  rintro e w1 ⟨w0, rfl, hRD, hb0⟩
  have HRS : Aside0 (RS w0 w0.heap.size w1 (bs, 0)) := ⟨by obtain ⟨a1, a2, a3, a4, a5, a6⟩ := hRD; exact ⟨a1, a2, a3, a4, a5, a6⟩⟩
  have hbr : Below w0.heap.size w0 w1 := by obtain ⟨a1, a2, a3, a4, a5, a6⟩ := hRD; exact a6
  have hg1 : w0.heap.size < w1.heap.size := by obtain ⟨A, c, h1, _⟩ := HRS.out; exact blk_lt h1
  obtain ⟨g, hg⟩ : ∃ g, w0.heap.size = g := ⟨_, rfl⟩
  have h00 : w0.heap.size ≤ g := by omega
  have h0 : w.heap.size ≤ g := by have := hb0.size; omega
  have HQ1 : Aside0 (QA w w0 g w1.heap.size (.slice none 0 0) [] w1 (bs, 0)) := ⟨by rw [← hg]; exact ⟨HRS.out, Kd.R_nil _ _ _ _ _, below_step hb0 hbr⟩⟩
  rw [hg] at hg1 ⊢
  clear hRD hbr HRS hb0 hg
  go_wp2_with fail
  (with_reducible refine (numS_calls w0 w1 g (bs, 0) (QA_rs HQ1.out) h00 (okS_by HOK.out)).mono ?_)
  rintro e w2 ⟨rfl, hR2, hg2⟩
  have hz2 := hg2.size
  have HQ2 := Aside0.mk (QA_num HQ1.out h0 hR2 hg2)
  have HOK2 := Aside0.mk (okS_num HOK.out)
  have hln := len_num HOK.out
  generalize numS (bs, 0) = NN at *
  obtain ⟨N, s1⟩ := NN
  simp only at HSP HOK2 hln
  obtain ⟨⟨hN0, hN1⟩, _⟩ := HOK2.out.2
  have HK1 := Aside0.mk HOK2.out.1
  have hln1 : s1.1.length ≤ n := by have := HN.out; omega
  have HN62 := Aside0.mk hN1
  clear hR2 hg2 HQ1 hln HOK2
  go_wp2_with fail
  go_loopw [6, 7] (fun v6 v7 w' => ∃ (cnt f : Nat) (key : ByteArray) (s : St) (out : List Vr), v6 = .string key ∧ Aside0 (out.length = cnt) ∧ Aside0 (out ++ (rb f N cnt key s).1 = rbl ∧ (rb f N cnt key s).2 = rbs) ∧ muS s ≤ f ∧ cnt + muS s ≤ n + 1 ∧ key.size + s.1.length ≤ n ∧ Aside0 (okS s) ∧ Aside0 (∀ p ∈ out, p.k.size ≤ n ∧ p.v.size ≤ 200) ∧ Aside0 (QA w w0 g w'.heap.size v7 out w' s) ∧ g < w'.heap.size) (fun _ _ w' => muW w' g)
  case atStart => exact ⟨0, n + 2, { data := #[] }, s1, [], rfl, ⟨rfl⟩, ⟨by have h := HSP.out; rw [HN.out] at h; simp only [List.nil_append]; rw [← h]; exact ⟨rfl, rfl⟩⟩, by unfold muS; split <;> omega, by unfold muS; split <;> omega, by show 0 + _ ≤ _; omega, HK1, ⟨by simp⟩, ⟨⟨QA_rs HQ2.out, Kd.R_mono (Kd.R_bound HQ2.out.2.1) (fun k hk => hk.2.2.1), HQ2.out.2.2⟩⟩, by omega⟩
  case round =>
    obtain ⟨cnt, f, key, s, out, rfl, HLEN, HTOT, hmu, hcm, hks, HOS, HSM, HQ, hgr⟩ := hrel
    by_cases hcn : s.2 = 0 ∧ (cnt : Int) < N
    · obtain ⟨hs0, hcN⟩ := hcn
      have hmulen : muS s = s.1.length + 1 := by unfold muS; rw [if_pos hs0]
      obtain ⟨f', rfl⟩ : ∃ f', f = f' + 1 := ⟨f - 1, by omega⟩
      have hT := HTOT.out
      rw [rb_go hs0 hcN] at hT
      have m1 := mu_lt key HOS.out hs0
      have m2 := keyB_size (key := key) HOS.out
      obtain ⟨k0, k1, k2, k3, k4, k5, k6, k7, k8⟩ := okB HOS.out
      have z1 : ((textS 200 (s6B s)).1.size : Int) ≤ 200 := textS_size 200 (by decide) k7
      have e4 := (okS_num k4).2.1
      have e5 := (okS_num k5).2.1
      have e0 := (okS_num HOS.out).2.1.1
      have e8 : (oneB key s).2 = (textS 200 (s6B s)).2 := rfl
      have e9 : (oneB key s).1.v = (textS 200 (s6B s)).1 := rfl
      have e7 : (oneB key s).1.k = keyB key s := rfl
      rw [← e8] at k8
      rw [← e9] at z1
      rw [← e7] at m2
      obtain ⟨P1, hP1⟩ : ∃ P1, oneB key s = P1 := ⟨_, rfl⟩
      have HONE : Aside0 (P1 = oneB key s) := ⟨hP1.symm⟩
      rw [hP1] at hT m1 m2 k8 z1
      have HT := Aside0.mk hT
      have HZ := Aside0.mk z1
      have K8 := Aside0.mk k8
      have M1 := Aside0.mk m1
      have M2 := Aside0.mk m2
      have K0 := Aside0.mk (okS_by k0)
      have KK0 := Aside0.mk k0
      have K1' := Aside0.mk (okS_by k1)
      have K2' := Aside0.mk (okS_by k2)
      have K3' := Aside0.mk (okS_by k3)
      have K4' := Aside0.mk (okS_by k4)
      have K5' := Aside0.mk (okS_by k5)
      have K6' := Aside0.mk (okS_by k6)
      have KK7 := Aside0.mk k7
      have hwr : IntKind.i64.wrap ((numS (s3B s)).1 + (numS (s4B s)).1) = (numS (s3B s)).1 + (numS (s4B s)).1 := IntWalk.i64_in _ (by omega)
      have HWR := Aside0.mk hwr
      unfold oneB keyB at HONE
      unfold s6B s5B s4B s3B s2B s1B s0B at HONE KK7
      unfold s5B s4B s3B s2B s1B s0B at K6'
      unfold s4B s3B s2B s1B s0B at K5'
      unfold s3B s2B s1B s0B at K4'
      unfold s4B s3B s2B s1B s0B at HWR
      unfold s2B s1B s0B at K3'
      unfold s1B s0B at K2'
      unfold s0B at K1'
      clear hT m1 m2 k0 k1 k2 k3 k4 k5 k6 k7 k8 z1 e4 e5 e8 e9 e7 hP1 hwr HTOT
      have HQ0 : Aside0 (RS w0 g wr s) := ⟨QA_rs HQ.out⟩
      go_wp2_with fail
      (with_reducible refine (errS_calls w0 _ g s (QA_rs HQ.out)).mono ?_)
      rintro e _ ⟨rfl, rfl⟩
      have hne : (s.2 == 0) = true := by simpa using hs0
      rw [hs0]
      obtain ⟨A7, c7, rfl, hc7, hC7⟩ := OVr_readn (Kd.R_mono HQ.out.2.1 (fun _ _ => trivial)) cnt HLEN.out
      clear hC7
      go_wp2_with fail
      (with_reducible refine (numS_calls w0 _ g s (QA_rs HQ.out) h00 (okS_by HOS.out)).mono ?_)
      rintro e w3 ⟨rfl, hR3, hg3⟩
      have hz3 := hg3.size
      have HQ3 : Aside0 (QA w w0 g w3.heap.size (.slice A7 cnt c7) out w3 (numS s).2) := by
        have h := QA_num HQ.out h0 hR3 hg3
        exact ⟨h.1, Kd.R_mono h.2.1 (fun k hk => by omega), h.2.2⟩
      have HBM := HQ.out.2.2
      clear hR3 HQ HBM
      have hcut := cut_eq key (numS s).1 e0
      generalize numS s = A0 at *
      obtain ⟨same, sa⟩ := A0
      simp only at hcut HQ3 HONE ⊢
      obtain ⟨hcut, hcl⟩ := hcut
      obtain ⟨cn, hcnn⟩ : ∃ cn, cutN key same = cn := ⟨_, rfl⟩
      rw [hcnn] at hcut hcl HONE
      have j1 : (0 : Int) ≤ (cn : Int) := by omega
      have j2 : (cn : Int) ≤ (key.size : Int) := by omega
      have HQ3d := Aside0.mk (QA_below HQ3.out (below_drew1 (Below.refl _ _)))
      go_wp2_with fail
      rename_i K hK
      have hsl : (Instr.slice 9 (.string key) none (some (.int .i64 (cn : Int))) none).run Try.prog = (Instr.slice 9 (.string key) none (some (.int .i64 (cn : Int))) none).run Try.prog := rfl
      clear hsl
      have hRT := textS_calls w0 w3.drew g sa 200 (QA_rs HQ3d.out) h00 KK0.out
      obtain ⟨TX, hTX⟩ : ∃ TX, textS 200 sa = TX := ⟨_, rfl⟩
      have hts : ((textS 200 sa).1.size : Int) ≤ 200 := textS_size 200 (by decide) KK0.out
      rw [hTX] at hts HONE hRT K1' K2' K3' K4' K5' K6' KK7 HWR
      obtain ⟨tx, st0⟩ := TX
      simp only at hts HONE hRT K1' K2' K3' K4' K5' K6' KK7 HWR
      have hnt : ¬ 9223372036854775807 < cn + tx.size := by omega
      have HRT := Aside0.mk hRT
      obtain ⟨KB, hKB⟩ : ∃ KB, key.extract 0 cn ++ tx = KB := ⟨_, rfl⟩
      rw [hKB] at HONE
      have HKB := Aside0.mk hKB
      have HK : Aside0 (∀ (y : Nat) (W : World), g < y → QB w w0 g y (.slice A7 cnt c7) out W st0 ⟨KB, 0, 0, 0, 0, 0, { data := #[] }, false⟩ → y < W.heap.size → K { tmps := #[.slice A n c, undef, .slice none 0 0, .int .i64 0, .pointer (some ⟨g, 0, none⟩), .int .i64 N, .string key, .slice A7 cnt c7, .int .i64 same, .pointer (some ⟨y, 0, none⟩), .slice A n c, .pointer (some ⟨g, 0, none⟩), .pointer (some ⟨g, 0, none⟩), .int .i64 N, .pointer (some ⟨g, 0, none⟩), .int .i64 0, .bool true, .bool true, .slice A7 cnt c7, .int .i64 cnt, .int .i64 N, .bool true, .bool true, .pointer (some ⟨g, 0, none⟩), .int .i64 same, .string key, .int .i64 same, .string key, .int .i64 key.size, .int .i64 cn, .string (key.extract 0 cn), .pointer (some ⟨g, 0, none⟩), .string tx, .string KB, .agg #[.string KB, .int .i64 0, .int .i64 0, .int .i64 0, .int .i64 0, .int .i64 0, .string { data := #[] }, .bool false], u35, u36, u37, u38, u39, u40, u41, u42, u43, u44, u45, u46, u47, u48, u49, u50, u51, u52, u53, u54, u55, u56, u57, u58, u59, u60, u61, u62, u63, u64, u65, u66, u67, undef, undef, undef, undef, undef, undef, undef, undef, undef, undef, undef, undef, undef, undef, undef, undef, undef, undef], defers := [] } W) := ⟨by
        intro y W hy hQB hyW
        refine hK _ _ ?_
        clear hK
        have HP0 := Aside0.mk hQB
        clear hQB
        go_wp2_with fail
        (with_reducible refine (numS_calls w0 _ g st0 (QB_rs HP0.out) h00 K1'.out).mono ?_)
        rintro e V1 ⟨rfl, hRn, hgn⟩
        have hyW1 := hgn.size
        have HP1 := Aside0.mk (QB_num HP0.out h0 hy hRn hgn)
        clear hRn hgn HP0
        generalize numS st0 = n1 at *
        obtain ⟨a1, t1⟩ := n1
        simp only at HONE KK7 HWR K2' K3' K4' K5' K6' ⊢
        go_wp2_with fail
        (with_reducible refine (numS_calls w0 _ g t1 (QB_rs HP1.out) h00 K2'.out).mono ?_)
        rintro e V2 ⟨rfl, hRn, hgn⟩
        have hyW2 := hgn.size
        have HP2 := Aside0.mk (QB_num HP1.out h0 hy hRn hgn)
        clear hRn hgn HP1
        generalize numS t1 = n2 at *
        obtain ⟨a2, t2⟩ := n2
        simp only at HONE KK7 HWR K3' K4' K5' K6' ⊢
        go_wp2_with fail
        (with_reducible refine (numS_calls w0 _ g t2 (QB_rs HP2.out) h00 K3'.out).mono ?_)
        rintro e V3 ⟨rfl, hRn, hgn⟩
        have hyW3 := hgn.size
        have HP3 := Aside0.mk (QB_num HP2.out h0 hy hRn hgn)
        clear hRn hgn HP2
        generalize numS t2 = n3 at *
        obtain ⟨a3, t3⟩ := n3
        simp only at HONE KK7 HWR K4' K5' K6' ⊢
        obtain ⟨x0, x1, x2, x3, x4, x5, x6, x7⟩ := vr_cells (QB_x HP3.out)
        have fz := vr_frozen (QB_x HP3.out)
        have HP4 := Aside0.mk (QB_four HP3.out h0 h00 hy a1 a2 a3)
        go_wp2_with fail
        clear x0 x1 x2 x3 x4 x5 x6 x7 fz HP3
        obtain ⟨V4, hV4⟩ : ∃ V4, ((V3.setCell ⟨y, 1, none⟩ (.int .i64 a1)).setCell ⟨y, 2, none⟩ (.int .i64 a2)).setCell ⟨y, 3, none⟩ (.int .i64 a3) = V4 := ⟨_, rfl⟩
        rw [hV4] at HP4 ⊢
        have hyW4 : V3.heap.size = V4.heap.size := by rw [← hV4]; simp only [World.size_setCell]
        clear hV4
        (with_reducible refine (numS_calls w0 _ g t3 (QB_rs HP4.out) h00 K4'.out).mono ?_)
        rintro e V5 ⟨rfl, hRn, hgn⟩
        have hyW5 := hgn.size
        have HP5 := Aside0.mk (QB_num HP4.out h0 hy hRn hgn)
        clear hRn hgn HP4
        generalize numS t3 = n4 at *
        obtain ⟨a4, t4⟩ := n4
        simp only at HONE KK7 HWR K5' K6' HP5 ⊢
        obtain ⟨x0, x1, x2, x3, x4, x5, x6, x7⟩ := vr_cells (QB_x HP5.out)
        have fz := vr_frozen (QB_x HP5.out)
        have HP6 := Aside0.mk (QB_set (p' := ⟨KB, a1, a2, a3, a4, 0, { data := #[] }, false⟩) HP5.out h0 h00 hy 4 (.int .i64 a4) rfl)
        go_wp2_with fail
        clear x0 x1 x2 x3 x4 x5 x6 x7 fz HP5
        obtain ⟨V6, hV6⟩ : ∃ V6, V5.setCell ⟨y, 4, none⟩ (.int .i64 a4) = V6 := ⟨_, rfl⟩
        rw [hV6] at HP6 ⊢
        have hyW6 : V5.heap.size = V6.heap.size := by rw [← hV6]; simp only [World.size_setCell]
        clear hV6
        have HP7 := Aside0.mk (QB_below HP6.out (below_drew1 (Below.refl _ _)))
        obtain ⟨x0, x1, x2, x3, x4, x5, x6, x7⟩ := vr_cells (QB_x HP6.out)
        refine wp_region_held_drew (S := fun w' => w'.cell? ⟨y, 4, none⟩ = some (.int .i64 a4)) (by kernel_rfl) x4 (fun hHeld => ?_)
        clear x0 x1 x2 x3 x4 x5 x6 x7
        (refine hd_take 0 (v := ?_) rfl (by kernel_rfl) (by kernel_rfl) (fun _ _ _ h => h) (by assumption) ?_ ?_; rotate_left; (intro w hSw; (try dsimp only at hSw); go_simp; first | done | with_reducible rfl); simp only [Act.put, List.setIfInBounds_toArray, List.set_cons_zero, List.set_cons_succ])
        (refine hd_take 1 (v := ?_) rfl (by kernel_rfl) (by kernel_rfl) (fun _ _ _ h => h) (by assumption) ?_ ?_; rotate_left; (intro w hSw; (try dsimp only at hSw); go_simp; first | done | with_reducible rfl); simp only [Act.put, List.setIfInBounds_toArray, List.set_cons_zero, List.set_cons_succ])
        (refine hd_take 2 (v := ?_) rfl (by kernel_rfl) (by kernel_rfl) (fun _ _ _ h => h) (by assumption) ?_ ?_; rotate_left; (intro w hSw; (try dsimp only at hSw); go_simp; first | done | with_reducible rfl); simp only [Act.put, List.setIfInBounds_toArray, List.set_cons_zero, List.set_cons_succ])
        (refine hd_take 3 (v := ?_) rfl (by kernel_rfl) (by kernel_rfl) (fun _ _ _ h => h) (by assumption) ?_ ?_; rotate_left; (intro w hSw; (try dsimp only at hSw); go_simp; first | done | with_reducible rfl); simp only [Act.put, List.setIfInBounds_toArray, List.set_cons_zero, List.set_cons_succ])
        refine hd_one 4 rfl (by kernel_rfl) (fun K1 hK1 => ?_)
        go_simp
        go_wp2_with ((go_at_call 70); (with_reducible refine (numS_calls w0 _ g t4 (QB_rs HP7.out) h00 K5'.out).mono ?_); rintro e V7 ⟨rfl, hRn, hgn⟩; have hyW7 := hgn.size; have HP8 := Aside0.mk (QB_num HP7.out h0 hy hRn hgn); clear hRn hgn)
        obtain ⟨x0, x1, x2, x3, x4, x5, x6, x7⟩ := vr_cells (QB_x HP8.out)
        have fz := vr_frozen (QB_x HP8.out)
        refine hK1.out _ _ x4 (fun hHeld => ?_)
        clear hK1 K1
        have hwr := HWR.out
        generalize numS t4 = n5 at *
        obtain ⟨a5, t5⟩ := n5
        simp only at HONE KK7 hwr K6' HP8 ⊢
        (refine hd_take 5 (v := ?_) rfl (by kernel_rfl) (by kernel_rfl) (fun _ _ _ h => h) (by assumption) ?_ ?_; rotate_left; (intro w hSw; (try dsimp only at hSw); go_simp; first | done | with_reducible rfl); simp only [Act.put, List.setIfInBounds_toArray, List.set_cons_zero, List.set_cons_succ])
        (refine hd_take 6 (v := ?_) rfl (by kernel_rfl) (by kernel_rfl) (fun _ _ _ h => h) (by assumption) ?_ ?_; rotate_left; (intro w hSw; (try dsimp only at hSw); go_simp; first | done | with_reducible rfl); simp only [Act.put, List.setIfInBounds_toArray, List.set_cons_zero, List.set_cons_succ])
        (refine hd_take 7 (v := ?_) rfl (by kernel_rfl) (by kernel_rfl) (fun _ _ _ h => h) (by assumption) ?_ ?_; rotate_left; (intro w hSw; (try dsimp only at hSw); go_simp; first | done | with_reducible rfl); simp only [Act.put, List.setIfInBounds_toArray, List.set_cons_zero, List.set_cons_succ])
        refine hd_one 8 rfl (by kernel_rfl) (fun K1 hK1 => ?_)
        go_simp
        have HP9 := Aside0.mk (QB_set (p' := ⟨KB, a1, a2, a3, a4, a4 + a5, { data := #[] }, false⟩) HP8.out h0 h00 hy 5 (.int .i64 (a4 + a5)) rfl)
        refine hK1.out _ _ (by first | exact x4 | (rw [World.cell?_setCell_other _ _ _ _ (by simp)]; exact x4)) (fun hHeld => ?_)
        clear hK1 K1 x0 x1 x2 x3 x4 x5 x6 x7 fz HP8 HP7 HP6 hwr
        obtain ⟨V8, hV8⟩ : ∃ V8, V7.setCell ⟨y, 5, none⟩ (.int .i64 (a4 + a5)) = V8 := ⟨_, rfl⟩
        rw [hV8] at HP9 hHeld ⊢
        have hyW8 : V7.heap.size = V8.heap.size := by rw [← hV8]; simp only [World.size_setCell]
        clear hV8 hHeld
        refine wpAnyH_done (by kernel_rfl) ?_ _
        go_wp2_with fail
        (with_reducible refine (numS_calls w0 _ g t5 (QB_rs HP9.out) h00 K6'.out).mono ?_)
        rintro e V9 ⟨rfl, hRn, hgn⟩
        have hyW9 := hgn.size
        have HPa := Aside0.mk (QB_num HP9.out h0 hy hRn hgn)
        clear hRn hgn HP9
        generalize numS t5 = n6 at *
        obtain ⟨a6, t6⟩ := n6
        simp only at HONE KK7 HPa ⊢
        obtain ⟨gb, hgb⟩ : ∃ gb, decide (a6 = 1) = gb := ⟨_, rfl⟩
        have hgb2 : (a6 == 1) = gb := by rw [← hgb]; rfl
        rw [hgb] at HONE
        obtain ⟨x0, x1, x2, x3, x4, x5, x6, x7⟩ := vr_cells (QB_x HPa.out)
        have fz := vr_frozen (QB_x HPa.out)
        have HPb := Aside0.mk (QB_set (p' := ⟨KB, a1, a2, a3, a4, a4 + a5, { data := #[] }, gb⟩) HPa.out h0 h00 hy 7 (.bool gb) rfl)
        go_wp2_with fail
        clear x0 x1 x2 x3 x4 x5 x6 x7 fz HPa
        obtain ⟨Va, hVa⟩ : ∃ Va, V9.setCell ⟨y, 7, none⟩ (.bool gb) = Va := ⟨_, rfl⟩
        rw [hVa] at HPb ⊢
        have hyWa : V9.heap.size = Va.heap.size := by rw [← hVa]; simp only [World.size_setCell]
        clear hVa
        (with_reducible refine (textS_calls w0 _ g t6 200 (QB_rs HPb.out) h00 KK7.out).mono ?_)
        rintro e Vb ⟨rfl, hRn, hgn⟩
        have hyWb := hgn.size
        have HPc := Aside0.mk (QB_num HPb.out h0 hy hRn hgn)
        clear hRn hgn HPb
        generalize textS 200 t6 = n7 at *
        obtain ⟨tv, t7⟩ := n7
        simp only at HONE HPc ⊢
        obtain ⟨x0, x1, x2, x3, x4, x5, x6, x7⟩ := vr_cells (QB_x HPc.out)
        have fz := vr_frozen (QB_x HPc.out)
        have HPd := Aside0.mk (QB_set (p' := ⟨KB, a1, a2, a3, a4, a4 + a5, tv, gb⟩) HPc.out h0 h00 hy 6 (.string tv) rfl)
        go_wp2_with fail
        clear x0 x1 x2 x3 x4 x5 x6 x7 fz HPc
        obtain ⟨Vc, hVc⟩ : ∃ Vc, Vb.setCell ⟨y, 6, none⟩ (.string tv) = Vc := ⟨_, rfl⟩
        rw [hVc] at HPd ⊢
        have hyWc : Vb.heap.size = Vc.heap.size := by rw [← hVc]; simp only [World.size_setCell]
        clear hVc
        have HPe := Aside0.mk (QB_below HPd.out (below_drew1 (Below.refl _ _)))
        refine wp_region_held_drew (S := fun w' => w'.cell? ⟨y, 0, none⟩ = some (.string KB) ∧ w'.cell? ⟨y, 1, none⟩ = some (.int .i64 a1) ∧ w'.cell? ⟨y, 2, none⟩ = some (.int .i64 a2) ∧ w'.cell? ⟨y, 3, none⟩ = some (.int .i64 a3) ∧ w'.cell? ⟨y, 4, none⟩ = some (.int .i64 a4) ∧ w'.cell? ⟨y, 5, none⟩ = some (.int .i64 (a4 + a5)) ∧ w'.cell? ⟨y, 6, none⟩ = some (.string tv) ∧ w'.cell? ⟨y, 7, none⟩ = some (.bool gb)) (by kernel_rfl) (vr_cells (QB_x HPe.out)) (fun hHeld => ?_)
        obtain ⟨Vd, hVd⟩ : ∃ Vd, Vc.drew = Vd := ⟨_, rfl⟩
        have hyWd : Vc.heap.size = Vd.heap.size := by rw [← hVd]; rfl
        rw [hVd] at HPe hHeld ⊢
        clear hVd HPd
        (refine hd_take 0 (v := ?_) rfl (by kernel_rfl) (by kernel_rfl) (fun _ _ _ h => h) (by assumption) ?_ ?_; rotate_left; (intro w hSw; (try dsimp only at hSw); go_simp; first | done | with_reducible rfl); simp only [Act.put, List.setIfInBounds_toArray, List.set_cons_zero, List.set_cons_succ])
        (refine hd_take 1 (v := ?_) rfl (by kernel_rfl) (by kernel_rfl) (fun _ _ _ h => h) (by assumption) ?_ ?_; rotate_left; (intro w hSw; (try dsimp only at hSw); go_simp; first | done | with_reducible rfl); simp only [Act.put, List.setIfInBounds_toArray, List.set_cons_zero, List.set_cons_succ])
        (refine hd_take 4 (v := ?_) rfl (by kernel_rfl) (by kernel_rfl) (fun _ _ _ h => h) (by assumption) ?_ ?_; rotate_left; (intro w hSw; (try dsimp only at hSw); go_simp; first | done | with_reducible rfl); simp only [Act.put, List.setIfInBounds_toArray, List.set_cons_zero, List.set_cons_succ])
        (refine hd_take 5 (v := ?_) rfl (by kernel_rfl) (by kernel_rfl) (fun _ _ _ h => h) (by assumption) ?_ ?_; rotate_left; (intro w hSw; (try dsimp only at hSw); go_simp; first | done | with_reducible rfl); simp only [Act.put, List.setIfInBounds_toArray, List.set_cons_zero, List.set_cons_succ])
        refine hd_one 2 rfl (by kernel_rfl) (fun K1 hK1 => ?_)
        go_simp
        have HPf := Aside0.mk (QB_below HPe.out (below_alloc (Below.refl Vd.heap.size Vd) (.cells #[.string KB, .int .i64 a1, .int .i64 a2, .int .i64 a3, .int .i64 a4, .int .i64 (a4 + a5), .string tv, .bool gb] 28)))
        refine hK1.out _ _ (vr_cells (QB_x HPf.out)) (fun hHeld => ?_)
        clear hK1 K1
        refine hd_one 3 rfl (by kernel_rfl) (fun K1 hK1 => ?_)
        refine app_vr_step (B := g + 1) (v := .slice A7 cnt c7) (s := .tmp 62) (x := .tmp 64) (xs := out) rfl rfl rfl rfl (Kd.R_mono HPe.out.1.2.1 (fun _ _ => trivial)) (by have := blk_lt (QB_x HPe.out); omega) (by rw [HLEN.out]; omega) ?_
        intro v1 Ve hOe hbe hge
        have hye := hbe.size
        have HPg := Aside0.mk (QB_app HPe.out h00 (by have := blk_lt (QB_x HPe.out); omega) hbe hge hOe h0)
        obtain ⟨Av, cv, rfl, hcv, _⟩ := OVr_readn hOe (cnt + 1) (by rw [List.length_append, HLEN.out]; rfl)
        refine hK1.out _ _ (vr_cells HPg.out.2) (fun hHeld => ?_)
        clear hK1 K1 hge hbe
        simp only [Act.put, List.setIfInBounds_toArray, List.set_cons_zero, List.set_cons_succ]
        (refine hd_take 6 (v := ?_) rfl (by kernel_rfl) (by kernel_rfl) (fun _ _ _ h => h) (by assumption) ?_ ?_; rotate_left; (intro w hSw; (try dsimp only at hSw); go_simp; first | done | with_reducible rfl); simp only [Act.put, List.setIfInBounds_toArray, List.set_cons_zero, List.set_cons_succ])
        (refine hd_take 7 (v := ?_) rfl (by kernel_rfl) (by kernel_rfl) (fun _ _ _ h => h) (by assumption) ?_ ?_; rotate_left; (intro w hSw; (try dsimp only at hSw); go_simp; first | done | with_reducible rfl); simp only [Act.put, List.setIfInBounds_toArray, List.set_cons_zero, List.set_cons_succ])
        refine wpAnyH_done (by kernel_rfl) ?_ _
        have hgE : g < Ve.heap.size := by have := blk_lt HPg.out.2; omega
        have hP := HONE.out
        clear HONE
        subst hP
        obtain ⟨hT1, hT2⟩ := HT.out
        have hz := HZ.out
        have hm1 := M1.out
        have hm2 := M2.out
        simp only at hT1 hT2 hz hm1 hm2
        have HT1 := Aside0.mk hT1
        have HT2 := Aside0.mk hT2
        clear hT1 hT2 HT
        have hz2 : tv.size ≤ 200 := by omega
        have hkn : KB.size ≤ n := by omega
        clear hHeld
        go_wp2_with fail
        go_roundw
        case rel => exact ⟨cnt + 1, f', KB, t7, out ++ [⟨KB, a1, a2, a3, a4, a4 + a5, tv, gb⟩], rfl, ⟨by rw [List.length_append, HLEN.out]; rfl⟩, ⟨by rw [List.append_assoc]; exact HT1.out, HT2.out⟩, by omega, by omega, by omega, ⟨K8.out⟩, ⟨by intro p hp; rcases List.mem_append.1 hp with hp | hp; exact HSM.out p hp; rw [List.mem_singleton.1 hp]; exact ⟨hkn, hz2⟩⟩, ⟨HPg.out.1⟩, hgE⟩
        case measure => rw [muW_eq (QA_rs HPg.out.1), muW_eq HQ0.out]; exact hm1⟩
      clear hK hRT
      refine wp_region_held_drew (S := (fun w' => True)) (by kernel_rfl) trivial (fun hHeld => ?_)
      obtain ⟨wd, hwd⟩ : ∃ wd, w3.drew = wd := ⟨_, rfl⟩
      have hzd : w3.heap.size = wd.heap.size := by rw [← hwd]; rfl
      rw [hwd] at HQ3d HRT ⊢
      rw [hzd] at HQ3d hz3
      clear hwd hzd HQ3
      (refine hd_take 0 (v := ?_) rfl (by kernel_rfl) (by kernel_rfl) (fun _ _ _ h => h) (by assumption) ?_ ?_; rotate_left; (intro w hSw; (try dsimp only at hSw); go_simp; first | done | with_reducible rfl); simp only [Act.put, List.setIfInBounds_toArray, List.set_cons_zero, List.set_cons_succ])
      (refine hd_take 1 (v := ?_) rfl (by kernel_rfl) (by kernel_rfl) (fun _ _ _ h => h) (by assumption) ?_ ?_; rotate_left; (intro w hSw; (try dsimp only at hSw); go_simp; first | done | with_reducible rfl); simp only [Act.put, List.setIfInBounds_toArray, List.set_cons_zero, List.set_cons_succ])
      (refine hd_take 2 (v := ?_) rfl (by kernel_rfl) (by kernel_rfl) (fun _ _ _ h => h) (by assumption) ?_ ?_; rotate_left; (intro w hSw; (try dsimp only at hSw); go_simp; first | done | with_reducible rfl); simp only [Act.put, List.setIfInBounds_toArray, List.set_cons_zero, List.set_cons_succ])
      (refine hd_take 3 (v := ?_) rfl (by kernel_rfl) (by kernel_rfl) (fun _ _ _ h => h) (by assumption) ?_ ?_; rotate_left; (intro w hSw; (try dsimp only at hSw); go_simp; first | done | with_reducible rfl); simp only [Act.put, List.setIfInBounds_toArray, List.set_cons_zero, List.set_cons_succ])
      (refine hd_take 4 (v := ?_) rfl (by kernel_rfl) (by kernel_rfl) (fun _ _ _ h => h) (by assumption) ?_ ?_; rotate_left; (intro w hSw; (try dsimp only at hSw); go_simp; first | done | with_reducible rfl); simp only [Act.put, List.setIfInBounds_toArray, List.set_cons_zero, List.set_cons_succ])
      (refine hd_take 5 (v := ?_) rfl (by kernel_rfl) (by kernel_rfl) (fun _ _ _ h => h) (by assumption) ?_ ?_; rotate_left; (intro w hSw; (try dsimp only at hSw); go_simp; first | done | with_reducible rfl); simp only [Act.put, List.setIfInBounds_toArray, List.set_cons_zero, List.set_cons_succ])
      (refine hd_take 6 (v := ?_) rfl (by kernel_rfl) (by kernel_rfl) (fun _ _ _ h => h) (by assumption) ?_ ?_; rotate_left; (intro w hSw; (try dsimp only at hSw); go_simp; first | done | with_reducible rfl); simp only [Act.put, List.setIfInBounds_toArray, List.set_cons_zero, List.set_cons_succ])
      refine hd_two 7 10 rfl rfl (by kernel_rfl) (fun K1 hK1 => ?_) (fun K1 hK1 => ?_)
      · go_simp
        go_wp2_with ((go_at_call 72); (with_reducible refine HRT.out.mono ?_); rintro e w4 ⟨rfl, hR4, hg4⟩; have hz4 := hg4.size; have HQ4 := Aside0.mk (QA_num HQ3d.out h0 hR4 hg4); clear hR4 hg4)
        refine hK1.out _ _ trivial (fun hHeld => ?_)
        clear hK1 K1
        (refine hd_take 8 (v := ?_) rfl (by kernel_rfl) (by kernel_rfl) (fun _ _ _ h => h) (by assumption) ?_ ?_; rotate_left; (intro w hSw; (try dsimp only at hSw); go_simp; first | done | with_reducible rfl); simp only [Act.put, List.setIfInBounds_toArray, List.set_cons_zero, List.set_cons_succ])
        (refine hd_take 9 (v := ?_) rfl (by kernel_rfl) (by kernel_rfl) (fun _ _ _ h => h) (by assumption) ?_ ?_; rotate_left; (intro w hSw; (try dsimp only at hSw); go_simp; first | done | with_reducible rfl); simp only [Act.put, List.setIfInBounds_toArray, List.set_cons_zero, List.set_cons_succ])
        refine hd_one 10 rfl (by kernel_rfl) (fun K1 hK1 => ?_)
        go_simp
        obtain ⟨w5, hw5⟩ : ∃ w5, w4.alloc (.cells #[.string { data := #[] }, .int .i64 0, .int .i64 0, .int .i64 0, .int .i64 0, .int .i64 0, .string { data := #[] }, .bool false] 28) = w5 := ⟨_, rfl⟩
        have HQ5 : Aside0 (QB w w0 g w4.heap.size (.slice A7 cnt c7) out w5 st0 zeroV) := by
          rw [← hw5]
          exact ⟨⟨(QA_below HQ4.out (below_alloc (Below.refl _ _) _)).1, Kd.R_mono (QA_below HQ4.out (below_alloc (Below.refl _ _) _)).2.1 (fun k hk => by omega), (QA_below HQ4.out (below_alloc (Below.refl _ _) _)).2.2⟩, heap_alloc_new w4 _⟩
        rw [hw5]
        refine hK1.out _ _ trivial (fun hHeld => ?_)
        clear hK1 K1 hw5
        obtain ⟨y, hy⟩ : ∃ y, w4.heap.size = y := ⟨_, rfl⟩
        rw [hy] at HQ5 ⊢
        have hgy : g < y := by omega
        clear hy
        obtain ⟨x0, x1, x2, x3, x4, x5, x6, x7⟩ := vr_cells (QB_x HQ5.out)
        have fz := vr_frozen (QB_x HQ5.out)
        refine hd_one 11 rfl (by kernel_rfl) (fun K1 hK1 => ?_)
        go_simp
        refine hK1.out _ _ trivial (fun hHeld => ?_)
        refine wpAnyH_done (by kernel_rfl) ?_ _
        exact HK.out y _ hgy (QB_eight HQ5.out h0 h00 hgy ⟨KB, 0, 0, 0, 0, 0, { data := #[] }, false⟩) (by have := blk_lt (QB_x HQ5.out); simpa [World.size_setCell] using this)
      · go_simp
        obtain ⟨w5, hw5⟩ : ∃ w5, wd.alloc (.cells #[.string { data := #[] }, .int .i64 0, .int .i64 0, .int .i64 0, .int .i64 0, .int .i64 0, .string { data := #[] }, .bool false] 28) = w5 := ⟨_, rfl⟩
        have HQ5 : Aside0 (QB w w0 g wd.heap.size (.slice A7 cnt c7) out w5 sa zeroV) := by
          rw [← hw5]
          exact ⟨QA_below HQ3d.out (below_alloc (Below.refl _ _) _), heap_alloc_new wd _⟩
        rw [hw5]
        refine hK1.out _ _ trivial (fun hHeld => ?_)
        clear hK1 K1 hw5
        obtain ⟨y, hy⟩ : ∃ y, wd.heap.size = y := ⟨_, rfl⟩
        rw [hy] at HQ5 ⊢
        have hgy : g < y := by omega
        clear hy HRT
        have hRT := textS_calls w0 w5 g sa 200 (QB_rs HQ5.out) h00 KK0.out
        rw [hTX] at hRT
        have HRT := Aside0.mk hRT
        clear hRT
        refine hd_one 7 rfl (by kernel_rfl) (fun K1 hK1 => ?_)
        go_simp
        go_wp2_with ((go_at_call 72); (with_reducible refine HRT.out.mono ?_); rintro e w6 ⟨rfl, hR4, hg4⟩; have HQ6 := Aside0.mk (QB_num HQ5.out h0 hgy hR4 hg4); clear hR4 hg4)
        refine hK1.out _ _ trivial (fun hHeld => ?_)
        clear hK1 K1
        (refine hd_take 8 (v := ?_) rfl (by kernel_rfl) (by kernel_rfl) (fun _ _ _ h => h) (by assumption) ?_ ?_; rotate_left; (intro w hSw; (try dsimp only at hSw); go_simp; first | done | with_reducible rfl); simp only [Act.put, List.setIfInBounds_toArray, List.set_cons_zero, List.set_cons_succ])
        (refine hd_take 9 (v := ?_) rfl (by kernel_rfl) (by kernel_rfl) (fun _ _ _ h => h) (by assumption) ?_ ?_; rotate_left; (intro w hSw; (try dsimp only at hSw); go_simp; first | done | with_reducible rfl); simp only [Act.put, List.setIfInBounds_toArray, List.set_cons_zero, List.set_cons_succ])
        obtain ⟨x0, x1, x2, x3, x4, x5, x6, x7⟩ := vr_cells (QB_x HQ6.out)
        have fz := vr_frozen (QB_x HQ6.out)
        refine hd_one 11 rfl (by kernel_rfl) (fun K1 hK1 => ?_)
        go_simp
        refine hK1.out _ _ trivial (fun hHeld => ?_)
        refine wpAnyH_done (by kernel_rfl) ?_ _
        exact HK.out y _ hgy (QB_eight HQ6.out h0 h00 hgy ⟨KB, 0, 0, 0, 0, 0, { data := #[] }, false⟩) (by have := blk_lt (QB_x HQ6.out); simpa [World.size_setCell] using this)
    · have hT := HTOT.out
      rw [rb_stop hcn] at hT
      simp only [List.append_nil] at hT
      obtain ⟨hT1, hT2⟩ := hT
      have HD := HRD.out
      rw [← hT1, ← hT2] at HD
      have HD := Aside0.mk HD
      clear hT1 hT2 HTOT HRD HSP
      obtain ⟨A7, c7, rfl, hc7, hC7⟩ := OVr_readn (Kd.R_mono HQ.out.2.1 (fun _ _ => trivial)) cnt HLEN.out
      have HC7 := Aside0.mk hC7
      have hql : w.heap.size ≤ g + 1 := by omega
      have HO7 : Aside0 (OVr wr w.heap.size (.slice A7 cnt c7) out) := ⟨Kd.R_lower (Kd.R_mono HQ.out.2.1 (fun _ _ => trivial)) hql⟩
      have HBW : Aside0 (Below w.heap.size w wr) := ⟨HQ.out.2.2⟩
      clear hC7
      by_cases hs0 : s.2 = 0
      · have hcN : ¬ (cnt : Int) < N := fun h => hcn ⟨hs0, h⟩
        have hd := HD.out
        rw [if_neg (by simpa using hs0)] at hd
        have HD := Aside0.mk hd
        have HSS : Aside0 (smallB out) := ⟨fun p hp => by have := HSM.out p hp; omega⟩
        have hcd : decide ((cnt : Int) < N) = false := decide_eq_false hcN
        clear hd hcn
        go_wp2_with fail
        (with_reducible refine (errS_calls w0 _ g s (QA_rs HQ.out)).mono ?_)
        rintro e wr ⟨rfl, rfl⟩
        rw [hs0]
        go_wp2_with fail
        (with_reducible refine (errS_calls w0 _ g s (QA_rs HQ.out)).mono ?_)
        rintro e wr ⟨rfl, rfl⟩
        rw [hs0]
        go_wp2_with fail
        have hmc := mayB_calls A7 cnt c7 out wr HC7.out hc7 HSS.out
        cases hmb : mayBl out with
        | false =>
          rw [hmb] at hmc
          have hd := HD.out
          rw [hmb] at hd
          simp only [Bool.false_and, Bool.false_eq_true, if_false, Prod.mk.injEq] at hd
          have HD := Aside0.mk hd
          have HMC := Aside0.mk hmc
          clear hd hmc hmb
          (with_reducible refine HMC.out.mono ?_)
          rintro e w4 ⟨rfl, hb4⟩
          have HB4 := Aside0.mk (below_step HBW.out hb4)
          clear hb4
          go_wp2_with fail
          go_ret2
          exact ⟨_, by rw [HD.out.2]; rfl, by rw [HD.out.1]; exact OVr_nil _ _, HB4.out⟩
        | true =>
          obtain ⟨hm1, _, hm8⟩ := mayBl_all hmb
          rw [hmb] at hmc
          have hd := HD.out
          rw [hmb, Bool.true_and] at hd
          have HD := Aside0.mk hd
          have HMC := Aside0.mk hmc
          have HM1 := Aside0.mk hm1
          have hc8 : cnt ≤ 8 := by rw [← HLEN.out]; exact hm8
          clear hd hmc hmb hm1 hm8
          (with_reducible refine HMC.out.mono ?_)
          rintro e w4 ⟨rfl, hb4⟩
          have HB4 := Aside0.mk (below_step HBW.out hb4)
          have HC4 := Aside0.mk (Kd.C_below HC7.out hb4)
          have HO4 := Aside0.mk (Kd.R_below HO7.out hb4)
          clear hb4
          go_wp2_with fail
          (with_reducible refine (writeb_calls A7 cnt c7 out w4 HC4.out hc7 hc8 HM1.out).mono ?_)
          rintro e w5 ⟨u5, rfl, hO5, hb5⟩
          obtain ⟨m5, hm5⟩ : ∃ m5, (blockB out).length = m5 := ⟨_, rfl⟩
          obtain ⟨A5, c5, rfl, hc5, hC5⟩ := OB_readn hO5 m5 hm5
          have HC5 := Aside0.mk hC5
          have HB5 := Aside0.mk (below_step HB4.out hb5)
          have HO5 := Aside0.mk (Kd.R_below HO4.out hb5)
          clear hC5 hO5 hb5 hm5
          go_wp2_with fail
          (with_reducible refine (equal_calls A5 A m5 n c5 c (blockB out) bs w5 HC5.out (Kd.C_below HR.out HB5.out) hc5 hc).mono ?_)
          rintro e w6 ⟨rfl, hb6⟩
          have HB6 := Aside0.mk (below_step HB5.out hb6)
          have HO6 := Aside0.mk (Kd.R_below HO5.out hb6)
          clear hb6
          have hd := HD.out
          cases heq : decide (blockB out = bs) with
          | false =>
            rw [heq] at hd
            simp only [Bool.false_eq_true, if_false, Prod.mk.injEq] at hd
            have HD := Aside0.mk hd
            clear hd heq
            go_wp2_with fail
            go_ret2
            exact ⟨_, by rw [HD.out.2]; rfl, by rw [HD.out.1]; exact OVr_nil _ _, HB6.out⟩
          | true =>
            rw [heq] at hd
            simp only [if_true, Prod.mk.injEq] at hd
            have HD := Aside0.mk hd
            clear hd heq
            go_wp2_with fail
            go_ret2
            exact ⟨_, by rw [HD.out.2]; rfl, by rw [HD.out.1]; exact HO6.out, HB6.out⟩
      · have hd := HD.out
        rw [if_pos (by simpa using hs0)] at hd
        simp only [Prod.mk.injEq] at hd
        have HD := Aside0.mk hd
        have hne : (s.2 == 0) = false := beq_eq_false_iff_ne.2 hs0
        have hne2 : (s.2 != 0) = true := bne_iff_ne.2 hs0
        clear hd hcn hs0
        go_wp2_with fail
        (with_reducible refine (errS_calls w0 _ g s (QA_rs HQ.out)).mono ?_)
        rintro e wr ⟨rfl, rfl⟩
        go_wp2_with fail
        (with_reducible refine (errS_calls w0 _ g s (QA_rs HQ.out)).mono ?_)
        rintro e wr ⟨rfl, rfl⟩
        go_wp2_with fail
        (with_reducible refine (errS_calls w0 _ g s (QA_rs HQ.out)).mono ?_)
        rintro e wr ⟨rfl, rfl⟩
        go_wp2_with fail
        go_ret2
        exact ⟨_, by rw [HD.out.2]; rfl, by rw [HD.out.1]; exact OVr_nil _ _, HBW.out⟩
end Go.Proofs.Ytmfnbkghfmeekaa.A.C
namespace Go.Proofs.Ytmfnbkghfmeekaa.A.C
open Go.RowKit Go.Proofs.YtmfnbkghfmeekaaW.PrintWords Go.Proofs.YtmfnbkghfmeekaaW.PrintLast Go.Proofs.YtmfnbkghfmeekaaW.PrintMore
open R
set_option linter.unusedVariables false
set_option linter.unusedSimpArgs false
theorem toL_data (x : ByteArray) : x.toList = x.data.toList := ByteArray.toList_eq x
theorem com_join (key k : ByteArray) : key.extract 0 (comS key k) ++ k.extract (comS key k) k.size = k := by
  have h := comL_take key.toList k.toList
  have hc : comL key.toList k.toList = comS key k := rfl
  rw [hc, toL_data, toL_data] at h
  apply ByteArray.ext
  apply Array.ext'
  simp only [ByteArray.data_append, ByteArray.data_extract, Array.toList_append, Array.toList_extract]
  simp only [List.extract_eq_take_drop, List.drop_zero, Nat.sub_zero]
  rw [h]
  have e : k.size = k.data.toList.length := by rw [Array.length_toList]; rfl
  have hle : comS key k ≤ k.data.toList.length := by rw [← e]; exact (comS_le key k).2
  rw [List.take_of_length_le (l := k.data.toList.drop (comS key k)) (by rw [List.length_drop]; omega), List.take_append_drop]
theorem oneB_bytes (key : ByteArray) (p : Vr) (X : List Int) (hm : mayV p = true) (hk : key.size ≤ 92) : oneB key (bytesP key p ++ X, 0) = (p, (X, 0)) := by
  have hk2 := key_le hm
  have hcs := comS_le key p.k
  have hss := suf_size key p.k
  obtain ⟨_, ⟨⟨⟨r1, r2⟩, ⟨r3, r4⟩⟩, ⟨r5, r6⟩⟩, ⟨r7, r8, r9⟩, r10, _⟩ := (mayV_iff p).1 hm
  have hgone : 0 ≤ goneI p.g ∧ goneI p.g ≤ 1 := by cases p.g <;> simp [goneI]
  have e0 : bytesP key p ++ X = V.vput (comS key p.k) ++ (V.vtext (sufS key p.k) ++ (V.vput p.br ++ (V.vput p.ep ++ (V.vput p.sq ++ (V.vput p.f ++ (V.vput (p.t - p.f) ++ (V.vput (goneI p.g) ++ (V.vtext p.v ++ X)))))))) := by
    unfold bytesP
    simp only [List.flatMap_cons, List.flatMap_nil, List.append_nil, List.append_assoc]
  rw [e0]
  have n0 : ∀ Y, numS (V.vput (comS key p.k) ++ Y, 0) = ((comS key p.k : Int), (Y, 0)) := fun Y => numS_put _ _ (by omega) (by omega)
  have t0 : ∀ Y, textS 200 (V.vtext (sufS key p.k) ++ Y, 0) = (sufS key p.k, (Y, 0)) := fun Y => textS_put 200 _ _ (by omega) (by decide)
  have n1 : ∀ Y, numS (V.vput p.br ++ Y, 0) = (p.br, (Y, 0)) := fun Y => numS_put _ _ (by omega) (by omega)
  have n2 : ∀ Y, numS (V.vput p.ep ++ Y, 0) = (p.ep, (Y, 0)) := fun Y => numS_put _ _ (by omega) (by omega)
  have n3 : ∀ Y, numS (V.vput p.sq ++ Y, 0) = (p.sq, (Y, 0)) := fun Y => numS_put _ _ (by omega) (by omega)
  have n4 : ∀ Y, numS (V.vput p.f ++ Y, 0) = (p.f, (Y, 0)) := fun Y => numS_put _ _ (by omega) (by omega)
  have n5 : ∀ Y, numS (V.vput (p.t - p.f) ++ Y, 0) = (p.t - p.f, (Y, 0)) := fun Y => numS_put _ _ (by omega) (by omega)
  have n6 : ∀ Y, numS (V.vput (goneI p.g) ++ Y, 0) = (goneI p.g, (Y, 0)) := fun Y => numS_put _ _ (by omega) (by omega)
  have t1 : ∀ Y, textS 200 (V.vtext p.v ++ Y, 0) = (p.v, (Y, 0)) := fun Y => textS_put 200 _ _ (by omega) (by decide)
  have hcut : cutN key (comS key p.k : Int) = comS key p.k := by
    unfold cutN
    rw [if_neg (by omega)]
    omega
  unfold oneB keyB s6B s5B s4B s3B s2B s1B s0B
  simp only [n0, t0, n1, n2, n3, n4, n5, n6, t1, hcut]
  have hj : key.extract 0 (comS key p.k) ++ sufS key p.k = p.k := com_join key p.k
  rw [hj]
  obtain ⟨k, br, ep, sq, f, t, v, g⟩ := p
  have ht : f + (t - f) = t := by omega
  cases g <;> simp [goneI, ht]
theorem rb_bytes : ∀ (l : List Vr) (f : Nat) (c : Nat) (key : ByteArray), l.length ≤ f → (∀ p ∈ l, mayV p = true) → key.size ≤ 92 → rb f ((c + l.length : Nat) : Int) c key (bytesW key l, 0) = (l, ([], 0))
  | [], f, c, key, _, _, _ => by
    rw [rb_stop (by simp)]
    rfl
  | p :: l, f, c, key, hf, hm, hk => by
    obtain ⟨f', rfl⟩ : ∃ f', f = f' + 1 := ⟨f - 1, by simp only [List.length_cons] at hf; omega⟩
    rw [rb_go rfl (by simp only [List.length_cons]; omega), bytesW, oneB_bytes key p _ (hm p List.mem_cons_self) hk]
    have ih := rb_bytes l f' (c + 1) p.k (by simp only [List.length_cons] at hf; omega) (fun q hq => hm q (List.mem_cons_of_mem _ hq)) (key_le (hm p List.mem_cons_self))
    rw [show (c + 1 + l.length : Nat) = c + (p :: l).length by simp only [List.length_cons]; omega] at ih
    simp only [ih]
theorem bytesW_pos : ∀ (l : List Vr) (key : ByteArray), l.length ≤ (bytesW key l).length
  | [], _ => Nat.le_refl _
  | p :: l, key => by
    have h := bytesW_pos l p.k
    have h1 := V.vnat_pos (comS key p.k)
    rw [bytesW, List.length_append, List.length_cons]
    unfold bytesP
    simp only [List.length_append, V.vput_nat]
    omega
theorem readB_block (l : List Vr) (h : mayBl l = true) : readB (blockB l) = (l, 0) := by
  obtain ⟨h1, h2, h3⟩ := mayBl_all h
  have hn : numS (blockB l, 0) = ((l.length : Int), (bytesW { data := #[] } l, 0)) := numS_put _ _ (by omega) (by omega)
  have hp := bytesW_pos l { data := #[] }
  have hr : rbAll (blockB l) = (l, ([], 0)) := by
    unfold rbAll
    rw [hn]
    have := rb_bytes l ((blockB l).length + 2) 0 { data := #[] } (by unfold blockB; rw [List.length_append]; omega) h1 (by decide)
    rw [Nat.zero_add] at this
    exact this
  unfold readB
  rw [hr]
  simp [h]
theorem bytesP_range (key : ByteArray) (p : Vr) : ∀ x ∈ bytesP key p, 0 ≤ x ∧ x ≤ 255 := by
  intro x hx
  unfold bytesP at hx
  rcases List.mem_append.1 hx with hx | hx
  · rcases List.mem_append.1 hx with hx | hx
    · exact vput_range _ x hx
    · exact vtext_range _ x hx
  · rcases List.mem_append.1 hx with hx | hx
    · obtain ⟨n, _, hx⟩ := List.mem_flatMap.1 hx
      exact vput_range _ x hx
    · exact vtext_range _ x hx
theorem bytesW_range : ∀ (l : List Vr) (key : ByteArray), ∀ x ∈ bytesW key l, 0 ≤ x ∧ x ≤ 255
  | [], _, x, hx => by cases hx
  | p :: l, key, x, hx => by
    rcases List.mem_append.1 hx with hx | hx
    · exact bytesP_range key p x hx
    · exact bytesW_range l p.k x hx
theorem blockB_range (l : List Vr) : ∀ x ∈ blockB l, 0 ≤ x ∧ x ≤ 255 := by
  intro x hx
  rcases List.mem_append.1 hx with hx | hx
  · exact vput_range _ x hx
  · exact bytesW_range l _ x hx
theorem blockB_len (l : List Vr) (h : mayBl l = true) : (blockB l).length ≤ 4000 := by
  obtain ⟨h1, h2, h3⟩ := mayBl_all h
  have := bytesW_len l { data := #[] } h1
  unfold blockB
  rw [List.length_append, vput_small _ (by omega)]
  omega
end Go.Proofs.Ytmfnbkghfmeekaa.A.C
namespace Go.Proofs.Ytmfnbkghfmeekaa.A.C
open Go.RowKit Go.Proofs.YtmfnbkghfmeekaaW.PrintWords Go.Proofs.YtmfnbkghfmeekaaW.PrintLast Go.Proofs.YtmfnbkghfmeekaaW.PrintMore
open R
set_option linter.unusedVariables false
set_option linter.unusedSimpArgs false
abbrev kK : ByteArray := O.keyStr 0 { data := #[107] }
theorem kK_split : O.splitK kK = (0, { data := #[107] }, 0) := O.split_key 0 { data := #[107] } (by omega) (by omega) (by decide)
theorem kK_may (s : Int) (h0 : 1 ≤ s) (h1 : s ≤ 100000) : mayV ⟨kK, 0, 1, s, 0, 1, { data := #[] }, false⟩ = true := by
  rw [mayV_iff, kK_split]
  refine ⟨rfl, ⟨⟨⟨by show (0:Int) ≤ 0; omega, by show (0:Int) ≤ 15; omega⟩, ⟨by show (1:Int) ≤ 1; omega, by show (1:Int) ≤ 10000; omega⟩⟩, ⟨h0, h1⟩⟩, ⟨by show (0:Int) ≤ 0; omega, by show (0:Int) < 1; omega, by show (1:Int) ≤ _; omega⟩, by show (0:Nat) ≤ 200; omega, ?_⟩
  intro h
  cases h
end Go.Proofs.Ytmfnbkghfmeekaa.A.C
