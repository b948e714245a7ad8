/- GFrom -/
import Derived.Test.YtmfnbkghfmeekaaZGFind
import Derived.Test.YtmfnbkghfmeekaaZGRange
import Derived.Shelf.RegionOpen
import Derived.OwnWalkIn
import Derived.TacticsInMore
import Derived.LoopNIn
import Derived.LoopIn
import Derived.Stop.RegionWithIn
namespace Go.Proofs.Ytmfnbkghfmeekaa.A
open Go Go.RowKit Go.Shelf Go.Proofs.YtmfnbkghfmeekaaW.PrintWords Go.Proofs.YtmfnbkghfmeekaaW.PrintLast Go.Proofs.YtmfnbkghfmeekaaW.PrintMore
open R C
open Go.Op (bytesLess)
attribute [local go_sem] Oper.semAt_some wide_fn wide_depth max2_int min2_int max_two min_two
set_option linter.unusedVariables false
set_option linter.unusedSimpArgs false
abbrev prB (r : Nat) : Obj := .cells #[.pointer (some ⟨r, 0, none⟩)] 37
abbrev sB (s : ByteArray) : Obj := .cells #[.string s] 9
theorem rfrom_calls (w : World) (r : Nat) (key : ByteArray) :
    Calls Try.prog 73 #[.pointer (some ⟨r, 0, none⟩), .string key] w fun e w' => e = .returned (.func (.func 94) #[] #[.pointer (some ⟨w.heap.size, 0, none⟩), .pointer (some ⟨w.heap.size + 1, 0, none⟩)]) ∧ (w.alloc (prB r)).alloc (sB key) = w' := by
  go_enter Try.func73, Try.ntmps73
  go_wp2_with fail
  go_ret
  exact ⟨rfl, rfl⟩
def OkRn (B1 : Nat) (ll : List (List Vr)) (pre : List (Value × List Vr)) (x : Value × List Vr) (V0 W : World) : Prop := OVr W V0.heap.size x.1 x.2 ∧ (B1 + 2 ≤ V0.heap.size ∧ B1 ≤ W.heap.size ∧ ∀ k, k < B1 → W.heap[k]? = V0.heap[k]?) ∧ (pre ++ [x]).map Prod.snd <+: ll
set_option maxRecDepth 100000 in
set_option maxHeartbeats 4000000 in
theorem rfrom_itr (w0 w : World) (g r B1 i0 m : Nat) (cs : List (List Vr)) (key : ByteArray) (hR : RnI w0 r cs) (hml : cs.length = m) (hcs : ∀ c ∈ cs, mayBl c = true) (hg0 : w0.heap.size ≤ g) (hw : Below w0.heap.size w0 w) (hb1 : w.heap[g]? = some (prB r)) (hb2 : w.heap[g + 1]? = some (sB key)) (hB1 : B1 ≤ w.heap.size) (hi : i0 ≤ m) (hm : m ≤ 5000)
    (hlo : ∀ j, j < i0 → bytesLess ((cs.map (fun c => (c.getD 0 default).k)).getD j ByteArray.empty).toList key.toList = true) (hhi : ∀ j, i0 ≤ j → j < m → bytesLess ((cs.map (fun c => (c.getD 0 default).k)).getD j ByteArray.empty).toList key.toList = false) :
    Itr2 Try.prog 94 #[.pointer (some ⟨g, 0, none⟩), .pointer (some ⟨g + 1, 0, none⟩)] (fun x : Value × List Vr => #[x.1]) (fun X Y => Below X.heap.size X Y) (KpC w0 g) (OkRn B1 (cs.drop (i0 - 1))) (fun xs => xs.map Prod.snd = cs.drop (i0 - 1)) (fun pre => pre.map Prod.snd <+: cs.drop (i0 - 1)) w := by
  intro lp J Jx W hKp hsz hJ hJx hY h0
  have HB0 := Aside0.mk (hw.trans hKp.1)
  have hbW := hKp.2.2.1.trans hb1
  have hnW := hKp.2.2.2.trans hb2
  have HJ := Aside0.mk hJ
  have HJx := Aside0.mk hJx
  have HY := Aside0.mk hY
  obtain ⟨Ab, cb, Af, cf, hs, r1, r2, r3, r4, r5, r6⟩ := hR
  rw [hml] at r1 r2 r3 r4 r6
  have HRB : Aside0 (∀ V, Below w0.heap.size w0 V → V.heap[r]? = some (rnB Ab m cb (.slice Af m cf) (cs.flatten.length : Int))) := ⟨fun V hV => box_keep r1 hV⟩
  have HHD := Aside0.mk r5
  have HHC := Aside0.mk r4
  have HBF := Aside0.mk (fun V (hV : Below w0.heap.size w0 V) => (callsIn_wide (n := 0)).2 (bfind_calls Af m cf (cs.map (fun c => (c.getD 0 default).k)) key i0 V (Kd.C_below r6 hV) r3 (by omega) hi hlo hhi))
  obtain ⟨fin, hfin⟩ : ∃ fin, (decide (i0 < m) && (((cs.map (fun c => (c.getD 0 default).k)).getD i0 ByteArray.empty).toList == key.toList)) = fin := ⟨_, rfl⟩
  simp only [hfin] at HBF
  have HML := Aside0.mk hml
  have HCS := Aside0.mk hcs
  obtain ⟨bc, bf⟩ := one_cell hbW
  obtain ⟨nc, nf⟩ := one_cell hnW
  obtain ⟨x0, x1, x2, x3⟩ := rn_cells (HRB.out W HB0.out)
  have HGW := Aside0.mk (show W.heap[g]? = some (prB r) ∧ W.heap[g + 1]? = some (sB key) from ⟨hbW, hnW⟩)
  have H0 := Aside0.mk h0
  clear hJ hJx hY hKp hb1 hb2 hml hcs r1 r4 r5 r6 hlo hhi hfin hbW hnW x3 h0 bf nf
  refine callsIn_of_wp Try.func94 rfl trivial ?_ rfl
  simp only [Try.ntmps94, List.size_toArray, List.length_cons, List.length_nil, Nat.reduceAdd, Nat.reduceSub, Array.replicate_succ, Array.replicate_zero, List.push_toArray, List.append_toArray, List.nil_append, List.cons_append]
  cases i0 with
  | zero =>
    have k1 : IntKind.i64.wrap (((0 : Nat) : Int) - 1) = -1 := IntWalk.i64_in _ (by omega)
    rw [show 0 - 1 = 0 from rfl] at HY ⊢
    gi_wp2_with fail
    gi_region_with ((with_reducible refine (HBF.out _ (below_drew1 HB0.out)).mono ?_); rintro e W3 ⟨rfl, rfl⟩)
    all_goals
      gi_wp2_with fail
      gi_loopw [6] (fun v6 wr => ∃ (pre : List (Value × List Vr)) (j : Nat), v6 = .int .i64 j ∧ j ≤ m ∧ Aside0 (pre.map Prod.snd ++ cs.drop j = cs.drop 0) ∧ wr.heap[g]? = some (prB r) ∧ wr.heap[g + 1]? = some (sB key) ∧ Aside0 (J pre wr) ∧ Aside0 (Below w0.heap.size w0 wr) ∧ w.heap.size + 2 ≤ wr.heap.size) (fun v6 wr => m - (intOf v6).toNat)
      case atStart => exact ⟨[], 0, by first | rfl | simp, by omega, ⟨by rw [List.map_nil, List.nil_append]⟩, HGW.out.1, HGW.out.2, ⟨HJ.out _ _ _ H0.out (below_drew1 (Below.refl _ _))⟩, ⟨below_drew1 HB0.out⟩, hsz⟩
      case round =>
        obtain ⟨pre, j, rfl, hjm, HE, hgx, hnx, HJ0, HB, hws⟩ := hrel
        obtain ⟨bc, bf⟩ := one_cell hgx
        obtain ⟨nc, nf⟩ := one_cell hnx
        obtain ⟨y0, y1, y2, y3⟩ := rn_cells (HRB.out wr HB.out)
        have HGX := Aside0.mk hgx
        have HNX := Aside0.mk hnx
        clear hgx hnx y3 bf nf
        by_cases hlt : j < m
        · have hjl : j < cs.length := by rw [HML.out]; exact hlt
          obtain ⟨ch, hch⟩ : ∃ ch, cs.getD j default = ch := ⟨_, rfl⟩
          have hch9 : cs[j]? = some ch := by rw [List.getElem?_eq_getElem hjl, ← hch, List.getD_eq_getElem?_getD, List.getElem?_eq_getElem hjl]; rfl
          have hchm : ch ∈ cs := List.mem_of_getElem? hch9
          have hdr : cs.drop j = ch :: cs.drop (j + 1) := by rw [List.drop_eq_getElem_cons hjl, (List.getElem?_eq_some_iff.1 hch9).2]
          have HE2 : Aside0 ((pre.map Prod.snd ++ [ch]) ++ cs.drop (j + 1) = cs.drop 0) := ⟨by rw [← HE.out, hdr]; simp⟩
          obtain ⟨Ah, kh, chh, hhd⟩ : ∃ Ah kh chh, hs[j]? = some (Ah, kh, chh) := by
            have hih : j < hs.length := by rw [HHD.out.1, List.length_map]; exact hjl
            exact ⟨(hs[j]'hih).1, (hs[j]'hih).2.1, (hs[j]'hih).2.2, by rw [List.getElem?_eq_getElem hih]⟩
          obtain ⟨h1, h2, h3⟩ := HHD.out.2 j _ (blockB ch) hhd (by rw [List.getElem?_map, hch9]; rfl)
          simp only at h1 h2 h3
          rw [← h1] at h2 h3
          obtain ⟨adb, hAb, q0⟩ := C_atHd (Kd.C_below HHC.out HB.out) j hlt (Ah, kh, chh) hhd
          subst hAb
          have hmay := HCS.out ch hchm
          have hrb := readb_calls Ah kh chh (blockB ch) wr (Kd.C_below h3 HB.out) h2 (by have := blockB_len ch hmay; omega) (blockB_range ch)
          rw [readB_block ch hmay] at hrb
          have HRB2 := Aside0.mk ((callsIn_wide (n := 0)).2 hrb)
          have j1 : (j : Int) < (m : Int) := by omega
          have j2 : (0 : Int) ≤ (j : Int) := by omega
          clear hch hch9 hchm hdr hhd h1 h2 h3 hmay hrb hjl
          gi_wp2_with fail
          (with_reducible refine HRB2.out.mono ?_)
          rintro e W4 ⟨u4, rfl, hO4, hb4⟩
          have HJ4 := HJ.out _ _ _ HJ0.out hb4
          obtain ⟨fn, tmps, assign, body, hy, hRd⟩ := HY.out pre (u4, ch) wr W4 HJ0.out HJ4 ⟨Kd.R_lower hO4 (by omega), ⟨by omega, by have := hb4.size; omega, fun k hk => hb4.block k (by omega)⟩, ⟨cs.drop (j + 1), by rw [List.map_append]; exact HE2.out⟩⟩
          have HRD := Aside0.mk hRd
          have HB4 := Aside0.mk (below_step HB.out hb4)
          have HGX4 := Aside0.mk (blk_keep HGX.out hb4)
          have HNX4 := Aside0.mk (blk_keep HNX.out hb4)
          have hs4 := hb4.size
          clear hO4 hb4 hRd HJ4 q0
          gi_wp2_with fail
          refine HRD.out.mono ?_
          rintro e W5 (⟨rfl, hJ5, hk5⟩ | ⟨rfl, hJx5⟩)
          · have HJ5 := Aside0.mk hJ5
            have HB5 := Aside0.mk (HB4.out.trans hk5.1)
            have hs5 := hk5.2.1
            have HGX5 := Aside0.mk (hk5.2.2.1.trans HGX4.out)
            have HNX5 := Aside0.mk (hk5.2.2.2.trans HNX4.out)
            clear hJ5 hk5 hy
            gi_wp2
            go_roundw
            case rel => exact ⟨pre ++ [(u4, ch)], j + 1, by push_cast; rfl, hlt, ⟨by rw [List.map_append]; exact HE2.out⟩, HGX5.out, HNX5.out, HJ5, HB5, by omega⟩
            case measure => simp [intOf]; omega
          · clear hy
            gi_wp2
            refine bodyPost_ret (results_none rfl _ _ _) rfl ?_
            exact ⟨⟨_, rfl⟩, .inr ⟨pre ++ [(u4, ch)], ⟨cs.drop (j + 1), by rw [List.map_append]; exact HE2.out⟩, hJx5⟩⟩
        · have j1 : ¬ (j : Int) < (m : Int) := by omega
          have HFR : Aside0 (pre.map Prod.snd = cs.drop 0) := ⟨by have h9 := HE.out; rwa [List.drop_of_length_le (show cs.length ≤ j by rw [HML.out]; omega), List.append_nil] at h9⟩
          gi_wp2_with fail
          first
            | (refine bodyPost_ret (results_none rfl _ _ _) rfl ?_; exact ⟨⟨_, rfl⟩, .inl ⟨pre, HFR.out, HJ0.out⟩⟩)
            | (go_end0; exact ⟨⟨_, rfl⟩, .inl ⟨pre, HFR.out, HJ0.out⟩⟩)
  | succ s =>
    have k1 : IntKind.i64.wrap (((s + 1 : Nat) : Int) - 1) = (s : Int) := by rw [IntWalk.i64_in _ (by omega)]; omega
    have k2 : (0 : Int) ≤ (s : Int) := by omega
    rw [show s + 1 - 1 = s by omega] at HY ⊢
    gi_wp2_with fail
    gi_region_with ((with_reducible refine (HBF.out _ (below_drew1 HB0.out)).mono ?_); rintro e W3 ⟨rfl, rfl⟩)
    all_goals
      gi_wp2_with fail
      gi_loopw [6] (fun v6 wr => ∃ (pre : List (Value × List Vr)) (j : Nat), v6 = .int .i64 j ∧ j ≤ m ∧ Aside0 (pre.map Prod.snd ++ cs.drop j = cs.drop s) ∧ wr.heap[g]? = some (prB r) ∧ wr.heap[g + 1]? = some (sB key) ∧ Aside0 (J pre wr) ∧ Aside0 (Below w0.heap.size w0 wr) ∧ w.heap.size + 2 ≤ wr.heap.size) (fun v6 wr => m - (intOf v6).toNat)
      case atStart => exact ⟨[], s, by first | rfl | simp, by omega, ⟨by rw [List.map_nil, List.nil_append]⟩, HGW.out.1, HGW.out.2, ⟨HJ.out _ _ _ H0.out (below_drew1 (Below.refl _ _))⟩, ⟨below_drew1 HB0.out⟩, hsz⟩
      case round =>
        obtain ⟨pre, j, rfl, hjm, HE, hgx, hnx, HJ0, HB, hws⟩ := hrel
        obtain ⟨bc, bf⟩ := one_cell hgx
        obtain ⟨nc, nf⟩ := one_cell hnx
        obtain ⟨y0, y1, y2, y3⟩ := rn_cells (HRB.out wr HB.out)
        have HGX := Aside0.mk hgx
        have HNX := Aside0.mk hnx
        clear hgx hnx y3 bf nf
        by_cases hlt : j < m
        · have hjl : j < cs.length := by rw [HML.out]; exact hlt
          obtain ⟨ch, hch⟩ : ∃ ch, cs.getD j default = ch := ⟨_, rfl⟩
          have hch9 : cs[j]? = some ch := by rw [List.getElem?_eq_getElem hjl, ← hch, List.getD_eq_getElem?_getD, List.getElem?_eq_getElem hjl]; rfl
          have hchm : ch ∈ cs := List.mem_of_getElem? hch9
          have hdr : cs.drop j = ch :: cs.drop (j + 1) := by rw [List.drop_eq_getElem_cons hjl, (List.getElem?_eq_some_iff.1 hch9).2]
          have HE2 : Aside0 ((pre.map Prod.snd ++ [ch]) ++ cs.drop (j + 1) = cs.drop s) := ⟨by rw [← HE.out, hdr]; simp⟩
          obtain ⟨Ah, kh, chh, hhd⟩ : ∃ Ah kh chh, hs[j]? = some (Ah, kh, chh) := by
            have hih : j < hs.length := by rw [HHD.out.1, List.length_map]; exact hjl
            exact ⟨(hs[j]'hih).1, (hs[j]'hih).2.1, (hs[j]'hih).2.2, by rw [List.getElem?_eq_getElem hih]⟩
          obtain ⟨h1, h2, h3⟩ := HHD.out.2 j _ (blockB ch) hhd (by rw [List.getElem?_map, hch9]; rfl)
          simp only at h1 h2 h3
          rw [← h1] at h2 h3
          obtain ⟨adb, hAb, q0⟩ := C_atHd (Kd.C_below HHC.out HB.out) j hlt (Ah, kh, chh) hhd
          subst hAb
          have hmay := HCS.out ch hchm
          have hrb := readb_calls Ah kh chh (blockB ch) wr (Kd.C_below h3 HB.out) h2 (by have := blockB_len ch hmay; omega) (blockB_range ch)
          rw [readB_block ch hmay] at hrb
          have HRB2 := Aside0.mk ((callsIn_wide (n := 0)).2 hrb)
          have j1 : (j : Int) < (m : Int) := by omega
          have j2 : (0 : Int) ≤ (j : Int) := by omega
          clear hch hch9 hchm hdr hhd h1 h2 h3 hmay hrb hjl
          gi_wp2_with fail
          (with_reducible refine HRB2.out.mono ?_)
          rintro e W4 ⟨u4, rfl, hO4, hb4⟩
          have HJ4 := HJ.out _ _ _ HJ0.out hb4
          obtain ⟨fn, tmps, assign, body, hy, hRd⟩ := HY.out pre (u4, ch) wr W4 HJ0.out HJ4 ⟨Kd.R_lower hO4 (by omega), ⟨by omega, by have := hb4.size; omega, fun k hk => hb4.block k (by omega)⟩, ⟨cs.drop (j + 1), by rw [List.map_append]; exact HE2.out⟩⟩
          have HRD := Aside0.mk hRd
          have HB4 := Aside0.mk (below_step HB.out hb4)
          have HGX4 := Aside0.mk (blk_keep HGX.out hb4)
          have HNX4 := Aside0.mk (blk_keep HNX.out hb4)
          have hs4 := hb4.size
          clear hO4 hb4 hRd HJ4 q0
          gi_wp2_with fail
          refine HRD.out.mono ?_
          rintro e W5 (⟨rfl, hJ5, hk5⟩ | ⟨rfl, hJx5⟩)
          · have HJ5 := Aside0.mk hJ5
            have HB5 := Aside0.mk (HB4.out.trans hk5.1)
            have hs5 := hk5.2.1
            have HGX5 := Aside0.mk (hk5.2.2.1.trans HGX4.out)
            have HNX5 := Aside0.mk (hk5.2.2.2.trans HNX4.out)
            clear hJ5 hk5 hy
            gi_wp2
            go_roundw
            case rel => exact ⟨pre ++ [(u4, ch)], j + 1, by push_cast; rfl, hlt, ⟨by rw [List.map_append]; exact HE2.out⟩, HGX5.out, HNX5.out, HJ5, HB5, by omega⟩
            case measure => simp [intOf]; omega
          · clear hy
            gi_wp2
            refine bodyPost_ret (results_none rfl _ _ _) rfl ?_
            exact ⟨⟨_, rfl⟩, .inr ⟨pre ++ [(u4, ch)], ⟨cs.drop (j + 1), by rw [List.map_append]; exact HE2.out⟩, hJx5⟩⟩
        · have j1 : ¬ (j : Int) < (m : Int) := by omega
          have HFR : Aside0 (pre.map Prod.snd = cs.drop s) := ⟨by have h9 := HE.out; rwa [List.drop_of_length_le (show cs.length ≤ j by rw [HML.out]; omega), List.append_nil] at h9⟩
          gi_wp2_with fail
          first
            | (refine bodyPost_ret (results_none rfl _ _ _) rfl ?_; exact ⟨⟨_, rfl⟩, .inl ⟨pre, HFR.out, HJ0.out⟩⟩)
            | (go_end0; exact ⟨⟨_, rfl⟩, .inl ⟨pre, HFR.out, HJ0.out⟩⟩)
end Go.Proofs.Ytmfnbkghfmeekaa.A
