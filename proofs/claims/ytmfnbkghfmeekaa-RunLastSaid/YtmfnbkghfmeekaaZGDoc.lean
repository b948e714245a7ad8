/- GDoc -/
import Derived.Test.YtmfnbkghfmeekaaZGRun
import Derived.Laws.Cover1
namespace Go.Proofs.Ytmfnbkghfmeekaa.A
open Go.RowKit Go.Proofs.YtmfnbkghfmeekaaW.PrintWords Go.Proofs.YtmfnbkghfmeekaaW.PrintLast Go.Proofs.YtmfnbkghfmeekaaW.PrintMore
open R C
open Go.Op (bytesLess)
set_option linter.unusedVariables false
set_option linter.unusedSimpArgs false
theorem filt_take {α : Type} [Inhabited α] (f : α → Bool) (l : List α) (k : Nat) (hk : k < l.length) : (l.take (k + 1)).filter f = (l.take k).filter f ++ (if f (l.getD k default) = true then [l.getD k default] else []) := by
  rw [List.take_succ_eq_append_getElem hk, List.filter_append, List.getD_eq_getElem?_getD, List.getElem?_eq_getElem hk]
  simp only [Option.getD_some, List.filter_cons, List.filter_nil]
set_option maxRecDepth 100000 in
set_option maxHeartbeats 2000000 in
theorem of9_calls (A : Option Addr) (n c : Nat) (l : List Vr) (key : ByteArray) (w : World) (hr : KVr.C w A n l) (hc : n ≤ c) (hn : n ≤ 100000) :
    Calls Try.prog 23 #[.slice A n c, .string key] w fun e w' => ∃ v, e = .returned v ∧ OVr w' w.heap.size v (ofR l key) ∧ Below w.heap.size w w' := by
  have HR := Aside0.mk hr
  have HN := Aside0.mk hr.1
  have HLE := Aside0.mk (fun k => List.length_filter_le (fun p : Vr => p.k.toList == key.toList) (l.take k))
  clear hr
  go_enter Try.func23, Try.ntmps23
  go_wp2_with fail
  go_loopw [5, 6] (fun v5 v6 w' => ∃ k : Nat, k ≤ n ∧ v6 = .int .i64 k ∧ Aside0 (OVr w' w.heap.size v5 (ofR (l.take k) key)) ∧ Aside0 (Below w.heap.size w w')) (fun _ v6 _ => n - (intOf v6).toNat)
  case atStart => exact ⟨0, Nat.zero_le _, rfl, ⟨OVr_nil _ _⟩, ⟨Below.refl _ _⟩⟩
  case round =>
    obtain ⟨k, hk, rfl, HO, HB⟩ := hrel
    by_cases hlt : k < n
    · have hln : k < l.length := by rw [HN.out]; exact hlt
      obtain ⟨ad, hA, -⟩ := C_atVr HR.out k hlt
      subst hA
      have h1 := filt_take (fun p : Vr => p.k.toList == key.toList) l k hln
      obtain ⟨p, hp⟩ : ∃ p, l.getD k default = p := ⟨_, rfl⟩
      rw [hp] at h1
      obtain ⟨q0, q1, q2, q3, q4, q5, q6, q7⟩ := C_atVr' (Kd.C_below HR.out HB.out) k hlt p hp
      obtain ⟨b, hb⟩ : ∃ b, (p.k.toList == key.toList) = b := ⟨_, rfl⟩
      rw [hb] at h1
      have H1 := Aside0.mk h1
      have hll : (ofR (l.take k) key).length ≤ 100000 := by
        have := HLE.out k
        rw [List.length_take] at this
        unfold ofR
        omega
      have HLL := Aside0.mk hll
      have j1 : (k : Int) < (n : Int) := by omega
      have j2 : (0 : Int) ≤ (k : Int) := by omega
      clear h1 hp hln hll
      cases b with
      | true =>
        go_wp2_with ((with_reducible refine gate_dst (N := 26) rfl ?_); refine app_vr rfl rfl rfl rfl HO.out HB.out.size (by have := HLL.out; omega) ?_; intro v7 w7 hO7 hb7 _; have HO7 := Aside0.mk hO7; have HB7 := Aside0.mk (HB.out.trans hb7); clear hO7 hb7)
        go_roundw
        case rel => exact ⟨k + 1, hlt, by push_cast; rfl, ⟨by unfold ofR; rw [H1.out]; exact HO7.out⟩, HB7⟩
        case measure => simp [intOf]; omega
      | false =>
        go_wp2_with fail
        go_roundw
        case rel => exact ⟨k + 1, hlt, by push_cast; rfl, ⟨by unfold ofR; rw [H1.out, if_neg (by simp), List.append_nil]; exact HO.out⟩, HB⟩
        case measure => simp [intOf]; omega
    · have j1 : ¬ (k : Int) < (n : Int) := by omega
      have HF : Aside0 (ofR (l.take k) key = ofR l key) := ⟨by rw [List.take_of_length_le (by have := HN.out; omega)]⟩
      go_wp2_with fail
      go_ret
      exact ⟨_, rfl, by rw [← HF.out]; exact HO.out, HB.out⟩
set_option maxRecDepth 100000 in
set_option maxHeartbeats 2000000 in
theorem range9_calls (A : Option Addr) (n c : Nat) (l : List Vr) (fr til : ByteArray) (w : World) (hr : KVr.C w A n l) (hc : n ≤ c) (hn : n ≤ 100000) :
    Calls Try.prog 25 #[.slice A n c, .string fr, .string til] w fun e w' => ∃ v, e = .returned v ∧ OVr w' w.heap.size v (rangeR l fr til) ∧ Below w.heap.size w w' := by
  have HR := Aside0.mk hr
  have HN := Aside0.mk hr.1
  have HLE := Aside0.mk (fun k => List.length_filter_le (fun p : Vr => !bytesLess p.k.toList fr.toList && bytesLess p.k.toList til.toList) (l.take k))
  clear hr
  go_enter Try.func25, Try.ntmps25
  go_wp2_with fail
  go_loopw [7, 8] (fun v5 v6 w' => ∃ k : Nat, k ≤ n ∧ v6 = .int .i64 k ∧ Aside0 (OVr w' w.heap.size v5 (rangeR (l.take k) fr til)) ∧ Aside0 (Below w.heap.size w w')) (fun _ v6 _ => n - (intOf v6).toNat)
  case atStart => exact ⟨0, Nat.zero_le _, rfl, ⟨OVr_nil _ _⟩, ⟨Below.refl _ _⟩⟩
  case round =>
    obtain ⟨k, hk, rfl, HO, HB⟩ := hrel
    by_cases hlt : k < n
    · have hln : k < l.length := by rw [HN.out]; exact hlt
      obtain ⟨ad, hA, -⟩ := C_atVr HR.out k hlt
      subst hA
      have h1 := filt_take (fun p : Vr => !bytesLess p.k.toList fr.toList && bytesLess p.k.toList til.toList) l k hln
      obtain ⟨p, hp⟩ : ∃ p, l.getD k default = p := ⟨_, rfl⟩
      rw [hp] at h1
      obtain ⟨q0, q1, q2, q3, q4, q5, q6, q7⟩ := C_atVr' (Kd.C_below HR.out HB.out) k hlt p hp
      obtain ⟨b1, hb1⟩ : ∃ b, bytesLess p.k.toList fr.toList = b := ⟨_, rfl⟩
      obtain ⟨b2, hb2⟩ : ∃ b, bytesLess p.k.toList til.toList = b := ⟨_, rfl⟩
      rw [hb1, hb2] at h1
      have H1 := Aside0.mk h1
      have hll : (rangeR (l.take k) fr til).length ≤ 100000 := by
        have := HLE.out k
        rw [List.length_take] at this
        unfold rangeR
        omega
      have HLL := Aside0.mk hll
      have j1 : (k : Int) < (n : Int) := by omega
      have j2 : (0 : Int) ≤ (k : Int) := by omega
      clear h1 hp hln hll
      by_cases hb : b1 = false ∧ b2 = true
      · obtain ⟨rfl, rfl⟩ := hb
        go_wp2_with ((with_reducible refine gate_dst (N := 37) rfl ?_); refine app_vr rfl rfl rfl rfl HO.out HB.out.size (by have := HLL.out; omega) ?_; intro v7 w7 hO7 hb7 _; have HO7 := Aside0.mk hO7; have HB7 := Aside0.mk (HB.out.trans hb7); clear hO7 hb7)
        go_roundw
        case rel => exact ⟨k + 1, hlt, by push_cast; rfl, ⟨by unfold rangeR; rw [H1.out]; exact HO7.out⟩, HB7⟩
        case measure => simp [intOf]; omega
      · have HN2 : Aside0 ((!b1 && b2) = false) := ⟨by cases b1 <;> cases b2 <;> simp_all⟩
        cases b1 <;> cases b2
        case false.true => exact absurd ⟨rfl, rfl⟩ hb
        all_goals
          clear hb
          go_wp2_with fail
          go_roundw
          case rel => exact ⟨k + 1, hlt, by push_cast; rfl, ⟨by unfold rangeR; rw [H1.out, if_neg (by simp), List.append_nil]; exact HO.out⟩, HB⟩
          case measure => simp [intOf]; omega
    · have j1 : ¬ (k : Int) < (n : Int) := by omega
      have HF : Aside0 (rangeR (l.take k) fr til = rangeR l fr til) := ⟨by rw [List.take_of_length_le (by have := HN.out; omega)]⟩
      go_wp2_with fail
      go_ret
      exact ⟨_, rfl, by rw [← HF.out]; exact HO.out, HB.out⟩
theorem last_snoc (m : List Vr) (p : Vr) : lastV (m ++ [p]) = p := by
  unfold lastV
  rw [List.length_append, List.length_singleton, Nat.add_sub_cancel, List.getD_eq_getElem?_getD, List.getElem?_append_right (Nat.le_refl _), Nat.sub_self]
  rfl
set_option maxRecDepth 100000 in
set_option maxHeartbeats 4000000 in
theorem last9_calls (A : Option Addr) (n c : Nat) (l : List Vr) (key : ByteArray) (br ep : Int) (w : World) (hr : KVr.C w A n l) (hc : n ≤ c) (hn : n ≤ 100000) :
    Calls Try.prog 26 #[.slice A n c, .string key, .int .i64 br, .int .i64 ep] w fun e w' => e = .returned (.tuple #[vrV (lastV (lastsR l key br ep)), .bool (decide (lastsR l key br ep ≠ []))]) ∧ Below w.heap.size w w' := by
  have HR := Aside0.mk hr
  have HN := Aside0.mk hr.1
  clear hr
  obtain ⟨g, hg⟩ : ∃ g, w.heap.size = g := ⟨_, rfl⟩
  have HG := Aside0.mk hg
  have k0 : ((w.alloc (vrB zeroV)).alloc (vrB zeroV)).heap[g]? = some (vrB zeroV) := blk_keep (by rw [← hg]; exact heap_alloc_new w _) (below_alloc (Below.refl _ _) _)
  have k1 : ((w.alloc (vrB zeroV)).alloc (vrB zeroV)).heap[g + 1]? = some (vrB zeroV) := by
    have h9 := heap_alloc_new (w.alloc (vrB zeroV)) (vrB zeroV)
    rwa [World.size_alloc, hg] at h9
  have HK := Aside0.mk (show _ ∧ _ ∧ Below w.heap.size w ((w.alloc (vrB zeroV)).alloc (vrB zeroV)) from ⟨k0, k1, below_alloc (below_alloc (Below.refl _ _) _) _⟩)
  clear k0 k1
  go_enter Try.func26, Try.ntmps26
  go_wp2_with fail
  go_loopw [11, 12] (fun v11 v12 w' => ∃ k : Nat, k ≤ n ∧ v12 = .int .i64 k ∧ v11 = .bool (decide (lastsR (l.take k) key br ep ≠ [])) ∧ Aside0 (w'.heap[g]? = some (vrB zeroV) ∧ w'.heap[g + 1]? = some (vrB (lastV (lastsR (l.take k) key br ep))) ∧ Below w.heap.size w w')) (fun _ v12 _ => n - (intOf v12).toNat)
  case atStart => exact ⟨0, Nat.zero_le _, rfl, rfl, ⟨HK.out⟩⟩
  case round =>
    obtain ⟨k, hk, rfl, rfl, HX⟩ := hrel
    obtain ⟨is, his⟩ : ∃ b, decide (lastsR (l.take k) key br ep ≠ []) = b := ⟨_, rfl⟩
    rw [his]
    have HIS := Aside0.mk his
    clear his
    by_cases hlt : k < n
    · have hln : k < l.length := by rw [HN.out]; exact hlt
      obtain ⟨ad, hA, -⟩ := C_atVr HR.out k hlt
      subst hA
      have h1 : lastsR (l.take (k + 1)) key br ep = lastsR (l.take k) key br ep ++ (if ((l.getD k default).k.toList == key.toList && isL br ep (l.getD k default)) = true then [l.getD k default] else []) := filt_take (fun p : Vr => (p.k.toList == key.toList) && isL br ep p) l k hln
      obtain ⟨p, hp⟩ : ∃ p, l.getD k default = p := ⟨_, rfl⟩
      rw [hp] at h1
      obtain ⟨q0, q1, q2, q3, q4, q5, q6, q7⟩ := C_atVr' (Kd.C_below HR.out HX.out.2.2) k hlt p hp
      obtain ⟨y0, y1, y2, y3, y4, y5, y6, y7⟩ := vr_cells8 HX.out.2.1
      have yf := fun i => vr_frozen HX.out.2.1 i
      obtain ⟨pk, pbr, pep, psq, pf, pt, pv, pg⟩ := p
      simp only at q0 q1 q2 q3 q4 q5 q6 q7
      unfold isL at h1
      simp only at h1
      obtain ⟨b1, hb1⟩ : ∃ b, (pk.toList == key.toList) = b := ⟨_, rfl⟩
      rw [hb1] at h1
      have H1 := Aside0.mk h1
      have j1 : (k : Int) < (n : Int) := by omega
      have j2 : (0 : Int) ≤ (k : Int) := by omega
      clear h1 hp hln
      have hno : ∀ b, b = false → (if (b1 && (decide (pbr = br) && decide (pep ≤ ep))) = true then ([⟨pk, pbr, pep, psq, pf, pt, pv, pg⟩] : List Vr) else []) = [] → lastsR (l.take (k + 1)) key br ep = lastsR (l.take k) key br ep := fun _ _ e => by rw [H1.out, e, List.append_nil]
      have HNO := Aside0.mk hno
      clear hno
      cases b1 with
      | false =>
        have HE : Aside0 (lastsR (l.take (k + 1)) key br ep = lastsR (l.take k) key br ep) := ⟨HNO.out false rfl rfl⟩
        clear y0 y1 y2 y3 y4 y5 y6 y7 yf
        go_wp2_with fail
        go_roundw
        case rel => exact ⟨k + 1, hlt, by push_cast; rfl, by rw [HE.out, HIS.out], ⟨by rw [HE.out]; exact HX.out⟩⟩
        case measure => simp [intOf]; omega
      | true =>
        by_cases h2 : pbr = br
        · subst h2
          by_cases h3 : pep ≤ ep
          · have HE : Aside0 (lastsR (l.take (k + 1)) key pbr ep = lastsR (l.take k) key pbr ep ++ [⟨pk, pbr, pep, psq, pf, pt, pv, pg⟩]) := ⟨by rw [H1.out, decide_eq_true h3, decide_eq_true (rfl : pbr = pbr)]; rfl⟩
            go_wp2_with fail
            go_roundw
            case rel =>
              rw [set8_eq]
              refine ⟨k + 1, hlt, by push_cast; rfl, by rw [HE.out, decide_eq_true (by simp)], ⟨(set8_far _ _ (by omega)).trans HX.out.1, ?_, set8_below HX.out.2.2 (by have := HG.out; omega) _⟩⟩
              rw [HE.out, last_snoc]
              exact set8_heap HX.out.2.1 _
            case measure => simp [intOf]; omega
          · have HE : Aside0 (lastsR (l.take (k + 1)) key pbr ep = lastsR (l.take k) key pbr ep) := ⟨HNO.out false rfl (by rw [decide_eq_false h3]; simp)⟩
            clear y0 y1 y2 y3 y4 y5 y6 y7 yf
            go_wp2_with fail
            go_roundw
            case rel => exact ⟨k + 1, hlt, by push_cast; rfl, by rw [HE.out, HIS.out], ⟨by rw [HE.out]; exact HX.out⟩⟩
            case measure => simp [intOf]; omega
        · have HE : Aside0 (lastsR (l.take (k + 1)) key br ep = lastsR (l.take k) key br ep) := ⟨HNO.out false rfl (by rw [decide_eq_false h2]; simp)⟩
          clear y0 y1 y2 y3 y4 y5 y6 y7 yf
          go_wp2_with fail
          go_roundw
          case rel => exact ⟨k + 1, hlt, by push_cast; rfl, by rw [HE.out, HIS.out], ⟨by rw [HE.out]; exact HX.out⟩⟩
          case measure => simp [intOf]; omega
    · have j1 : ¬ (k : Int) < (n : Int) := by omega
      have HF : Aside0 (l.take k = l) := ⟨List.take_of_length_le (by have := HN.out; omega)⟩
      have HX2 : Aside0 (wr.heap[g]? = some (vrB zeroV) ∧ wr.heap[g + 1]? = some (vrB (lastV (lastsR l key br ep))) ∧ Below w.heap.size w wr) := ⟨by have h9 := HX.out; rwa [HF.out] at h9⟩
      have HIS2 : Aside0 (decide (lastsR l key br ep ≠ []) = is) := ⟨by have h9 := HIS.out; rwa [HF.out] at h9⟩
      obtain ⟨L, hL⟩ : ∃ L, lastsR l key br ep = L := ⟨_, rfl⟩
      rw [hL] at HIS2 HX2
      have HL := Aside0.mk hL
      clear hL
      obtain ⟨p, hp⟩ : ∃ p, lastV L = p := ⟨_, rfl⟩
      rw [hp] at HX2
      have HP := Aside0.mk hp
      obtain ⟨pk, pbr, pep, psq, pf, pt, pv, pg⟩ := p
      obtain ⟨y0, y1, y2, y3, y4, y5, y6, y7⟩ := vr_cells8 HX2.out.2.1
      obtain ⟨x0, x1, x2, x3, x4, x5, x6, x7⟩ := vr_cells8 HX2.out.1
      have xf := fun i => vr_frozen HX2.out.1 i
      simp only at y0 y1 y2 y3 y4 y5 y6 y7
      clear HIS HX hp
      go_wp2_with fail
      rw [set8_eq]
      refine bodyPost_ret (results_cellS rfl _ _ g ⟨pk, pbr, pep, psq, pf, pt, pv, pg⟩ is rfl rfl (set8_heap HX2.out.1 _)) rfl ?_
      have e9 : (!decide (L = [])) = is := by rw [← HIS2.out]; simp
      have hbb := set8_below HX2.out.2.2 (x := g) (by have := HG.out; omega) ⟨pk, pbr, pep, psq, pf, pt, pv, pg⟩
      rw [hg] at hbb
      rw [HL.out, HP.out]
      exact ⟨by first | rw [e9] | rw [HIS2.out], hbb⟩
end Go.Proofs.Ytmfnbkghfmeekaa.A
