/- A tuple read of bytes: the program's. -/
import Derived.Test.YtmkabbfglijckaaOAWord
namespace Go.Proofs.Ytmkabbfglijckaa.A.O
open Go.RowKit Go.Proofs.YtmkabbfglijckaaW.PrintWords Go.Proofs.YtmkabbfglijckaaW.PrintLast Go.Proofs.YtmkabbfglijckaaW.PrintMore
set_option linter.unusedVariables false
set_option linter.unusedSimpArgs false

/-- The tuple of bytes, and the error. -/
def readL : Nat → List Int → List Pt → List Pt × Int
  | 0, _, acc => (acc, 0)
  | _ + 1, [], acc => (acc, 0)
  | f + 1, k :: r, acc => if k = 1 then (if r.length < 8 then ([], 3) else readL f (r.drop 8) (acc ++ [wordP r])) else if k = 2 then (if errW r = 0 then readL f (restW r) (acc ++ [wordsP r]) else ([], errW r)) else ([], 2)
def readB (b : List Int) : List Pt × Int := readL (b.length + 1) b []
theorem words_suffix : ∀ (l acc : List Int), ∃ k, (wordsL l acc).2.1 = l.drop k
  | [], acc => ⟨0, rfl⟩
  | b :: [], acc => by
    rw [wordsL_cons]
    split
    · exact ⟨1, rfl⟩
    · obtain ⟨k, hk⟩ := words_suffix [] (acc ++ [b])
      exact ⟨k + 1, hk⟩
  | b :: c :: r, acc => by
    rw [wordsL_cons]
    by_cases h : b = 0
    · rw [if_pos h]
      show ∃ k, (if c = 255 then wordsL r (acc ++ [0]) else if c = 1 then (acc, r, 0) else ([], [], 2)).2.1 = _
      split
      · obtain ⟨k, hk⟩ := words_suffix r (acc ++ [0])
        exact ⟨k + 2, hk⟩
      · split
        · exact ⟨2, rfl⟩
        · exact ⟨r.length + 2, by simp⟩
    · rw [if_neg h]
      obtain ⟨k, hk⟩ := words_suffix (c :: r) (acc ++ [b])
      exact ⟨k + 1, hk⟩
theorem restW_drop (r : List Int) : ∃ k, restW r = r.drop k := words_suffix r []
theorem box_below {W w1 : World} {g : Nat} {o : Obj} (h : W.heap[g]? = some o) (hb : Below W.heap.size W w1) : w1.heap[g]? = some o :=
  (hb.block g (Array.getElem?_eq_some_iff.1 h).1).trans h
theorem far3 {w : World} {B g : Nat} {v x y z : Value} {xs : List Pt} (h : KPt.R 78 w B (fun j => j < g) v xs) : OPt (((w.setCell ⟨g, 0, none⟩ x).setCell ⟨g, 1, none⟩ y).setCell ⟨g, 2, none⟩ z) B v xs := by
  have h1 := Kd.R_far (p := ⟨g, 0, none⟩) h (fun k hk => Nat.ne_of_lt hk) x
  have h2 := Kd.R_far (p := ⟨g, 1, none⟩) h1 (fun k hk => Nat.ne_of_lt hk) y
  have h3 := Kd.R_far (p := ⟨g, 2, none⟩) h2 (fun k hk => Nat.ne_of_lt hk) z
  exact Kd.R_mono h3 (fun _ _ => trivial)
theorem below3 {a w : World} {B g : Nat} {x y z : Value} (h : Below B a w) (hg : B ≤ g) : Below B a (((w.setCell ⟨g, 0, none⟩ x).setCell ⟨g, 1, none⟩ y).setCell ⟨g, 2, none⟩ z) :=
  ((h.setCell (p := ⟨g, 0, none⟩) hg x).setCell (p := ⟨g, 1, none⟩) hg y).setCell (p := ⟨g, 2, none⟩) hg z
def lenOf : Value → Nat | .slice _ n _ => n | _ => 0

set_option maxRecDepth 100000 in
set_option maxHeartbeats 4000000 in
theorem read_calls (A : Option Addr) (n c : Nat) (b : List Int) (w : World) (hr : U8.C w A n b) (hc : n ≤ c) (hb : ∀ x ∈ b, 0 ≤ x ∧ x ≤ 255) (hn : n ≤ 100000) :
    Calls Try.prog 49 #[.slice A n c] w fun e w' => ∃ v, e = .returned (.tuple #[v, .int .i64 (readB b).2]) ∧ OPt w' w.heap.size v (readB b).1 ∧ Below w.heap.size w w' := by
  have hnl : n = b.length := hr.1.symm
  have HN := Aside0.mk hnl
  have HR := Aside0.mk hr
  have HBY := Aside0.mk hb
  clear hnl hr hb
  go_enter Try.func49, Try.ntmps49
  go_wp2
  go_loopw [0, 4] (fun v0 v4 w' => ∃ (f m c1 : Nat) (A1 : Option Addr) (r : List Int) (acc : List Pt), v0 = .slice A1 m c1 ∧ m ≤ c1 ∧ m < f ∧ acc.length + m ≤ n ∧ Aside0 (U8.C w A1 m r) ∧ Aside0 (∀ x ∈ r, 0 ≤ x ∧ x ≤ 255) ∧ Aside0 (readL f r acc = readB b) ∧ Aside0 (OPt w' w.heap.size v4 acc) ∧ Aside0 (Below w.heap.size w w')) (fun v0 _ _ => lenOf v0)
  case atStart => exact ⟨n + 1, n, c, A, b, [], rfl, hc, by omega, by simp, HR, HBY, ⟨by rw [readB, HN.out]⟩, ⟨Kd.R_nil _ _ _ _ _⟩, ⟨Below.refl _ _⟩⟩
  case round =>
    clear HR HBY
    obtain ⟨f, m, c1, A1, r, acc, rfl, hc1, hmf, hacc, HC, HBY, HE, HO, HB⟩ := hrel
    obtain ⟨f, rfl⟩ : ∃ g, f = g + 1 := ⟨f - 1, by omega⟩
    have hml := HC.out.1
    by_cases h0 : m = 0
    · subst h0
      have hr0 : r = [] := List.eq_nil_of_length_eq_zero hml
      subst hr0
      go_wp2_with fail
      go_ret2
      have hE := HE.out
      rw [readL] at hE
      refine ⟨u4, ?_, ?_, HB.out⟩
      · rw [← hE]; rfl
      · rw [← hE]
        exact HO.out
    · obtain ⟨k, r', rfl⟩ : ∃ k r', r = k :: r' := by
        cases r with
        | nil => simp at hml; omega
        | cons k r' => exact ⟨k, r', rfl⟩
      obtain ⟨ad, rfl, hcell⟩ := C_atN HC.out 0 (by omega)
      rw [Addr.add_zero', List.getD_cons_zero] at hcell
      have hcell := pw_cell_below HB.out hcell
      have hk := HBY.out k (by simp)
      have hm0 : (0 : Int) < (m : Int) := by omega
      have hm1 : (1 : Int) ≤ (m : Int) := by omega
      obtain ⟨A2, c2, hrun, hC2, hl2⟩ := cutfN (some ad) m c1 (k :: r') 1 hml (by omega) (by omega) hc1
      simp only [show (1 : Int).toNat = 1 from rfl, List.drop_succ_cons, List.drop_zero] at hrun hC2 hl2
      obtain ⟨m', hm'⟩ : ∃ m', r'.length = m' := ⟨_, rfl⟩
      have HMM : Aside0 (m = m' + 1) := ⟨by rw [← hml, ← hm']; rfl⟩
      rw [hm'] at hl2
      simp only [hm'] at hrun
      have HC2 := Aside0.mk (hC2 w HC.out)
      rw [hm'] at HC2
      have HM := Aside0.mk hm'
      have HBY2 : Aside0 (∀ x ∈ r', 0 ≤ x ∧ x ≤ 255) := ⟨fun x hx => HBY.out x (by simp [hx])⟩
      have hmm' : m' + 1 ≤ m := Nat.le_of_eq HMM.out.symm
      have hE := HE.out
      rw [readL] at hE
      have hOg : KPt.R 78 wr w.heap.size (fun j => j < wr.heap.size) u4 acc := Kd.R_mono (Kd.R_bound HO.out) (fun j hj => hj.2.2.1)
      have HOg := Aside0.mk hOg
      clear hC2 hm' hml HC HBY HE HO hOg
      have hcell2 := pw_cell_below (below_alloc (Below.refl wr.heap.size wr) (.cells #[.bool false, .int .i64 0, .string { data := #[] }] 78)) hcell
      have HX : Aside0 ((wr.alloc (.cells #[.bool false, .int .i64 0, .string { data := #[] }] 78)).drew.heap[wr.heap.size]? = some (.cells #[.bool false, .int .i64 0, .string { data := #[] }] 78 (0, 0))) := ⟨heap_alloc_new wr _⟩
      have hgB := HB.out.size
      have HB1 := Aside0.mk ((below_alloc HB.out (.cells #[.bool false, .int .i64 0, .string { data := #[] }] 78)).drew)
      have HO1 := Aside0.mk (Kd.R_drew (Kd.R_alloc HOg.out (.cells #[.bool false, .int .i64 0, .string { data := #[] }] 78)))
      have HC3 := HC2
      clear hcell HB HOg HC2
      by_cases hk1 : k = 1
      · subst hk1
        rw [if_pos rfl] at hE
        have HD := Aside0.mk hE
        clear hE
        go_wp2_with fail
        go_region
        go_wp2_with fail
        generalize wr.heap.size = g at *
        generalize (wr.alloc (.cells #[.bool false, .int .i64 0, .string { data := #[] }] 78)).drew = w1 at *
        by_cases h8 : m' < 8
        · have HD2 := HD.out
          rw [if_pos (by rw [HM.out]; exact h8)] at HD2
          have HD3 := Aside0.mk HD2
          clear HD2 HD
          (with_reducible refine (word_short _ _ _ _ h8).mono ?_)
          rintro e w2 ⟨rfl, hb2⟩
          have HX2 := box_below HX.out hb2
          obtain ⟨b0, b1, b2⟩ := box_cells HX2
          have f0 := frozen_of_row _ _ 0 _ _ HX2
          have f1 := frozen_of_row _ _ 1 _ _ HX2
          have f2 := frozen_of_row _ _ 2 _ _ HX2
          have HB2 := Aside0.mk (below_step HB1.out hb2)
          clear hb2 HX2
          go_wp2_with fail
          go_ret2
          refine ⟨.slice none 0 0, ?_, ?_, ?_⟩
          · rw [← HD3.out]; rfl
          · rw [← HD3.out]; exact Kd.R_nil _ _ _ _ _
          · exact below3 HB2.out hgB
        · have HD2 := HD.out
          rw [if_neg (by rw [HM.out]; exact h8)] at HD2
          have HD3 := Aside0.mk HD2
          clear HD2 HD
          (with_reducible refine (word_calls _ _ _ r' _ (Kd.C_below HC3.out HB1.out) hl2 HBY2.out (by omega) (by omega)).mono ?_)
          rintro e w2 ⟨A3, c3, rfl, hl3, hC3, hb2⟩
          have HX2 := box_below HX.out hb2
          obtain ⟨b0, b1, b2⟩ := box_cells HX2
          have f0 := frozen_of_row _ _ 0 _ _ HX2
          have f1 := frozen_of_row _ _ 1 _ _ HX2
          have f2 := frozen_of_row _ _ 2 _ _ HX2
          have HB2 := Aside0.mk (below_step HB1.out hb2)
          have HO2 := Aside0.mk (Kd.R_below HO1.out hb2)
          have HC4 := Aside0.mk (hC3 w HC3.out)
          obtain ⟨q, hq⟩ : ∃ q, (r'.drop 8).length = q := ⟨_, rfl⟩
          have hq2 : q + 8 = m' := by rw [← hq, List.length_drop, HM.out]; omega
          rw [hq] at hl3 HC4 ⊢
          have HQ := Aside0.mk hq2
          have hqm : q + 9 ≤ m := by rw [HMM.out]; omega
          obtain ⟨pt, pn, ps, hP⟩ : ∃ pt pn ps, wordP r' = ⟨pt, pn, ps⟩ := ⟨_, _, _, rfl⟩
          rw [hP] at HD3 ⊢
          dsimp only [Pt.val]
          clear hb2 HX2 HX HO1 HC3 hC3 hq2 hP
          go_wp2_with ((with_reducible refine gate_dst (N := 39) rfl ?_); refine app_pt rfl rfl rfl ?_ (far3 HO2.out) (below3 HB2.out hgB).size (by omega) ?_; go_simp; intro v4 w4 HO4 hb4 _)
          go_roundw
          case rel =>
            have hB4 := (below3 HB2.out hgB).trans hb4
            refine ⟨f, q, c3, A3, r'.drop 8, acc ++ [⟨pt, pn, ps⟩], rfl, hl3, by omega, by rw [List.length_append, List.length_singleton]; omega, ?_, ⟨fun x hx => HBY2.out x (List.mem_of_mem_drop hx)⟩, HD3, ⟨HO4⟩, ⟨hB4⟩⟩
            exact HC4
          case measure => simp [lenOf]; omega
      · rw [if_neg hk1] at hE
        by_cases hk2 : k = 2
        · subst hk2
          rw [if_pos rfl] at hE
          have HD := Aside0.mk hE
          clear hE
          go_wp2_with fail
          go_region
          go_wp2_with fail
          generalize wr.heap.size = g at *
          generalize (wr.alloc (.cells #[.bool false, .int .i64 0, .string { data := #[] }] 78)).drew = w1 at *
          (with_reducible refine (words_calls _ _ _ r' _ (Kd.C_below HC3.out HB1.out) hl2 HBY2.out (by omega)).mono ?_)
          rintro e w2 ⟨A3, c3, rfl, hl3, hC3, hb2⟩
          have HX2 := box_below HX.out hb2
          obtain ⟨b0, b1, b2⟩ := box_cells HX2
          have f0 := frozen_of_row _ _ 0 _ _ HX2
          have f1 := frozen_of_row _ _ 1 _ _ HX2
          have f2 := frozen_of_row _ _ 2 _ _ HX2
          have HB2 := Aside0.mk (below_step HB1.out hb2)
          have HO2 := Aside0.mk (Kd.R_below HO1.out hb2)
          have HC4 := Aside0.mk (hC3 w HC3.out)
          obtain ⟨z, hz⟩ := restW_drop r'
          have hqm : (restW r').length + 1 ≤ m := by rw [hz, List.length_drop, HM.out]; omega
          have HBY3 : Aside0 (∀ x ∈ restW r', 0 ≤ x ∧ x ≤ 255) := ⟨fun x hx => HBY2.out x (by rw [hz] at hx; exact List.mem_of_mem_drop hx)⟩
          clear hz hC3
          generalize restW r' = rr at *
          obtain ⟨q, hq⟩ : ∃ q, rr.length = q := ⟨_, rfl⟩
          rw [hq] at hl3 HC4 hqm ⊢
          obtain ⟨pt, pn, ps, hP⟩ : ∃ pt pn ps, wordsP r' = ⟨pt, pn, ps⟩ := ⟨_, _, _, rfl⟩
          have HD2 := HD.out
          rw [hP] at HD2 ⊢
          dsimp only [Pt.val]
          obtain ⟨er, her⟩ : ∃ er, errW r' = er := ⟨_, rfl⟩
          rw [her] at HD2 ⊢
          clear hb2 HX2 HX HO1 HC3 hP her HD hq
          by_cases he : er = 0
          · rw [if_pos he] at HD2
            subst he
            have HD3 := Aside0.mk HD2
            clear HD2
            go_wp2_with ((with_reducible refine gate_dst (N := 39) rfl ?_); refine app_pt rfl rfl rfl ?_ (far3 HO2.out) (below3 HB2.out hgB).size (by omega) ?_; go_simp; intro v4 w4 HO4 hb4 _)
            go_roundw
            case rel =>
              have hB4 := (below3 HB2.out hgB).trans hb4
              exact ⟨f, q, c3, A3, rr, acc ++ [⟨pt, pn, ps⟩], rfl, hl3, by omega, by rw [List.length_append, List.length_singleton]; omega, HC4, HBY3, HD3, ⟨HO4⟩, ⟨hB4⟩⟩
            case measure => simp [lenOf]; omega
          · rw [if_neg he] at HD2
            have HD3 := Aside0.mk HD2
            clear HD2
            go_wp2_with fail
            go_ret2
            refine ⟨.slice none 0 0, ?_, ?_, ?_⟩
            · rw [← HD3.out]; rfl
            · rw [← HD3.out]; exact Kd.R_nil _ _ _ _ _
            · exact below3 HB2.out hgB
        · rw [if_neg hk2] at hE
          have HD3 := Aside0.mk hE
          clear hE
          go_wp2_with fail
          go_region
          go_wp2_with fail
          go_ret2
          refine ⟨.slice none 0 0, ?_, ?_, ?_⟩
          · rw [← HD3.out]; rfl
          · rw [← HD3.out]; exact Kd.R_nil _ _ _ _ _
          · exact HB1.out

end Go.Proofs.Ytmkabbfglijckaa.A.O
