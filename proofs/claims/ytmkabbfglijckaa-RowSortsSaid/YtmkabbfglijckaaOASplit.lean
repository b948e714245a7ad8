/- A key's table and text: the program's. -/
import Derived.Test.YtmkabbfglijckaaOARound
import Derived.Test.YtmkabbfglijckaaOALawCmp
import Derived.StillTailTactics
import Derived.BigQuiet
namespace Go.Proofs.Ytmkabbfglijckaa.A.O
open Go.RowKit Go.Proofs.YtmkabbfglijckaaW.PrintWords Go.Proofs.YtmkabbfglijckaaW.PrintLast Go.Proofs.YtmkabbfglijckaaW.PrintMore
set_option linter.unusedVariables false
set_option linter.unusedSimpArgs false

theorem bytes_C (W : World) (e : TypeId) (s : ByteArray) (hs : s.size ≤ 9223372036854775807) : U8.C (Lib.bytesWorld W e s) (some ⟨W.heap.size, 0, none⟩) s.size (bytesOf s) := by
  refine ⟨bytesOf_length s, hs, fun _ => ⟨_, rfl, fun j p hj => ⟨[.int .u8 p], rfl, rfl, fun i u hu => ?_⟩⟩⟩
  have hi : i = 0 := by
    have := (List.getElem?_eq_some_iff.1 hu).1
    simpa using this
  subst hi
  have hu' : u = .int .u8 p := by simpa using hu.symm
  subst hu'
  have hjl : j < s.size := by
    have := (List.getElem?_eq_some_iff.1 hj).1
    rwa [bytesOf_length] at this
  rw [add_plain]
  show (Lib.bytesWorld W e s).cell? ⟨W.heap.size, j * 1 + 0, none⟩ = _
  rw [Nat.mul_one, Nat.add_zero, Lib.bytesWorld_cell W e s j hjl]
  have h' : j < s.data.toList.length := by rw [data_length]; exact hjl
  have e2 : (bytesOf s)[j]? = some ((s.data.toList[j].toNat : Nat) : Int) := by
    unfold bytesOf
    rw [List.getElem?_map, List.getElem?_eq_getElem h']
    rfl
  rw [e2] at hj
  injection hj with hj
  rw [← hj, List.getD_eq_getElem?_getD, List.getElem?_eq_getElem h']
  rfl
theorem row_cells2 {W : World} {B g c : Nat} {p q : Pt} (h : OPt W B (.slice (some ⟨g, 0, none⟩) 2 c) [p, q]) :
    (W.cell? ⟨g, 0, none⟩ = some (.bool p.t) ∧ W.cell? ⟨g, 1, none⟩ = some (.int .i64 p.n) ∧ W.cell? ⟨g, 2, none⟩ = some (.string p.s)) ∧ (W.cell? ⟨g, 3, none⟩ = some (.bool q.t) ∧ W.cell? ⟨g, 4, none⟩ = some (.int .i64 q.n) ∧ W.cell? ⟨g, 5, none⟩ = some (.string q.s)) := by
  have hr := (Kd.R_reads' h).2.2
  obtain ⟨ad, e, hc⟩ := hr.2.2 Nat.zero_lt_two
  injection e with e
  subst e
  obtain ⟨c0, h1, ⟨_, _, rfl, rfl, ⟨_, _, rfl, rfl, rfl⟩⟩, h3⟩ := hc 0 p rfl
  obtain ⟨c1, g1, ⟨_, _, rfl, rfl, ⟨_, _, rfl, rfl, rfl⟩⟩, g3⟩ := hc 1 q rfl
  refine ⟨⟨h3 0 _ rfl, h3 1 _ rfl, h3 2 _ rfl⟩, ⟨g3 0 _ rfl, g3 1 _ rfl, g3 2 _ rfl⟩⟩
/-- A row of one's own that has something lies in a block that is new. -/
theorem R_block {α : Type} {d : Kd α} {e : Nat} {W : World} {base n cap : Nat} {A : Option Addr} {ok : Nat → Prop} {xs : List α} (h : d.R e W base ok (.slice A n cap) xs) (hn : 0 < n) : ∃ g, A = some ⟨g, 0, none⟩ ∧ base ≤ g := by
  obtain ⟨_, inner, ho, _⟩ := h
  rcases ho.2 with ⟨h2, _⟩ | ⟨g, cap', cur, h2, hg, _⟩
  · injection h2 with h3 h4
    omega
  · injection h2 with h3 h4
    exact ⟨g, h3, hg⟩
theorem wordsL_size : ∀ (l acc : List Int), (wordsL l acc).1.length ≤ acc.length + l.length
  | [], acc => by simp [wordsL]
  | b :: [], acc => by
    rw [wordsL_cons]
    split
    · simp
    · have := wordsL_size [] (acc ++ [b])
      simp at this ⊢
      omega
  | b :: c :: r, acc => by
    rw [wordsL_cons]
    by_cases h : b = 0
    · rw [if_pos h]
      show (if c = 255 then wordsL r (acc ++ [0]) else if c = 1 then (acc, r, 0) else ([], [], 2)).1.length ≤ _
      split
      · have := wordsL_size r (acc ++ [0])
        simp at this ⊢
        omega
      · split <;> simp
    · rw [if_neg h]
      have := wordsL_size (c :: r) (acc ++ [b])
      simp at this ⊢
      omega
theorem readL_size (m : Nat) : ∀ (f : Nat) (b : List Int) (acc : List Pt), b.length ≤ m → (∀ p ∈ acc, p.s.size ≤ m) → ∀ p ∈ (readL f b acc).1, p.s.size ≤ m
  | 0, _, acc, _, h => h
  | _ + 1, [], acc, _, h => h
  | f + 1, k :: r, acc, hb, h => by
    rw [List.length_cons] at hb
    rw [readL]
    split
    · split
      · intro p hp
        simp at hp
      · refine readL_size m f _ _ (by rw [List.length_drop]; omega) ?_
        intro p hp
        rcases List.mem_append.1 hp with hp | hp
        · exact h p hp
        · rw [List.mem_singleton] at hp
          subst hp
          show (0 : Nat) ≤ m
          omega
    · split
      · split
        · rename_i he
          obtain ⟨z, hz⟩ := restW_drop r
          refine readL_size m f _ _ (by rw [hz, List.length_drop]; omega) ?_
          intro p hp
          rcases List.mem_append.1 hp with hp | hp
          · exact h p hp
          · rw [List.mem_singleton] at hp
            subst hp
            unfold wordsP
            rw [if_pos he]
            show (strOfNums _).size ≤ m
            rw [strOfNums_size]
            have := wordsL_size r []
            simp at this
            omega
        · intro p hp
          simp at hp
      · intro p hp
        simp at hp
theorem readB_size (b : List Int) : ∀ p ∈ (readB b).1, p.s.size ≤ b.length := readL_size b.length _ b [] (Nat.le_refl _) (by simp)
/-- A key's table, its text, the error. -/
def splitK (key : ByteArray) : Int × ByteArray × Int :=
  if (readB (bytesOf key)).2 = 0 then
    match (readB (bytesOf key)).1 with
    | [p, q] => if p.t = false ∧ q.t = true ∧ keyErr p.n q.s = 0 ∧ keyStr p.n q.s = key then (p.n, q.s, 0) else (0, { data := #[] }, 2)
    | _ => (0, { data := #[] }, 2)
  else (0, { data := #[] }, (readB (bytesOf key)).2)
theorem str_ne {x y : ByteArray} (h : ¬ x = y) : ¬ x.toList = y.toList := by
  intro e
  rw [ByteArray.toList_eq, ByteArray.toList_eq] at e
  apply h
  apply ByteArray.ext
  exact Array.toList_inj.1 e

set_option maxRecDepth 100000 in
set_option maxHeartbeats 2000000 in
theorem split_calls (key : ByteArray) (w : World) (hs : key.size ≤ 100000) :
    Calls Try.prog 31 #[.string key] w fun e w' => e = .returned (.tuple #[.int .i64 (splitK key).1, .string (splitK key).2.1, .int .i64 (splitK key).2.2]) ∧ Below w.heap.size w w' := by
  have hsp := splitK.eq_1 key
  have hsz := readB_size (bytesOf key)
  rw [bytesOf_length] at hsz
  have hcap := grownCap_ge w key.size 0 5
  have kb := fun W => print_bytes (P := Try.prog) 9 29 5 Try.underlying9 Try.underlying29 Try.underlying5 key W
  have HSZ := Aside0.mk hsz
  have HSP := Aside0.mk hsp
  clear hsz hsp
  go_enter Try.func31, Try.ntmps31
  go_wp2_with fail
  (with_reducible refine (read_calls _ _ _ (bytesOf key) _ (bytes_C w _ key (by omega)) hcap (bytesOf_range key) hs).mono ?_)
  rintro e w2 ⟨v2, rfl, HO2, hb2⟩
  have HB2 := Aside0.mk (below_step (bytes_below (Below.refl w.heap.size w) (Nat.le_refl _) 5 key) hb2)
  have HSP2 := HSP.out
  generalize (readB (bytesOf key)).2 = er at *
  generalize (readB (bytesOf key)).1 = l at *
  have HO := Aside0.mk (Kd.R_lower HO2 (show w.heap.size ≤ _ by rw [Lib.bytesWorld_size]; omega))
  clear hb2 kb HSP HO2
  by_cases he : er = 0
  · rw [if_pos he] at HSP2
    subst he
    obtain ⟨n, hn⟩ : ∃ n, l.length = n := ⟨_, rfl⟩
    obtain ⟨A2, c2, rfl, hc2, HC2⟩ := OPt_readn HO.out n hn
    by_cases hn2 : n = 2
    · subst hn2
      obtain ⟨p, q, rfl⟩ : ∃ p q, l = [p, q] := by
        match l, hn with
        | [p, q], _ => exact ⟨p, q, rfl⟩
      obtain ⟨g, rfl, hg⟩ := R_block HO.out (by omega)
      have hqs := HSZ.out q (by simp)
      obtain ⟨⟨b0, b1, b2⟩, ⟨b3, b4, b5⟩⟩ := row_cells2 HO.out
      obtain ⟨pt, pn, ps⟩ := p
      obtain ⟨qt, qn, qs⟩ := q
      dsimp only at b0 b1 b2 b3 b4 b5 hqs HSP2
      have HSP := Aside0.mk HSP2
      clear HSP2 HC2 hn
      by_cases h1 : pt = false
      · subst h1
        by_cases h2 : qt = true
        · subst h2
          go_wp2_with fail
          have hP : Aside0 (OPt w2.drew w.heap.size (.slice (some ⟨g, 0, none⟩) 2 c2) [⟨false, pn, ps⟩, ⟨true, qn, qs⟩]) := ⟨Kd.R_drew HO.out⟩
          have hB0 : Below w2.heap.size w2 w2.drew := below_drew1 (Below.refl _ _)
          have hd1 : w2.drew.cell? ⟨g, 1, none⟩ = some (.int .i64 pn) := b1
          have hd5 : w2.drew.cell? ⟨g, 5, none⟩ = some (.string qs) := b5
          have hall := And.intro hP (And.intro hd1 (And.intro hd5 hB0))
          go_region_held (fun w' => Aside0 (OPt w' w.heap.size (.slice (some ⟨g, 0, none⟩) 2 c2) [⟨false, pn, ps⟩, ⟨true, qn, qs⟩]) ∧ w'.cell? ⟨g, 1, none⟩ = some (.int .i64 pn) ∧ w'.cell? ⟨g, 5, none⟩ = some (.string qs) ∧ Below w2.heap.size w2 w')
            (first
              | exact hall
              | (go_split_ands; exact ⟨by assumption, by assumption, by assumption, by assumption⟩)
              | (go_split_ands; exact ⟨⟨Kd.R_below (Aside0.out (by assumption)) hb⟩, pw_cell_below hb (by assumption), pw_cell_below hb (by assumption), below_step (by assumption) hb⟩))
            (first | ((go_at_call 50); (with_reducible refine (key_calls _ _ _ (by omega)).mono ?_); rintro e w3 ⟨rfl, hb⟩))
          go_split_ands
          have hO3 : OPt w3 w.heap.size (.slice (some ⟨g, 0, none⟩) 2 c2) [⟨false, pn, ps⟩, ⟨true, qn, qs⟩] := Aside0.out (by assumption)
          have hB3 : Below w2.heap.size w2 w3 := by assumption
          have HB3 := Aside0.mk (below_step HB2.out hB3)
          obtain ⟨⟨d0, d1, d2⟩, ⟨d3, d4, d5⟩⟩ := row_cells2 hO3
          dsimp only at d0 d1 d2 d3 d4 d5
          obtain ⟨ke, hke⟩ : ∃ ke, keyErr pn qs = ke := ⟨_, rfl⟩
          obtain ⟨ks, hks⟩ : ∃ ks, keyStr pn qs = ks := ⟨_, rfl⟩
          have HSP2 := HSP.out
          rw [hke, hks] at HSP2 ⊢
          clear hke hks HSP hb hO3 hB3 b0 b1 b2 b3 b4 b5 hP hB0 hd1 hd5
          by_cases h3 : ke = 0
          · by_cases h4 : ks = key
            · rw [if_pos (by simp [h3, h4])] at HSP2
              have HSP := Aside0.mk HSP2
              clear HSP2
              subst h3 h4
              go_wp2_with fail
              go_quiet (fail)
              go_wp2_with fail
              go_ret3
              exact ⟨by rw [HSP.out]; first | rfl | kernel_rfl, by first | exact HB3.out | exact below_step HB3.out (by repeat (with_reducible first | exact Below.refl _ _ | apply pw_below_drewN | apply below_drew1))⟩
            · rw [if_neg (fun h => h4 h.2.2.2)] at HSP2
              have HSP := Aside0.mk HSP2
              have h5 := str_ne h4
              have h6 : (ks.toList == key.toList) = false := by simpa using h5
              clear HSP2
              subst h3
              go_wp2_with fail
              go_ret3
              exact ⟨by rw [HSP.out]; rfl, HB3.out⟩
          · rw [if_neg (fun h => h3 h.2.2.1)] at HSP2
            have HSP := Aside0.mk HSP2
            clear HSP2
            go_wp2_with fail
            go_ret3
            exact ⟨by rw [HSP.out]; rfl, HB3.out⟩
        · have hq : qt = false := by simpa using h2
          have HSP2 := HSP.out
          rw [if_neg (fun h => h2 h.2.1)] at HSP2
          have HSP := Aside0.mk HSP2
          clear HSP2
          subst hq
          go_wp2_with fail
          go_ret3
          exact ⟨by rw [HSP.out]; rfl, HB2.out⟩
      · have hp : pt = true := by simpa using h1
        have HSP2 := HSP.out
        rw [if_neg (fun h => h1 h.1)] at HSP2
        have HSP := Aside0.mk HSP2
        clear HSP2
        subst hp
        go_wp2_with fail
        go_ret3
        exact ⟨by rw [HSP.out]; rfl, HB2.out⟩
    · have hnn : ¬ (n : Int) = 2 := by omega
      have HSP : Aside0 (splitK key = (0, { data := #[] }, 2)) := ⟨by
        rw [HSP2]
        match l, hn with
        | [], _ => rfl
        | [_], _ => rfl
        | [_, _], h => exact (hn2 h.symm).elim
        | _ :: _ :: _ :: _, _ => rfl⟩
      clear HSP2 HC2 hn
      go_wp2_with fail
      go_ret3
      exact ⟨by rw [HSP.out]; rfl, HB2.out⟩
  · rw [if_neg he] at HSP2
    have HSP := Aside0.mk HSP2
    clear HSP2
    go_wp2_with fail
    go_ret3
    exact ⟨by rw [HSP.out]; rfl, HB2.out⟩

end Go.Proofs.Ytmkabbfglijckaa.A.O
