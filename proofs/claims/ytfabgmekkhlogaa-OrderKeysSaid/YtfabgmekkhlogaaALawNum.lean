/- OrderNumbers: bytes of numbers are 9, in the numbers' order; those of a table's keys are in the order of their texts. -/
import Derived.Test.YtfabgmekkhlogaaALawKeeps
namespace Go.Proofs.Ytfabgmekkhlogaa.A
open Go.RowKit Go.Proofs.YtfabgmekkhlogaaW.PrintWords Go.Proofs.YtfabgmekkhlogaaW.PrintLast Go.Proofs.YtfabgmekkhlogaaW.PrintMore
open Go.Op (bytesLess)
set_option linter.unusedVariables false
set_option linter.unusedSimpArgs false

def numPart (n : Int) : List Pt := [⟨false, n, { data := #[] }⟩]
theorem numPart_ok (n : Int) (h0 : -9223372036854775808 ≤ n) (h1 : n ≤ 9223372036854775807) : ∀ p ∈ numPart n, p.ok := by
  intro p hp
  rw [numPart, List.mem_singleton] at hp
  subst hp
  exact ⟨⟨h0, h1⟩, by show (0 : Nat) ≤ _; omega⟩
theorem numPart_size (n : Int) : ∀ p ∈ numPart n, p.s.size ≤ 100000 := by
  intro p hp
  rw [numPart, List.mem_singleton] at hp
  subst hp
  show (0 : Nat) ≤ _
  omega
theorem numPart_len (n : Int) : (writeL (numPart n)).length = 9 := by simp [writeL, numPart, wpart, num8]
theorem num_keeps (a b : Int) (ha : -9223372036854775808 ≤ a ∧ a ≤ 9223372036854775807) (hb : -9223372036854775808 ≤ b ∧ b ≤ 9223372036854775807) : cmpS (strOfNums (writeL (numPart a))) (strOfNums (writeL (numPart b))) = cmpI a b := by
  rw [keeps _ _ (numPart_ok a ha.1 ha.2) (numPart_ok b hb.1 hb.2)]
  show (if cmpI a b = 0 then 0 else cmpI a b) = _
  split
  · omega
  · rfl
theorem keyParts_ok (t : Int) (s : ByteArray) (h0 : 0 ≤ t) (h1 : t < 4) (hs : s.size ≤ 40) : ∀ p ∈ keyParts t s, p.ok := by
  intro p hp
  simp only [keyParts, List.mem_cons, List.not_mem_nil, or_false] at hp
  rcases hp with rfl | rfl
  · exact ⟨⟨by show -9223372036854775808 ≤ t; omega, by show t ≤ 9223372036854775807; omega⟩, by show (0 : Nat) ≤ _; omega⟩
  · exact ⟨⟨by show -9223372036854775808 ≤ (0 : Int); omega, by show (0 : Int) ≤ 9223372036854775807; omega⟩, by show s.size ≤ 9223372036854775807; omega⟩
theorem key_keeps (t : Int) (x y : ByteArray) (h0 : 0 ≤ t) (h1 : t < 4) (hx : x.size ≤ 40) (hy : y.size ≤ 40) : keyErr t x = 0 ∧ cmpS (keyStr t x) (keyStr t y) = cmpS x y := by
  have e1 : keyErr t x = 0 := by unfold keyErr; rw [if_neg (by omega), if_neg (by omega)]
  have e2 : keyErr t y = 0 := by unfold keyErr; rw [if_neg (by omega), if_neg (by omega)]
  refine ⟨e1, ?_⟩
  unfold keyStr
  rw [if_pos e1, if_pos e2, keeps _ _ (keyParts_ok t x h0 h1 hx) (keyParts_ok t y h0 h1 hy)]
  show (if cmpI t t = 0 then (if cmpS x y = 0 then 0 else cmpS x y) else cmpI t t) = _
  have e3 : cmpI t t = 0 := by unfold cmpI; rw [if_neg (by omega), if_pos rfl]
  rw [if_pos e3]
  split
  · omega
  · rfl
theorem less_of (x y : ByteArray) : bytesLess x.toList y.toList = decide (cmpS x y < 0) := by
  rcases str_facts x y with ⟨h0, h1, _⟩ | ⟨h0, h1, _⟩ | ⟨h0, h1, _⟩ <;> rw [h0, h1] <;> rfl
theorem num_less (a b : Int) (ha : -9223372036854775808 ≤ a ∧ a ≤ 9223372036854775807) (hb : -9223372036854775808 ≤ b ∧ b ≤ 9223372036854775807) : bytesLess (strOfNums (writeL (numPart a))).toList (strOfNums (writeL (numPart b))).toList = decide (a < b) := by
  rw [less_of, num_keeps a b ha hb]
  unfold cmpI
  by_cases h : a < b
  · rw [if_pos h, decide_eq_true h]
    rfl
  · rw [if_neg h, decide_eq_false h]
    split <;> rfl
theorem key_less (t : Int) (x y : ByteArray) (h0 : 0 ≤ t) (h1 : t < 4) (hx : x.size ≤ 40) (hy : y.size ≤ 40) : bytesLess (keyStr t x).toList (keyStr t y).toList = bytesLess x.toList y.toList := by
  rw [less_of, less_of, (key_keeps t x y h0 h1 hx hy).2]

set_option maxRecDepth 100000 in
set_option maxHeartbeats 4000000 in
theorem numbers_calls (w : World) (a : Int) (ga : IntKind.i64.min ≤ a ∧ a ≤ IntKind.i64.max) (b : Int) (gb : IntKind.i64.min ≤ b ∧ b ≤ IntKind.i64.max) (s : ByteArray) (gs : s.size ≤ maxLen) (t : ByteArray) (gt : t.size ≤ maxLen) :
    Calls Try.prog 5 #[.int .i64 a, .int .i64 b, .string s, .string t] w fun e w' => e = .returned (.bool true) ∧ Below w.heap.size w w' := by
  have ga0 : -9223372036854775808 ≤ a := ga.1
  have ga1 : a ≤ 9223372036854775807 := ga.2
  have gb0 : -9223372036854775808 ≤ b := gb.1
  have gb1 : b ≤ 9223372036854775807 := gb.2
  have gs0 : s.size ≤ 9223372036854775807 := gs
  have gt0 : t.size ≤ 9223372036854775807 := gt
  clear ga gb gs gt
  go_enter Try.func5, Try.ntmps5
  rcases Nat.lt_or_ge 40 s.size with c1 | c1 <;> rcases Nat.lt_or_ge 40 t.size with c2 | c2
  · have h1 : (40 : Int) < (s.size : Int) := by omega
    have h2 : (40 : Int) < (t.size : Int) := by omega
    obtain ⟨S, hS⟩ : ∃ S, s.extract 0 40 = S := ⟨_, rfl⟩
    obtain ⟨T, hT⟩ : ∃ T, t.extract 0 40 = T := ⟨_, rfl⟩
    have hS40 : S.size ≤ 40 := by rw [← hS, ByteArray.size_extract]; omega
    have hT40 : T.size ≤ 40 := by rw [← hT, ByteArray.size_extract]; omega
    have HS := Aside0.mk hS
    have HT := Aside0.mk hT
    clear hS hT
    go_wp2_with fail
    rw [HS.out, HT.out]
    clear HS HT h1 h2 c1 c2
    have hN := num_less a b ⟨ga0, ga1⟩ ⟨gb0, gb1⟩
    have hK := key_less 2 S T (by omega) (by omega) hS40 hT40
    have hke := (key_keeps 2 S T (by omega) (by omega) hS40 hT40).1
    have hke2 := (key_keeps 2 T S (by omega) (by omega) hT40 hS40).1
    (with_reducible refine (write_calls _ _ _ (numPart a) _ (lit_CPt1 w _ false a { data := #[] }) (Nat.le_refl _) (numPart_ok a ga0 ga1) (numPart_size a) (by omega)).mono ?_)
    rintro e w1 ⟨v1, rfl, HO1, hb1⟩
    obtain ⟨A1, c1, rfl, hc1, HC1⟩ := OB_readn HO1 9 (numPart_len a)
    have HX1 := Aside0.mk HO1
    have HB1 := Aside0.mk (below_step (below_alloc (Below.refl w.heap.size w) _) hb1)
    have HN := Aside0.mk hN
    have HK := Aside0.mk hK
    have HE := Aside0.mk hke
    have HE2 := Aside0.mk hke2
    clear HO1 hb1 HC1 hN hK hke hke2
    go_wp2_with fail
    (with_reducible refine (write_calls _ _ _ (numPart b) _ (lit_CPt1 w1 _ false b { data := #[] }) (Nat.le_refl _) (numPart_ok b gb0 gb1) (numPart_size b) (by omega)).mono ?_)
    rintro e w2 ⟨v2, rfl, HO2, hb2⟩
    obtain ⟨A2, c2, rfl, hc2, HC2⟩ := OB_readn HO2 9 (numPart_len b)
    have HX2 := Aside0.mk (Kd.R_below (Kd.R_alloc HX1.out _) hb2)
    have HY2 := Aside0.mk HO2
    have HB2 := Aside0.mk (below_step (below_alloc HB1.out _) hb2)
    clear HO2 hb2 HC2 HX1 HB1
    go_wp2_with fail
    (with_reducible refine (key_calls _ _ _ (by omega)).mono ?_)
    rintro e w3 ⟨rfl, hb3⟩
    rw [HE.out]
    have HX3 := Aside0.mk (Kd.R_below HX2.out hb3)
    have HY3 := Aside0.mk (Kd.R_below HY2.out hb3)
    have HB3 := Aside0.mk (below_step HB2.out hb3)
    clear hb3 HX2 HY2 HB2
    go_wp2_with fail
    (with_reducible refine (key_calls _ _ _ (by omega)).mono ?_)
    rintro e w4 ⟨rfl, hb4⟩
    rw [HE2.out]
    have hE3 := OB_string (Kd.R_below HX3.out hb4)
    have hE4 := OB_string (Kd.R_below HY3.out hb4)
    have HB4 := Aside0.mk (below_step HB3.out hb4)
    have hN := HN.out
    have hK := HK.out
    clear hb4 HX3 HY3 HB3 HE HE2 HN HK
    generalize strOfNums (writeL (numPart a)) = X at *
    generalize strOfNums (writeL (numPart b)) = Y at *
    generalize keyStr 2 S = K1 at *
    generalize keyStr 2 T = K2 at *
    go_wp2_with fail
    (with_reducible refine (lives_calls _).mono ?_)
    rintro e w5 ⟨rfl, hb5⟩
    have HB5 := Aside0.mk (below_step HB4.out hb5)
    clear hb5
    go_wp2_with fail
    go_ret
    exact ⟨rfl, HB5.out⟩
  · have h1 : (40 : Int) < (s.size : Int) := by omega
    have h2 : ¬ (40 : Int) < (t.size : Int) := by omega
    obtain ⟨S, hS⟩ : ∃ S, s.extract 0 40 = S := ⟨_, rfl⟩
    have hS40 : S.size ≤ 40 := by rw [← hS, ByteArray.size_extract]; omega
    have hT40 : t.size ≤ 40 := by omega
    have HS := Aside0.mk hS
    clear hS
    go_wp2_with fail
    rw [HS.out]
    clear HS h1 h2 c1 c2
    have hN := num_less a b ⟨ga0, ga1⟩ ⟨gb0, gb1⟩
    have hK := key_less 2 S t (by omega) (by omega) hS40 hT40
    have hke := (key_keeps 2 S t (by omega) (by omega) hS40 hT40).1
    have hke2 := (key_keeps 2 t S (by omega) (by omega) hT40 hS40).1
    (with_reducible refine (write_calls _ _ _ (numPart a) _ (lit_CPt1 w _ false a { data := #[] }) (Nat.le_refl _) (numPart_ok a ga0 ga1) (numPart_size a) (by omega)).mono ?_)
    rintro e w1 ⟨v1, rfl, HO1, hb1⟩
    obtain ⟨A1, c1, rfl, hc1, HC1⟩ := OB_readn HO1 9 (numPart_len a)
    have HX1 := Aside0.mk HO1
    have HB1 := Aside0.mk (below_step (below_alloc (Below.refl w.heap.size w) _) hb1)
    have HN := Aside0.mk hN
    have HK := Aside0.mk hK
    have HE := Aside0.mk hke
    have HE2 := Aside0.mk hke2
    clear HO1 hb1 HC1 hN hK hke hke2
    go_wp2_with fail
    (with_reducible refine (write_calls _ _ _ (numPart b) _ (lit_CPt1 w1 _ false b { data := #[] }) (Nat.le_refl _) (numPart_ok b gb0 gb1) (numPart_size b) (by omega)).mono ?_)
    rintro e w2 ⟨v2, rfl, HO2, hb2⟩
    obtain ⟨A2, c2, rfl, hc2, HC2⟩ := OB_readn HO2 9 (numPart_len b)
    have HX2 := Aside0.mk (Kd.R_below (Kd.R_alloc HX1.out _) hb2)
    have HY2 := Aside0.mk HO2
    have HB2 := Aside0.mk (below_step (below_alloc HB1.out _) hb2)
    clear HO2 hb2 HC2 HX1 HB1
    go_wp2_with fail
    (with_reducible refine (key_calls _ _ _ (by omega)).mono ?_)
    rintro e w3 ⟨rfl, hb3⟩
    rw [HE.out]
    have HX3 := Aside0.mk (Kd.R_below HX2.out hb3)
    have HY3 := Aside0.mk (Kd.R_below HY2.out hb3)
    have HB3 := Aside0.mk (below_step HB2.out hb3)
    clear hb3 HX2 HY2 HB2
    go_wp2_with fail
    (with_reducible refine (key_calls _ _ _ (by omega)).mono ?_)
    rintro e w4 ⟨rfl, hb4⟩
    rw [HE2.out]
    have hE3 := OB_string (Kd.R_below HX3.out hb4)
    have hE4 := OB_string (Kd.R_below HY3.out hb4)
    have HB4 := Aside0.mk (below_step HB3.out hb4)
    have hN := HN.out
    have hK := HK.out
    clear hb4 HX3 HY3 HB3 HE HE2 HN HK
    generalize strOfNums (writeL (numPart a)) = X at *
    generalize strOfNums (writeL (numPart b)) = Y at *
    generalize keyStr 2 S = K1 at *
    generalize keyStr 2 t = K2 at *
    go_wp2_with fail
    (with_reducible refine (lives_calls _).mono ?_)
    rintro e w5 ⟨rfl, hb5⟩
    have HB5 := Aside0.mk (below_step HB4.out hb5)
    clear hb5
    go_wp2_with fail
    go_ret
    exact ⟨rfl, HB5.out⟩
  · have h1 : ¬ (40 : Int) < (s.size : Int) := by omega
    have h2 : (40 : Int) < (t.size : Int) := by omega
    obtain ⟨T, hT⟩ : ∃ T, t.extract 0 40 = T := ⟨_, rfl⟩
    have hS40 : s.size ≤ 40 := by omega
    have hT40 : T.size ≤ 40 := by rw [← hT, ByteArray.size_extract]; omega
    have HT := Aside0.mk hT
    clear hT
    go_wp2_with fail
    rw [HT.out]
    clear HT h1 h2 c1 c2
    have hN := num_less a b ⟨ga0, ga1⟩ ⟨gb0, gb1⟩
    have hK := key_less 2 s T (by omega) (by omega) hS40 hT40
    have hke := (key_keeps 2 s T (by omega) (by omega) hS40 hT40).1
    have hke2 := (key_keeps 2 T s (by omega) (by omega) hT40 hS40).1
    (with_reducible refine (write_calls _ _ _ (numPart a) _ (lit_CPt1 w _ false a { data := #[] }) (Nat.le_refl _) (numPart_ok a ga0 ga1) (numPart_size a) (by omega)).mono ?_)
    rintro e w1 ⟨v1, rfl, HO1, hb1⟩
    obtain ⟨A1, c1, rfl, hc1, HC1⟩ := OB_readn HO1 9 (numPart_len a)
    have HX1 := Aside0.mk HO1
    have HB1 := Aside0.mk (below_step (below_alloc (Below.refl w.heap.size w) _) hb1)
    have HN := Aside0.mk hN
    have HK := Aside0.mk hK
    have HE := Aside0.mk hke
    have HE2 := Aside0.mk hke2
    clear HO1 hb1 HC1 hN hK hke hke2
    go_wp2_with fail
    (with_reducible refine (write_calls _ _ _ (numPart b) _ (lit_CPt1 w1 _ false b { data := #[] }) (Nat.le_refl _) (numPart_ok b gb0 gb1) (numPart_size b) (by omega)).mono ?_)
    rintro e w2 ⟨v2, rfl, HO2, hb2⟩
    obtain ⟨A2, c2, rfl, hc2, HC2⟩ := OB_readn HO2 9 (numPart_len b)
    have HX2 := Aside0.mk (Kd.R_below (Kd.R_alloc HX1.out _) hb2)
    have HY2 := Aside0.mk HO2
    have HB2 := Aside0.mk (below_step (below_alloc HB1.out _) hb2)
    clear HO2 hb2 HC2 HX1 HB1
    go_wp2_with fail
    (with_reducible refine (key_calls _ _ _ (by omega)).mono ?_)
    rintro e w3 ⟨rfl, hb3⟩
    rw [HE.out]
    have HX3 := Aside0.mk (Kd.R_below HX2.out hb3)
    have HY3 := Aside0.mk (Kd.R_below HY2.out hb3)
    have HB3 := Aside0.mk (below_step HB2.out hb3)
    clear hb3 HX2 HY2 HB2
    go_wp2_with fail
    (with_reducible refine (key_calls _ _ _ (by omega)).mono ?_)
    rintro e w4 ⟨rfl, hb4⟩
    rw [HE2.out]
    have hE3 := OB_string (Kd.R_below HX3.out hb4)
    have hE4 := OB_string (Kd.R_below HY3.out hb4)
    have HB4 := Aside0.mk (below_step HB3.out hb4)
    have hN := HN.out
    have hK := HK.out
    clear hb4 HX3 HY3 HB3 HE HE2 HN HK
    generalize strOfNums (writeL (numPart a)) = X at *
    generalize strOfNums (writeL (numPart b)) = Y at *
    generalize keyStr 2 s = K1 at *
    generalize keyStr 2 T = K2 at *
    go_wp2_with fail
    (with_reducible refine (lives_calls _).mono ?_)
    rintro e w5 ⟨rfl, hb5⟩
    have HB5 := Aside0.mk (below_step HB4.out hb5)
    clear hb5
    go_wp2_with fail
    go_ret
    exact ⟨rfl, HB5.out⟩
  · have h1 : ¬ (40 : Int) < (s.size : Int) := by omega
    have h2 : ¬ (40 : Int) < (t.size : Int) := by omega
    have hS40 : s.size ≤ 40 := by omega
    have hT40 : t.size ≤ 40 := by omega
    go_wp2_with fail
    clear h1 h2 c1 c2
    have hN := num_less a b ⟨ga0, ga1⟩ ⟨gb0, gb1⟩
    have hK := key_less 2 s t (by omega) (by omega) hS40 hT40
    have hke := (key_keeps 2 s t (by omega) (by omega) hS40 hT40).1
    have hke2 := (key_keeps 2 t s (by omega) (by omega) hT40 hS40).1
    (with_reducible refine (write_calls _ _ _ (numPart a) _ (lit_CPt1 w _ false a { data := #[] }) (Nat.le_refl _) (numPart_ok a ga0 ga1) (numPart_size a) (by omega)).mono ?_)
    rintro e w1 ⟨v1, rfl, HO1, hb1⟩
    obtain ⟨A1, c1, rfl, hc1, HC1⟩ := OB_readn HO1 9 (numPart_len a)
    have HX1 := Aside0.mk HO1
    have HB1 := Aside0.mk (below_step (below_alloc (Below.refl w.heap.size w) _) hb1)
    have HN := Aside0.mk hN
    have HK := Aside0.mk hK
    have HE := Aside0.mk hke
    have HE2 := Aside0.mk hke2
    clear HO1 hb1 HC1 hN hK hke hke2
    go_wp2_with fail
    (with_reducible refine (write_calls _ _ _ (numPart b) _ (lit_CPt1 w1 _ false b { data := #[] }) (Nat.le_refl _) (numPart_ok b gb0 gb1) (numPart_size b) (by omega)).mono ?_)
    rintro e w2 ⟨v2, rfl, HO2, hb2⟩
    obtain ⟨A2, c2, rfl, hc2, HC2⟩ := OB_readn HO2 9 (numPart_len b)
    have HX2 := Aside0.mk (Kd.R_below (Kd.R_alloc HX1.out _) hb2)
    have HY2 := Aside0.mk HO2
    have HB2 := Aside0.mk (below_step (below_alloc HB1.out _) hb2)
    clear HO2 hb2 HC2 HX1 HB1
    go_wp2_with fail
    (with_reducible refine (key_calls _ _ _ (by omega)).mono ?_)
    rintro e w3 ⟨rfl, hb3⟩
    rw [HE.out]
    have HX3 := Aside0.mk (Kd.R_below HX2.out hb3)
    have HY3 := Aside0.mk (Kd.R_below HY2.out hb3)
    have HB3 := Aside0.mk (below_step HB2.out hb3)
    clear hb3 HX2 HY2 HB2
    go_wp2_with fail
    (with_reducible refine (key_calls _ _ _ (by omega)).mono ?_)
    rintro e w4 ⟨rfl, hb4⟩
    rw [HE2.out]
    have hE3 := OB_string (Kd.R_below HX3.out hb4)
    have hE4 := OB_string (Kd.R_below HY3.out hb4)
    have HB4 := Aside0.mk (below_step HB3.out hb4)
    have hN := HN.out
    have hK := HK.out
    clear hb4 HX3 HY3 HB3 HE HE2 HN HK
    generalize strOfNums (writeL (numPart a)) = X at *
    generalize strOfNums (writeL (numPart b)) = Y at *
    generalize keyStr 2 s = K1 at *
    generalize keyStr 2 t = K2 at *
    go_wp2_with fail
    (with_reducible refine (lives_calls _).mono ?_)
    rintro e w5 ⟨rfl, hb5⟩
    have HB5 := Aside0.mk (below_step HB4.out hb5)
    clear hb5
    go_wp2_with fail
    go_ret
    exact ⟨rfl, HB5.out⟩

end Go.Proofs.Ytfabgmekkhlogaa.A
