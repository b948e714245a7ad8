/- OrderKeys: a table's key is the document's, and is split as it was, or it is refused. -/
import Derived.Test.YtfabgmekkhlogaaASplit
import Derived.Test.YtfabgmekkhlogaaALawNum
namespace Go.Proofs.Ytfabgmekkhlogaa.A
open Go.RowKit Go.Proofs.YtfabgmekkhlogaaW.PrintWords Go.Proofs.YtfabgmekkhlogaaW.PrintLast Go.Proofs.YtfabgmekkhlogaaW.PrintMore
set_option linter.unusedVariables false
set_option linter.unusedSimpArgs false

theorem keyParts_size (t : Int) (s : ByteArray) (m : Nat) (hs : s.size ≤ m) : ∀ p ∈ keyParts t s, p.s.size ≤ m := by
  intro p hp
  simp only [keyParts, List.mem_cons, List.not_mem_nil, or_false] at hp
  rcases hp with rfl | rfl
  · show (0 : Nat) ≤ _
    omega
  · exact hs
theorem split_key (t : Int) (s : ByteArray) (h0 : 0 ≤ t) (h1 : t < 4) (hs : s.size ≤ 40) : splitK (keyStr t s) = (t, s, 0) := by
  have e1 : keyErr t s = 0 := by unfold keyErr; rw [if_neg (by omega), if_neg (by omega)]
  have e2 : keyStr t s = strOfNums (writeL (keyParts t s)) := by unfold keyStr; rw [if_pos e1]
  have e3 : readB (bytesOf (keyStr t s)) = ([⟨false, t, { data := #[] }⟩, ⟨true, 0, s⟩], 0) := by
    rw [e2, bytesOf_str _ (write_range _), readB_write _ (keyParts_ok t s h0 h1 hs)]
    rfl
  unfold splitK
  rw [e3, if_pos rfl]
  show (if false = false ∧ true = true ∧ keyErr t s = 0 ∧ keyStr t s = keyStr t s then (t, s, (0 : Int)) else _) = _
  rw [if_pos ⟨rfl, rfl, e1, rfl⟩]
set_option maxRecDepth 100000 in
theorem refkey_calls (t : Int) (s : ByteArray) (w : World) (h0 : 0 ≤ t) (h1 : t < 4) (hs : s.size ≤ 40) :
    Calls Try.prog 23 #[.int .i64 t, .string s] w fun e w' => e = .returned (.string (keyStr t s)) ∧ Below w.heap.size w w' := by
  have e1 : keyErr t s = 0 := by unfold keyErr; rw [if_neg (by omega), if_neg (by omega)]
  have e2 : keyStr t s = strOfNums (writeL (keyParts t s)) := by unfold keyStr; rw [if_pos e1]
  rw [e2]
  have HK := Aside0.mk (keyParts_ok t s h0 h1 hs)
  have HS := Aside0.mk (keyParts_size t s 100000 (by omega))
  clear e1 e2
  go_enter Try.func23, Try.ntmps23
  go_wp2_with fail
  (with_reducible refine (refwrite_calls _ _ _ (keyParts t s) _ (lit_CPt2 w _ false t ({ data := #[] } : ByteArray) true 0 s) (Nat.le_refl _) HK.out HS.out (by omega)).mono ?_)
  rintro e w2 ⟨v2, rfl, HO2, hb2⟩
  have E2 := OB_string HO2
  have HB2 := Aside0.mk (below_step (below_alloc (Below.refl w.heap.size w) _) hb2)
  clear HO2 hb2
  go_wp2
  go_ret
  exact ⟨rfl, HB2.out⟩

set_option maxRecDepth 100000 in
set_option maxHeartbeats 2000000 in
theorem keys_calls (w : World) (t : Int) (gt : IntKind.i64.min ≤ t ∧ t ≤ IntKind.i64.max) (s : ByteArray) (gs : s.size ≤ maxLen) :
    Calls Try.prog 9 #[.int .i64 t, .string s] w fun e w' => e = .returned (.bool true) ∧ Below w.heap.size w w' := by
  have gt0 : -9223372036854775808 ≤ t := gt.1
  have gt1 : t ≤ 9223372036854775807 := gt.2
  have gs0 : s.size ≤ 9223372036854775807 := gs
  clear gt gs
  go_enter Try.func9, Try.ntmps9
  rcases Nat.lt_or_ge 60 s.size with c1 | c1
  · have h1 : (60 : Int) < (s.size : Int) := by omega
    obtain ⟨S, hS⟩ : ∃ S, s.extract 0 60 = S := ⟨_, rfl⟩
    have hS60 : S.size ≤ 60 := by rw [← hS, ByteArray.size_extract]; omega
    have HS := Aside0.mk hS
    clear hS
    go_wp2_with fail
    rw [HS.out]
    clear HS h1 c1
    (with_reducible refine (key_calls _ _ _ (by omega)).mono ?_)
    rintro e w2 ⟨rfl, hb2⟩
    have HB2 := Aside0.mk hb2
    clear hb2
    by_cases ht : t < 0 ∨ 4 ≤ t
    · have e1 : keyErr t S = 1 := by unfold keyErr; rw [if_pos ht]
      have e2 : keyStr t S = { data := #[] } := by unfold keyStr; rw [e1]; rfl
      rw [e1, e2]
      clear e1 e2
      rcases ht with ht | ht
      · go_wp2_with fail
        (with_reducible refine (lives_calls _).mono ?_)
        rintro e w3 ⟨rfl, hb3⟩
        have HB3 := Aside0.mk (below_step HB2.out hb3)
        clear hb3
        go_wp2_with fail
        go_ret
        exact ⟨rfl, HB3.out⟩
      · have h2 : ¬ t < 0 := by omega
        have h3 : 3 < t := by omega
        go_wp2_with fail
        (with_reducible refine (lives_calls _).mono ?_)
        rintro e w3 ⟨rfl, hb3⟩
        have HB3 := Aside0.mk (below_step HB2.out hb3)
        clear hb3
        go_wp2_with fail
        go_ret
        exact ⟨rfl, HB3.out⟩
    · have h2 : ¬ t < 0 := by omega
      have h3 : ¬ 3 < t := by omega
      by_cases h40 : 40 < S.size
      · have e1 : keyErr t S = 5 := by unfold keyErr; rw [if_neg ht, if_pos h40]
        have e2 : keyStr t S = { data := #[] } := by unfold keyStr; rw [e1]; rfl
        rw [e1, e2]
        have h4 : (40 : Int) < (S.size : Int) := by omega
        clear e1 e2 ht
        go_wp2_with fail
        (with_reducible refine (lives_calls _).mono ?_)
        rintro e w3 ⟨rfl, hb3⟩
        have HB3 := Aside0.mk (below_step HB2.out hb3)
        clear hb3
        go_wp2_with fail
        go_ret
        exact ⟨rfl, HB3.out⟩
      · have hS40 : S.size ≤ 40 := by omega
        have t0 : 0 ≤ t := by omega
        have t1 : t < 4 := by omega
        have e1 : keyErr t S = 0 := by unfold keyErr; rw [if_neg ht, if_neg h40]
        have h4 : ¬ (40 : Int) < (S.size : Int) := by omega
        have hsp := split_key t S t0 t1 hS40
        have hks : (keyStr t S).size ≤ 100000 := by
          unfold keyStr
          rw [if_pos e1, strOfNums_size]
          have := writeL_len (keyParts t S) 40 (keyParts_size t S 40 hS40)
          have e : (keyParts t S).length = 2 := rfl
          rw [e] at this
          omega
        rw [e1]
        have HSP := Aside0.mk hsp
        clear e1 ht hsp h40
        go_wp2_with fail
        (with_reducible refine (split_calls _ _ hks).mono ?_)
        rw [HSP.out]
        rintro e w3 ⟨rfl, hb3⟩
        have HB3 := Aside0.mk (below_step HB2.out hb3)
        clear hb3 HSP
        go_wp2_with fail
        (with_reducible refine (refkey_calls _ _ _ t0 t1 hS40).mono ?_)
        rintro e w4 ⟨rfl, hb4⟩
        have HB4 := Aside0.mk (below_step HB3.out hb4)
        clear hb4
        generalize keyStr t S = K at *
        go_wp2_with fail
        (with_reducible refine (lives_calls _).mono ?_)
        rintro e w5 ⟨rfl, hb5⟩
        have HB5 := Aside0.mk (below_step HB4.out hb5)
        clear hb5
        go_wp2_with fail
        go_ret
        exact ⟨rfl, HB5.out⟩
  · obtain ⟨S, hS⟩ : ∃ S, s = S := ⟨_, rfl⟩
    subst hS
    have hS60 : s.size ≤ 60 := by omega
    have h1 : ¬ (60 : Int) < (s.size : Int) := by omega
    go_wp2_with fail
    clear h1 c1
    (with_reducible refine (key_calls _ _ _ (by omega)).mono ?_)
    rintro e w2 ⟨rfl, hb2⟩
    have HB2 := Aside0.mk hb2
    clear hb2
    by_cases ht : t < 0 ∨ 4 ≤ t
    · have e1 : keyErr t s = 1 := by unfold keyErr; rw [if_pos ht]
      have e2 : keyStr t s = { data := #[] } := by unfold keyStr; rw [e1]; rfl
      rw [e1, e2]
      clear e1 e2
      rcases ht with ht | ht
      · go_wp2_with fail
        (with_reducible refine (lives_calls _).mono ?_)
        rintro e w3 ⟨rfl, hb3⟩
        have HB3 := Aside0.mk (below_step HB2.out hb3)
        clear hb3
        go_wp2_with fail
        go_ret
        exact ⟨rfl, HB3.out⟩
      · have h2 : ¬ t < 0 := by omega
        have h3 : 3 < t := by omega
        go_wp2_with fail
        (with_reducible refine (lives_calls _).mono ?_)
        rintro e w3 ⟨rfl, hb3⟩
        have HB3 := Aside0.mk (below_step HB2.out hb3)
        clear hb3
        go_wp2_with fail
        go_ret
        exact ⟨rfl, HB3.out⟩
    · have h2 : ¬ t < 0 := by omega
      have h3 : ¬ 3 < t := by omega
      by_cases h40 : 40 < s.size
      · have e1 : keyErr t s = 5 := by unfold keyErr; rw [if_neg ht, if_pos h40]
        have e2 : keyStr t s = { data := #[] } := by unfold keyStr; rw [e1]; rfl
        rw [e1, e2]
        have h4 : (40 : Int) < (s.size : Int) := by omega
        clear e1 e2 ht
        go_wp2_with fail
        (with_reducible refine (lives_calls _).mono ?_)
        rintro e w3 ⟨rfl, hb3⟩
        have HB3 := Aside0.mk (below_step HB2.out hb3)
        clear hb3
        go_wp2_with fail
        go_ret
        exact ⟨rfl, HB3.out⟩
      · have hS40 : s.size ≤ 40 := by omega
        have t0 : 0 ≤ t := by omega
        have t1 : t < 4 := by omega
        have e1 : keyErr t s = 0 := by unfold keyErr; rw [if_neg ht, if_neg h40]
        have h4 : ¬ (40 : Int) < (s.size : Int) := by omega
        have hsp := split_key t s t0 t1 hS40
        have hks : (keyStr t s).size ≤ 100000 := by
          unfold keyStr
          rw [if_pos e1, strOfNums_size]
          have := writeL_len (keyParts t s) 40 (keyParts_size t s 40 hS40)
          have e : (keyParts t s).length = 2 := rfl
          rw [e] at this
          omega
        rw [e1]
        have HSP := Aside0.mk hsp
        clear e1 ht hsp h40
        go_wp2_with fail
        (with_reducible refine (split_calls _ _ hks).mono ?_)
        rw [HSP.out]
        rintro e w3 ⟨rfl, hb3⟩
        have HB3 := Aside0.mk (below_step HB2.out hb3)
        clear hb3 HSP
        go_wp2_with fail
        (with_reducible refine (refkey_calls _ _ _ t0 t1 hS40).mono ?_)
        rintro e w4 ⟨rfl, hb4⟩
        have HB4 := Aside0.mk (below_step HB3.out hb4)
        clear hb4
        generalize keyStr t s = K at *
        go_wp2_with fail
        (with_reducible refine (lives_calls _).mono ?_)
        rintro e w5 ⟨rfl, hb5⟩
        have HB5 := Aside0.mk (below_step HB4.out hb5)
        clear hb5
        go_wp2_with fail
        go_ret
        exact ⟨rfl, HB5.out⟩

end Go.Proofs.Ytfabgmekkhlogaa.A
