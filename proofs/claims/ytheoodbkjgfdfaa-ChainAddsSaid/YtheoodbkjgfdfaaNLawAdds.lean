/- ChainAdds: what an index has, of keys, ranges and all, is what the document says. -/
import Derived.Test.YtheoodbkjgfdfaaNLives
namespace Go.Proofs.Ytheoodbkjgfdfaa.A
open R
open Go.RowKit Go.Proofs.YtheoodbkjgfdfaaW.PrintWords Go.Proofs.YtheoodbkjgfdfaaW.PrintLast Go.Proofs.YtheoodbkjgfdfaaW.PrintMore
set_option linter.unusedVariables false
set_option linter.unusedSimpArgs false

set_option maxRecDepth 100000 in
set_option maxHeartbeats 4000000 in
theorem adds_calls (w : World) (A : Option Addr) (c : Nat) (pl : List Pu) (hr : KPu.C w A pl.length pl) (hc : pl.length ≤ c) (hg : ∀ d ∈ pl, d.fits) (key : ByteArray) (hkey : key.size ≤ maxLen) (til : ByteArray) (htil : til.size ≤ maxLen) :
    Calls Try.prog 6 #[.slice A pl.length c, .string key, .string til] w fun e w' => e = .returned (.bool true) ∧ Below w.heap.size w w' := by
  clear hkey htil
  have HFL := Aside0.mk (filled_calls w A pl.length c pl hr hc hg)
  clear hr hc hg
  go_enter Try.func6, Try.ntmps6
  go_wp2_with fail
  (with_reducible refine HFL.out.mono ?_)
  rintro e w1 ⟨X, v, l, rfl, hF, hl40⟩
  obtain ⟨n, hn⟩ : ∃ n, l.length = n := ⟨_, rfl⟩
  obtain ⟨A1, c1, rfl, hc1, hC1⟩ := OVr_readn hF.2.1 n hn
  obtain ⟨its, hI⟩ := hF.1
  have HI := Aside0.mk hI
  have HF := Aside0.mk hF
  have HN := Aside0.mk hn
  have HL := Aside0.mk (show l.length ≤ 4000 by omega)
  have HC := Aside0.mk hC1
  have HB1 := Aside0.mk hF.2.2.1
  have hn40 : n ≤ 40 := by omega
  clear hF hI hC1 hn hl40 HFL
  go_wp2_with fail
  (with_reducible refine (like_calls w1 w.heap.size X its l A1 n c1 HI.out HC.out hc1 HL.out).mono ?_)
  rintro e w2 ⟨rfl, hb2⟩
  have HK2 := Aside0.mk hb2
  have HO := Aside0.mk (xof_calls (IXi_below HI.out hb2) HL.out key)
  clear hb2
  go_wp2_with fail
  (with_reducible refine HO.out.mono ?_)
  rintro e w3 ⟨v3, rfl, hO3, hb3⟩
  obtain ⟨n3, hn3⟩ : ∃ n3, (ofV l key).length = n3 := ⟨_, rfl⟩
  obtain ⟨A3, c3, rfl, hc3, hC3⟩ := OVr_readn hO3 n3 hn3
  have HC3 := Aside0.mk hC3
  have HN3 := Aside0.mk hn3
  have HK3 := Aside0.mk (below_step HK2.out hb3)
  clear hO3 hC3 hn3 hb3
  go_wp2_with fail
  (with_reducible refine (of9_calls A1 n c1 l key w3 (Kd.C_below HC.out HK3.out) hc1 (by omega)).mono ?_)
  rintro e w4 ⟨v4, rfl, hO4, hb4⟩
  obtain ⟨A4, c4, rfl, hc4, hC4⟩ := OVr_readn hO4 n3 HN3.out
  have HK4 := Aside0.mk (below_step HK3.out hb4)
  have HS4 := Aside0.mk (same_calls A3 A4 n3 c3 c4 (ofV l key) w4 (Kd.C_below HC3.out hb4) hC4 hc3 hc4)
  clear hO4 hC4 hb4
  go_wp2_with fail
  (with_reducible refine HS4.out.mono ?_)
  rintro e w5 ⟨rfl, hb5⟩
  have HK5 := Aside0.mk (below_step HK4.out hb5)
  clear hb5
  go_wp2_with fail
  (with_reducible refine (xrange_calls w5 w.heap.size X l.length its l (IXi_below HI.out HK5.out) HL.out key til).mono ?_)
  rintro e w6 ⟨v6, rfl, hO6, hb6⟩
  obtain ⟨n6, hn6⟩ : ∃ n6, (rangeV l key til).length = n6 := ⟨_, rfl⟩
  obtain ⟨A6, c6, rfl, hc6, hC6⟩ := OVr_readn hO6 n6 hn6
  have HC6 := Aside0.mk hC6
  have HN6 := Aside0.mk hn6
  have HK6 := Aside0.mk (below_step HK5.out hb6)
  clear hO6 hC6 hn6 hb6
  go_wp2_with fail
  (with_reducible refine (range9_calls A1 n c1 l key til w6 (Kd.C_below HC.out HK6.out) hc1 (by omega)).mono ?_)
  rintro e w7 ⟨v7, rfl, hO7, hb7⟩
  obtain ⟨A7, c7, rfl, hc7, hC7⟩ := OVr_readn hO7 n6 HN6.out
  have HK7 := Aside0.mk (below_step HK6.out hb7)
  have HS7 := Aside0.mk (same_calls A6 A7 n6 c6 c7 (rangeV l key til) w7 (Kd.C_below HC6.out hb7) hC7 hc6 hc7)
  clear hO7 hC7 hb7
  go_wp2_with fail
  (with_reducible refine HS7.out.mono ?_)
  rintro e w8 ⟨rfl, hb8⟩
  have HK8 := Aside0.mk (below_step HK7.out hb8)
  clear hb8
  go_wp2_with fail
  (with_reducible refine (lives_calls w8).mono ?_)
  rintro e w9 ⟨rfl, hb9⟩
  have HB9 := Aside0.mk (below_step (below_step HB1.out HK8.out) hb9)
  clear hb9
  go_wp2_with fail
  go_ret
  exact ⟨rfl, HB9.out⟩
end Go.Proofs.Ytheoodbkjgfdfaa.A
