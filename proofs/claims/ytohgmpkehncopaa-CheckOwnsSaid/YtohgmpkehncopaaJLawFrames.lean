/- CheckFrames: the frames at the beginning of bytes, and how long they are, are the document's. -/
import Derived.Test.YtohgmpkehncopaaJFrames
import Derived.Test.YtohgmpkehncopaaJRef
import Derived.Test.YtohgmpkehncopaaALaw3
namespace Go.Proofs.Ytohgmpkehncopaa.A
open Go.RowKit Go.Proofs.YtohgmpkehncopaaW.PrintWords Go.Proofs.YtohgmpkehncopaaW.PrintLast Go.Proofs.YtohgmpkehncopaaW.PrintMore
set_option linter.unusedVariables false
set_option linter.unusedSimpArgs false

/-- A row of slices of one's own reads as a row of lists. -/
theorem own_lists {w : World} {B : Nat} {v : Value} {hs : List (Option Addr × Nat × Nat)} {ll : List (List Int)} (h : OR Hd 22 w B v hs) (hh : Heads w hs ll) (n : Nat) (hn : ll.length = n) : ∃ A c, v = .slice A n c ∧ n ≤ c ∧ Kd.C (Kd.slice 5 U8) w A n ll := by
  obtain ⟨A, c, rfl, hc, hC⟩ := OR_readn h n (hh.1.trans hn)
  exact ⟨A, c, rfl, hc, Heads_C hC hh⟩
set_option maxHeartbeats 1000000 in
theorem lawFrames_calls (w : World) (A : Option Addr) (c : Nat) (l : List Int) (hr : U8.C w A l.length l) (hc : l.length ≤ c) (hb : ∀ x ∈ l, 0 ≤ x ∧ x ≤ 255) :
    Calls Try.prog 5 #[.slice A l.length c] w fun e w' => e = .returned (.bool true) ∧ Below w.heap.size w w' := by
  have HR := Aside0.mk hr
  have HBY := Aside0.mk hb
  clear hr hb
  go_enter Try.func5, Try.ntmps5
  go_wp2_with fail
  (with_reducible refine (few_calls _ _ _ _ _ HR.out hc (by omega) (by omega)).mono ?_)
  rintro e w1 ⟨rfl, rfl⟩
  obtain ⟨hx1, hx2⟩ := few_len l 300
  have HR1 := Aside0.mk (C_take_any HR.out (300 : Int).toNat)
  have HBY1 := Aside0.mk (fun x hx => HBY.out x (List.mem_of_mem_take hx) : ∀ x ∈ l.take (300 : Int).toNat, 0 ≤ x ∧ x ≤ 255)
  clear HR HBY
  generalize l.take (300 : Int).toNat = x at *
  obtain ⟨n, hn⟩ : ∃ n, x.length = n := ⟨_, rfl⟩
  rw [hn] at HR1 hx1 hx2 ⊢
  have hcx : n ≤ c := by omega
  have hn3 : n ≤ 300 := by simpa using hx2
  obtain ⟨k, hk⟩ : ∃ k, (frs (n + 1) x).length = k := ⟨_, rfl⟩
  have HK := Aside0.mk hk
  clear hx1 hx2 hn hk
  go_wp2_with fail
  (with_reducible refine (frames_calls A n c x _ HR1.out hcx HBY1.out (by omega)).mono ?_)
  rintro e w2 ⟨v1, hs1, rfl, hO1, hH1, hb1⟩
  obtain ⟨A1, c1, rfl, hc1, hC1⟩ := own_lists hO1 (HeadsO_heads hH1) k HK.out
  have HC1 := Aside0.mk hC1
  have HB1 := Aside0.mk hb1
  have HR2 := Aside0.mk (Kd.C_below HR1.out hb1)
  clear hO1 hH1 hC1 hb1
  go_wp2_with fail
  (with_reducible refine (refframes_calls A n c x _ HR2.out hcx HBY1.out (by omega)).mono ?_)
  rintro e w3 ⟨v2, hs2, rfl, hO2, hH2, hb2⟩
  obtain ⟨A2, c2, rfl, hc2, hC2⟩ := own_lists hO2 (Heads_below hH2 hb2) k HK.out
  have HC2 := Aside0.mk hC2
  have HC3 := Aside0.mk (Kd.C_below HC1.out hb2)
  have HB2 := Aside0.mk (below_step HB1.out hb2)
  clear hO2 hH2 hC2 hb2 HC1 HB1
  obtain ⟨q, hq⟩ : ∃ q, frn (frs (n + 1) x) = q := ⟨_, rfl⟩
  rw [hq]
  clear hq
  go_wp2_with fail
  (with_reducible refine (same3_calls A1 A2 k c1 c2 (frs (n + 1) x) _ HC3.out HC2.out hc1 hc2).mono ?_)
  rintro e w4 ⟨rfl, hb4⟩
  have HB4 := Aside0.mk (below_step HB2.out hb4)
  clear hb4 HC2 HC3
  go_wp2_with fail
  (with_reducible refine (lives_calls _).mono ?_)
  rintro e w8 ⟨rfl, hb⟩
  have HB8 := Aside0.mk (below_step HB4.out hb)
  clear hb
  go_wp2_with fail
  go_ret
  exact ⟨rfl, HB8.out⟩

end Go.Proofs.Ytohgmpkehncopaa.A
