/- CheckOne: what the program and the document tell of one frame alone is the same. -/
import Derived.Test.YtohgmpkehncopaaAOneBoth
namespace Go.Proofs.Ytohgmpkehncopaa.A
open Go.RowKit Go.Proofs.YtohgmpkehncopaaW.PrintWords Go.Proofs.YtohgmpkehncopaaW.PrintLast Go.Proofs.YtohgmpkehncopaaW.PrintMore
set_option linter.unusedVariables false
set_option linter.unusedSimpArgs false

set_option maxHeartbeats 1000000 in
theorem lawOne_calls (w : World) (A : Option Addr) (c : Nat) (l : List Int) (hr : U8.C w A l.length l) (hc : l.length ≤ c) (hb : ∀ x ∈ l, 0 ≤ x ∧ x ≤ 255) :
    Calls Try.prog 4 #[.slice A l.length c] w fun e w' => e = .returned (.bool true) ∧ Below w.heap.size w w' := by
  have HR := Aside0.mk hr
  have HBY := Aside0.mk hb
  clear hr hb
  go_enter Try.func4, Try.ntmps4
  go_wp2_with fail
  (with_reducible refine (few_calls _ _ _ _ _ HR.out hc (by omega) (by omega)).mono ?_)
  rintro e w1 ⟨rfl, rfl⟩
  obtain ⟨hx1, hx2⟩ := few_len l 300
  have HR1 := Aside0.mk (C_take_any HR.out (300 : Int).toNat)
  have HBY1 := Aside0.mk (fun x hx => HBY.out x (List.mem_of_mem_take hx) : ∀ x ∈ l.take (300 : Int).toNat, 0 ≤ x ∧ x ≤ 255)
  clear HR HBY
  generalize l.take (300 : Int).toNat = x at *
  have hcx : x.length ≤ c := by omega
  clear hx1 hx2
  go_wp2_with fail
  (with_reducible refine (One_calls _ _ x _ HR1.out hcx HBY1.out).mono ?_)
  rintro e w1 ⟨v1, rfl, ⟨A1, c1, rfl, hl1, HC1⟩, hb1⟩
  have HB := Aside0.mk hb1
  have HC := Aside0.mk HC1
  clear hb1 HC1
  go_wp2_with fail
  (with_reducible refine (refOne_calls _ _ x _ (Kd.C_below HR1.out HB.out) hcx HBY1.out).mono ?_)
  rintro e w2 ⟨v2, rfl, ⟨A2, c2, rfl, hl2, HC2⟩, hb2⟩
  have E1 := C_string' (c := c1) (Kd.C_below HC.out hb2)
  have E2 := C_string' (c := c2) HC2
  have HB2 := Aside0.mk (below_step HB.out hb2)
  clear HB HC HC2 hb2
  go_wp2_with ((go_at_call 15); (with_reducible refine (lives_calls _).mono ?_); rintro e w8 ⟨rfl, hb⟩)
  go_ret
  exact ⟨rfl, below_step HB2.out hb⟩

end Go.Proofs.Ytohgmpkehncopaa.A
