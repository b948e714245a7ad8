/- A version's bytes: the program's. -/
import Derived.Test.YtmkabbfglijckaaBMay
import Derived.Test.YtmkabbfglijckaaVOne
namespace Go.Proofs.Ytmkabbfglijckaa.A
open Go.RowKit Go.Proofs.YtmkabbfglijckaaW.PrintWords Go.Proofs.YtmkabbfglijckaaW.PrintLast Go.Proofs.YtmkabbfglijckaaW.PrintMore
set_option linter.unusedVariables false
set_option linter.unusedSimpArgs false

theorem lit_CKn {k : IntKind} (W : World) (l : List Int) (e : Nat) (hl : l.length ≤ 9223372036854775807) (fr : Nat × Nat) (n : Nat) (hn : W.heap.size = n) : (Kd.int k).C (W.alloc (.cells (l.map (Value.int k)).toArray e fr)) (some ⟨n, 0, none⟩) l.length l := by
  subst hn
  exact lit_CK W l e hl fr
/-- A version's bytes. -/
def goneI (g : Bool) : Int := if g then 1 else 0
def bytesV (p : Vr) : List Int := [p.br, p.ep, p.sq, p.f, p.t - p.f, goneI p.g].flatMap V.vput ++ (V.vtext p.k ++ V.vtext p.v)
theorem stampV_iff (p : Vr) : stampV p = true ↔ ((0 ≤ p.br ∧ p.br ≤ 15) ∧ (1 ≤ p.ep ∧ p.ep ≤ 10000)) ∧ (1 ≤ p.sq ∧ p.sq ≤ 100000) := by simp [stampV, inB]
theorem mayV_iff (p : Vr) : mayV p = true ↔ (O.splitK p.k).2.2 = 0 ∧ (((0 ≤ p.br ∧ p.br ≤ 15) ∧ (1 ≤ p.ep ∧ p.ep ≤ 10000)) ∧ (1 ≤ p.sq ∧ p.sq ≤ 100000)) ∧ (0 ≤ p.f ∧ p.f < p.t ∧ p.t ≤ 1099511627776) ∧ p.v.size ≤ 200 ∧ (p.g = true → p.v.size = 0) := by
  unfold mayV
  rw [Bool.and_eq_true, Bool.and_eq_true, Bool.and_eq_true, Bool.and_eq_true, stampV_iff, S.may_iff, decide_eq_true_iff, decide_eq_true_iff]
  cases p.g <;> simp [and_assoc]
set_option maxRecDepth 100000 in
set_option maxHeartbeats 4000000 in
theorem put_calls (A : Option Addr) (n c : Nat) (b : List Int) (k : ByteArray) (br ep sq f t : Int) (v : ByteArray) (g : Bool) (w : World) (hr : U8.C w A n b) (hc : n ≤ c) (hn : n ≤ 50000) (hm : mayV ⟨k, br, ep, sq, f, t, v, g⟩ = true) (hk : k.size ≤ 100000) :
    Calls Try.prog 24 #[.slice A n c, .agg #[.string k, .int .i64 br, .int .i64 ep, .int .i64 sq, .int .i64 f, .int .i64 t, .string v, .bool g]] w fun e w' => ∃ u, e = .returned u ∧ OB w' w.heap.size u (b ++ bytesV ⟨k, br, ep, sq, f, t, v, g⟩) ∧ Below w.heap.size w w' := by
  unfold bytesV
  simp only
  obtain ⟨_, ⟨⟨⟨r1, r2⟩, ⟨r3, r4⟩⟩, ⟨r5, r6⟩⟩, ⟨r7, r8, r9⟩, r10, _⟩ := (mayV_iff _).1 hm
  simp only at r1 r2 r3 r4 r5 r6 r7 r8 r9 r10
  have HR := Aside0.mk hr
  have hbn : b.length ≤ 50000 := by rw [hr.1]; exact hn
  clear hm hr
  obtain ⟨gi, hgi⟩ : ∃ gi, goneI g = gi := ⟨_, rfl⟩
  have HGI := Aside0.mk hgi
  have hgr : 0 ≤ gi ∧ gi ≤ 1 := by rw [← hgi]; cases g <;> simp [goneI]
  rw [hgi]
  have hd1 : IntKind.i64.wrap (t - f) = t - f := IntWalk.i64_in _ (by omega)
  have hlen := V.flat_put_len [br, ep, sq, f, t - f, gi] (by intro y hy; simp only [List.mem_cons, List.not_mem_nil, or_false] at hy; rcases hy with rfl | rfl | rfl | rfl | rfl | rfl <;> omega)
  simp only [List.length_cons, List.length_nil] at hlen
  have HLEN := Aside0.mk hlen
  have HALL : Aside0 (∀ y ∈ [br, ep, sq, f, t - f, gi], y ≤ 9223372036854775807) := ⟨by intro y hy; simp only [List.mem_cons, List.not_mem_nil, or_false] at hy; rcases hy with rfl | rfl | rfl | rfl | rfl | rfl <;> omega⟩
  clear hlen hgi
  cases g with
  | false =>
    obtain rfl : gi = 0 := HGI.out.symm
    go_enter Try.func24, Try.ntmps24
    go_wp2_with fail
    (with_reducible refine (V.put_calls A n c b _ 6 6 [br, ep, sq, f, t - f, 0] _ (Kd.C_below HR.out (below_alloc (below_alloc (Below.refl _ _) _) _)) hc (lit_CKn _ [br, ep, sq, f, t - f, 0] _ (by simp) (0, 0) _ (by rw [World.size_alloc])) (Nat.le_refl _) ?_ ?_).mono ?_)
    · exact HALL.out
    · have := HLEN.out
      omega
    rintro e w2 ⟨v2, rfl, HO2, hb2⟩
    obtain ⟨n2, hn2⟩ : ∃ n2, (b ++ [br, ep, sq, f, t - f, 0].flatMap V.vput).length = n2 := ⟨_, rfl⟩
    obtain ⟨A2, c2, rfl, hc2, HC2⟩ := OB_readn HO2 n2 hn2
    have hn2l : n2 ≤ 60000 := by
      have := HLEN.out
      rw [← hn2, List.length_append]
      omega
    have HC := Aside0.mk HC2
    have HN2 := Aside0.mk hn2
    have hX := box_keep (box_keep (heap_alloc_new w (vrBox k br ep sq f t v false)) (below_alloc (Below.refl _ _) _)) hb2
    have HB2 := Aside0.mk (below_step (below_alloc (below_alloc (Below.refl w.heap.size w) _) _) hb2)
    obtain ⟨x0, x1, x2, x3, x4, x5, x6, x7⟩ := vr_cells hX
    clear HO2 HC2 hb2 hX hn2
    go_wp2_with fail
    (with_reducible refine (V.text2_calls A2 n2 c2 _ k v w2 _ HC.out hc2 hk (by omega) (by omega)).mono ?_)
    rintro e w3 ⟨v3, rfl, HO3, hb3⟩
    have HB3 := Aside0.mk (below_step HB2.out hb3)
    have HO := Aside0.mk (Kd.R_lower HO3 HB2.out.size)
    clear HO3 hb3
    go_wp2_with fail
    go_ret
    exact ⟨_, rfl, by have h := HO.out; rw [List.append_assoc] at h; exact h, HB3.out⟩
  | true =>
    obtain rfl : gi = 1 := HGI.out.symm
    go_enter Try.func24, Try.ntmps24
    go_wp2_with fail
    (with_reducible refine (V.put_calls A n c b _ 6 6 [br, ep, sq, f, t - f, 1] _ (Kd.C_below HR.out (below_alloc (below_alloc (Below.refl _ _) _) _)) hc (lit_CKn _ [br, ep, sq, f, t - f, 1] _ (by simp) (0, 0) _ (by rw [World.size_alloc])) (Nat.le_refl _) ?_ ?_).mono ?_)
    · exact HALL.out
    · have := HLEN.out
      omega
    rintro e w2 ⟨v2, rfl, HO2, hb2⟩
    obtain ⟨n2, hn2⟩ : ∃ n2, (b ++ [br, ep, sq, f, t - f, 1].flatMap V.vput).length = n2 := ⟨_, rfl⟩
    obtain ⟨A2, c2, rfl, hc2, HC2⟩ := OB_readn HO2 n2 hn2
    have hn2l : n2 ≤ 60000 := by
      have := HLEN.out
      rw [← hn2, List.length_append]
      omega
    have HC := Aside0.mk HC2
    have HN2 := Aside0.mk hn2
    have hX := box_keep (box_keep (heap_alloc_new w (vrBox k br ep sq f t v true)) (below_alloc (Below.refl _ _) _)) hb2
    have HB2 := Aside0.mk (below_step (below_alloc (below_alloc (Below.refl w.heap.size w) _) _) hb2)
    obtain ⟨x0, x1, x2, x3, x4, x5, x6, x7⟩ := vr_cells hX
    clear HO2 HC2 hb2 hX hn2
    go_wp2_with fail
    (with_reducible refine (V.text2_calls A2 n2 c2 _ k v w2 _ HC.out hc2 hk (by omega) (by omega)).mono ?_)
    rintro e w3 ⟨v3, rfl, HO3, hb3⟩
    have HB3 := Aside0.mk (below_step HB2.out hb3)
    have HO := Aside0.mk (Kd.R_lower HO3 HB2.out.size)
    clear HO3 hb3
    go_wp2_with fail
    go_ret
    exact ⟨_, rfl, by have h := HO.out; rw [List.append_assoc] at h; exact h, HB3.out⟩
end Go.Proofs.Ytmkabbfglijckaa.A
