/- Versions in order: only what stands in them is told here. -/
import Derived.Test.YtopoepifbjbmoaaCGood
namespace Go.Proofs.Ytopoepifbjbmoaa.A
open Go.RowKit Go.Proofs.YtopoepifbjbmoaaW.PrintWords Go.Proofs.YtopoepifbjbmoaaW.PrintLast Go.Proofs.YtopoepifbjbmoaaW.PrintMore
open R
set_option linter.unusedVariables false
set_option linter.unusedSimpArgs false

section
variable {ops : Array Oper} {rest : List Oper} {o : Oper} {a : Act} {Q : Exit → Act → World → Prop} {W : World} {B : Nat}
/-- append(v, ys...), versions behind a row of one's own. -/
theorem app_vrs {s x : Operand} (hgd : o.guard = none) (ho : o.op = .call { callee := .builtin .append, args := #[s, x], argTypes := #[22, 22] }) {v : Value} {xs ys : List Vr} {A : Option Addr} {m c : Nat}
    (hs : a.eval s = v) (hx : a.eval x = .slice A m c) (HO : OVr W B v xs) (HR : KVr.C W A m ys) (hB : B ≤ W.heap.size) (hl : xs.length + m ≤ 1000000)
    (h : ∀ v1 w1, OVr w1 B v1 (xs ++ ys) → Below B W w1 → W.grownBy w1 v.ownBlock → wpList Try.prog ops Q rest (a.put o.dst v1) w1) : wpList Try.prog ops Q (o :: rest) a W := by
  refine Kd.R_append_rows KVr (Rr := KVr.K W) (w0 := W) B hgd s x 22 39 (.agg #[.string ByteArray.empty, .int .i64 0, .int .i64 0, .int .i64 0, .int .i64 0, .int .i64 0, .string ByteArray.empty, .bool false]) 80 ho Try.underlying22 infoVr rfl (by decide) (by decide) v xs ys A m c (fun _ => True) (fun _ => False) hs hx HO HR ?_ (fun _ h => h.elim) (fun _ _ => trivial) (Below.refl B W) hB (by omega) (fun v1 w1 h1 h2 h3 _ => h v1 w1 h1 h2 h3)
  intro p cs hK
  have e := KVr_of hK
  subst e
  exact KVr_M _ _ _ p
end
theorem cuttV (A : Option Addr) (n c j : Nat) (hj : j ≤ n) (hc : n ≤ c) (W : World) :
    (Instr.slice 22 (.slice A n c) none (some (.int .i64 (j : Int))) none).run Try.prog W = .ok (.slice A j c) W := by
  obtain ⟨i0, hi, _, hsz, _⟩ := info_parts infoVr
  rw [cut_to 22 39 .i64 Try.underlying22 hi A n c (j : Int) (by omega) (by omega) hc W]
  rfl
theorem cutfV (A : Option Addr) (n c : Nat) (l : List Vr) (j : Nat) (hn : l.length = n) (hj : j ≤ n) (hc : n ≤ c) :
    ∃ (A' : Option Addr) (c' : Nat), (∀ W : World, (Instr.slice 22 (.slice A n c) (some (.int .i64 (j : Int))) none none).run Try.prog W = .ok (.slice A' (n - j) c') W) ∧
      (∀ w : World, KVr.C w A n l → KVr.C w A' (n - j) (l.drop j)) ∧ n - j ≤ c' := by
  subst hn
  obtain ⟨i0, hi, _, hsz, _⟩ := info_parts infoVr
  refine ⟨_, c - j, fun W => ?_, fun w h => by rw [← List.length_drop]; exact Kd.C_drop h (by omega) hc, by omega⟩
  rw [cut_from 22 39 .i64 Try.underlying22 hi 8 hsz A l.length c (j : Int) (by omega) (by omega) W]
  rfl
theorem C_takeV {w : World} {A : Option Addr} {n j : Nat} {l : List Vr} (h : KVr.C w A n l) (hn : l.length = n) (hj : j ≤ n) : KVr.C w A j (l.take j) := by
  subst hn
  have h7 := Kd.C_take h hj
  rw [show (l.take j).length = j by rw [List.length_take]; omega] at h7
  exact h7
/-- A row of one's own beside a row. -/
def SB (w : World) (A3 : Option Addr) (k c3 : Nat) (Y : List Vr) (A : Option Addr) (n : Nat) (X : List Vr) (W : World) : Prop := OVr W w.heap.size (.slice A3 k c3) Y ∧ KVr.C W A n X ∧ Below w.heap.size w W
theorem SB_step {w : World} {A3 : Option Addr} {k c3 : Nat} {Y : List Vr} {A : Option Addr} {n : Nat} {X : List Vr} {W W1 : World} (h : SB w A3 k c3 Y A n X W) (hb : Below W.heap.size W W1) : SB w A3 k c3 Y A n X W1 := ⟨Kd.R_below h.1 hb, Kd.C_below h.2.1 hb, below_step h.2.2 hb⟩
theorem SB_y {w : World} {A3 : Option Addr} {k c3 : Nat} {Y : List Vr} {A : Option Addr} {n : Nat} {X : List Vr} {W : World} (h : SB w A3 k c3 Y A n X W) : KVr.C W A3 k Y := by
  obtain ⟨A', c', e, hc, hC⟩ := OVr_readn h.1 _ rfl
  injection e with e1 e2 e3
  subst e1
  rw [e2]
  exact hC
theorem SB_S2 {w : World} {ad3 : Addr} {k c3 : Nat} {Y : List Vr} {ad : Addr} {n : Nat} {X : List Vr} {W : World} (h : SB w (some ad3) k c3 Y (some ad) n X W) (i j : Nat) (hi : i < k) (hj : j < n) (p q : Vr) (hp : Y.getD i default = p) (hq : X.getD j default = q) :
    W.cell? (ad3.add (i * 8)) = some (.string p.k) ∧ W.cell? ⟨(ad3.add (i * 8)).block, (ad3.add (i * 8)).off + 1, none⟩ = some (.int .i64 p.br) ∧ W.cell? ⟨(ad3.add (i * 8)).block, (ad3.add (i * 8)).off + 2, none⟩ = some (.int .i64 p.ep) ∧ W.cell? ⟨(ad3.add (i * 8)).block, (ad3.add (i * 8)).off + 3, none⟩ = some (.int .i64 p.sq) ∧ W.cell? ⟨(ad3.add (i * 8)).block, (ad3.add (i * 8)).off + 4, none⟩ = some (.int .i64 p.f) ∧ W.cell? ⟨(ad3.add (i * 8)).block, (ad3.add (i * 8)).off + 5, none⟩ = some (.int .i64 p.t) ∧ W.cell? ⟨(ad3.add (i * 8)).block, (ad3.add (i * 8)).off + 6, none⟩ = some (.string p.v) ∧ W.cell? ⟨(ad3.add (i * 8)).block, (ad3.add (i * 8)).off + 7, none⟩ = some (.bool p.g) ∧ W.cell? (ad.add (j * 8)) = some (.string q.k) ∧ W.cell? ⟨(ad.add (j * 8)).block, (ad.add (j * 8)).off + 1, none⟩ = some (.int .i64 q.br) ∧ W.cell? ⟨(ad.add (j * 8)).block, (ad.add (j * 8)).off + 2, none⟩ = some (.int .i64 q.ep) ∧ W.cell? ⟨(ad.add (j * 8)).block, (ad.add (j * 8)).off + 3, none⟩ = some (.int .i64 q.sq) ∧ W.cell? ⟨(ad.add (j * 8)).block, (ad.add (j * 8)).off + 4, none⟩ = some (.int .i64 q.f) ∧ W.cell? ⟨(ad.add (j * 8)).block, (ad.add (j * 8)).off + 5, none⟩ = some (.int .i64 q.t) ∧ W.cell? ⟨(ad.add (j * 8)).block, (ad.add (j * 8)).off + 6, none⟩ = some (.string q.v) ∧ W.cell? ⟨(ad.add (j * 8)).block, (ad.add (j * 8)).off + 7, none⟩ = some (.bool q.g) ∧ Aside0 (SB w (some ad3) k c3 Y (some ad) n X W) := by
  obtain ⟨a0, a1, a2, a3, a4, a5, a6, a7⟩ := C_atVr' (SB_y h) i hi p hp
  obtain ⟨b0, b1, b2, b3, b4, b5, b6, b7⟩ := C_atVr' h.2.1 j hj q hq
  exact ⟨a0, a1, a2, a3, a4, a5, a6, a7, b0, b1, b2, b3, b4, b5, b6, b7, ⟨h⟩⟩
set_option maxRecDepth 100000 in
set_option maxHeartbeats 8000000 in
theorem sorted_calls (A : Option Addr) (n c : Nat) (X : List Vr) (w : World) (hr : KVr.C w A n X) (hc : n ≤ c) (hn : n ≤ 1000) :
    Calls Try.prog 19 #[.slice A n c] w fun e w' => ∃ u Y, e = .returned u ∧ OVr w' w.heap.size u Y ∧ Y.length = n ∧ (∀ p ∈ Y, p ∈ X) ∧ Below w.heap.size w w' := by
  have HR := Aside0.mk hr
  have HN := Aside0.mk hr.1
  clear hr
  go_enter Try.func19, Try.ntmps19
  go_wp2_with fail
  go_loopw [3, 4] (fun v3 v4 w' => ∃ (k : Nat) (A3 : Option Addr) (c3 : Nat) (Y : List Vr), k ≤ n ∧ v4 = .int .i64 k ∧ v3 = .slice A3 k c3 ∧ k ≤ c3 ∧ Aside0 (Y.length = k ∧ ∀ p ∈ Y, p ∈ X) ∧ Aside0 (SB w A3 k c3 Y A n X w')) (fun _ v4 _ => n - (intOf v4).toNat)
  case atStart => exact ⟨0, none, 0, [], Nat.zero_le _, rfl, rfl, Nat.le_refl _, ⟨rfl, fun _ h => by cases h⟩, ⟨OVr_nil _ _, HR.out, Below.refl _ _⟩⟩
  case round =>
    obtain ⟨k, A3, c3, Y, hk, rfl, rfl, hc3, HY, HS0⟩ := hrel
    by_cases hlt : k < n
    · obtain ⟨ad, rfl, -⟩ := C_atVr HS0.out.2.1 k hlt
      obtain ⟨q, hq⟩ : ∃ q, X.getD k default = q := ⟨_, rfl⟩
      obtain ⟨qk, qbr, qep, qsq, qf, qt, qv, qg⟩ := q
      have HQ := Aside0.mk hq
      have i1 : (k : Int) < (n : Int) := by omega
      have i2 : (0 : Int) ≤ (k : Int) := by omega
      clear hq
      go_wp2_with fail
      go_loopw [5] (fun v5 w' => ∃ j : Nat, j ≤ k ∧ v5 = .int .i64 j ∧ Aside0 (SB w A3 k c3 Y (some ad) n X w')) (fun v5 _ => (intOf v5).toNat)
      case atStart => exact ⟨k, Nat.le_refl _, rfl, HS0⟩
      case round =>
        clear HS0
        obtain ⟨j, hj, rfl, HS⟩ := hrel
        have HSd := Aside0.mk (SB_step HS.out (below_drew1 (Below.refl _ _)))
        have hj0 : (0 : Int) ≤ (j : Int) := by omega
        have hjk : (j : Int) ≤ (k : Int) := by omega
        clear HS
        by_cases hjz : 0 < j
        · obtain ⟨i, hi⟩ : ∃ i, j = i + 1 := ⟨j - 1, by omega⟩
          have hik : i < k := by omega
          have k1 : (0 : Int) < (j : Int) := by omega
          have k2 : IntKind.i64.wrap ((j : Int) - 1) = (i : Int) := by rw [IntWalk.i64_in _ (by omega)]; omega
          have k3 : (0 : Int) ≤ (i : Int) := by omega
          have k5 : IntKind.i64.wrap (i : Int) = (i : Int) := IntWalk.i64_in _ (by omega)
          have k4 : (i : Int) < (k : Int) := by omega
          have HII := Aside0.mk hi
          clear hi
          obtain ⟨ad3, rfl, -⟩ := C_atVr (SB_y HSd.out) i hik
          obtain ⟨p, hp⟩ : ∃ p, Y.getD i default = p := ⟨_, rfl⟩
          obtain ⟨pk, pbr, pep, psq, pf, pt, pv, pg⟩ := p
          have HP := Aside0.mk hp
          obtain ⟨lv, hlv⟩ : ∃ lv, lessV ⟨qk, qbr, qep, qsq, qf, qt, qv, qg⟩ ⟨pk, pbr, pep, psq, pf, pt, pv, pg⟩ = lv := ⟨_, rfl⟩
          have hcc := fun W => less_calls qk qbr qep qsq qf qt qv qg pk pbr pep psq pf pt pv pg W
          rw [hlv] at hcc
          have HCC := Aside0.mk hcc
          clear hp hlv hcc
          go_wp2_with fail
          refine wp_region_held_drew (S := (fun w' => w'.cell? (ad3.add (i * 8)) = some (.string pk) ∧ w'.cell? ⟨(ad3.add (i * 8)).block, (ad3.add (i * 8)).off + 1, none⟩ = some (.int .i64 pbr) ∧ w'.cell? ⟨(ad3.add (i * 8)).block, (ad3.add (i * 8)).off + 2, none⟩ = some (.int .i64 pep) ∧ w'.cell? ⟨(ad3.add (i * 8)).block, (ad3.add (i * 8)).off + 3, none⟩ = some (.int .i64 psq) ∧ w'.cell? ⟨(ad3.add (i * 8)).block, (ad3.add (i * 8)).off + 4, none⟩ = some (.int .i64 pf) ∧ w'.cell? ⟨(ad3.add (i * 8)).block, (ad3.add (i * 8)).off + 5, none⟩ = some (.int .i64 pt) ∧ w'.cell? ⟨(ad3.add (i * 8)).block, (ad3.add (i * 8)).off + 6, none⟩ = some (.string pv) ∧ w'.cell? ⟨(ad3.add (i * 8)).block, (ad3.add (i * 8)).off + 7, none⟩ = some (.bool pg) ∧ w'.cell? (ad.add (k * 8)) = some (.string qk) ∧ w'.cell? ⟨(ad.add (k * 8)).block, (ad.add (k * 8)).off + 1, none⟩ = some (.int .i64 qbr) ∧ w'.cell? ⟨(ad.add (k * 8)).block, (ad.add (k * 8)).off + 2, none⟩ = some (.int .i64 qep) ∧ w'.cell? ⟨(ad.add (k * 8)).block, (ad.add (k * 8)).off + 3, none⟩ = some (.int .i64 qsq) ∧ w'.cell? ⟨(ad.add (k * 8)).block, (ad.add (k * 8)).off + 4, none⟩ = some (.int .i64 qf) ∧ w'.cell? ⟨(ad.add (k * 8)).block, (ad.add (k * 8)).off + 5, none⟩ = some (.int .i64 qt) ∧ w'.cell? ⟨(ad.add (k * 8)).block, (ad.add (k * 8)).off + 6, none⟩ = some (.string qv) ∧ w'.cell? ⟨(ad.add (k * 8)).block, (ad.add (k * 8)).off + 7, none⟩ = some (.bool qg) ∧ Aside0 (SB w (some ad3) k c3 Y (some ad) n X w'))) (by kernel_rfl) (SB_S2 HSd.out i k hik hlt _ _ HP.out HQ.out) (fun hHeld => ?_)
          (refine hd_take 0 (v := ?_) rfl (by kernel_rfl) (by kernel_rfl) (fun _ _ _ h => h) (by assumption) ?_ ?_; rotate_left; (intro w hSw; (try dsimp only at hSw); go_simp; first | done | with_reducible rfl); simp only [Act.put, List.setIfInBounds_toArray, List.set_cons_zero, List.set_cons_succ])
          (refine hd_take 1 (v := ?_) rfl (by kernel_rfl) (by kernel_rfl) (fun _ _ _ h => h) (by assumption) ?_ ?_; rotate_left; (intro w hSw; (try dsimp only at hSw); go_simp; first | done | with_reducible rfl); simp only [Act.put, List.setIfInBounds_toArray, List.set_cons_zero, List.set_cons_succ])
          (refine hd_take 2 (v := ?_) rfl (by kernel_rfl) (by kernel_rfl) (fun _ _ _ h => h) (by assumption) ?_ ?_; rotate_left; (intro w hSw; (try dsimp only at hSw); go_simp; first | done | with_reducible rfl); simp only [Act.put, List.setIfInBounds_toArray, List.set_cons_zero, List.set_cons_succ])
          (refine hd_take 3 (v := ?_) rfl (by kernel_rfl) (by kernel_rfl) (fun _ _ _ h => h) (by assumption) ?_ ?_; rotate_left; (intro w hSw; (try dsimp only at hSw); go_simp; first | done | with_reducible rfl); simp only [Act.put, List.setIfInBounds_toArray, List.set_cons_zero, List.set_cons_succ])
          (refine hd_take 4 (v := ?_) rfl (by kernel_rfl) (by kernel_rfl) (fun _ _ _ h => h) (by assumption) ?_ ?_; rotate_left; (intro w hSw; (try dsimp only at hSw); go_simp; first | done | with_reducible rfl); simp only [Act.put, List.setIfInBounds_toArray, List.set_cons_zero, List.set_cons_succ])
          (refine hd_take 5 (v := ?_) rfl (by kernel_rfl) (by kernel_rfl) (fun _ _ _ h => h) (by assumption) ?_ ?_; rotate_left; (intro w hSw; (try dsimp only at hSw); go_simp; first | done | with_reducible rfl); simp only [Act.put, List.setIfInBounds_toArray, List.set_cons_zero, List.set_cons_succ])
          (refine hd_take 6 (v := ?_) rfl (by kernel_rfl) (by kernel_rfl) (fun _ _ _ h => h) (by assumption) ?_ ?_; rotate_left; (intro w hSw; (try dsimp only at hSw); go_simp; first | done | with_reducible rfl); simp only [Act.put, List.setIfInBounds_toArray, List.set_cons_zero, List.set_cons_succ])
          (refine hd_take 7 (v := ?_) rfl (by kernel_rfl) (by kernel_rfl) (fun _ _ _ h => h) (by assumption) ?_ ?_; rotate_left; (intro w hSw; (try dsimp only at hSw); go_simp; first | done | with_reducible rfl); simp only [Act.put, List.setIfInBounds_toArray, List.set_cons_zero, List.set_cons_succ])
          (refine hd_take 8 (v := ?_) rfl (by kernel_rfl) (by kernel_rfl) (fun _ _ _ h => h) (by assumption) ?_ ?_; rotate_left; (intro w hSw; (try dsimp only at hSw); go_simp; first | done | with_reducible rfl); simp only [Act.put, List.setIfInBounds_toArray, List.set_cons_zero, List.set_cons_succ])
          (refine hd_take 9 (v := ?_) rfl (by kernel_rfl) (by kernel_rfl) (fun _ _ _ h => h) (by assumption) ?_ ?_; rotate_left; (intro w hSw; (try dsimp only at hSw); go_simp; first | done | with_reducible rfl); simp only [Act.put, List.setIfInBounds_toArray, List.set_cons_zero, List.set_cons_succ])
          (refine hd_take 10 (v := ?_) rfl (by kernel_rfl) (by kernel_rfl) (fun _ _ _ h => h) (by assumption) ?_ ?_; rotate_left; (intro w hSw; (try dsimp only at hSw); go_simp; first | done | with_reducible rfl); simp only [Act.put, List.setIfInBounds_toArray, List.set_cons_zero, List.set_cons_succ])
          (refine hd_take 11 (v := ?_) rfl (by kernel_rfl) (by kernel_rfl) (fun _ _ _ h => h) (by assumption) ?_ ?_; rotate_left; (intro w hSw; (try dsimp only at hSw); go_simp; first | done | with_reducible rfl); simp only [Act.put, List.setIfInBounds_toArray, List.set_cons_zero, List.set_cons_succ])
          refine hd_one 12 rfl (by kernel_rfl) (fun K hK => ?_)
          go_simp
          go_wp2_with ((go_at_call 21); (with_reducible refine (HCC.out _).mono ?_); rintro e w3 ⟨rfl, hb3⟩; have HL3 := Aside0.mk (SB_step HSd.out hb3); clear hb3)
          refine hK.out _ _ (SB_S2 HL3.out i k hik hlt _ _ HP.out HQ.out) (fun hHeld => ?_)
          clear hK K
          (refine hd_take 13 (v := ?_) rfl (by kernel_rfl) (by kernel_rfl) (fun _ _ _ h => h) (by assumption) ?_ ?_; rotate_left; (intro w hSw; (try dsimp only at hSw); go_simp; first | done | with_reducible rfl); simp only [Act.put, List.setIfInBounds_toArray, List.set_cons_zero, List.set_cons_succ])
          refine wpAnyH_done (by kernel_rfl) ?_ _
          cases lv with
          | false =>
            have HC4 := Aside0.mk (SB_y HL3.out)
            have HX4 := Aside0.mk HL3.out.2.1
            have HB4 := Aside0.mk HL3.out.2.2
            have hct := cuttV (some ad3) k c3 j hj hc3
            obtain ⟨A6, c6, hcf, hC6, -⟩ := cutfV (some ad3) k c3 Y j HY.out.1 hj hc3
            have HC6 := Aside0.mk hC6
            clear hC6
            go_wp2_with first
              | ((with_reducible refine gate_dst (N := 35) rfl ?_); refine app_vrs (xs := []) rfl rfl rfl rfl (OVr_nil _ _) (C_takeV HC4.out HY.out.1 hj) (Nat.le_refl _) (by show 0 + j ≤ 1000000; omega) ?_; intro v6 w6 hO6 hb6 _; obtain ⟨A7, c7, rfl, -, -⟩ := OVr_readn hO6 j (by rw [List.nil_append, List.length_take, HY.out.1]; omega); rw [List.nil_append] at hO6; have HO6 := Aside0.mk hO6; have HB6 := Aside0.mk hb6; obtain ⟨p0, p1, p2, p3, p4, p5, p6, p7⟩ := C_atVr' (Kd.C_below HX4.out hb6) k hlt _ HQ.out; clear hO6 hb6)
              | ((with_reducible refine gate_dst (N := 42) rfl ?_); refine app_vr rfl rfl rfl rfl HO6.out HB6.out.size (by rw [List.length_take, HY.out.1]; omega) ?_; intro v7 w7 hO7 hb7 _; obtain ⟨A8, c8, rfl, -, -⟩ := OVr_readn hO7 (j + 1) (by rw [List.length_append, List.length_take, HY.out.1]; show min j k + 1 = _; omega); have HO7 := Aside0.mk hO7; have HB7 := Aside0.mk (HB6.out.trans hb7); clear hO7 hb7)
              | ((with_reducible refine gate_dst (N := 47) rfl ?_); refine app_vrs rfl rfl rfl rfl HO7.out (HC6.out _ (Kd.C_below HC4.out HB7.out)) HB7.out.size (by rw [List.length_append, List.length_take, HY.out.1]; show min j k + 1 + (k - j) ≤ _; omega) ?_; intro v8 w8 hO8 hb8 _; obtain ⟨A9, c9, rfl, hc9, -⟩ := OVr_readn hO8 (k + 1) (by simp only [List.length_append, List.length_take, List.length_drop, HY.out.1, List.length_cons, List.length_nil]; omega); have HO8 := Aside0.mk hO8; have HB8 := Aside0.mk (HB7.out.trans hb8); clear hO8 hb8)
            go_roundw
            case rel =>
              refine ⟨k + 1, A9, c9, _, hlt, rfl, rfl, hc9, ⟨?_, ?_⟩, ⟨Kd.R_lower HO8.out HB4.out.size, Kd.C_below HX4.out HB8.out, below_step HB4.out HB8.out⟩⟩
              · simp only [List.length_append, List.length_take, List.length_drop, HY.out.1, List.length_cons, List.length_nil]; omega
              · intro p hp
                simp only [List.mem_append, List.mem_singleton] at hp
                rcases hp with (h | rfl) | h
                · exact HY.out.2 p (List.mem_of_mem_take h)
                · rw [← HQ.out]; exact getD_mem X k (by rw [HN.out]; exact hlt)
                · exact HY.out.2 p (List.mem_of_mem_drop h)
            case measure => simp [intOf]; omega
          | true =>
            go_wp2
            go_roundw
            case rel => exact ⟨i, by omega, rfl, HL3⟩
            case measure => have := HII.out; simp [intOf]; omega
        · have k1 : ¬ (0 : Int) < (j : Int) := by omega
          go_wp2_with fail
          refine wp_region_held_drew (S := fun w' => Aside0 (SB w A3 k c3 Y (some ad) n X w')) (by kernel_rfl) HSd (fun hHeld => ?_)
          (refine hd_take 0 (v := ?_) rfl (by kernel_rfl) (by kernel_rfl) (fun _ _ _ h => h) (by assumption) ?_ ?_; rotate_left; (intro w hSw; (try dsimp only at hSw); go_simp; first | done | with_reducible rfl); simp only [Act.put, List.setIfInBounds_toArray, List.set_cons_zero, List.set_cons_succ])
          (refine hd_take 1 (v := ?_) rfl (by kernel_rfl) (by kernel_rfl) (fun _ _ _ h => h) (by assumption) ?_ ?_; rotate_left; (intro w hSw; (try dsimp only at hSw); go_simp; first | done | with_reducible rfl); simp only [Act.put, List.setIfInBounds_toArray, List.set_cons_zero, List.set_cons_succ])
          (refine hd_take 2 (v := ?_) rfl (by kernel_rfl) (by kernel_rfl) (fun _ _ _ h => h) (by assumption) ?_ ?_; rotate_left; (intro w hSw; (try dsimp only at hSw); go_simp; first | done | with_reducible rfl); simp only [Act.put, List.setIfInBounds_toArray, List.set_cons_zero, List.set_cons_succ])
          (refine hd_skip 3 rfl (by kernel_rfl) (by kernel_rfl) (fun _ _ _ h => h) (by assumption) ?_; simp only [Act.put, List.setIfInBounds_toArray, List.set_cons_zero, List.set_cons_succ])
          (refine hd_skip 4 rfl (by kernel_rfl) (by kernel_rfl) (fun _ _ _ h => h) (by assumption) ?_; simp only [Act.put, List.setIfInBounds_toArray, List.set_cons_zero, List.set_cons_succ])
          (refine hd_skip 5 rfl (by kernel_rfl) (by kernel_rfl) (fun _ _ _ h => h) (by assumption) ?_; simp only [Act.put, List.setIfInBounds_toArray, List.set_cons_zero, List.set_cons_succ])
          (refine hd_skip 6 rfl (by kernel_rfl) (by kernel_rfl) (fun _ _ _ h => h) (by assumption) ?_; simp only [Act.put, List.setIfInBounds_toArray, List.set_cons_zero, List.set_cons_succ])
          (refine hd_skip 7 rfl (by kernel_rfl) (by kernel_rfl) (fun _ _ _ h => h) (by assumption) ?_; simp only [Act.put, List.setIfInBounds_toArray, List.set_cons_zero, List.set_cons_succ])
          (refine hd_skip 8 rfl (by kernel_rfl) (by kernel_rfl) (fun _ _ _ h => h) (by assumption) ?_; simp only [Act.put, List.setIfInBounds_toArray, List.set_cons_zero, List.set_cons_succ])
          (refine hd_skip 9 rfl (by kernel_rfl) (by kernel_rfl) (fun _ _ _ h => h) (by assumption) ?_; simp only [Act.put, List.setIfInBounds_toArray, List.set_cons_zero, List.set_cons_succ])
          (refine hd_skip 10 rfl (by kernel_rfl) (by kernel_rfl) (fun _ _ _ h => h) (by assumption) ?_; simp only [Act.put, List.setIfInBounds_toArray, List.set_cons_zero, List.set_cons_succ])
          (refine hd_skip 11 rfl (by kernel_rfl) (by kernel_rfl) (fun _ _ _ h => h) (by assumption) ?_; simp only [Act.put, List.setIfInBounds_toArray, List.set_cons_zero, List.set_cons_succ])
          (refine hd_skip 12 rfl (by kernel_rfl) (by kernel_rfl) (fun _ _ _ h => h) (by assumption) ?_; simp only [Act.put, List.setIfInBounds_toArray, List.set_cons_zero, List.set_cons_succ])
          (refine hd_take 13 (v := ?_) rfl (by kernel_rfl) (by kernel_rfl) (fun _ _ _ h => h) (by assumption) ?_ ?_; rotate_left; (intro w hSw; (try dsimp only at hSw); go_simp; first | done | with_reducible rfl); simp only [Act.put, List.setIfInBounds_toArray, List.set_cons_zero, List.set_cons_succ])
          refine wpAnyH_done (by kernel_rfl) ?_ _
          have HC4 := Aside0.mk (SB_y HSd.out)
          have HX4 := Aside0.mk HSd.out.2.1
          have HB4 := Aside0.mk HSd.out.2.2
          have hct := cuttV A3 k c3 j hj hc3
          obtain ⟨A6, c6, hcf, hC6, -⟩ := cutfV A3 k c3 Y j HY.out.1 hj hc3
          have HC6 := Aside0.mk hC6
          clear hC6
          go_wp2_with first
            | ((with_reducible refine gate_dst (N := 35) rfl ?_); refine app_vrs (xs := []) rfl rfl rfl rfl (OVr_nil _ _) (C_takeV HC4.out HY.out.1 hj) (Nat.le_refl _) (by show 0 + j ≤ 1000000; omega) ?_; intro v6 w6 hO6 hb6 _; obtain ⟨A7, c7, rfl, -, -⟩ := OVr_readn hO6 j (by rw [List.nil_append, List.length_take, HY.out.1]; omega); rw [List.nil_append] at hO6; have HO6 := Aside0.mk hO6; have HB6 := Aside0.mk hb6; obtain ⟨p0, p1, p2, p3, p4, p5, p6, p7⟩ := C_atVr' (Kd.C_below HX4.out hb6) k hlt _ HQ.out; clear hO6 hb6)
            | ((with_reducible refine gate_dst (N := 42) rfl ?_); refine app_vr rfl rfl rfl rfl HO6.out HB6.out.size (by rw [List.length_take, HY.out.1]; omega) ?_; intro v7 w7 hO7 hb7 _; obtain ⟨A8, c8, rfl, -, -⟩ := OVr_readn hO7 (j + 1) (by rw [List.length_append, List.length_take, HY.out.1]; show min j k + 1 = _; omega); have HO7 := Aside0.mk hO7; have HB7 := Aside0.mk (HB6.out.trans hb7); clear hO7 hb7)
            | ((with_reducible refine gate_dst (N := 47) rfl ?_); refine app_vrs rfl rfl rfl rfl HO7.out (HC6.out _ (Kd.C_below HC4.out HB7.out)) HB7.out.size (by rw [List.length_append, List.length_take, HY.out.1]; show min j k + 1 + (k - j) ≤ _; omega) ?_; intro v8 w8 hO8 hb8 _; obtain ⟨A9, c9, rfl, hc9, -⟩ := OVr_readn hO8 (k + 1) (by simp only [List.length_append, List.length_take, List.length_drop, HY.out.1, List.length_cons, List.length_nil]; omega); have HO8 := Aside0.mk hO8; have HB8 := Aside0.mk (HB7.out.trans hb8); clear hO8 hb8)
          go_roundw
          case rel =>
            refine ⟨k + 1, A9, c9, _, hlt, rfl, rfl, hc9, ⟨?_, ?_⟩, ⟨Kd.R_lower HO8.out HB4.out.size, Kd.C_below HX4.out HB8.out, below_step HB4.out HB8.out⟩⟩
            · simp only [List.length_append, List.length_take, List.length_drop, HY.out.1, List.length_cons, List.length_nil]; omega
            · intro p hp
              simp only [List.mem_append, List.mem_singleton] at hp
              rcases hp with (h | rfl) | h
              · exact HY.out.2 p (List.mem_of_mem_take h)
              · rw [← HQ.out]; exact getD_mem X k (by rw [HN.out]; exact hlt)
              · exact HY.out.2 p (List.mem_of_mem_drop h)
          case measure => simp [intOf]; omega
    · obtain rfl : k = n := by omega
      have i1 : ¬ (k : Int) < (k : Int) := by omega
      go_wp2_with fail
      go_ret
      exact ⟨_, rfl, Y, HS0.out.1, HY.out.1, HY.out.2, HS0.out.2.2⟩
end Go.Proofs.Ytopoepifbjbmoaa.A
