/- CThree -/
import Derived.Test.YtmfnbkghfmeekaaZCTwo
import Derived.Test.YtmfnbkghfmeekaaZCOne
namespace Go.Proofs.Ytmfnbkghfmeekaa.A.C
open Go.RowKit Go.Proofs.YtmfnbkghfmeekaaW.PrintWords Go.Proofs.YtmfnbkghfmeekaaW.PrintLast Go.Proofs.YtmfnbkghfmeekaaW.PrintMore
open R
set_option linter.unusedVariables false
set_option linter.unusedSimpArgs false
def ownL (l : List Vr) (k : Nat) : List Vr := (l.take k).map cutV
theorem ownL_len (l : List Vr) (k n : Nat) (hn : l.length = n) (hk : k ≤ n) : (ownL l k).length = k := by unfold ownL; rw [List.length_map, List.length_take]; omega
theorem ownL_next (l : List Vr) (k n : Nat) (hn : l.length = n) (hk : k < n) : ownL l (k + 1) = ownL l k ++ [cutV (l.getD k default)] := by
  unfold ownL
  rw [take_getD l k (by omega), List.map_append]
  rfl
theorem cutV_small (q : Vr) : (cutV q).k.size ≤ 110 ∧ (cutV q).v.size ≤ 210 := ⟨cutS_size _ _, cutS_size _ _⟩
theorem ownL_small (l : List Vr) (k : Nat) : smallB (ownL l k) := by
  intro p hp
  obtain ⟨q, _, rfl⟩ := List.mem_map.1 hp
  obtain ⟨h1, h2⟩ := cutV_small q
  exact ⟨by omega, by omega⟩
end Go.Proofs.Ytmfnbkghfmeekaa.A.C
namespace Go.Proofs.Ytmfnbkghfmeekaa.A.C
open Go.RowKit Go.Proofs.YtmfnbkghfmeekaaW.PrintWords Go.Proofs.YtmfnbkghfmeekaaW.PrintLast Go.Proofs.YtmfnbkghfmeekaaW.PrintMore
open R
set_option linter.unusedVariables false
set_option linter.unusedSimpArgs false
set_option maxRecDepth 100000 in
set_option maxHeartbeats 8000000 in
theorem good_calls (A : Option Addr) (n c m : Nat) (l : List Vr) (w : World) (hr : KVr.C w A n l) (hc : n ≤ c) (hf : ∀ p ∈ l, p.fits) (hm : m ≤ 1000) :
    Calls Try.prog 37 #[.slice A n c, .int .i64 m] w fun e w' => ∃ u X, e = .returned u ∧ OVr w' w.heap.size u X ∧ X.length ≤ m ∧ (∀ p ∈ X, mayV p = true) ∧ Below w.heap.size w w' := by
  have HR := Aside0.mk hr
  have HF := Aside0.mk hf
  have HN := Aside0.mk hr.1
  have hmx : n ≤ 9223372036854775807 := hr.2.1
  clear hr hf
  go_enter Try.func37, Try.ntmps37
  go_wp2_with fail
  go_loopw [5, 6] (fun v5 v6 w' => ∃ (k z : Nat) (A5 : Option Addr) (c5 : Nat) (X : List Vr), k ≤ n ∧ z ≤ m ∧ v6 = .int .i64 k ∧ v5 = .slice A5 z c5 ∧ Aside0 (X.length = z) ∧ Aside0 (∀ p ∈ X, mayV p = true) ∧ Aside0 (OVr w' w.heap.size (.slice A5 z c5) X) ∧ Aside0 (Below w.heap.size w w')) (fun _ v6 _ => n - (intOf v6).toNat)
  case atStart => exact ⟨0, 0, none, 0, [], Nat.zero_le _, Nat.zero_le _, rfl, rfl, ⟨rfl⟩, ⟨fun _ h => by cases h⟩, ⟨OVr_nil _ _⟩, ⟨Below.refl _ _⟩⟩
  case round =>
    obtain ⟨k, z, A5, c5, X, hk, hz, rfl, rfl, HZ, HM, HO, HB⟩ := hrel
    by_cases hlt : k < n
    · by_cases hzm : z < m
      · have HX := Aside0.mk (C_atVr (Kd.C_below HR.out HB.out) k hlt)
        have hfq := HF.out _ (getD_mem l k (by rw [HN.out]; exact hlt))
        generalize l.getD k default = q at *
        obtain ⟨qk, qbr, qep, qsq, qf, qt, qv, qg⟩ := q
        have i1 : qk.size ≤ 9223372036854775807 := hfq.1
        have i2 : qv.size ≤ 9223372036854775807 := hfq.2
        have hs1 := cutS_size qk 110
        have hs2 := cutS_size qv 210
        obtain ⟨ad, rfl, p0, p1, p2, p3, p4, p5, p6, p7⟩ := HX.out
        clear HX hfq
        have j1 : (k : Int) < (n : Int) := by omega
        have j2 : (0 : Int) ≤ (k : Int) := by omega
        have j3 : (z : Int) < (m : Int) := by omega
        go_wp2_with fail
        (with_reducible refine (cut_calls qk qbr qep qsq qf qt qv qg _ i1 i2).mono ?_)
        rintro e w1 ⟨rfl, hb1⟩
        generalize cutS qk 110 = k1 at *
        generalize cutS qv 210 = v1 at *
        have hal := below_alloc (Below.refl w1.heap.size w1) (vrBox k1 qbr qep qsq qf qt v1 qg)
        have HO1 := Aside0.mk (Kd.R_below (Kd.R_below HO.out hb1) hal)
        have HB1 := Aside0.mk (below_step (below_step HB.out hb1) hal)
        have HX1 : Aside0 ((w1.alloc (vrBox k1 qbr qep qsq qf qt v1 qg)).heap[w1.heap.size]? = some (vrBox k1 qbr qep qsq qf qt v1 qg)) := ⟨heap_alloc_new w1 _⟩
        clear hb1 hal HO HB p0 p1 p2 p3 p4 p5 p6 p7
        obtain ⟨mb, hmb⟩ : ∃ mb, mayV ⟨k1, qbr, qep, qsq, qf, qt, v1, qg⟩ = mb := ⟨_, rfl⟩
        have hmc := fun W => may6_calls k1 qbr qep qsq qf qt v1 qg W (by omega) (by omega)
        rw [hmb] at hmc
        have HMC := Aside0.mk hmc
        have HMB := Aside0.mk hmb
        clear hmb hmc
        go_wp2_with fail
        (with_reducible refine (HMC.out _).mono ?_)
        rintro e w2 ⟨rfl, hb2⟩
        have HO2 := Aside0.mk (Kd.R_below HO1.out hb2)
        have HB2 := Aside0.mk (below_step HB1.out hb2)
        obtain ⟨x0, x1, x2, x3, x4, x5, x6, x7⟩ := vr_cells (box_keep HX1.out hb2)
        clear hb2 HO1 HB1 HX1
        cases mb with
        | false =>
          go_wp2_with fail
          go_roundw
          case rel => exact ⟨k + 1, z, A5, c5, X, hlt, hz, rfl, rfl, HZ, HM, HO2, HB2⟩
          case measure => simp [intOf]; omega
        | true =>
          go_wp2_with ((with_reducible refine gate_dst (N := 32) rfl ?_); refine app_vr rfl rfl rfl rfl HO2.out HB2.out.size (by rw [HZ.out]; omega) ?_; intro v4 w4 hO4 hb4 _; obtain ⟨A6, c6, rfl, -, -⟩ := OVr_readn hO4 (z + 1) (by rw [List.length_append, HZ.out]; rfl); have HO5 := Aside0.mk hO4; have HB5 := Aside0.mk (HB2.out.trans hb4); clear hO4 hb4)
          go_roundw
          case rel =>
            refine ⟨k + 1, z + 1, A6, c6, X ++ [⟨k1, qbr, qep, qsq, qf, qt, v1, qg⟩], hlt, hzm, rfl, rfl, ⟨by rw [List.length_append, HZ.out]; rfl⟩, ⟨?_⟩, HO5, HB5⟩
            intro p hp
            rcases List.mem_append.1 hp with h | h
            · exact HM.out p h
            · rw [List.mem_singleton.1 h]; exact HMB.out
          case measure => simp [intOf]; omega
      · have j1 : (k : Int) < (n : Int) := by omega
        have j3 : ¬ (z : Int) < (m : Int) := by omega
        go_wp2_with fail
        go_ret
        exact ⟨_, rfl, X, HO.out, by rw [HZ.out]; exact hz, HM.out, HB.out⟩
    · have j1 : ¬ (k : Int) < (n : Int) := by omega
      go_wp2_with fail
      go_ret
      exact ⟨_, rfl, X, HO.out, by rw [HZ.out]; exact hz, HM.out, HB.out⟩
end Go.Proofs.Ytmfnbkghfmeekaa.A.C
namespace Go.Proofs.Ytmfnbkghfmeekaa.A.C
open Go.RowKit Go.Proofs.YtmfnbkghfmeekaaW.PrintWords Go.Proofs.YtmfnbkghfmeekaaW.PrintLast Go.Proofs.YtmfnbkghfmeekaaW.PrintMore
open R
set_option linter.unusedVariables false
set_option linter.unusedSimpArgs false
section
variable {ops : Array Oper} {rest : List Oper} {o : Oper} {a : Act} {Q : Exit → Act → World → Prop} {W : World} {B : Nat}
theorem app_vrs {s x : Operand} (hgd : o.guard = none) (ho : o.op = .call { callee := .builtin .append, args := #[s, x], argTypes := #[22, 22] }) {v : Value} {xs ys : List Vr} {A : Option Addr} {m c : Nat}
    (hs : a.eval s = v) (hx : a.eval x = .slice A m c) (HO : OVr W B v xs) (HR : KVr.C W A m ys) (hB : B ≤ W.heap.size) (hl : xs.length + m ≤ 1000000)
    (h : ∀ v1 w1, OVr w1 B v1 (xs ++ ys) → Below B W w1 → W.grownBy w1 v.ownBlock → wpList Try.prog ops Q rest (a.put o.dst v1) w1) : wpList Try.prog ops Q (o :: rest) a W := by
  refine Kd.R_append_rows KVr (Rr := KVr.K W) (w0 := W) B hgd s x 22 28 (.agg #[.string ByteArray.empty, .int .i64 0, .int .i64 0, .int .i64 0, .int .i64 0, .int .i64 0, .string ByteArray.empty, .bool false]) 80 ho Try.underlying22 infoVr rfl (by decide) (by decide) v xs ys A m c (fun _ => True) (fun _ => False) hs hx HO HR ?_ (fun _ h => h.elim) (fun _ _ => trivial) (Below.refl B W) hB (by omega) (fun v1 w1 h1 h2 h3 _ => h v1 w1 h1 h2 h3)
  intro p cs hK
  have e := KVr_of hK
  subst e
  exact KVr_M _ _ _ p
end
theorem cuttV (A : Option Addr) (n c j : Nat) (hj : j ≤ n) (hc : n ≤ c) (W : World) :
    (Instr.slice 22 (.slice A n c) none (some (.int .i64 (j : Int))) none).run Try.prog W = .ok (.slice A j c) W := by
  obtain ⟨i0, hi, _, hsz, _⟩ := info_parts infoVr
  rw [cut_to 22 28 .i64 Try.underlying22 hi A n c (j : Int) (by omega) (by omega) hc W]
  rfl
theorem cutfV (A : Option Addr) (n c : Nat) (l : List Vr) (j : Nat) (hn : l.length = n) (hj : j ≤ n) (hc : n ≤ c) :
    ∃ (A' : Option Addr) (c' : Nat), (∀ W : World, (Instr.slice 22 (.slice A n c) (some (.int .i64 (j : Int))) none none).run Try.prog W = .ok (.slice A' (n - j) c') W) ∧
      (∀ w : World, KVr.C w A n l → KVr.C w A' (n - j) (l.drop j)) ∧ n - j ≤ c' := by
  subst hn
  obtain ⟨i0, hi, _, hsz, _⟩ := info_parts infoVr
  refine ⟨_, c - j, fun W => ?_, fun w h => by rw [← List.length_drop]; exact Kd.C_drop h (by omega) hc, by omega⟩
  rw [cut_from 22 28 .i64 Try.underlying22 hi 8 hsz A l.length c (j : Int) (by omega) (by omega) W]
  rfl
theorem C_takeV {w : World} {A : Option Addr} {n j : Nat} {l : List Vr} (h : KVr.C w A n l) (hn : l.length = n) (hj : j ≤ n) : KVr.C w A j (l.take j) := by
  subst hn
  have h7 := Kd.C_take h hj
  rw [show (l.take j).length = j by rw [List.length_take]; omega] at h7
  exact h7
def SB (w : World) (A3 : Option Addr) (k c3 : Nat) (Y : List Vr) (A : Option Addr) (n : Nat) (X : List Vr) (W : World) : Prop := OVr W w.heap.size (.slice A3 k c3) Y ∧ KVr.C W A n X ∧ Below w.heap.size w W
theorem SB_step {w : World} {A3 : Option Addr} {k c3 : Nat} {Y : List Vr} {A : Option Addr} {n : Nat} {X : List Vr} {W W1 : World} (h : SB w A3 k c3 Y A n X W) (hb : Below W.heap.size W W1) : SB w A3 k c3 Y A n X W1 := ⟨Kd.R_below h.1 hb, Kd.C_below h.2.1 hb, below_step h.2.2 hb⟩
theorem SB_y {w : World} {A3 : Option Addr} {k c3 : Nat} {Y : List Vr} {A : Option Addr} {n : Nat} {X : List Vr} {W : World} (h : SB w A3 k c3 Y A n X W) : KVr.C W A3 k Y := by
  obtain ⟨A', c', e, hc, hC⟩ := OVr_readn h.1 _ rfl
  injection e with e1 e2 e3
  subst e1
  rw [e2]
  exact hC
theorem SB_S2 {w : World} {ad3 : Addr} {k c3 : Nat} {Y : List Vr} {ad : Addr} {n : Nat} {X : List Vr} {W : World} (h : SB w (some ad3) k c3 Y (some ad) n X W) (i j : Nat) (hi : i < k) (hj : j < n) (p q : Vr) (hp : Y.getD i default = p) (hq : X.getD j default = q) :
    W.cell? (ad3.add (i * 8)) = some (.string p.k) ∧ W.cell? ⟨(ad3.add (i * 8)).block, (ad3.add (i * 8)).off + 1, none⟩ = some (.int .i64 p.br) ∧ W.cell? ⟨(ad3.add (i * 8)).block, (ad3.add (i * 8)).off + 2, none⟩ = some (.int .i64 p.ep) ∧ W.cell? ⟨(ad3.add (i * 8)).block, (ad3.add (i * 8)).off + 3, none⟩ = some (.int .i64 p.sq) ∧ W.cell? ⟨(ad3.add (i * 8)).block, (ad3.add (i * 8)).off + 4, none⟩ = some (.int .i64 p.f) ∧ W.cell? ⟨(ad3.add (i * 8)).block, (ad3.add (i * 8)).off + 5, none⟩ = some (.int .i64 p.t) ∧ W.cell? ⟨(ad3.add (i * 8)).block, (ad3.add (i * 8)).off + 6, none⟩ = some (.string p.v) ∧ W.cell? ⟨(ad3.add (i * 8)).block, (ad3.add (i * 8)).off + 7, none⟩ = some (.bool p.g) ∧ W.cell? (ad.add (j * 8)) = some (.string q.k) ∧ W.cell? ⟨(ad.add (j * 8)).block, (ad.add (j * 8)).off + 1, none⟩ = some (.int .i64 q.br) ∧ W.cell? ⟨(ad.add (j * 8)).block, (ad.add (j * 8)).off + 2, none⟩ = some (.int .i64 q.ep) ∧ W.cell? ⟨(ad.add (j * 8)).block, (ad.add (j * 8)).off + 3, none⟩ = some (.int .i64 q.sq) ∧ W.cell? ⟨(ad.add (j * 8)).block, (ad.add (j * 8)).off + 4, none⟩ = some (.int .i64 q.f) ∧ W.cell? ⟨(ad.add (j * 8)).block, (ad.add (j * 8)).off + 5, none⟩ = some (.int .i64 q.t) ∧ W.cell? ⟨(ad.add (j * 8)).block, (ad.add (j * 8)).off + 6, none⟩ = some (.string q.v) ∧ W.cell? ⟨(ad.add (j * 8)).block, (ad.add (j * 8)).off + 7, none⟩ = some (.bool q.g) ∧ Aside0 (SB w (some ad3) k c3 Y (some ad) n X W) := by
  obtain ⟨a0, a1, a2, a3, a4, a5, a6, a7⟩ := C_atVr' (SB_y h) i hi p hp
  obtain ⟨b0, b1, b2, b3, b4, b5, b6, b7⟩ := C_atVr' h.2.1 j hj q hq
  exact ⟨a0, a1, a2, a3, a4, a5, a6, a7, b0, b1, b2, b3, b4, b5, b6, b7, ⟨h⟩⟩
set_option maxRecDepth 100000 in
set_option maxHeartbeats 8000000 in
theorem sorted_calls (A : Option Addr) (n c : Nat) (X : List Vr) (w : World) (hr : KVr.C w A n X) (hc : n ≤ c) (hn : n ≤ 1000) :
    Calls Try.prog 36 #[.slice A n c] w fun e w' => ∃ u Y, e = .returned u ∧ OVr w' w.heap.size u Y ∧ Y.length = n ∧ (∀ p ∈ Y, p ∈ X) ∧ Below w.heap.size w w' := by
  have HR := Aside0.mk hr
  have HN := Aside0.mk hr.1
  clear hr
  go_enter Try.func36, Try.ntmps36
  go_wp2_with fail
  go_loopw [3, 4] (fun v3 v4 w' => ∃ (k : Nat) (A3 : Option Addr) (c3 : Nat) (Y : List Vr), k ≤ n ∧ v4 = .int .i64 k ∧ v3 = .slice A3 k c3 ∧ k ≤ c3 ∧ Aside0 (Y.length = k ∧ ∀ p ∈ Y, p ∈ X) ∧ Aside0 (SB w A3 k c3 Y A n X w')) (fun _ v4 _ => n - (intOf v4).toNat)
  case atStart => exact ⟨0, none, 0, [], Nat.zero_le _, rfl, rfl, Nat.le_refl _, ⟨rfl, fun _ h => by cases h⟩, ⟨OVr_nil _ _, HR.out, Below.refl _ _⟩⟩
  case round =>
    obtain ⟨k, A3, c3, Y, hk, rfl, rfl, hc3, HY, HS0⟩ := hrel
    by_cases hlt : k < n
    · obtain ⟨ad, rfl, -⟩ := C_atVr HS0.out.2.1 k hlt
      obtain ⟨q, hq⟩ : ∃ q, X.getD k default = q := ⟨_, rfl⟩
      obtain ⟨qk, qbr, qep, qsq, qf, qt, qv, qg⟩ := q
      have HQ := Aside0.mk hq
      have i1 : (k : Int) < (n : Int) := by omega
      have i2 : (0 : Int) ≤ (k : Int) := by omega
      clear hq
      go_wp2_with fail
      go_loopw [5] (fun v5 w' => ∃ j : Nat, j ≤ k ∧ v5 = .int .i64 j ∧ Aside0 (SB w A3 k c3 Y (some ad) n X w')) (fun v5 _ => (intOf v5).toNat)
      case atStart => exact ⟨k, Nat.le_refl _, rfl, HS0⟩
      case round =>
        clear HS0
        obtain ⟨j, hj, rfl, HS⟩ := hrel
        have HSd := Aside0.mk (SB_step HS.out (below_drew1 (Below.refl _ _)))
        have hj0 : (0 : Int) ≤ (j : Int) := by omega
        have hjk : (j : Int) ≤ (k : Int) := by omega
        clear HS
        by_cases hjz : 0 < j
        · obtain ⟨i, hi⟩ : ∃ i, j = i + 1 := ⟨j - 1, by omega⟩
          have hik : i < k := by omega
          have k1 : (0 : Int) < (j : Int) := by omega
          have k2 : IntKind.i64.wrap ((j : Int) - 1) = (i : Int) := by rw [IntWalk.i64_in _ (by omega)]; omega
          have k3 : (0 : Int) ≤ (i : Int) := by omega
          have k5 : IntKind.i64.wrap (i : Int) = (i : Int) := IntWalk.i64_in _ (by omega)
          have k4 : (i : Int) < (k : Int) := by omega
          have HII := Aside0.mk hi
          clear hi
          obtain ⟨ad3, rfl, -⟩ := C_atVr (SB_y HSd.out) i hik
          obtain ⟨p, hp⟩ : ∃ p, Y.getD i default = p := ⟨_, rfl⟩
          obtain ⟨pk, pbr, pep, psq, pf, pt, pv, pg⟩ := p
          have HP := Aside0.mk hp
          obtain ⟨lv, hlv⟩ : ∃ lv, lessV ⟨qk, qbr, qep, qsq, qf, qt, qv, qg⟩ ⟨pk, pbr, pep, psq, pf, pt, pv, pg⟩ = lv := ⟨_, rfl⟩
          have hcc := fun W => less_calls qk qbr qep qsq qf qt qv qg pk pbr pep psq pf pt pv pg W
          rw [hlv] at hcc
          have HCC := Aside0.mk hcc
          clear hp hlv hcc
          go_wp2_with fail
          refine wp_region_held_drew (S := (fun w' => w'.cell? (ad3.add (i * 8)) = some (.string pk) ∧ w'.cell? ⟨(ad3.add (i * 8)).block, (ad3.add (i * 8)).off + 1, none⟩ = some (.int .i64 pbr) ∧ w'.cell? ⟨(ad3.add (i * 8)).block, (ad3.add (i * 8)).off + 2, none⟩ = some (.int .i64 pep) ∧ w'.cell? ⟨(ad3.add (i * 8)).block, (ad3.add (i * 8)).off + 3, none⟩ = some (.int .i64 psq) ∧ w'.cell? ⟨(ad3.add (i * 8)).block, (ad3.add (i * 8)).off + 4, none⟩ = some (.int .i64 pf) ∧ w'.cell? ⟨(ad3.add (i * 8)).block, (ad3.add (i * 8)).off + 5, none⟩ = some (.int .i64 pt) ∧ w'.cell? ⟨(ad3.add (i * 8)).block, (ad3.add (i * 8)).off + 6, none⟩ = some (.string pv) ∧ w'.cell? ⟨(ad3.add (i * 8)).block, (ad3.add (i * 8)).off + 7, none⟩ = some (.bool pg) ∧ w'.cell? (ad.add (k * 8)) = some (.string qk) ∧ w'.cell? ⟨(ad.add (k * 8)).block, (ad.add (k * 8)).off + 1, none⟩ = some (.int .i64 qbr) ∧ w'.cell? ⟨(ad.add (k * 8)).block, (ad.add (k * 8)).off + 2, none⟩ = some (.int .i64 qep) ∧ w'.cell? ⟨(ad.add (k * 8)).block, (ad.add (k * 8)).off + 3, none⟩ = some (.int .i64 qsq) ∧ w'.cell? ⟨(ad.add (k * 8)).block, (ad.add (k * 8)).off + 4, none⟩ = some (.int .i64 qf) ∧ w'.cell? ⟨(ad.add (k * 8)).block, (ad.add (k * 8)).off + 5, none⟩ = some (.int .i64 qt) ∧ w'.cell? ⟨(ad.add (k * 8)).block, (ad.add (k * 8)).off + 6, none⟩ = some (.string qv) ∧ w'.cell? ⟨(ad.add (k * 8)).block, (ad.add (k * 8)).off + 7, none⟩ = some (.bool qg) ∧ Aside0 (SB w (some ad3) k c3 Y (some ad) n X w'))) (by kernel_rfl) (SB_S2 HSd.out i k hik hlt _ _ HP.out HQ.out) (fun hHeld => ?_)
          (refine hd_take 0 (v := ?_) rfl (by kernel_rfl) (by kernel_rfl) (fun _ _ _ h => h) (by assumption) ?_ ?_; rotate_left; (intro w hSw; (try dsimp only at hSw); go_simp; first | done | with_reducible rfl); simp only [Act.put, List.setIfInBounds_toArray, List.set_cons_zero, List.set_cons_succ])
          (refine hd_take 1 (v := ?_) rfl (by kernel_rfl) (by kernel_rfl) (fun _ _ _ h => h) (by assumption) ?_ ?_; rotate_left; (intro w hSw; (try dsimp only at hSw); go_simp; first | done | with_reducible rfl); simp only [Act.put, List.setIfInBounds_toArray, List.set_cons_zero, List.set_cons_succ])
          (refine hd_take 2 (v := ?_) rfl (by kernel_rfl) (by kernel_rfl) (fun _ _ _ h => h) (by assumption) ?_ ?_; rotate_left; (intro w hSw; (try dsimp only at hSw); go_simp; first | done | with_reducible rfl); simp only [Act.put, List.setIfInBounds_toArray, List.set_cons_zero, List.set_cons_succ])
          (refine hd_take 3 (v := ?_) rfl (by kernel_rfl) (by kernel_rfl) (fun _ _ _ h => h) (by assumption) ?_ ?_; rotate_left; (intro w hSw; (try dsimp only at hSw); go_simp; first | done | with_reducible rfl); simp only [Act.put, List.setIfInBounds_toArray, List.set_cons_zero, List.set_cons_succ])
          (refine hd_take 4 (v := ?_) rfl (by kernel_rfl) (by kernel_rfl) (fun _ _ _ h => h) (by assumption) ?_ ?_; rotate_left; (intro w hSw; (try dsimp only at hSw); go_simp; first | done | with_reducible rfl); simp only [Act.put, List.setIfInBounds_toArray, List.set_cons_zero, List.set_cons_succ])
          (refine hd_take 5 (v := ?_) rfl (by kernel_rfl) (by kernel_rfl) (fun _ _ _ h => h) (by assumption) ?_ ?_; rotate_left; (intro w hSw; (try dsimp only at hSw); go_simp; first | done | with_reducible rfl); simp only [Act.put, List.setIfInBounds_toArray, List.set_cons_zero, List.set_cons_succ])
          (refine hd_take 6 (v := ?_) rfl (by kernel_rfl) (by kernel_rfl) (fun _ _ _ h => h) (by assumption) ?_ ?_; rotate_left; (intro w hSw; (try dsimp only at hSw); go_simp; first | done | with_reducible rfl); simp only [Act.put, List.setIfInBounds_toArray, List.set_cons_zero, List.set_cons_succ])
          (refine hd_take 7 (v := ?_) rfl (by kernel_rfl) (by kernel_rfl) (fun _ _ _ h => h) (by assumption) ?_ ?_; rotate_left; (intro w hSw; (try dsimp only at hSw); go_simp; first | done | with_reducible rfl); simp only [Act.put, List.setIfInBounds_toArray, List.set_cons_zero, List.set_cons_succ])
          (refine hd_take 8 (v := ?_) rfl (by kernel_rfl) (by kernel_rfl) (fun _ _ _ h => h) (by assumption) ?_ ?_; rotate_left; (intro w hSw; (try dsimp only at hSw); go_simp; first | done | with_reducible rfl); simp only [Act.put, List.setIfInBounds_toArray, List.set_cons_zero, List.set_cons_succ])
          (refine hd_take 9 (v := ?_) rfl (by kernel_rfl) (by kernel_rfl) (fun _ _ _ h => h) (by assumption) ?_ ?_; rotate_left; (intro w hSw; (try dsimp only at hSw); go_simp; first | done | with_reducible rfl); simp only [Act.put, List.setIfInBounds_toArray, List.set_cons_zero, List.set_cons_succ])
          (refine hd_take 10 (v := ?_) rfl (by kernel_rfl) (by kernel_rfl) (fun _ _ _ h => h) (by assumption) ?_ ?_; rotate_left; (intro w hSw; (try dsimp only at hSw); go_simp; first | done | with_reducible rfl); simp only [Act.put, List.setIfInBounds_toArray, List.set_cons_zero, List.set_cons_succ])
          (refine hd_take 11 (v := ?_) rfl (by kernel_rfl) (by kernel_rfl) (fun _ _ _ h => h) (by assumption) ?_ ?_; rotate_left; (intro w hSw; (try dsimp only at hSw); go_simp; first | done | with_reducible rfl); simp only [Act.put, List.setIfInBounds_toArray, List.set_cons_zero, List.set_cons_succ])
          refine hd_one 12 rfl (by kernel_rfl) (fun K hK => ?_)
          go_simp
          go_wp2_with ((go_at_call 28); (with_reducible refine (HCC.out _).mono ?_); rintro e w3 ⟨rfl, hb3⟩; have HL3 := Aside0.mk (SB_step HSd.out hb3); clear hb3)
          refine hK.out _ _ (SB_S2 HL3.out i k hik hlt _ _ HP.out HQ.out) (fun hHeld => ?_)
          clear hK K
          (refine hd_take 13 (v := ?_) rfl (by kernel_rfl) (by kernel_rfl) (fun _ _ _ h => h) (by assumption) ?_ ?_; rotate_left; (intro w hSw; (try dsimp only at hSw); go_simp; first | done | with_reducible rfl); simp only [Act.put, List.setIfInBounds_toArray, List.set_cons_zero, List.set_cons_succ])
          refine wpAnyH_done (by kernel_rfl) ?_ _
          cases lv with
          | false =>
            have HC4 := Aside0.mk (SB_y HL3.out)
            have HX4 := Aside0.mk HL3.out.2.1
            have HB4 := Aside0.mk HL3.out.2.2
            have hct := cuttV (some ad3) k c3 j hj hc3
            obtain ⟨A6, c6, hcf, hC6, -⟩ := cutfV (some ad3) k c3 Y j HY.out.1 hj hc3
            have HC6 := Aside0.mk hC6
            clear hC6
            go_wp2_with first
              | ((with_reducible refine gate_dst (N := 35) rfl ?_); refine app_vrs (xs := []) rfl rfl rfl rfl (OVr_nil _ _) (C_takeV HC4.out HY.out.1 hj) (Nat.le_refl _) (by show 0 + j ≤ 1000000; omega) ?_; intro v6 w6 hO6 hb6 _; obtain ⟨A7, c7, rfl, -, -⟩ := OVr_readn hO6 j (by rw [List.nil_append, List.length_take, HY.out.1]; omega); rw [List.nil_append] at hO6; have HO6 := Aside0.mk hO6; have HB6 := Aside0.mk hb6; obtain ⟨p0, p1, p2, p3, p4, p5, p6, p7⟩ := C_atVr' (Kd.C_below HX4.out hb6) k hlt _ HQ.out; clear hO6 hb6)
              | ((with_reducible refine gate_dst (N := 42) rfl ?_); refine app_vr rfl rfl rfl rfl HO6.out HB6.out.size (by rw [List.length_take, HY.out.1]; omega) ?_; intro v7 w7 hO7 hb7 _; obtain ⟨A8, c8, rfl, -, -⟩ := OVr_readn hO7 (j + 1) (by rw [List.length_append, List.length_take, HY.out.1]; show min j k + 1 = _; omega); have HO7 := Aside0.mk hO7; have HB7 := Aside0.mk (HB6.out.trans hb7); clear hO7 hb7)
              | ((with_reducible refine gate_dst (N := 47) rfl ?_); refine app_vrs rfl rfl rfl rfl HO7.out (HC6.out _ (Kd.C_below HC4.out HB7.out)) HB7.out.size (by rw [List.length_append, List.length_take, HY.out.1]; show min j k + 1 + (k - j) ≤ _; omega) ?_; intro v8 w8 hO8 hb8 _; obtain ⟨A9, c9, rfl, hc9, -⟩ := OVr_readn hO8 (k + 1) (by simp only [List.length_append, List.length_take, List.length_drop, HY.out.1, List.length_cons, List.length_nil]; omega); have HO8 := Aside0.mk hO8; have HB8 := Aside0.mk (HB7.out.trans hb8); clear hO8 hb8)
            go_roundw
            case rel =>
              refine ⟨k + 1, A9, c9, _, hlt, rfl, rfl, hc9, ⟨?_, ?_⟩, ⟨Kd.R_lower HO8.out HB4.out.size, Kd.C_below HX4.out HB8.out, below_step HB4.out HB8.out⟩⟩
              · simp only [List.length_append, List.length_take, List.length_drop, HY.out.1, List.length_cons, List.length_nil]; omega
              · intro p hp
                simp only [List.mem_append, List.mem_singleton] at hp
                rcases hp with (h | rfl) | h
                · exact HY.out.2 p (List.mem_of_mem_take h)
                · rw [← HQ.out]; exact getD_mem X k (by rw [HN.out]; exact hlt)
                · exact HY.out.2 p (List.mem_of_mem_drop h)
            case measure => simp [intOf]; omega
          | true =>
            go_wp2
            go_roundw
            case rel => exact ⟨i, by omega, rfl, HL3⟩
            case measure => have := HII.out; simp [intOf]; omega
        · have k1 : ¬ (0 : Int) < (j : Int) := by omega
          go_wp2_with fail
          refine wp_region_held_drew (S := fun w' => Aside0 (SB w A3 k c3 Y (some ad) n X w')) (by kernel_rfl) HSd (fun hHeld => ?_)
          (refine hd_take 0 (v := ?_) rfl (by kernel_rfl) (by kernel_rfl) (fun _ _ _ h => h) (by assumption) ?_ ?_; rotate_left; (intro w hSw; (try dsimp only at hSw); go_simp; first | done | with_reducible rfl); simp only [Act.put, List.setIfInBounds_toArray, List.set_cons_zero, List.set_cons_succ])
          (refine hd_take 1 (v := ?_) rfl (by kernel_rfl) (by kernel_rfl) (fun _ _ _ h => h) (by assumption) ?_ ?_; rotate_left; (intro w hSw; (try dsimp only at hSw); go_simp; first | done | with_reducible rfl); simp only [Act.put, List.setIfInBounds_toArray, List.set_cons_zero, List.set_cons_succ])
          (refine hd_take 2 (v := ?_) rfl (by kernel_rfl) (by kernel_rfl) (fun _ _ _ h => h) (by assumption) ?_ ?_; rotate_left; (intro w hSw; (try dsimp only at hSw); go_simp; first | done | with_reducible rfl); simp only [Act.put, List.setIfInBounds_toArray, List.set_cons_zero, List.set_cons_succ])
          (refine hd_skip 3 rfl (by kernel_rfl) (by kernel_rfl) (fun _ _ _ h => h) (by assumption) ?_; simp only [Act.put, List.setIfInBounds_toArray, List.set_cons_zero, List.set_cons_succ])
          (refine hd_skip 4 rfl (by kernel_rfl) (by kernel_rfl) (fun _ _ _ h => h) (by assumption) ?_; simp only [Act.put, List.setIfInBounds_toArray, List.set_cons_zero, List.set_cons_succ])
          (refine hd_skip 5 rfl (by kernel_rfl) (by kernel_rfl) (fun _ _ _ h => h) (by assumption) ?_; simp only [Act.put, List.setIfInBounds_toArray, List.set_cons_zero, List.set_cons_succ])
          (refine hd_skip 6 rfl (by kernel_rfl) (by kernel_rfl) (fun _ _ _ h => h) (by assumption) ?_; simp only [Act.put, List.setIfInBounds_toArray, List.set_cons_zero, List.set_cons_succ])
          (refine hd_skip 7 rfl (by kernel_rfl) (by kernel_rfl) (fun _ _ _ h => h) (by assumption) ?_; simp only [Act.put, List.setIfInBounds_toArray, List.set_cons_zero, List.set_cons_succ])
          (refine hd_skip 8 rfl (by kernel_rfl) (by kernel_rfl) (fun _ _ _ h => h) (by assumption) ?_; simp only [Act.put, List.setIfInBounds_toArray, List.set_cons_zero, List.set_cons_succ])
          (refine hd_skip 9 rfl (by kernel_rfl) (by kernel_rfl) (fun _ _ _ h => h) (by assumption) ?_; simp only [Act.put, List.setIfInBounds_toArray, List.set_cons_zero, List.set_cons_succ])
          (refine hd_skip 10 rfl (by kernel_rfl) (by kernel_rfl) (fun _ _ _ h => h) (by assumption) ?_; simp only [Act.put, List.setIfInBounds_toArray, List.set_cons_zero, List.set_cons_succ])
          (refine hd_skip 11 rfl (by kernel_rfl) (by kernel_rfl) (fun _ _ _ h => h) (by assumption) ?_; simp only [Act.put, List.setIfInBounds_toArray, List.set_cons_zero, List.set_cons_succ])
          (refine hd_skip 12 rfl (by kernel_rfl) (by kernel_rfl) (fun _ _ _ h => h) (by assumption) ?_; simp only [Act.put, List.setIfInBounds_toArray, List.set_cons_zero, List.set_cons_succ])
          (refine hd_take 13 (v := ?_) rfl (by kernel_rfl) (by kernel_rfl) (fun _ _ _ h => h) (by assumption) ?_ ?_; rotate_left; (intro w hSw; (try dsimp only at hSw); go_simp; first | done | with_reducible rfl); simp only [Act.put, List.setIfInBounds_toArray, List.set_cons_zero, List.set_cons_succ])
          refine wpAnyH_done (by kernel_rfl) ?_ _
          have HC4 := Aside0.mk (SB_y HSd.out)
          have HX4 := Aside0.mk HSd.out.2.1
          have HB4 := Aside0.mk HSd.out.2.2
          have hct := cuttV A3 k c3 j hj hc3
          obtain ⟨A6, c6, hcf, hC6, -⟩ := cutfV A3 k c3 Y j HY.out.1 hj hc3
          have HC6 := Aside0.mk hC6
          clear hC6
          go_wp2_with first
            | ((with_reducible refine gate_dst (N := 35) rfl ?_); refine app_vrs (xs := []) rfl rfl rfl rfl (OVr_nil _ _) (C_takeV HC4.out HY.out.1 hj) (Nat.le_refl _) (by show 0 + j ≤ 1000000; omega) ?_; intro v6 w6 hO6 hb6 _; obtain ⟨A7, c7, rfl, -, -⟩ := OVr_readn hO6 j (by rw [List.nil_append, List.length_take, HY.out.1]; omega); rw [List.nil_append] at hO6; have HO6 := Aside0.mk hO6; have HB6 := Aside0.mk hb6; obtain ⟨p0, p1, p2, p3, p4, p5, p6, p7⟩ := C_atVr' (Kd.C_below HX4.out hb6) k hlt _ HQ.out; clear hO6 hb6)
            | ((with_reducible refine gate_dst (N := 42) rfl ?_); refine app_vr rfl rfl rfl rfl HO6.out HB6.out.size (by rw [List.length_take, HY.out.1]; omega) ?_; intro v7 w7 hO7 hb7 _; obtain ⟨A8, c8, rfl, -, -⟩ := OVr_readn hO7 (j + 1) (by rw [List.length_append, List.length_take, HY.out.1]; show min j k + 1 = _; omega); have HO7 := Aside0.mk hO7; have HB7 := Aside0.mk (HB6.out.trans hb7); clear hO7 hb7)
            | ((with_reducible refine gate_dst (N := 47) rfl ?_); refine app_vrs rfl rfl rfl rfl HO7.out (HC6.out _ (Kd.C_below HC4.out HB7.out)) HB7.out.size (by rw [List.length_append, List.length_take, HY.out.1]; show min j k + 1 + (k - j) ≤ _; omega) ?_; intro v8 w8 hO8 hb8 _; obtain ⟨A9, c9, rfl, hc9, -⟩ := OVr_readn hO8 (k + 1) (by simp only [List.length_append, List.length_take, List.length_drop, HY.out.1, List.length_cons, List.length_nil]; omega); have HO8 := Aside0.mk hO8; have HB8 := Aside0.mk (HB7.out.trans hb8); clear hO8 hb8)
          go_roundw
          case rel =>
            refine ⟨k + 1, A9, c9, _, hlt, rfl, rfl, hc9, ⟨?_, ?_⟩, ⟨Kd.R_lower HO8.out HB4.out.size, Kd.C_below HX4.out HB8.out, below_step HB4.out HB8.out⟩⟩
            · simp only [List.length_append, List.length_take, List.length_drop, HY.out.1, List.length_cons, List.length_nil]; omega
            · intro p hp
              simp only [List.mem_append, List.mem_singleton] at hp
              rcases hp with (h | rfl) | h
              · exact HY.out.2 p (List.mem_of_mem_take h)
              · rw [← HQ.out]; exact getD_mem X k (by rw [HN.out]; exact hlt)
              · exact HY.out.2 p (List.mem_of_mem_drop h)
          case measure => simp [intOf]; omega
    · obtain rfl : k = n := by omega
      have i1 : ¬ (k : Int) < (k : Int) := by omega
      go_wp2_with fail
      go_ret
      exact ⟨_, rfl, Y, HS0.out.1, HY.out.1, HY.out.2, HS0.out.2.2⟩
end Go.Proofs.Ytmfnbkghfmeekaa.A.C
namespace Go.Proofs.Ytmfnbkghfmeekaa.A.C
open Go.RowKit Go.Proofs.YtmfnbkghfmeekaaW.PrintWords Go.Proofs.YtmfnbkghfmeekaaW.PrintLast Go.Proofs.YtmfnbkghfmeekaaW.PrintMore
open R
set_option linter.unusedVariables false
set_option linter.unusedSimpArgs false
theorem okN_pre (l m : List Vr) : ∀ k, k ≤ l.length → okN (l ++ m) k = okN l k
  | 0, _ => rfl
  | k + 1, h => by
    rw [okN_succ, okN_succ, okN_pre l m k (by omega)]
    congr 1
    unfold stepOk
    have e : ∀ i, i < l.length → (l ++ m).getD i default = l.getD i default := by
      intro i hi
      rw [List.getD_eq_getElem?_getD, List.getD_eq_getElem?_getD, List.getElem?_append_left hi]
    rw [e k (by omega), e (k - 1) (by omega)]
theorem okN_app {Z : List Vr} {z : Nat} {q : Vr} (hz : Z.length = z) (h1 : okN Z z = true) (h2 : mayV q = true) (h3 : z = 0 ∨ lessV (Z.getD (z - 1) default) q = true) : okN (Z ++ [q]) (z + 1) = true := by
  subst hz
  rw [okN_succ, okN_pre Z [q] _ (Nat.le_refl _), h1]
  unfold stepOk
  rw [show (Z ++ [q]).getD Z.length default = q by rw [List.getD_eq_getElem?_getD, List.getElem?_append_right (Nat.le_refl _), Nat.sub_self]; rfl, h2]
  rcases h3 with h3 | h3
  · rw [h3]; rfl
  · by_cases h0 : Z.length = 0
    · rw [h0]; rfl
    · rw [show (Z ++ [q]).getD (Z.length - 1) default = Z.getD (Z.length - 1) default by rw [List.getD_eq_getElem?_getD, List.getD_eq_getElem?_getD, List.getElem?_append_left (by omega)], h3]
      simp
end Go.Proofs.Ytmfnbkghfmeekaa.A.C
namespace Go.Proofs.Ytmfnbkghfmeekaa.A.C
open Go.RowKit Go.Proofs.YtmfnbkghfmeekaaW.PrintWords Go.Proofs.YtmfnbkghfmeekaaW.PrintLast Go.Proofs.YtmfnbkghfmeekaaW.PrintMore
open R
set_option linter.unusedVariables false
set_option linter.unusedSimpArgs false
def KP (w : World) (u : Value) (Bs : List Int) (P : List (Nat × Obj)) (W : World) : Prop := OB W w.heap.size u Bs ∧ (∀ p ∈ P, some p.1 ≠ u.ownBlock ∧ W.heap[p.1]? = some p.2) ∧ Below w.heap.size w W
theorem KP_step {w : World} {u : Value} {Bs : List Int} {P : List (Nat × Obj)} {W W1 : World} (h : KP w u Bs P W) (hb : Below W.heap.size W W1) : KP w u Bs P W1 :=
  ⟨Kd.R_below h.1 hb, fun p hp => ⟨(h.2.1 p hp).1, box_keep (h.2.1 p hp).2 hb⟩, below_step h.2.2 hb⟩
theorem KP_app {w : World} {u v : Value} {Bs Cs : List Int} {P : List (Nat × Obj)} {W W1 : World} (h : KP w u Bs P W) (hO : OB W1 w.heap.size v Cs) (hb : Below w.heap.size W W1) (hg : W.grownBy W1 u.ownBlock) (hat : v.ownBlock = u.ownBlock ∨ ∃ b, v.ownBlock = some b ∧ W.heap.size ≤ b) : KP w v Cs P W1 := by
  refine ⟨hO, fun p hp => ⟨?_, (hg.block p.1 (Array.getElem?_eq_some_iff.1 (h.2.1 p hp).2).1 (h.2.1 p hp).1).trans (h.2.1 p hp).2⟩, h.2.2.trans hb⟩
  have h1 := (h.2.1 p hp).1
  have h2 := (Array.getElem?_eq_some_iff.1 (h.2.1 p hp).2).1
  rcases hat with e | ⟨b, e, hbb⟩
  · rw [e]; exact h1
  · rw [e]
    intro e2
    injection e2 with e2
    omega
theorem KP_alloc {w : World} {u : Value} {Bs : List Int} {P : List (Nat × Obj)} {W : World} (h : KP w u Bs P W) (o : Obj) : KP w u Bs ((W.heap.size, o) :: P) (W.alloc o) := by
  have hal := below_alloc (Below.refl W.heap.size W) o
  have h2 := KP_step h hal
  refine ⟨h2.1, fun p hp => ?_, h2.2.2⟩
  rcases List.mem_cons.1 hp with rfl | hp
  · refine ⟨?_, heap_alloc_new W o⟩
    intro e1
    obtain ⟨_, inner, ho, _⟩ := h.1
    have := own_lt ho _ e1.symm
    exact absurd this (Nat.lt_irrefl _)
  · exact h2.2.1 p hp
theorem KP_tail {w : World} {u : Value} {Bs : List Int} {p : Nat × Obj} {P : List (Nat × Obj)} {W : World} (h : KP w u Bs (p :: P) W) : KP w u Bs P W := ⟨h.1, fun q hq => h.2.1 q (List.mem_cons_of_mem _ hq), h.2.2⟩
theorem KP_forget {w : World} {u : Value} {Bs Cs : List Int} {P : List (Nat × Obj)} {W : World} (h : KP w u Bs P W) (e : Cs = Bs) : KP w u Cs [] W := by
  subst e
  exact ⟨h.1, fun q hq => (by cases hq), h.2.2⟩
theorem row_int {W : World} {y : Nat} {L : List Int} {e : Nat} {fr : Nat × Nat} (h : W.heap[y]? = some (.cells (L.map (Value.int .i64)).toArray e fr)) (j : Nat) (hj : j < L.length) : W.cell? ⟨y, j, none⟩ = some (.int .i64 (L.getD j 0)) := by
  rw [cell_of_row _ _ _ _ _ _ h]
  simp [List.getD_eq_getElem?_getD, hj]
theorem six_le (a b c d e f : Int) (ha : a ≤ 9223372036854775807) (hb : b ≤ 9223372036854775807) (hc : c ≤ 9223372036854775807) (hd : d ≤ 9223372036854775807) (he : e ≤ 9223372036854775807) (hf : f ≤ 9223372036854775807) : ([a, b, c, d, e, f].flatMap V.vput).length ≤ 54 := by
  have h1 := V.vput_le a ha
  have h2 := V.vput_le b hb
  have h3 := V.vput_le c hc
  have h4 := V.vput_le d hd
  have h5 := V.vput_le e he
  have h6 := V.vput_le f hf
  simp only [List.flatMap_cons, List.flatMap_nil, List.length_append, List.length_nil]
  omega
set_option maxRecDepth 100000 in
set_option maxHeartbeats 40000000 in
theorem refwriteB_calls (A : Option Addr) (n c : Nat) (l : List Vr) (w : World) (hr : KVr.C w A n l) (hc : n ≤ c) (h8 : n ≤ 8) (hm : ∀ p ∈ l, mayV p = true) :
    Calls Try.prog 45 #[.slice A n c] w fun e w' => ∃ u, e = .returned u ∧ OB w' w.heap.size u (blockB l) ∧ Below w.heap.size w w' := by
  have HR := Aside0.mk hr
  have HM := Aside0.mk hm
  have HN := Aside0.mk hr.1
  clear hr hm
  go_enter Try.func45, Try.ntmps45
  go_wp2_with fail
  (with_reducible refine (V.refput_calls (n : Int) _ (by omega)).mono ?_)
  rintro e w1 ⟨v1, rfl, hO1, hb1⟩
  have HO1 := Aside0.mk hO1
  have HB1 := Aside0.mk hb1
  clear hO1 hb1
  go_wp2_with fail
  go_loopw [3, 4, 5] (fun v3 v4 v5 w' => ∃ k : Nat, k ≤ n ∧ v5 = .int .i64 k ∧ v4 = .string (lastK { data := #[] } (l.take k)) ∧ Aside0 (KP w v3 (V.vput (n : Int) ++ bytesW { data := #[] } (l.take k)) [] w')) (fun _ _ v5 _ => n - (intOf v5).toNat)
  case atStart => exact ⟨0, Nat.zero_le _, rfl, rfl, ⟨by simpa [bytesW] using HO1.out, fun _ h => (by cases h), HB1.out⟩⟩
  case round =>
    obtain ⟨k, hk, rfl, rfl, HK0⟩ := hrel
    by_cases hlt : k < n
    · obtain ⟨q, hq⟩ : ∃ q, l.getD k default = q := ⟨_, rfl⟩
      have hml := getD_mem l k (by rw [HN.out]; exact hlt)
      rw [hq] at hml
      have HMQ := Aside0.mk (HM.out _ hml)
      have HTK : Aside0 (l.take (k + 1) = l.take k ++ [q]) := ⟨by rw [take_getD l k (by rw [HN.out]; exact hlt), hq]⟩
      obtain ⟨ad, rfl, -⟩ := C_atVr HR.out k hlt
      have hX := C_atVr' (Kd.C_below HR.out HK0.out.2.2) k hlt q hq
      have hbl := bytesW_len (l.take k) { data := #[] } (fun p hp => HM.out p (List.mem_of_mem_take hp))
      rw [List.length_take] at hbl
      have hks := lastK_le (l.take k) { data := #[] } (by decide) (fun p hp => key_le (HM.out p (List.mem_of_mem_take hp)))
      generalize hLK : lastK { data := #[] } (l.take k) = key at *
      have HLK := Aside0.mk hLK
      obtain ⟨m, hmm⟩ : ∃ m, (V.vput (n : Int) ++ bytesW { data := #[] } (l.take k)).length = m := ⟨_, rfl⟩
      have hm4 : m ≤ 4000 := by
        rw [← hmm, List.length_append, vput_small n (by omega)]
        omega
      obtain ⟨A4, c4, rfl, hc4, -⟩ := OB_readn HK0.out.1 m hmm
      have hk92 := key_le HMQ.out
      obtain ⟨_, ⟨⟨⟨r1, r2⟩, ⟨r3, r4⟩⟩, ⟨r5, r6⟩⟩, ⟨r7, r8, r9⟩, r10, _⟩ := (mayV_iff _).1 HMQ.out
      obtain ⟨qk, qbr, qep, qsq, qf, qt, qv, qg⟩ := q
      simp only at hk92 r1 r2 r3 r4 r5 r6 r7 r8 r9 r10
      obtain ⟨p0, p1, p2, p3, p4, p5, p6, p7⟩ := hX
      simp only at p0 p1 p2 p3 p4 p5 p6 p7
      obtain ⟨Bs, hB⟩ : ∃ Bs, V.vput (n : Int) ++ bytesW { data := #[] } (l.take k) = Bs := ⟨_, rfl⟩
      rw [hB] at HK0 hmm
      have HM4 : Aside0 (Bs.length = m ∧ m ≤ 4000) := ⟨hmm, hm4⟩
      have HBB := Aside0.mk hB
      clear hml hbl hLK hmm hq hB
      have i1 : (k : Int) < (n : Int) := by omega
      have i2 : (0 : Int) ≤ (k : Int) := by omega
      have HP0 := Aside0.mk (KP_alloc HK0.out (vrBox qk qbr qep qsq qf qt qv qg))
      obtain ⟨w0, hw0⟩ : ∃ w0, wr.alloc (vrBox qk qbr qep qsq qf qt qv qg) = w0 := ⟨_, rfl⟩
      obtain ⟨x, hx⟩ : ∃ x, wr.heap.size = x := ⟨_, rfl⟩
      rw [hw0, hx] at HP0
      have hw0' : wr.alloc (.cells #[.string qk, .int .i64 qbr, .int .i64 qep, .int .i64 qsq, .int .i64 qf, .int .i64 qt, .string qv, .bool qg] 28) = w0 := hw0
      clear HK0
      go_wp2_with fail
      try rw [hw0']
      try rw [hx]
      clear p0 p1 p2 p3 p4 p5 p6 p7 hw0 hw0' hx
      have hcs := comS_le key qk
      obtain ⟨cn, hcn⟩ : ∃ cn, comS key qk = cn := ⟨_, rfl⟩
      rw [hcn] at hcs
      have HCN := Aside0.mk hcn
      have hcs1 : cn ≤ key.size := hcs.1
      have hcs2 : cn ≤ qk.size := hcs.2
      obtain ⟨SF, hSF⟩ : ∃ SF, qk.extract cn qk.size = SF := ⟨_, rfl⟩
      have HSF : Aside0 (sufS key qk = SF ∧ SF.size ≤ 92) := ⟨by unfold sufS; rw [HCN.out]; exact hSF, by rw [← hSF, ByteArray.size_extract]; omega⟩
      clear hcn hcs
      go_loopw [7] (fun v7 w' => ∃ t : Nat, t ≤ key.size ∧ t ≤ qk.size ∧ v7 = .int .i64 t ∧ Aside0 (t + comL (key.toList.drop t) (qk.toList.drop t) = cn) ∧ Aside0 (KP w (.slice A4 m c4) Bs [(x, vrB ⟨qk, qbr, qep, qsq, qf, qt, qv, qg⟩)] w')) (fun v7 _ => key.size - (intOf v7).toNat)
      case atStart => exact ⟨0, Nat.zero_le _, Nat.zero_le _, rfl, ⟨by rw [List.drop_zero, List.drop_zero, Nat.zero_add]; exact HCN.out⟩, HP0⟩
      case round =>
        clear HP0
        obtain ⟨t, ht1, ht2, rfl, HT, HP1⟩ := hrel
        have HP := Aside0.mk (KP_step HP1.out (below_drew1 (Below.refl _ _)))
        clear HP1
        have x0 := (vr_cells (HP.out.2.1 _ List.mem_cons_self).2).1
        have t0 : (0 : Int) ≤ (t : Int) := by omega
        have t9 : (t : Int) ≤ (qk.size : Int) := by omega
        by_cases hk1 : t < key.size
        · have j1 : (t : Int) < (key.size : Int) := by omega
          by_cases hk2 : t < qk.size
          · have j2 : (t : Int) < (qk.size : Int) := by omega
            have hi1 := idx_str key t hk1
            have hi2 := idx_str qk t hk2
            have hT := HT.out
            rw [com_in hk1 hk2] at hT
            generalize key.toList.getD t 0 = b1 at *
            generalize qk.toList.getD t 0 = b2 at *
            clear HT
            by_cases hb : b1 = b2
            · subst hb
              rw [if_pos rfl] at hT
              have HT := Aside0.mk hT
              have hself : (((b1.toNat : Nat) : Int) == ((b1.toNat : Nat) : Int)) = true := by simp
              clear hT
              go_wp2_with fail
              refine wp_region_held_drew (S := fun w' => w'.cell? ⟨x, 0, none⟩ = some (.string qk)) (by kernel_rfl) x0 (fun hHeld => ?_)
              (refine hd_take 0 (v := ?_) rfl (by kernel_rfl) (by kernel_rfl) (fun _ _ _ h => h) (by assumption) ?_ ?_; rotate_left; (intro w hSw; (try dsimp only at hSw); go_simp; first | done | with_reducible rfl); simp only [Act.put, List.setIfInBounds_toArray, List.set_cons_zero, List.set_cons_succ])
              (refine hd_take 1 (v := ?_) rfl (by kernel_rfl) (by kernel_rfl) (fun _ _ _ h => h) (by assumption) ?_ ?_; rotate_left; (intro w hSw; (try dsimp only at hSw); go_simp; first | done | with_reducible rfl); simp only [Act.put, List.setIfInBounds_toArray, List.set_cons_zero, List.set_cons_succ])
              (refine hd_take 2 (v := ?_) rfl (by kernel_rfl) (by kernel_rfl) (fun _ _ _ h => h) (by assumption) ?_ ?_; rotate_left; (intro w hSw; (try dsimp only at hSw); go_simp; first | done | with_reducible rfl); simp only [Act.put, List.setIfInBounds_toArray, List.set_cons_zero, List.set_cons_succ])
              (refine hd_take 3 (v := ?_) rfl (by kernel_rfl) (by kernel_rfl) (fun _ _ _ h => h) (by assumption) ?_ ?_; rotate_left; (intro w hSw; (try dsimp only at hSw); go_simp; first | done | with_reducible rfl); simp only [Act.put, List.setIfInBounds_toArray, List.set_cons_zero, List.set_cons_succ])
              (refine hd_take 4 (v := ?_) rfl (by kernel_rfl) (by kernel_rfl) (fun _ _ _ h => h) (by assumption) ?_ ?_; rotate_left; (intro w hSw; (try dsimp only at hSw); go_simp; first | done | with_reducible rfl); simp only [Act.put, List.setIfInBounds_toArray, List.set_cons_zero, List.set_cons_succ])
              (refine hd_take 5 (v := ?_) rfl (by kernel_rfl) (by kernel_rfl) (fun _ _ _ h => h) (by assumption) ?_ ?_; rotate_left; (intro w hSw; (try dsimp only at hSw); go_simp; first | done | with_reducible rfl); simp only [Act.put, List.setIfInBounds_toArray, List.set_cons_zero, List.set_cons_succ])
              (refine hd_take 6 (v := ?_) rfl (by kernel_rfl) (by kernel_rfl) (fun _ _ _ h => h) (by assumption) ?_ ?_; rotate_left; (intro w hSw; (try dsimp only at hSw); go_simp; first | done | with_reducible rfl); simp only [Act.put, List.setIfInBounds_toArray, List.set_cons_zero, List.set_cons_succ])
              (refine hd_take 7 (v := ?_) rfl (by kernel_rfl) (by kernel_rfl) (fun _ _ _ h => h) (by assumption) ?_ ?_; rotate_left; (intro w hSw; (try dsimp only at hSw); go_simp; first | done | with_reducible rfl); simp only [Act.put, List.setIfInBounds_toArray, List.set_cons_zero, List.set_cons_succ])
              (refine hd_take 8 (v := ?_) rfl (by kernel_rfl) (by kernel_rfl) (fun _ _ _ h => h) (by assumption) ?_ ?_; rotate_left; (intro w hSw; (try dsimp only at hSw); go_simp; first | done | with_reducible rfl); simp only [Act.put, List.setIfInBounds_toArray, List.set_cons_zero, List.set_cons_succ])
              (refine hd_take 9 (v := ?_) rfl (by kernel_rfl) (by kernel_rfl) (fun _ _ _ h => h) (by assumption) ?_ ?_; rotate_left; (intro w hSw; (try dsimp only at hSw); go_simp; first | done | with_reducible rfl); simp only [Act.put, List.setIfInBounds_toArray, List.set_cons_zero, List.set_cons_succ])
              (refine hd_take 10 (v := ?_) rfl (by kernel_rfl) (by kernel_rfl) (fun _ _ _ h => h) (by assumption) ?_ ?_; rotate_left; (intro w hSw; (try dsimp only at hSw); go_simp; first | done | with_reducible rfl); simp only [Act.put, List.setIfInBounds_toArray, List.set_cons_zero, List.set_cons_succ])
              (refine hd_take 11 (v := ?_) rfl (by kernel_rfl) (by kernel_rfl) (fun _ _ _ h => h) (by assumption) ?_ ?_; rotate_left; (intro w hSw; (try dsimp only at hSw); go_simp; first | done | with_reducible rfl); simp only [Act.put, List.setIfInBounds_toArray, List.set_cons_zero, List.set_cons_succ])
              (refine hd_take 12 (v := ?_) rfl (by kernel_rfl) (by kernel_rfl) (fun _ _ _ h => h) (by assumption) ?_ ?_; rotate_left; (intro w hSw; (try dsimp only at hSw); go_simp; first | done | with_reducible rfl); simp only [Act.put, List.setIfInBounds_toArray, List.set_cons_zero, List.set_cons_succ])
              (refine hd_take 13 (v := ?_) rfl (by kernel_rfl) (by kernel_rfl) (fun _ _ _ h => h) (by assumption) ?_ ?_; rotate_left; (intro w hSw; (try dsimp only at hSw); go_simp; first | done | with_reducible rfl); simp only [Act.put, List.setIfInBounds_toArray, List.set_cons_zero, List.set_cons_succ])
              (refine hd_take 14 (v := ?_) rfl (by kernel_rfl) (by kernel_rfl) (fun _ _ _ h => h) (by assumption) ?_ ?_; rotate_left; (intro w hSw; (try dsimp only at hSw); go_simp; first | done | with_reducible rfl); simp only [Act.put, List.setIfInBounds_toArray, List.set_cons_zero, List.set_cons_succ])
              (refine hd_take 15 (v := ?_) rfl (by kernel_rfl) (by kernel_rfl) (fun _ _ _ h => h) (by assumption) ?_ ?_; rotate_left; (intro w hSw; (try dsimp only at hSw); go_simp; first | done | with_reducible rfl); simp only [Act.put, List.setIfInBounds_toArray, List.set_cons_zero, List.set_cons_succ])
              (refine hd_take 16 (v := ?_) rfl (by kernel_rfl) (by kernel_rfl) (fun _ _ _ h => h) (by assumption) ?_ ?_; rotate_left; (intro w hSw; (try dsimp only at hSw); go_simp; first | done | with_reducible rfl); simp only [Act.put, List.setIfInBounds_toArray, List.set_cons_zero, List.set_cons_succ])
              (refine hd_take 17 (v := ?_) rfl (by kernel_rfl) (by kernel_rfl) (fun _ _ _ h => h) (by assumption) ?_ ?_; rotate_left; (intro w hSw; (try dsimp only at hSw); go_simp; first | done | with_reducible rfl); simp only [Act.put, List.setIfInBounds_toArray, List.set_cons_zero, List.set_cons_succ])
              (refine hd_take 18 (v := ?_) rfl (by kernel_rfl) (by kernel_rfl) (fun _ _ _ h => h) (by assumption) ?_ ?_; rotate_left; (intro w hSw; (try dsimp only at hSw); go_simp; first | done | with_reducible rfl); simp only [Act.put, List.setIfInBounds_toArray, List.set_cons_zero, List.set_cons_succ])
              (refine hd_take 19 (v := ?_) rfl (by kernel_rfl) (by kernel_rfl) (fun _ _ _ h => h) (by assumption) ?_ ?_; rotate_left; (intro w hSw; (try dsimp only at hSw); go_simp; first | done | with_reducible rfl); simp only [Act.put, List.setIfInBounds_toArray, List.set_cons_zero, List.set_cons_succ])
              (refine hd_take 20 (v := ?_) rfl (by kernel_rfl) (by kernel_rfl) (fun _ _ _ h => h) (by assumption) ?_ ?_; rotate_left; (intro w hSw; (try dsimp only at hSw); go_simp; first | done | with_reducible rfl); simp only [Act.put, List.setIfInBounds_toArray, List.set_cons_zero, List.set_cons_succ])
              refine wpAnyH_done (by kernel_rfl) ?_ _
              go_wp2
              go_roundw
              case rel => exact ⟨t + 1, hk1, hk2, rfl, ⟨by have := HT.out; omega⟩, HP⟩
              case measure => simp [intOf]; omega
            · rw [if_neg hb, Nat.add_zero] at hT
              have hne : (((b1.toNat : Nat) : Int) == ((b2.toNat : Nat) : Int)) = false := by
                rw [beq_eq_false_iff_ne]
                intro e
                exact hb (UInt8.toNat_inj.1 (by omega))
              have HTC := Aside0.mk hT
              clear hb hT
              go_wp2_with fail
              refine wp_region_held_drew (S := fun w' => w'.cell? ⟨x, 0, none⟩ = some (.string qk)) (by kernel_rfl) x0 (fun hHeld => ?_)
              (refine hd_take 0 (v := ?_) rfl (by kernel_rfl) (by kernel_rfl) (fun _ _ _ h => h) (by assumption) ?_ ?_; rotate_left; (intro w hSw; (try dsimp only at hSw); go_simp; first | done | with_reducible rfl); simp only [Act.put, List.setIfInBounds_toArray, List.set_cons_zero, List.set_cons_succ])
              (refine hd_take 1 (v := ?_) rfl (by kernel_rfl) (by kernel_rfl) (fun _ _ _ h => h) (by assumption) ?_ ?_; rotate_left; (intro w hSw; (try dsimp only at hSw); go_simp; first | done | with_reducible rfl); simp only [Act.put, List.setIfInBounds_toArray, List.set_cons_zero, List.set_cons_succ])
              (refine hd_take 2 (v := ?_) rfl (by kernel_rfl) (by kernel_rfl) (fun _ _ _ h => h) (by assumption) ?_ ?_; rotate_left; (intro w hSw; (try dsimp only at hSw); go_simp; first | done | with_reducible rfl); simp only [Act.put, List.setIfInBounds_toArray, List.set_cons_zero, List.set_cons_succ])
              (refine hd_take 3 (v := ?_) rfl (by kernel_rfl) (by kernel_rfl) (fun _ _ _ h => h) (by assumption) ?_ ?_; rotate_left; (intro w hSw; (try dsimp only at hSw); go_simp; first | done | with_reducible rfl); simp only [Act.put, List.setIfInBounds_toArray, List.set_cons_zero, List.set_cons_succ])
              (refine hd_take 4 (v := ?_) rfl (by kernel_rfl) (by kernel_rfl) (fun _ _ _ h => h) (by assumption) ?_ ?_; rotate_left; (intro w hSw; (try dsimp only at hSw); go_simp; first | done | with_reducible rfl); simp only [Act.put, List.setIfInBounds_toArray, List.set_cons_zero, List.set_cons_succ])
              (refine hd_take 5 (v := ?_) rfl (by kernel_rfl) (by kernel_rfl) (fun _ _ _ h => h) (by assumption) ?_ ?_; rotate_left; (intro w hSw; (try dsimp only at hSw); go_simp; first | done | with_reducible rfl); simp only [Act.put, List.setIfInBounds_toArray, List.set_cons_zero, List.set_cons_succ])
              (refine hd_take 6 (v := ?_) rfl (by kernel_rfl) (by kernel_rfl) (fun _ _ _ h => h) (by assumption) ?_ ?_; rotate_left; (intro w hSw; (try dsimp only at hSw); go_simp; first | done | with_reducible rfl); simp only [Act.put, List.setIfInBounds_toArray, List.set_cons_zero, List.set_cons_succ])
              (refine hd_take 7 (v := ?_) rfl (by kernel_rfl) (by kernel_rfl) (fun _ _ _ h => h) (by assumption) ?_ ?_; rotate_left; (intro w hSw; (try dsimp only at hSw); go_simp; first | done | with_reducible rfl); simp only [Act.put, List.setIfInBounds_toArray, List.set_cons_zero, List.set_cons_succ])
              (refine hd_take 8 (v := ?_) rfl (by kernel_rfl) (by kernel_rfl) (fun _ _ _ h => h) (by assumption) ?_ ?_; rotate_left; (intro w hSw; (try dsimp only at hSw); go_simp; first | done | with_reducible rfl); simp only [Act.put, List.setIfInBounds_toArray, List.set_cons_zero, List.set_cons_succ])
              (refine hd_take 9 (v := ?_) rfl (by kernel_rfl) (by kernel_rfl) (fun _ _ _ h => h) (by assumption) ?_ ?_; rotate_left; (intro w hSw; (try dsimp only at hSw); go_simp; first | done | with_reducible rfl); simp only [Act.put, List.setIfInBounds_toArray, List.set_cons_zero, List.set_cons_succ])
              (refine hd_take 10 (v := ?_) rfl (by kernel_rfl) (by kernel_rfl) (fun _ _ _ h => h) (by assumption) ?_ ?_; rotate_left; (intro w hSw; (try dsimp only at hSw); go_simp; first | done | with_reducible rfl); simp only [Act.put, List.setIfInBounds_toArray, List.set_cons_zero, List.set_cons_succ])
              (refine hd_take 11 (v := ?_) rfl (by kernel_rfl) (by kernel_rfl) (fun _ _ _ h => h) (by assumption) ?_ ?_; rotate_left; (intro w hSw; (try dsimp only at hSw); go_simp; first | done | with_reducible rfl); simp only [Act.put, List.setIfInBounds_toArray, List.set_cons_zero, List.set_cons_succ])
              (refine hd_take 12 (v := ?_) rfl (by kernel_rfl) (by kernel_rfl) (fun _ _ _ h => h) (by assumption) ?_ ?_; rotate_left; (intro w hSw; (try dsimp only at hSw); go_simp; first | done | with_reducible rfl); simp only [Act.put, List.setIfInBounds_toArray, List.set_cons_zero, List.set_cons_succ])
              (refine hd_take 13 (v := ?_) rfl (by kernel_rfl) (by kernel_rfl) (fun _ _ _ h => h) (by assumption) ?_ ?_; rotate_left; (intro w hSw; (try dsimp only at hSw); go_simp; first | done | with_reducible rfl); simp only [Act.put, List.setIfInBounds_toArray, List.set_cons_zero, List.set_cons_succ])
              (refine hd_take 14 (v := ?_) rfl (by kernel_rfl) (by kernel_rfl) (fun _ _ _ h => h) (by assumption) ?_ ?_; rotate_left; (intro w hSw; (try dsimp only at hSw); go_simp; first | done | with_reducible rfl); simp only [Act.put, List.setIfInBounds_toArray, List.set_cons_zero, List.set_cons_succ])
              (refine hd_take 15 (v := ?_) rfl (by kernel_rfl) (by kernel_rfl) (fun _ _ _ h => h) (by assumption) ?_ ?_; rotate_left; (intro w hSw; (try dsimp only at hSw); go_simp; first | done | with_reducible rfl); simp only [Act.put, List.setIfInBounds_toArray, List.set_cons_zero, List.set_cons_succ])
              (refine hd_take 16 (v := ?_) rfl (by kernel_rfl) (by kernel_rfl) (fun _ _ _ h => h) (by assumption) ?_ ?_; rotate_left; (intro w hSw; (try dsimp only at hSw); go_simp; first | done | with_reducible rfl); simp only [Act.put, List.setIfInBounds_toArray, List.set_cons_zero, List.set_cons_succ])
              (refine hd_take 17 (v := ?_) rfl (by kernel_rfl) (by kernel_rfl) (fun _ _ _ h => h) (by assumption) ?_ ?_; rotate_left; (intro w hSw; (try dsimp only at hSw); go_simp; first | done | with_reducible rfl); simp only [Act.put, List.setIfInBounds_toArray, List.set_cons_zero, List.set_cons_succ])
              (refine hd_take 18 (v := ?_) rfl (by kernel_rfl) (by kernel_rfl) (fun _ _ _ h => h) (by assumption) ?_ ?_; rotate_left; (intro w hSw; (try dsimp only at hSw); go_simp; first | done | with_reducible rfl); simp only [Act.put, List.setIfInBounds_toArray, List.set_cons_zero, List.set_cons_succ])
              (refine hd_take 19 (v := ?_) rfl (by kernel_rfl) (by kernel_rfl) (fun _ _ _ h => h) (by assumption) ?_ ?_; rotate_left; (intro w hSw; (try dsimp only at hSw); go_simp; first | done | with_reducible rfl); simp only [Act.put, List.setIfInBounds_toArray, List.set_cons_zero, List.set_cons_succ])
              (refine hd_take 20 (v := ?_) rfl (by kernel_rfl) (by kernel_rfl) (fun _ _ _ h => h) (by assumption) ?_ ?_; rotate_left; (intro w hSw; (try dsimp only at hSw); go_simp; first | done | with_reducible rfl); simp only [Act.put, List.setIfInBounds_toArray, List.set_cons_zero, List.set_cons_succ])
              refine wpAnyH_done (by kernel_rfl) ?_ _
              have hT := HTC.out
              subst hT
              clear HTC
              have ht92 : t ≤ 92 := by omega
              cases qg with
              | false =>
                have HGI : Aside0 (goneI false = 0) := ⟨rfl⟩
                obtain ⟨x0, x1, x2, x3, x4, x5, x6, x7⟩ := vr_cells (HP.out.2.1 _ List.mem_cons_self).2
                go_wp2_with fail
                (with_reducible refine (V.refput_calls (t : Int) _ (by omega)).mono ?_)
                rintro e w2 ⟨v2, rfl, hO2, hb2⟩
                obtain ⟨A2, c2, rfl, hc2, hC2⟩ := OB_readn hO2 1 (by rw [vput_small t (by omega)])
                have HC2 := Aside0.mk hC2
                have HPa := Aside0.mk (KP_step HP.out hb2)
                clear hC2 hO2 hb2 HP x0 x1 x2 x3 x4 x5 x6 x7
                go_wp2_with ((with_reducible refine gate_dst (N := 50) rfl ?_); refine app_bytes rfl rfl rfl rfl HPa.out.1 HC2.out HPa.out.2.2.size (by have := HM4.out; omega) ?_; intro v3 w3 hO3 hb3 hg3 hat3; have HPb := Aside0.mk (KP_app HPa.out hO3 hb3 hg3 hat3); obtain ⟨A3b, c3b, rfl, hc3b, -⟩ := OB_readn hO3 (m + 1) (by rw [List.length_append, HM4.out.1, vput_small t (by omega)]); obtain ⟨x0, x1, x2, x3, x4, x5, x6, x7⟩ := vr_cells (HPb.out.2.1 _ List.mem_cons_self).2; clear hO3 hb3 hg3 hat3)
                clear HPa HC2
                have hsf : SF.size ≤ 92 := HSF.out.2
                (with_reducible refine (V.reftext_calls SF _ (by omega)).mono ?_)
                rintro e w4 ⟨v4, rfl, hO4, hb4⟩
                obtain ⟨n4, hn4⟩ : ∃ n4, (V.vtext SF).length = n4 := ⟨_, rfl⟩
                have hn4l : n4 ≤ 110 := by rw [← hn4, V.vtext_len]; have := V.vput_le (SF.size : Int) (by omega); omega
                obtain ⟨A4, c4, rfl, hc4, hC4⟩ := OB_readn hO4 n4 hn4
                have HC4 := Aside0.mk hC4
                have HN4 := Aside0.mk hn4
                have HPc := Aside0.mk (KP_step HPb.out hb4)
                have hl4 : (Bs ++ V.vput (t : Int)).length ≤ 6000 := by rw [List.length_append, HM4.out.1, vput_small t (by omega)]; have := HM4.out.2; omega
                clear hC4 hO4 hb4 HPb hn4 x0 x1 x2 x3 x4 x5 x6 x7
                go_wp2_with ((with_reducible refine gate_dst (N := 57) rfl ?_); refine app_bytes rfl rfl rfl rfl HPc.out.1 HC4.out HPc.out.2.2.size (by omega) ?_; intro v5 w5 hO5 hb5 hg5 hat5; have HPd := Aside0.mk (KP_app HPc.out hO5 hb5 hg5 hat5); obtain ⟨A5, c5, rfl, hc5, -⟩ := OB_readn hO5 (m + 1 + n4) (by rw [List.length_append, List.length_append, HM4.out.1, HN4.out, vput_small t (by omega)]); obtain ⟨x0, x1, x2, x3, x4, x5, x6, x7⟩ := vr_cells (HPd.out.2.1 _ List.mem_cons_self).2; clear hO5 hb5 hg5 hat5)
                have HPe := Aside0.mk (KP_alloc HPd.out (.cells #[.int .i64 qbr, .int .i64 qep, .int .i64 qsq, .int .i64 qf, .int .i64 (qt - qf), .int .i64 0] 3))
                obtain ⟨w6, hw6⟩ : ∃ w6, w5.alloc (.cells #[.int .i64 qbr, .int .i64 qep, .int .i64 qsq, .int .i64 qf, .int .i64 (qt - qf), .int .i64 0] 3) = w6 := ⟨_, rfl⟩
                obtain ⟨y, hy⟩ : ∃ y, w5.heap.size = y := ⟨_, rfl⟩
                rw [hw6, hy] at HPe
                rw [hw6, hy]
                obtain ⟨L, hL⟩ : ∃ L, [qbr, qep, qsq, qf, qt - qf, 0] = L := ⟨_, rfl⟩
                have HLL : Aside0 (L.length = 6 ∧ (∀ z ∈ L, z ≤ 9223372036854775807)) := ⟨by
                  rw [← hL]
                  refine ⟨rfl, fun z hz => ?_⟩
                  simp only [List.mem_cons, List.not_mem_nil, or_false] at hz
                  rcases hz with rfl | rfl | rfl | rfl | rfl | rfl <;> omega⟩
                rw [show (Obj.cells #[.int .i64 qbr, .int .i64 qep, .int .i64 qsq, .int .i64 qf, .int .i64 (qt - qf), .int .i64 0] 3) = Obj.cells (L.map (Value.int .i64)).toArray 3 (0, 0) by rw [← hL]; rfl] at HPe
                have HLE := Aside0.mk hL
                have HHL : Aside0 (∀ j, ((L.take j).flatMap V.vput).length ≤ 54) := ⟨fun j => Nat.le_trans (flat_le V.vput L j) (by rw [← hL]; exact six_le _ _ _ _ _ _ (by omega) (by omega) (by omega) (by omega) (by omega) (by omega))⟩
                obtain ⟨B5, hB5⟩ : ∃ B5, (Bs ++ V.vput (t : Int)) ++ V.vtext SF = B5 := ⟨_, rfl⟩
                rw [hB5] at HPe
                have HB5 := Aside0.mk hB5
                have HM5 : Aside0 (B5.length = m + 1 + n4) := ⟨by rw [← hB5, List.length_append, List.length_append, HM4.out.1, HN4.out, vput_small t (by omega)]⟩
                have hm6 : m + 1 + n4 ≤ 5200 := by have := HM4.out.2; omega
                clear hL hw6 hy hB5 HPc HPd HC4 x0 x1 x2 x3 x4 x5 x6 x7
                go_wp2_with fail
                go_loopw [3, 10] (fun v3 v10 w' => ∃ j : Nat, j ≤ 6 ∧ v10 = .int .i64 j ∧ Aside0 (KP w v3 (B5 ++ (L.take j).flatMap V.vput) ((y, .cells (L.map (Value.int .i64)).toArray 3 (0, 0)) :: [(x, vrB ⟨qk, qbr, qep, qsq, qf, qt, qv, false⟩)]) w')) (fun _ v10 _ => 6 - (intOf v10).toNat)
                case atStart => exact ⟨0, by omega, rfl, ⟨by simpa using HPe.out⟩⟩
                case round =>
                  clear HPe
                  obtain ⟨j, hj, rfl, HJ⟩ := hrel
                  by_cases hj6 : j < 6
                  · have p0 := row_int (HJ.out.2.1 _ List.mem_cons_self).2 j (by rw [HLL.out.1]; exact hj6)
                    have hfl := flat_take V.vput L 0 j (by rw [HLL.out.1]; exact hj6)
                    have hmem : L.getD j 0 ≤ 9223372036854775807 := by
                      have e : L.getD j 0 = L[j]'(by rw [HLL.out.1]; exact hj6) := by simp [List.getD_eq_getElem?_getD, HLL.out.1, hj6]
                      rw [e]
                      exact HLL.out.2 _ (List.getElem_mem _)
                    have hll := HHL.out j
                    generalize L.getD j 0 = a at *
                    generalize (L.take j).flatMap V.vput = mid at *
                    have HFL := Aside0.mk hfl
                    have j1 : (0 : Int) ≤ (j : Int) := by omega
                    have j2 : (j : Int) < 6 := by omega
                    clear hfl
                    go_wp2_with fail
                    (with_reducible refine (V.refput_calls a _ hmem).mono ?_)
                    rintro e w7 ⟨v7, rfl, hO7, hb7⟩
                    have hvl := V.vput_le a hmem
                    obtain ⟨n7, hn7⟩ : ∃ n7, (V.vput a).length = n7 := ⟨_, rfl⟩
                    rw [hn7] at hvl
                    obtain ⟨A7, c7, rfl, hc7, hC7⟩ := OB_readn hO7 n7 hn7
                    have HC7 := Aside0.mk hC7
                    have HJ7 := Aside0.mk (KP_step HJ.out hb7)
                    clear hO7 hC7 hb7 HJ p0 hn7
                    go_wp2_with ((with_reducible refine gate_dst (N := 93) rfl ?_); refine app_bytes rfl rfl rfl rfl HJ7.out.1 HC7.out HJ7.out.2.2.size (by rw [List.length_append, HM5.out]; omega) ?_; intro v8 w8 hO8 hb8 hg8 hat8; have HJ8 := Aside0.mk (KP_app HJ7.out hO8 hb8 hg8 hat8); clear hO8 hb8 hg8 hat8)
                    go_roundw
                    case rel => exact ⟨j + 1, hj6, rfl, ⟨by rw [HFL.out, ← List.append_assoc]; exact HJ8.out⟩⟩
                    case measure => simp [intOf]; omega
                  · obtain rfl : j = 6 := by omega
                    have hta : L.take 6 = L := List.take_of_length_le (by rw [HLL.out.1]; omega)
                    have hJ := HJ.out
                    have hll := HHL.out 6
                    rw [hta] at hJ hll
                    have HK := Aside0.mk (KP_tail hJ)
                    have hm6l : (B5 ++ L.flatMap V.vput).length ≤ 6000 := by rw [List.length_append, HM5.out]; omega
                    obtain ⟨x0, x1, x2, x3, x4, x5, x6, x7⟩ := vr_cells (HK.out.2.1 _ List.mem_cons_self).2
                    clear hta hJ hll HJ
                    go_wp2_with fail
                    (with_reducible refine (V.reftext_calls qv _ (by omega)).mono ?_)
                    rintro e w7 ⟨v7, rfl, hO7, hb7⟩
                    obtain ⟨n7, hn7⟩ : ∃ n7, (V.vtext qv).length = n7 := ⟨_, rfl⟩
                    have hn7l : n7 ≤ 220 := by rw [← hn7, V.vtext_len]; have := V.vput_le (qv.size : Int) (by omega); omega
                    obtain ⟨A7, c7, rfl, hc7, hC7⟩ := OB_readn hO7 n7 hn7
                    have HC7 := Aside0.mk hC7
                    have HK7 := Aside0.mk (KP_step HK.out hb7)
                    clear hO7 hC7 hb7 HK hn7 x0 x1 x2 x3 x4 x5 x6 x7
                    go_wp2_with ((with_reducible refine gate_dst (N := 98) rfl ?_); refine app_bytes rfl rfl rfl rfl HK7.out.1 HC7.out HK7.out.2.2.size (by omega) ?_; intro v8 w8 hO8 hb8 hg8 hat8; have HK8 := Aside0.mk (KP_app HK7.out hO8 hb8 hg8 hat8); obtain ⟨x0, x1, x2, x3, x4, x5, x6, x7⟩ := vr_cells (HK8.out.2.1 _ List.mem_cons_self).2; clear hO8 hb8 hg8 hat8)
                    go_roundw
                    case rel =>
                      refine ⟨k + 1, hlt, rfl, ?_, ⟨KP_forget HK8.out ?_⟩⟩
                      · rw [HTK.out, lastK_snoc]
                      · rw [HTK.out, bytesW_snoc, HLK.out, ← List.append_assoc, HBB.out]
                        unfold bytesP
                        simp only
                        rw [HCN.out, HSF.out.1, HGI.out, HLE.out, ← HB5.out]
                        simp only [List.append_assoc]
                    case measure => simp [intOf]; omega
              | true =>
                have HGI : Aside0 (goneI true = 1) := ⟨rfl⟩
                obtain ⟨x0, x1, x2, x3, x4, x5, x6, x7⟩ := vr_cells (HP.out.2.1 _ List.mem_cons_self).2
                go_wp2_with fail
                (with_reducible refine (V.refput_calls (t : Int) _ (by omega)).mono ?_)
                rintro e w2 ⟨v2, rfl, hO2, hb2⟩
                obtain ⟨A2, c2, rfl, hc2, hC2⟩ := OB_readn hO2 1 (by rw [vput_small t (by omega)])
                have HC2 := Aside0.mk hC2
                have HPa := Aside0.mk (KP_step HP.out hb2)
                clear hC2 hO2 hb2 HP x0 x1 x2 x3 x4 x5 x6 x7
                go_wp2_with ((with_reducible refine gate_dst (N := 50) rfl ?_); refine app_bytes rfl rfl rfl rfl HPa.out.1 HC2.out HPa.out.2.2.size (by have := HM4.out; omega) ?_; intro v3 w3 hO3 hb3 hg3 hat3; have HPb := Aside0.mk (KP_app HPa.out hO3 hb3 hg3 hat3); obtain ⟨A3b, c3b, rfl, hc3b, -⟩ := OB_readn hO3 (m + 1) (by rw [List.length_append, HM4.out.1, vput_small t (by omega)]); obtain ⟨x0, x1, x2, x3, x4, x5, x6, x7⟩ := vr_cells (HPb.out.2.1 _ List.mem_cons_self).2; clear hO3 hb3 hg3 hat3)
                clear HPa HC2
                have hsf : SF.size ≤ 92 := HSF.out.2
                (with_reducible refine (V.reftext_calls SF _ (by omega)).mono ?_)
                rintro e w4 ⟨v4, rfl, hO4, hb4⟩
                obtain ⟨n4, hn4⟩ : ∃ n4, (V.vtext SF).length = n4 := ⟨_, rfl⟩
                have hn4l : n4 ≤ 110 := by rw [← hn4, V.vtext_len]; have := V.vput_le (SF.size : Int) (by omega); omega
                obtain ⟨A4, c4, rfl, hc4, hC4⟩ := OB_readn hO4 n4 hn4
                have HC4 := Aside0.mk hC4
                have HN4 := Aside0.mk hn4
                have HPc := Aside0.mk (KP_step HPb.out hb4)
                have hl4 : (Bs ++ V.vput (t : Int)).length ≤ 6000 := by rw [List.length_append, HM4.out.1, vput_small t (by omega)]; have := HM4.out.2; omega
                clear hC4 hO4 hb4 HPb hn4 x0 x1 x2 x3 x4 x5 x6 x7
                go_wp2_with ((with_reducible refine gate_dst (N := 57) rfl ?_); refine app_bytes rfl rfl rfl rfl HPc.out.1 HC4.out HPc.out.2.2.size (by omega) ?_; intro v5 w5 hO5 hb5 hg5 hat5; have HPd := Aside0.mk (KP_app HPc.out hO5 hb5 hg5 hat5); obtain ⟨A5, c5, rfl, hc5, -⟩ := OB_readn hO5 (m + 1 + n4) (by rw [List.length_append, List.length_append, HM4.out.1, HN4.out, vput_small t (by omega)]); obtain ⟨x0, x1, x2, x3, x4, x5, x6, x7⟩ := vr_cells (HPd.out.2.1 _ List.mem_cons_self).2; clear hO5 hb5 hg5 hat5)
                have HPe := Aside0.mk (KP_alloc HPd.out (.cells #[.int .i64 qbr, .int .i64 qep, .int .i64 qsq, .int .i64 qf, .int .i64 (qt - qf), .int .i64 1] 3))
                obtain ⟨w6, hw6⟩ : ∃ w6, w5.alloc (.cells #[.int .i64 qbr, .int .i64 qep, .int .i64 qsq, .int .i64 qf, .int .i64 (qt - qf), .int .i64 1] 3) = w6 := ⟨_, rfl⟩
                obtain ⟨y, hy⟩ : ∃ y, w5.heap.size = y := ⟨_, rfl⟩
                rw [hw6, hy] at HPe
                rw [hw6, hy]
                obtain ⟨L, hL⟩ : ∃ L, [qbr, qep, qsq, qf, qt - qf, 1] = L := ⟨_, rfl⟩
                have HLL : Aside0 (L.length = 6 ∧ (∀ z ∈ L, z ≤ 9223372036854775807)) := ⟨by
                  rw [← hL]
                  refine ⟨rfl, fun z hz => ?_⟩
                  simp only [List.mem_cons, List.not_mem_nil, or_false] at hz
                  rcases hz with rfl | rfl | rfl | rfl | rfl | rfl <;> omega⟩
                rw [show (Obj.cells #[.int .i64 qbr, .int .i64 qep, .int .i64 qsq, .int .i64 qf, .int .i64 (qt - qf), .int .i64 1] 3) = Obj.cells (L.map (Value.int .i64)).toArray 3 (0, 0) by rw [← hL]; rfl] at HPe
                have HLE := Aside0.mk hL
                have HHL : Aside0 (∀ j, ((L.take j).flatMap V.vput).length ≤ 54) := ⟨fun j => Nat.le_trans (flat_le V.vput L j) (by rw [← hL]; exact six_le _ _ _ _ _ _ (by omega) (by omega) (by omega) (by omega) (by omega) (by omega))⟩
                obtain ⟨B5, hB5⟩ : ∃ B5, (Bs ++ V.vput (t : Int)) ++ V.vtext SF = B5 := ⟨_, rfl⟩
                rw [hB5] at HPe
                have HB5 := Aside0.mk hB5
                have HM5 : Aside0 (B5.length = m + 1 + n4) := ⟨by rw [← hB5, List.length_append, List.length_append, HM4.out.1, HN4.out, vput_small t (by omega)]⟩
                have hm6 : m + 1 + n4 ≤ 5200 := by have := HM4.out.2; omega
                clear hL hw6 hy hB5 HPc HPd HC4 x0 x1 x2 x3 x4 x5 x6 x7
                go_wp2_with fail
                go_loopw [3, 10] (fun v3 v10 w' => ∃ j : Nat, j ≤ 6 ∧ v10 = .int .i64 j ∧ Aside0 (KP w v3 (B5 ++ (L.take j).flatMap V.vput) ((y, .cells (L.map (Value.int .i64)).toArray 3 (0, 0)) :: [(x, vrB ⟨qk, qbr, qep, qsq, qf, qt, qv, true⟩)]) w')) (fun _ v10 _ => 6 - (intOf v10).toNat)
                case atStart => exact ⟨0, by omega, rfl, ⟨by simpa using HPe.out⟩⟩
                case round =>
                  clear HPe
                  obtain ⟨j, hj, rfl, HJ⟩ := hrel
                  by_cases hj6 : j < 6
                  · have p0 := row_int (HJ.out.2.1 _ List.mem_cons_self).2 j (by rw [HLL.out.1]; exact hj6)
                    have hfl := flat_take V.vput L 0 j (by rw [HLL.out.1]; exact hj6)
                    have hmem : L.getD j 0 ≤ 9223372036854775807 := by
                      have e : L.getD j 0 = L[j]'(by rw [HLL.out.1]; exact hj6) := by simp [List.getD_eq_getElem?_getD, HLL.out.1, hj6]
                      rw [e]
                      exact HLL.out.2 _ (List.getElem_mem _)
                    have hll := HHL.out j
                    generalize L.getD j 0 = a at *
                    generalize (L.take j).flatMap V.vput = mid at *
                    have HFL := Aside0.mk hfl
                    have j1 : (0 : Int) ≤ (j : Int) := by omega
                    have j2 : (j : Int) < 6 := by omega
                    clear hfl
                    go_wp2_with fail
                    (with_reducible refine (V.refput_calls a _ hmem).mono ?_)
                    rintro e w7 ⟨v7, rfl, hO7, hb7⟩
                    have hvl := V.vput_le a hmem
                    obtain ⟨n7, hn7⟩ : ∃ n7, (V.vput a).length = n7 := ⟨_, rfl⟩
                    rw [hn7] at hvl
                    obtain ⟨A7, c7, rfl, hc7, hC7⟩ := OB_readn hO7 n7 hn7
                    have HC7 := Aside0.mk hC7
                    have HJ7 := Aside0.mk (KP_step HJ.out hb7)
                    clear hO7 hC7 hb7 HJ p0 hn7
                    go_wp2_with ((with_reducible refine gate_dst (N := 93) rfl ?_); refine app_bytes rfl rfl rfl rfl HJ7.out.1 HC7.out HJ7.out.2.2.size (by rw [List.length_append, HM5.out]; omega) ?_; intro v8 w8 hO8 hb8 hg8 hat8; have HJ8 := Aside0.mk (KP_app HJ7.out hO8 hb8 hg8 hat8); clear hO8 hb8 hg8 hat8)
                    go_roundw
                    case rel => exact ⟨j + 1, hj6, rfl, ⟨by rw [HFL.out, ← List.append_assoc]; exact HJ8.out⟩⟩
                    case measure => simp [intOf]; omega
                  · obtain rfl : j = 6 := by omega
                    have hta : L.take 6 = L := List.take_of_length_le (by rw [HLL.out.1]; omega)
                    have hJ := HJ.out
                    have hll := HHL.out 6
                    rw [hta] at hJ hll
                    have HK := Aside0.mk (KP_tail hJ)
                    have hm6l : (B5 ++ L.flatMap V.vput).length ≤ 6000 := by rw [List.length_append, HM5.out]; omega
                    obtain ⟨x0, x1, x2, x3, x4, x5, x6, x7⟩ := vr_cells (HK.out.2.1 _ List.mem_cons_self).2
                    clear hta hJ hll HJ
                    go_wp2_with fail
                    (with_reducible refine (V.reftext_calls qv _ (by omega)).mono ?_)
                    rintro e w7 ⟨v7, rfl, hO7, hb7⟩
                    obtain ⟨n7, hn7⟩ : ∃ n7, (V.vtext qv).length = n7 := ⟨_, rfl⟩
                    have hn7l : n7 ≤ 220 := by rw [← hn7, V.vtext_len]; have := V.vput_le (qv.size : Int) (by omega); omega
                    obtain ⟨A7, c7, rfl, hc7, hC7⟩ := OB_readn hO7 n7 hn7
                    have HC7 := Aside0.mk hC7
                    have HK7 := Aside0.mk (KP_step HK.out hb7)
                    clear hO7 hC7 hb7 HK hn7 x0 x1 x2 x3 x4 x5 x6 x7
                    go_wp2_with ((with_reducible refine gate_dst (N := 98) rfl ?_); refine app_bytes rfl rfl rfl rfl HK7.out.1 HC7.out HK7.out.2.2.size (by omega) ?_; intro v8 w8 hO8 hb8 hg8 hat8; have HK8 := Aside0.mk (KP_app HK7.out hO8 hb8 hg8 hat8); obtain ⟨x0, x1, x2, x3, x4, x5, x6, x7⟩ := vr_cells (HK8.out.2.1 _ List.mem_cons_self).2; clear hO8 hb8 hg8 hat8)
                    go_roundw
                    case rel =>
                      refine ⟨k + 1, hlt, rfl, ?_, ⟨KP_forget HK8.out ?_⟩⟩
                      · rw [HTK.out, lastK_snoc]
                      · rw [HTK.out, bytesW_snoc, HLK.out, ← List.append_assoc, HBB.out]
                        unfold bytesP
                        simp only
                        rw [HCN.out, HSF.out.1, HGI.out, HLE.out, ← HB5.out]
                        simp only [List.append_assoc]
                    case measure => simp [intOf]; omega
          · have j2 : ¬ (t : Int) < (qk.size : Int) := by omega
            have hT := HT.out
            rw [com_out (.inr (by omega)), Nat.add_zero] at hT
            have HTC := Aside0.mk hT
            clear HT hT
            go_wp2_with fail
            refine wp_region_held_drew (S := fun w' => w'.cell? ⟨x, 0, none⟩ = some (.string qk)) (by kernel_rfl) x0 (fun hHeld => ?_)
            (refine hd_take 0 (v := ?_) rfl (by kernel_rfl) (by kernel_rfl) (fun _ _ _ h => h) (by assumption) ?_ ?_; rotate_left; (intro w hSw; (try dsimp only at hSw); go_simp; first | done | with_reducible rfl); simp only [Act.put, List.setIfInBounds_toArray, List.set_cons_zero, List.set_cons_succ])
            (refine hd_take 1 (v := ?_) rfl (by kernel_rfl) (by kernel_rfl) (fun _ _ _ h => h) (by assumption) ?_ ?_; rotate_left; (intro w hSw; (try dsimp only at hSw); go_simp; first | done | with_reducible rfl); simp only [Act.put, List.setIfInBounds_toArray, List.set_cons_zero, List.set_cons_succ])
            (refine hd_take 2 (v := ?_) rfl (by kernel_rfl) (by kernel_rfl) (fun _ _ _ h => h) (by assumption) ?_ ?_; rotate_left; (intro w hSw; (try dsimp only at hSw); go_simp; first | done | with_reducible rfl); simp only [Act.put, List.setIfInBounds_toArray, List.set_cons_zero, List.set_cons_succ])
            (refine hd_take 3 (v := ?_) rfl (by kernel_rfl) (by kernel_rfl) (fun _ _ _ h => h) (by assumption) ?_ ?_; rotate_left; (intro w hSw; (try dsimp only at hSw); go_simp; first | done | with_reducible rfl); simp only [Act.put, List.setIfInBounds_toArray, List.set_cons_zero, List.set_cons_succ])
            (refine hd_take 4 (v := ?_) rfl (by kernel_rfl) (by kernel_rfl) (fun _ _ _ h => h) (by assumption) ?_ ?_; rotate_left; (intro w hSw; (try dsimp only at hSw); go_simp; first | done | with_reducible rfl); simp only [Act.put, List.setIfInBounds_toArray, List.set_cons_zero, List.set_cons_succ])
            (refine hd_take 5 (v := ?_) rfl (by kernel_rfl) (by kernel_rfl) (fun _ _ _ h => h) (by assumption) ?_ ?_; rotate_left; (intro w hSw; (try dsimp only at hSw); go_simp; first | done | with_reducible rfl); simp only [Act.put, List.setIfInBounds_toArray, List.set_cons_zero, List.set_cons_succ])
            (refine hd_take 6 (v := ?_) rfl (by kernel_rfl) (by kernel_rfl) (fun _ _ _ h => h) (by assumption) ?_ ?_; rotate_left; (intro w hSw; (try dsimp only at hSw); go_simp; first | done | with_reducible rfl); simp only [Act.put, List.setIfInBounds_toArray, List.set_cons_zero, List.set_cons_succ])
            (refine hd_take 7 (v := ?_) rfl (by kernel_rfl) (by kernel_rfl) (fun _ _ _ h => h) (by assumption) ?_ ?_; rotate_left; (intro w hSw; (try dsimp only at hSw); go_simp; first | done | with_reducible rfl); simp only [Act.put, List.setIfInBounds_toArray, List.set_cons_zero, List.set_cons_succ])
            (refine hd_take 8 (v := ?_) rfl (by kernel_rfl) (by kernel_rfl) (fun _ _ _ h => h) (by assumption) ?_ ?_; rotate_left; (intro w hSw; (try dsimp only at hSw); go_simp; first | done | with_reducible rfl); simp only [Act.put, List.setIfInBounds_toArray, List.set_cons_zero, List.set_cons_succ])
            (refine hd_take 9 (v := ?_) rfl (by kernel_rfl) (by kernel_rfl) (fun _ _ _ h => h) (by assumption) ?_ ?_; rotate_left; (intro w hSw; (try dsimp only at hSw); go_simp; first | done | with_reducible rfl); simp only [Act.put, List.setIfInBounds_toArray, List.set_cons_zero, List.set_cons_succ])
            (refine hd_take 10 (v := ?_) rfl (by kernel_rfl) (by kernel_rfl) (fun _ _ _ h => h) (by assumption) ?_ ?_; rotate_left; (intro w hSw; (try dsimp only at hSw); go_simp; first | done | with_reducible rfl); simp only [Act.put, List.setIfInBounds_toArray, List.set_cons_zero, List.set_cons_succ])
            (refine hd_take 11 (v := ?_) rfl (by kernel_rfl) (by kernel_rfl) (fun _ _ _ h => h) (by assumption) ?_ ?_; rotate_left; (intro w hSw; (try dsimp only at hSw); go_simp; first | done | with_reducible rfl); simp only [Act.put, List.setIfInBounds_toArray, List.set_cons_zero, List.set_cons_succ])
            (refine hd_skip 12 rfl (by kernel_rfl) (by kernel_rfl) (fun _ _ _ h => h) (by assumption) ?_; simp only [Act.put, List.setIfInBounds_toArray, List.set_cons_zero, List.set_cons_succ])
            (refine hd_skip 13 rfl (by kernel_rfl) (by kernel_rfl) (fun _ _ _ h => h) (by assumption) ?_; simp only [Act.put, List.setIfInBounds_toArray, List.set_cons_zero, List.set_cons_succ])
            (refine hd_skip 14 rfl (by kernel_rfl) (by kernel_rfl) (fun _ _ _ h => h) (by assumption) ?_; simp only [Act.put, List.setIfInBounds_toArray, List.set_cons_zero, List.set_cons_succ])
            (refine hd_skip 15 rfl (by kernel_rfl) (by kernel_rfl) (fun _ _ _ h => h) (by assumption) ?_; simp only [Act.put, List.setIfInBounds_toArray, List.set_cons_zero, List.set_cons_succ])
            (refine hd_skip 16 rfl (by kernel_rfl) (by kernel_rfl) (fun _ _ _ h => h) (by assumption) ?_; simp only [Act.put, List.setIfInBounds_toArray, List.set_cons_zero, List.set_cons_succ])
            (refine hd_skip 17 rfl (by kernel_rfl) (by kernel_rfl) (fun _ _ _ h => h) (by assumption) ?_; simp only [Act.put, List.setIfInBounds_toArray, List.set_cons_zero, List.set_cons_succ])
            (refine hd_skip 18 rfl (by kernel_rfl) (by kernel_rfl) (fun _ _ _ h => h) (by assumption) ?_; simp only [Act.put, List.setIfInBounds_toArray, List.set_cons_zero, List.set_cons_succ])
            (refine hd_skip 19 rfl (by kernel_rfl) (by kernel_rfl) (fun _ _ _ h => h) (by assumption) ?_; simp only [Act.put, List.setIfInBounds_toArray, List.set_cons_zero, List.set_cons_succ])
            (refine hd_take 20 (v := ?_) rfl (by kernel_rfl) (by kernel_rfl) (fun _ _ _ h => h) (by assumption) ?_ ?_; rotate_left; (intro w hSw; (try dsimp only at hSw); go_simp; first | done | with_reducible rfl); simp only [Act.put, List.setIfInBounds_toArray, List.set_cons_zero, List.set_cons_succ])
            refine wpAnyH_done (by kernel_rfl) ?_ _
            have hT := HTC.out
            subst hT
            clear HTC
            have ht92 : t ≤ 92 := by omega
            cases qg with
            | false =>
              have HGI : Aside0 (goneI false = 0) := ⟨rfl⟩
              obtain ⟨x0, x1, x2, x3, x4, x5, x6, x7⟩ := vr_cells (HP.out.2.1 _ List.mem_cons_self).2
              go_wp2_with fail
              (with_reducible refine (V.refput_calls (t : Int) _ (by omega)).mono ?_)
              rintro e w2 ⟨v2, rfl, hO2, hb2⟩
              obtain ⟨A2, c2, rfl, hc2, hC2⟩ := OB_readn hO2 1 (by rw [vput_small t (by omega)])
              have HC2 := Aside0.mk hC2
              have HPa := Aside0.mk (KP_step HP.out hb2)
              clear hC2 hO2 hb2 HP x0 x1 x2 x3 x4 x5 x6 x7
              go_wp2_with ((with_reducible refine gate_dst (N := 50) rfl ?_); refine app_bytes rfl rfl rfl rfl HPa.out.1 HC2.out HPa.out.2.2.size (by have := HM4.out; omega) ?_; intro v3 w3 hO3 hb3 hg3 hat3; have HPb := Aside0.mk (KP_app HPa.out hO3 hb3 hg3 hat3); obtain ⟨A3b, c3b, rfl, hc3b, -⟩ := OB_readn hO3 (m + 1) (by rw [List.length_append, HM4.out.1, vput_small t (by omega)]); obtain ⟨x0, x1, x2, x3, x4, x5, x6, x7⟩ := vr_cells (HPb.out.2.1 _ List.mem_cons_self).2; clear hO3 hb3 hg3 hat3)
              clear HPa HC2
              have hsf : SF.size ≤ 92 := HSF.out.2
              (with_reducible refine (V.reftext_calls SF _ (by omega)).mono ?_)
              rintro e w4 ⟨v4, rfl, hO4, hb4⟩
              obtain ⟨n4, hn4⟩ : ∃ n4, (V.vtext SF).length = n4 := ⟨_, rfl⟩
              have hn4l : n4 ≤ 110 := by rw [← hn4, V.vtext_len]; have := V.vput_le (SF.size : Int) (by omega); omega
              obtain ⟨A4, c4, rfl, hc4, hC4⟩ := OB_readn hO4 n4 hn4
              have HC4 := Aside0.mk hC4
              have HN4 := Aside0.mk hn4
              have HPc := Aside0.mk (KP_step HPb.out hb4)
              have hl4 : (Bs ++ V.vput (t : Int)).length ≤ 6000 := by rw [List.length_append, HM4.out.1, vput_small t (by omega)]; have := HM4.out.2; omega
              clear hC4 hO4 hb4 HPb hn4 x0 x1 x2 x3 x4 x5 x6 x7
              go_wp2_with ((with_reducible refine gate_dst (N := 57) rfl ?_); refine app_bytes rfl rfl rfl rfl HPc.out.1 HC4.out HPc.out.2.2.size (by omega) ?_; intro v5 w5 hO5 hb5 hg5 hat5; have HPd := Aside0.mk (KP_app HPc.out hO5 hb5 hg5 hat5); obtain ⟨A5, c5, rfl, hc5, -⟩ := OB_readn hO5 (m + 1 + n4) (by rw [List.length_append, List.length_append, HM4.out.1, HN4.out, vput_small t (by omega)]); obtain ⟨x0, x1, x2, x3, x4, x5, x6, x7⟩ := vr_cells (HPd.out.2.1 _ List.mem_cons_self).2; clear hO5 hb5 hg5 hat5)
              have HPe := Aside0.mk (KP_alloc HPd.out (.cells #[.int .i64 qbr, .int .i64 qep, .int .i64 qsq, .int .i64 qf, .int .i64 (qt - qf), .int .i64 0] 3))
              obtain ⟨w6, hw6⟩ : ∃ w6, w5.alloc (.cells #[.int .i64 qbr, .int .i64 qep, .int .i64 qsq, .int .i64 qf, .int .i64 (qt - qf), .int .i64 0] 3) = w6 := ⟨_, rfl⟩
              obtain ⟨y, hy⟩ : ∃ y, w5.heap.size = y := ⟨_, rfl⟩
              rw [hw6, hy] at HPe
              rw [hw6, hy]
              obtain ⟨L, hL⟩ : ∃ L, [qbr, qep, qsq, qf, qt - qf, 0] = L := ⟨_, rfl⟩
              have HLL : Aside0 (L.length = 6 ∧ (∀ z ∈ L, z ≤ 9223372036854775807)) := ⟨by
                rw [← hL]
                refine ⟨rfl, fun z hz => ?_⟩
                simp only [List.mem_cons, List.not_mem_nil, or_false] at hz
                rcases hz with rfl | rfl | rfl | rfl | rfl | rfl <;> omega⟩
              rw [show (Obj.cells #[.int .i64 qbr, .int .i64 qep, .int .i64 qsq, .int .i64 qf, .int .i64 (qt - qf), .int .i64 0] 3) = Obj.cells (L.map (Value.int .i64)).toArray 3 (0, 0) by rw [← hL]; rfl] at HPe
              have HLE := Aside0.mk hL
              have HHL : Aside0 (∀ j, ((L.take j).flatMap V.vput).length ≤ 54) := ⟨fun j => Nat.le_trans (flat_le V.vput L j) (by rw [← hL]; exact six_le _ _ _ _ _ _ (by omega) (by omega) (by omega) (by omega) (by omega) (by omega))⟩
              obtain ⟨B5, hB5⟩ : ∃ B5, (Bs ++ V.vput (t : Int)) ++ V.vtext SF = B5 := ⟨_, rfl⟩
              rw [hB5] at HPe
              have HB5 := Aside0.mk hB5
              have HM5 : Aside0 (B5.length = m + 1 + n4) := ⟨by rw [← hB5, List.length_append, List.length_append, HM4.out.1, HN4.out, vput_small t (by omega)]⟩
              have hm6 : m + 1 + n4 ≤ 5200 := by have := HM4.out.2; omega
              clear hL hw6 hy hB5 HPc HPd HC4 x0 x1 x2 x3 x4 x5 x6 x7
              go_wp2_with fail
              go_loopw [3, 10] (fun v3 v10 w' => ∃ j : Nat, j ≤ 6 ∧ v10 = .int .i64 j ∧ Aside0 (KP w v3 (B5 ++ (L.take j).flatMap V.vput) ((y, .cells (L.map (Value.int .i64)).toArray 3 (0, 0)) :: [(x, vrB ⟨qk, qbr, qep, qsq, qf, qt, qv, false⟩)]) w')) (fun _ v10 _ => 6 - (intOf v10).toNat)
              case atStart => exact ⟨0, by omega, rfl, ⟨by simpa using HPe.out⟩⟩
              case round =>
                clear HPe
                obtain ⟨j, hj, rfl, HJ⟩ := hrel
                by_cases hj6 : j < 6
                · have p0 := row_int (HJ.out.2.1 _ List.mem_cons_self).2 j (by rw [HLL.out.1]; exact hj6)
                  have hfl := flat_take V.vput L 0 j (by rw [HLL.out.1]; exact hj6)
                  have hmem : L.getD j 0 ≤ 9223372036854775807 := by
                    have e : L.getD j 0 = L[j]'(by rw [HLL.out.1]; exact hj6) := by simp [List.getD_eq_getElem?_getD, HLL.out.1, hj6]
                    rw [e]
                    exact HLL.out.2 _ (List.getElem_mem _)
                  have hll := HHL.out j
                  generalize L.getD j 0 = a at *
                  generalize (L.take j).flatMap V.vput = mid at *
                  have HFL := Aside0.mk hfl
                  have j1 : (0 : Int) ≤ (j : Int) := by omega
                  have j2 : (j : Int) < 6 := by omega
                  clear hfl
                  go_wp2_with fail
                  (with_reducible refine (V.refput_calls a _ hmem).mono ?_)
                  rintro e w7 ⟨v7, rfl, hO7, hb7⟩
                  have hvl := V.vput_le a hmem
                  obtain ⟨n7, hn7⟩ : ∃ n7, (V.vput a).length = n7 := ⟨_, rfl⟩
                  rw [hn7] at hvl
                  obtain ⟨A7, c7, rfl, hc7, hC7⟩ := OB_readn hO7 n7 hn7
                  have HC7 := Aside0.mk hC7
                  have HJ7 := Aside0.mk (KP_step HJ.out hb7)
                  clear hO7 hC7 hb7 HJ p0 hn7
                  go_wp2_with ((with_reducible refine gate_dst (N := 93) rfl ?_); refine app_bytes rfl rfl rfl rfl HJ7.out.1 HC7.out HJ7.out.2.2.size (by rw [List.length_append, HM5.out]; omega) ?_; intro v8 w8 hO8 hb8 hg8 hat8; have HJ8 := Aside0.mk (KP_app HJ7.out hO8 hb8 hg8 hat8); clear hO8 hb8 hg8 hat8)
                  go_roundw
                  case rel => exact ⟨j + 1, hj6, rfl, ⟨by rw [HFL.out, ← List.append_assoc]; exact HJ8.out⟩⟩
                  case measure => simp [intOf]; omega
                · obtain rfl : j = 6 := by omega
                  have hta : L.take 6 = L := List.take_of_length_le (by rw [HLL.out.1]; omega)
                  have hJ := HJ.out
                  have hll := HHL.out 6
                  rw [hta] at hJ hll
                  have HK := Aside0.mk (KP_tail hJ)
                  have hm6l : (B5 ++ L.flatMap V.vput).length ≤ 6000 := by rw [List.length_append, HM5.out]; omega
                  obtain ⟨x0, x1, x2, x3, x4, x5, x6, x7⟩ := vr_cells (HK.out.2.1 _ List.mem_cons_self).2
                  clear hta hJ hll HJ
                  go_wp2_with fail
                  (with_reducible refine (V.reftext_calls qv _ (by omega)).mono ?_)
                  rintro e w7 ⟨v7, rfl, hO7, hb7⟩
                  obtain ⟨n7, hn7⟩ : ∃ n7, (V.vtext qv).length = n7 := ⟨_, rfl⟩
                  have hn7l : n7 ≤ 220 := by rw [← hn7, V.vtext_len]; have := V.vput_le (qv.size : Int) (by omega); omega
                  obtain ⟨A7, c7, rfl, hc7, hC7⟩ := OB_readn hO7 n7 hn7
                  have HC7 := Aside0.mk hC7
                  have HK7 := Aside0.mk (KP_step HK.out hb7)
                  clear hO7 hC7 hb7 HK hn7 x0 x1 x2 x3 x4 x5 x6 x7
                  go_wp2_with ((with_reducible refine gate_dst (N := 98) rfl ?_); refine app_bytes rfl rfl rfl rfl HK7.out.1 HC7.out HK7.out.2.2.size (by omega) ?_; intro v8 w8 hO8 hb8 hg8 hat8; have HK8 := Aside0.mk (KP_app HK7.out hO8 hb8 hg8 hat8); obtain ⟨x0, x1, x2, x3, x4, x5, x6, x7⟩ := vr_cells (HK8.out.2.1 _ List.mem_cons_self).2; clear hO8 hb8 hg8 hat8)
                  go_roundw
                  case rel =>
                    refine ⟨k + 1, hlt, rfl, ?_, ⟨KP_forget HK8.out ?_⟩⟩
                    · rw [HTK.out, lastK_snoc]
                    · rw [HTK.out, bytesW_snoc, HLK.out, ← List.append_assoc, HBB.out]
                      unfold bytesP
                      simp only
                      rw [HCN.out, HSF.out.1, HGI.out, HLE.out, ← HB5.out]
                      simp only [List.append_assoc]
                  case measure => simp [intOf]; omega
            | true =>
              have HGI : Aside0 (goneI true = 1) := ⟨rfl⟩
              obtain ⟨x0, x1, x2, x3, x4, x5, x6, x7⟩ := vr_cells (HP.out.2.1 _ List.mem_cons_self).2
              go_wp2_with fail
              (with_reducible refine (V.refput_calls (t : Int) _ (by omega)).mono ?_)
              rintro e w2 ⟨v2, rfl, hO2, hb2⟩
              obtain ⟨A2, c2, rfl, hc2, hC2⟩ := OB_readn hO2 1 (by rw [vput_small t (by omega)])
              have HC2 := Aside0.mk hC2
              have HPa := Aside0.mk (KP_step HP.out hb2)
              clear hC2 hO2 hb2 HP x0 x1 x2 x3 x4 x5 x6 x7
              go_wp2_with ((with_reducible refine gate_dst (N := 50) rfl ?_); refine app_bytes rfl rfl rfl rfl HPa.out.1 HC2.out HPa.out.2.2.size (by have := HM4.out; omega) ?_; intro v3 w3 hO3 hb3 hg3 hat3; have HPb := Aside0.mk (KP_app HPa.out hO3 hb3 hg3 hat3); obtain ⟨A3b, c3b, rfl, hc3b, -⟩ := OB_readn hO3 (m + 1) (by rw [List.length_append, HM4.out.1, vput_small t (by omega)]); obtain ⟨x0, x1, x2, x3, x4, x5, x6, x7⟩ := vr_cells (HPb.out.2.1 _ List.mem_cons_self).2; clear hO3 hb3 hg3 hat3)
              clear HPa HC2
              have hsf : SF.size ≤ 92 := HSF.out.2
              (with_reducible refine (V.reftext_calls SF _ (by omega)).mono ?_)
              rintro e w4 ⟨v4, rfl, hO4, hb4⟩
              obtain ⟨n4, hn4⟩ : ∃ n4, (V.vtext SF).length = n4 := ⟨_, rfl⟩
              have hn4l : n4 ≤ 110 := by rw [← hn4, V.vtext_len]; have := V.vput_le (SF.size : Int) (by omega); omega
              obtain ⟨A4, c4, rfl, hc4, hC4⟩ := OB_readn hO4 n4 hn4
              have HC4 := Aside0.mk hC4
              have HN4 := Aside0.mk hn4
              have HPc := Aside0.mk (KP_step HPb.out hb4)
              have hl4 : (Bs ++ V.vput (t : Int)).length ≤ 6000 := by rw [List.length_append, HM4.out.1, vput_small t (by omega)]; have := HM4.out.2; omega
              clear hC4 hO4 hb4 HPb hn4 x0 x1 x2 x3 x4 x5 x6 x7
              go_wp2_with ((with_reducible refine gate_dst (N := 57) rfl ?_); refine app_bytes rfl rfl rfl rfl HPc.out.1 HC4.out HPc.out.2.2.size (by omega) ?_; intro v5 w5 hO5 hb5 hg5 hat5; have HPd := Aside0.mk (KP_app HPc.out hO5 hb5 hg5 hat5); obtain ⟨A5, c5, rfl, hc5, -⟩ := OB_readn hO5 (m + 1 + n4) (by rw [List.length_append, List.length_append, HM4.out.1, HN4.out, vput_small t (by omega)]); obtain ⟨x0, x1, x2, x3, x4, x5, x6, x7⟩ := vr_cells (HPd.out.2.1 _ List.mem_cons_self).2; clear hO5 hb5 hg5 hat5)
              have HPe := Aside0.mk (KP_alloc HPd.out (.cells #[.int .i64 qbr, .int .i64 qep, .int .i64 qsq, .int .i64 qf, .int .i64 (qt - qf), .int .i64 1] 3))
              obtain ⟨w6, hw6⟩ : ∃ w6, w5.alloc (.cells #[.int .i64 qbr, .int .i64 qep, .int .i64 qsq, .int .i64 qf, .int .i64 (qt - qf), .int .i64 1] 3) = w6 := ⟨_, rfl⟩
              obtain ⟨y, hy⟩ : ∃ y, w5.heap.size = y := ⟨_, rfl⟩
              rw [hw6, hy] at HPe
              rw [hw6, hy]
              obtain ⟨L, hL⟩ : ∃ L, [qbr, qep, qsq, qf, qt - qf, 1] = L := ⟨_, rfl⟩
              have HLL : Aside0 (L.length = 6 ∧ (∀ z ∈ L, z ≤ 9223372036854775807)) := ⟨by
                rw [← hL]
                refine ⟨rfl, fun z hz => ?_⟩
                simp only [List.mem_cons, List.not_mem_nil, or_false] at hz
                rcases hz with rfl | rfl | rfl | rfl | rfl | rfl <;> omega⟩
              rw [show (Obj.cells #[.int .i64 qbr, .int .i64 qep, .int .i64 qsq, .int .i64 qf, .int .i64 (qt - qf), .int .i64 1] 3) = Obj.cells (L.map (Value.int .i64)).toArray 3 (0, 0) by rw [← hL]; rfl] at HPe
              have HLE := Aside0.mk hL
              have HHL : Aside0 (∀ j, ((L.take j).flatMap V.vput).length ≤ 54) := ⟨fun j => Nat.le_trans (flat_le V.vput L j) (by rw [← hL]; exact six_le _ _ _ _ _ _ (by omega) (by omega) (by omega) (by omega) (by omega) (by omega))⟩
              obtain ⟨B5, hB5⟩ : ∃ B5, (Bs ++ V.vput (t : Int)) ++ V.vtext SF = B5 := ⟨_, rfl⟩
              rw [hB5] at HPe
              have HB5 := Aside0.mk hB5
              have HM5 : Aside0 (B5.length = m + 1 + n4) := ⟨by rw [← hB5, List.length_append, List.length_append, HM4.out.1, HN4.out, vput_small t (by omega)]⟩
              have hm6 : m + 1 + n4 ≤ 5200 := by have := HM4.out.2; omega
              clear hL hw6 hy hB5 HPc HPd HC4 x0 x1 x2 x3 x4 x5 x6 x7
              go_wp2_with fail
              go_loopw [3, 10] (fun v3 v10 w' => ∃ j : Nat, j ≤ 6 ∧ v10 = .int .i64 j ∧ Aside0 (KP w v3 (B5 ++ (L.take j).flatMap V.vput) ((y, .cells (L.map (Value.int .i64)).toArray 3 (0, 0)) :: [(x, vrB ⟨qk, qbr, qep, qsq, qf, qt, qv, true⟩)]) w')) (fun _ v10 _ => 6 - (intOf v10).toNat)
              case atStart => exact ⟨0, by omega, rfl, ⟨by simpa using HPe.out⟩⟩
              case round =>
                clear HPe
                obtain ⟨j, hj, rfl, HJ⟩ := hrel
                by_cases hj6 : j < 6
                · have p0 := row_int (HJ.out.2.1 _ List.mem_cons_self).2 j (by rw [HLL.out.1]; exact hj6)
                  have hfl := flat_take V.vput L 0 j (by rw [HLL.out.1]; exact hj6)
                  have hmem : L.getD j 0 ≤ 9223372036854775807 := by
                    have e : L.getD j 0 = L[j]'(by rw [HLL.out.1]; exact hj6) := by simp [List.getD_eq_getElem?_getD, HLL.out.1, hj6]
                    rw [e]
                    exact HLL.out.2 _ (List.getElem_mem _)
                  have hll := HHL.out j
                  generalize L.getD j 0 = a at *
                  generalize (L.take j).flatMap V.vput = mid at *
                  have HFL := Aside0.mk hfl
                  have j1 : (0 : Int) ≤ (j : Int) := by omega
                  have j2 : (j : Int) < 6 := by omega
                  clear hfl
                  go_wp2_with fail
                  (with_reducible refine (V.refput_calls a _ hmem).mono ?_)
                  rintro e w7 ⟨v7, rfl, hO7, hb7⟩
                  have hvl := V.vput_le a hmem
                  obtain ⟨n7, hn7⟩ : ∃ n7, (V.vput a).length = n7 := ⟨_, rfl⟩
                  rw [hn7] at hvl
                  obtain ⟨A7, c7, rfl, hc7, hC7⟩ := OB_readn hO7 n7 hn7
                  have HC7 := Aside0.mk hC7
                  have HJ7 := Aside0.mk (KP_step HJ.out hb7)
                  clear hO7 hC7 hb7 HJ p0 hn7
                  go_wp2_with ((with_reducible refine gate_dst (N := 93) rfl ?_); refine app_bytes rfl rfl rfl rfl HJ7.out.1 HC7.out HJ7.out.2.2.size (by rw [List.length_append, HM5.out]; omega) ?_; intro v8 w8 hO8 hb8 hg8 hat8; have HJ8 := Aside0.mk (KP_app HJ7.out hO8 hb8 hg8 hat8); clear hO8 hb8 hg8 hat8)
                  go_roundw
                  case rel => exact ⟨j + 1, hj6, rfl, ⟨by rw [HFL.out, ← List.append_assoc]; exact HJ8.out⟩⟩
                  case measure => simp [intOf]; omega
                · obtain rfl : j = 6 := by omega
                  have hta : L.take 6 = L := List.take_of_length_le (by rw [HLL.out.1]; omega)
                  have hJ := HJ.out
                  have hll := HHL.out 6
                  rw [hta] at hJ hll
                  have HK := Aside0.mk (KP_tail hJ)
                  have hm6l : (B5 ++ L.flatMap V.vput).length ≤ 6000 := by rw [List.length_append, HM5.out]; omega
                  obtain ⟨x0, x1, x2, x3, x4, x5, x6, x7⟩ := vr_cells (HK.out.2.1 _ List.mem_cons_self).2
                  clear hta hJ hll HJ
                  go_wp2_with fail
                  (with_reducible refine (V.reftext_calls qv _ (by omega)).mono ?_)
                  rintro e w7 ⟨v7, rfl, hO7, hb7⟩
                  obtain ⟨n7, hn7⟩ : ∃ n7, (V.vtext qv).length = n7 := ⟨_, rfl⟩
                  have hn7l : n7 ≤ 220 := by rw [← hn7, V.vtext_len]; have := V.vput_le (qv.size : Int) (by omega); omega
                  obtain ⟨A7, c7, rfl, hc7, hC7⟩ := OB_readn hO7 n7 hn7
                  have HC7 := Aside0.mk hC7
                  have HK7 := Aside0.mk (KP_step HK.out hb7)
                  clear hO7 hC7 hb7 HK hn7 x0 x1 x2 x3 x4 x5 x6 x7
                  go_wp2_with ((with_reducible refine gate_dst (N := 98) rfl ?_); refine app_bytes rfl rfl rfl rfl HK7.out.1 HC7.out HK7.out.2.2.size (by omega) ?_; intro v8 w8 hO8 hb8 hg8 hat8; have HK8 := Aside0.mk (KP_app HK7.out hO8 hb8 hg8 hat8); obtain ⟨x0, x1, x2, x3, x4, x5, x6, x7⟩ := vr_cells (HK8.out.2.1 _ List.mem_cons_self).2; clear hO8 hb8 hg8 hat8)
                  go_roundw
                  case rel =>
                    refine ⟨k + 1, hlt, rfl, ?_, ⟨KP_forget HK8.out ?_⟩⟩
                    · rw [HTK.out, lastK_snoc]
                    · rw [HTK.out, bytesW_snoc, HLK.out, ← List.append_assoc, HBB.out]
                      unfold bytesP
                      simp only
                      rw [HCN.out, HSF.out.1, HGI.out, HLE.out, ← HB5.out]
                      simp only [List.append_assoc]
                  case measure => simp [intOf]; omega
        · have j1 : ¬ (t : Int) < (key.size : Int) := by omega
          have hT := HT.out
          rw [com_out (.inl (by omega)), Nat.add_zero] at hT
          have HTC := Aside0.mk hT
          clear HT hT
          go_wp2_with fail
          refine wp_region_held_drew (S := fun w' => w'.cell? ⟨x, 0, none⟩ = some (.string qk)) (by kernel_rfl) x0 (fun hHeld => ?_)
          (refine hd_take 0 (v := ?_) rfl (by kernel_rfl) (by kernel_rfl) (fun _ _ _ h => h) (by assumption) ?_ ?_; rotate_left; (intro w hSw; (try dsimp only at hSw); go_simp; first | done | with_reducible rfl); simp only [Act.put, List.setIfInBounds_toArray, List.set_cons_zero, List.set_cons_succ])
          (refine hd_take 1 (v := ?_) rfl (by kernel_rfl) (by kernel_rfl) (fun _ _ _ h => h) (by assumption) ?_ ?_; rotate_left; (intro w hSw; (try dsimp only at hSw); go_simp; first | done | with_reducible rfl); simp only [Act.put, List.setIfInBounds_toArray, List.set_cons_zero, List.set_cons_succ])
          (refine hd_take 2 (v := ?_) rfl (by kernel_rfl) (by kernel_rfl) (fun _ _ _ h => h) (by assumption) ?_ ?_; rotate_left; (intro w hSw; (try dsimp only at hSw); go_simp; first | done | with_reducible rfl); simp only [Act.put, List.setIfInBounds_toArray, List.set_cons_zero, List.set_cons_succ])
          (refine hd_take 3 (v := ?_) rfl (by kernel_rfl) (by kernel_rfl) (fun _ _ _ h => h) (by assumption) ?_ ?_; rotate_left; (intro w hSw; (try dsimp only at hSw); go_simp; first | done | with_reducible rfl); simp only [Act.put, List.setIfInBounds_toArray, List.set_cons_zero, List.set_cons_succ])
          (refine hd_take 4 (v := ?_) rfl (by kernel_rfl) (by kernel_rfl) (fun _ _ _ h => h) (by assumption) ?_ ?_; rotate_left; (intro w hSw; (try dsimp only at hSw); go_simp; first | done | with_reducible rfl); simp only [Act.put, List.setIfInBounds_toArray, List.set_cons_zero, List.set_cons_succ])
          (refine hd_skip 5 rfl (by kernel_rfl) (by kernel_rfl) (fun _ _ _ h => h) (by assumption) ?_; simp only [Act.put, List.setIfInBounds_toArray, List.set_cons_zero, List.set_cons_succ])
          (refine hd_skip 6 rfl (by kernel_rfl) (by kernel_rfl) (fun _ _ _ h => h) (by assumption) ?_; simp only [Act.put, List.setIfInBounds_toArray, List.set_cons_zero, List.set_cons_succ])
          (refine hd_skip 7 rfl (by kernel_rfl) (by kernel_rfl) (fun _ _ _ h => h) (by assumption) ?_; simp only [Act.put, List.setIfInBounds_toArray, List.set_cons_zero, List.set_cons_succ])
          (refine hd_skip 8 rfl (by kernel_rfl) (by kernel_rfl) (fun _ _ _ h => h) (by assumption) ?_; simp only [Act.put, List.setIfInBounds_toArray, List.set_cons_zero, List.set_cons_succ])
          (refine hd_skip 9 rfl (by kernel_rfl) (by kernel_rfl) (fun _ _ _ h => h) (by assumption) ?_; simp only [Act.put, List.setIfInBounds_toArray, List.set_cons_zero, List.set_cons_succ])
          (refine hd_take 10 (v := ?_) rfl (by kernel_rfl) (by kernel_rfl) (fun _ _ _ h => h) (by assumption) ?_ ?_; rotate_left; (intro w hSw; (try dsimp only at hSw); go_simp; first | done | with_reducible rfl); simp only [Act.put, List.setIfInBounds_toArray, List.set_cons_zero, List.set_cons_succ])
          (refine hd_take 11 (v := ?_) rfl (by kernel_rfl) (by kernel_rfl) (fun _ _ _ h => h) (by assumption) ?_ ?_; rotate_left; (intro w hSw; (try dsimp only at hSw); go_simp; first | done | with_reducible rfl); simp only [Act.put, List.setIfInBounds_toArray, List.set_cons_zero, List.set_cons_succ])
          (refine hd_skip 12 rfl (by kernel_rfl) (by kernel_rfl) (fun _ _ _ h => h) (by assumption) ?_; simp only [Act.put, List.setIfInBounds_toArray, List.set_cons_zero, List.set_cons_succ])
          (refine hd_skip 13 rfl (by kernel_rfl) (by kernel_rfl) (fun _ _ _ h => h) (by assumption) ?_; simp only [Act.put, List.setIfInBounds_toArray, List.set_cons_zero, List.set_cons_succ])
          (refine hd_skip 14 rfl (by kernel_rfl) (by kernel_rfl) (fun _ _ _ h => h) (by assumption) ?_; simp only [Act.put, List.setIfInBounds_toArray, List.set_cons_zero, List.set_cons_succ])
          (refine hd_skip 15 rfl (by kernel_rfl) (by kernel_rfl) (fun _ _ _ h => h) (by assumption) ?_; simp only [Act.put, List.setIfInBounds_toArray, List.set_cons_zero, List.set_cons_succ])
          (refine hd_skip 16 rfl (by kernel_rfl) (by kernel_rfl) (fun _ _ _ h => h) (by assumption) ?_; simp only [Act.put, List.setIfInBounds_toArray, List.set_cons_zero, List.set_cons_succ])
          (refine hd_skip 17 rfl (by kernel_rfl) (by kernel_rfl) (fun _ _ _ h => h) (by assumption) ?_; simp only [Act.put, List.setIfInBounds_toArray, List.set_cons_zero, List.set_cons_succ])
          (refine hd_skip 18 rfl (by kernel_rfl) (by kernel_rfl) (fun _ _ _ h => h) (by assumption) ?_; simp only [Act.put, List.setIfInBounds_toArray, List.set_cons_zero, List.set_cons_succ])
          (refine hd_skip 19 rfl (by kernel_rfl) (by kernel_rfl) (fun _ _ _ h => h) (by assumption) ?_; simp only [Act.put, List.setIfInBounds_toArray, List.set_cons_zero, List.set_cons_succ])
          (refine hd_take 20 (v := ?_) rfl (by kernel_rfl) (by kernel_rfl) (fun _ _ _ h => h) (by assumption) ?_ ?_; rotate_left; (intro w hSw; (try dsimp only at hSw); go_simp; first | done | with_reducible rfl); simp only [Act.put, List.setIfInBounds_toArray, List.set_cons_zero, List.set_cons_succ])
          refine wpAnyH_done (by kernel_rfl) ?_ _
          have hT := HTC.out
          subst hT
          clear HTC
          have ht92 : t ≤ 92 := by omega
          cases qg with
          | false =>
            have HGI : Aside0 (goneI false = 0) := ⟨rfl⟩
            obtain ⟨x0, x1, x2, x3, x4, x5, x6, x7⟩ := vr_cells (HP.out.2.1 _ List.mem_cons_self).2
            go_wp2_with fail
            (with_reducible refine (V.refput_calls (t : Int) _ (by omega)).mono ?_)
            rintro e w2 ⟨v2, rfl, hO2, hb2⟩
            obtain ⟨A2, c2, rfl, hc2, hC2⟩ := OB_readn hO2 1 (by rw [vput_small t (by omega)])
            have HC2 := Aside0.mk hC2
            have HPa := Aside0.mk (KP_step HP.out hb2)
            clear hC2 hO2 hb2 HP x0 x1 x2 x3 x4 x5 x6 x7
            go_wp2_with ((with_reducible refine gate_dst (N := 50) rfl ?_); refine app_bytes rfl rfl rfl rfl HPa.out.1 HC2.out HPa.out.2.2.size (by have := HM4.out; omega) ?_; intro v3 w3 hO3 hb3 hg3 hat3; have HPb := Aside0.mk (KP_app HPa.out hO3 hb3 hg3 hat3); obtain ⟨A3b, c3b, rfl, hc3b, -⟩ := OB_readn hO3 (m + 1) (by rw [List.length_append, HM4.out.1, vput_small t (by omega)]); obtain ⟨x0, x1, x2, x3, x4, x5, x6, x7⟩ := vr_cells (HPb.out.2.1 _ List.mem_cons_self).2; clear hO3 hb3 hg3 hat3)
            clear HPa HC2
            have hsf : SF.size ≤ 92 := HSF.out.2
            (with_reducible refine (V.reftext_calls SF _ (by omega)).mono ?_)
            rintro e w4 ⟨v4, rfl, hO4, hb4⟩
            obtain ⟨n4, hn4⟩ : ∃ n4, (V.vtext SF).length = n4 := ⟨_, rfl⟩
            have hn4l : n4 ≤ 110 := by rw [← hn4, V.vtext_len]; have := V.vput_le (SF.size : Int) (by omega); omega
            obtain ⟨A4, c4, rfl, hc4, hC4⟩ := OB_readn hO4 n4 hn4
            have HC4 := Aside0.mk hC4
            have HN4 := Aside0.mk hn4
            have HPc := Aside0.mk (KP_step HPb.out hb4)
            have hl4 : (Bs ++ V.vput (t : Int)).length ≤ 6000 := by rw [List.length_append, HM4.out.1, vput_small t (by omega)]; have := HM4.out.2; omega
            clear hC4 hO4 hb4 HPb hn4 x0 x1 x2 x3 x4 x5 x6 x7
            go_wp2_with ((with_reducible refine gate_dst (N := 57) rfl ?_); refine app_bytes rfl rfl rfl rfl HPc.out.1 HC4.out HPc.out.2.2.size (by omega) ?_; intro v5 w5 hO5 hb5 hg5 hat5; have HPd := Aside0.mk (KP_app HPc.out hO5 hb5 hg5 hat5); obtain ⟨A5, c5, rfl, hc5, -⟩ := OB_readn hO5 (m + 1 + n4) (by rw [List.length_append, List.length_append, HM4.out.1, HN4.out, vput_small t (by omega)]); obtain ⟨x0, x1, x2, x3, x4, x5, x6, x7⟩ := vr_cells (HPd.out.2.1 _ List.mem_cons_self).2; clear hO5 hb5 hg5 hat5)
            have HPe := Aside0.mk (KP_alloc HPd.out (.cells #[.int .i64 qbr, .int .i64 qep, .int .i64 qsq, .int .i64 qf, .int .i64 (qt - qf), .int .i64 0] 3))
            obtain ⟨w6, hw6⟩ : ∃ w6, w5.alloc (.cells #[.int .i64 qbr, .int .i64 qep, .int .i64 qsq, .int .i64 qf, .int .i64 (qt - qf), .int .i64 0] 3) = w6 := ⟨_, rfl⟩
            obtain ⟨y, hy⟩ : ∃ y, w5.heap.size = y := ⟨_, rfl⟩
            rw [hw6, hy] at HPe
            rw [hw6, hy]
            obtain ⟨L, hL⟩ : ∃ L, [qbr, qep, qsq, qf, qt - qf, 0] = L := ⟨_, rfl⟩
            have HLL : Aside0 (L.length = 6 ∧ (∀ z ∈ L, z ≤ 9223372036854775807)) := ⟨by
              rw [← hL]
              refine ⟨rfl, fun z hz => ?_⟩
              simp only [List.mem_cons, List.not_mem_nil, or_false] at hz
              rcases hz with rfl | rfl | rfl | rfl | rfl | rfl <;> omega⟩
            rw [show (Obj.cells #[.int .i64 qbr, .int .i64 qep, .int .i64 qsq, .int .i64 qf, .int .i64 (qt - qf), .int .i64 0] 3) = Obj.cells (L.map (Value.int .i64)).toArray 3 (0, 0) by rw [← hL]; rfl] at HPe
            have HLE := Aside0.mk hL
            have HHL : Aside0 (∀ j, ((L.take j).flatMap V.vput).length ≤ 54) := ⟨fun j => Nat.le_trans (flat_le V.vput L j) (by rw [← hL]; exact six_le _ _ _ _ _ _ (by omega) (by omega) (by omega) (by omega) (by omega) (by omega))⟩
            obtain ⟨B5, hB5⟩ : ∃ B5, (Bs ++ V.vput (t : Int)) ++ V.vtext SF = B5 := ⟨_, rfl⟩
            rw [hB5] at HPe
            have HB5 := Aside0.mk hB5
            have HM5 : Aside0 (B5.length = m + 1 + n4) := ⟨by rw [← hB5, List.length_append, List.length_append, HM4.out.1, HN4.out, vput_small t (by omega)]⟩
            have hm6 : m + 1 + n4 ≤ 5200 := by have := HM4.out.2; omega
            clear hL hw6 hy hB5 HPc HPd HC4 x0 x1 x2 x3 x4 x5 x6 x7
            go_wp2_with fail
            go_loopw [3, 10] (fun v3 v10 w' => ∃ j : Nat, j ≤ 6 ∧ v10 = .int .i64 j ∧ Aside0 (KP w v3 (B5 ++ (L.take j).flatMap V.vput) ((y, .cells (L.map (Value.int .i64)).toArray 3 (0, 0)) :: [(x, vrB ⟨qk, qbr, qep, qsq, qf, qt, qv, false⟩)]) w')) (fun _ v10 _ => 6 - (intOf v10).toNat)
            case atStart => exact ⟨0, by omega, rfl, ⟨by simpa using HPe.out⟩⟩
            case round =>
              clear HPe
              obtain ⟨j, hj, rfl, HJ⟩ := hrel
              by_cases hj6 : j < 6
              · have p0 := row_int (HJ.out.2.1 _ List.mem_cons_self).2 j (by rw [HLL.out.1]; exact hj6)
                have hfl := flat_take V.vput L 0 j (by rw [HLL.out.1]; exact hj6)
                have hmem : L.getD j 0 ≤ 9223372036854775807 := by
                  have e : L.getD j 0 = L[j]'(by rw [HLL.out.1]; exact hj6) := by simp [List.getD_eq_getElem?_getD, HLL.out.1, hj6]
                  rw [e]
                  exact HLL.out.2 _ (List.getElem_mem _)
                have hll := HHL.out j
                generalize L.getD j 0 = a at *
                generalize (L.take j).flatMap V.vput = mid at *
                have HFL := Aside0.mk hfl
                have j1 : (0 : Int) ≤ (j : Int) := by omega
                have j2 : (j : Int) < 6 := by omega
                clear hfl
                go_wp2_with fail
                (with_reducible refine (V.refput_calls a _ hmem).mono ?_)
                rintro e w7 ⟨v7, rfl, hO7, hb7⟩
                have hvl := V.vput_le a hmem
                obtain ⟨n7, hn7⟩ : ∃ n7, (V.vput a).length = n7 := ⟨_, rfl⟩
                rw [hn7] at hvl
                obtain ⟨A7, c7, rfl, hc7, hC7⟩ := OB_readn hO7 n7 hn7
                have HC7 := Aside0.mk hC7
                have HJ7 := Aside0.mk (KP_step HJ.out hb7)
                clear hO7 hC7 hb7 HJ p0 hn7
                go_wp2_with ((with_reducible refine gate_dst (N := 93) rfl ?_); refine app_bytes rfl rfl rfl rfl HJ7.out.1 HC7.out HJ7.out.2.2.size (by rw [List.length_append, HM5.out]; omega) ?_; intro v8 w8 hO8 hb8 hg8 hat8; have HJ8 := Aside0.mk (KP_app HJ7.out hO8 hb8 hg8 hat8); clear hO8 hb8 hg8 hat8)
                go_roundw
                case rel => exact ⟨j + 1, hj6, rfl, ⟨by rw [HFL.out, ← List.append_assoc]; exact HJ8.out⟩⟩
                case measure => simp [intOf]; omega
              · obtain rfl : j = 6 := by omega
                have hta : L.take 6 = L := List.take_of_length_le (by rw [HLL.out.1]; omega)
                have hJ := HJ.out
                have hll := HHL.out 6
                rw [hta] at hJ hll
                have HK := Aside0.mk (KP_tail hJ)
                have hm6l : (B5 ++ L.flatMap V.vput).length ≤ 6000 := by rw [List.length_append, HM5.out]; omega
                obtain ⟨x0, x1, x2, x3, x4, x5, x6, x7⟩ := vr_cells (HK.out.2.1 _ List.mem_cons_self).2
                clear hta hJ hll HJ
                go_wp2_with fail
                (with_reducible refine (V.reftext_calls qv _ (by omega)).mono ?_)
                rintro e w7 ⟨v7, rfl, hO7, hb7⟩
                obtain ⟨n7, hn7⟩ : ∃ n7, (V.vtext qv).length = n7 := ⟨_, rfl⟩
                have hn7l : n7 ≤ 220 := by rw [← hn7, V.vtext_len]; have := V.vput_le (qv.size : Int) (by omega); omega
                obtain ⟨A7, c7, rfl, hc7, hC7⟩ := OB_readn hO7 n7 hn7
                have HC7 := Aside0.mk hC7
                have HK7 := Aside0.mk (KP_step HK.out hb7)
                clear hO7 hC7 hb7 HK hn7 x0 x1 x2 x3 x4 x5 x6 x7
                go_wp2_with ((with_reducible refine gate_dst (N := 98) rfl ?_); refine app_bytes rfl rfl rfl rfl HK7.out.1 HC7.out HK7.out.2.2.size (by omega) ?_; intro v8 w8 hO8 hb8 hg8 hat8; have HK8 := Aside0.mk (KP_app HK7.out hO8 hb8 hg8 hat8); obtain ⟨x0, x1, x2, x3, x4, x5, x6, x7⟩ := vr_cells (HK8.out.2.1 _ List.mem_cons_self).2; clear hO8 hb8 hg8 hat8)
                go_roundw
                case rel =>
                  refine ⟨k + 1, hlt, rfl, ?_, ⟨KP_forget HK8.out ?_⟩⟩
                  · rw [HTK.out, lastK_snoc]
                  · rw [HTK.out, bytesW_snoc, HLK.out, ← List.append_assoc, HBB.out]
                    unfold bytesP
                    simp only
                    rw [HCN.out, HSF.out.1, HGI.out, HLE.out, ← HB5.out]
                    simp only [List.append_assoc]
                case measure => simp [intOf]; omega
          | true =>
            have HGI : Aside0 (goneI true = 1) := ⟨rfl⟩
            obtain ⟨x0, x1, x2, x3, x4, x5, x6, x7⟩ := vr_cells (HP.out.2.1 _ List.mem_cons_self).2
            go_wp2_with fail
            (with_reducible refine (V.refput_calls (t : Int) _ (by omega)).mono ?_)
            rintro e w2 ⟨v2, rfl, hO2, hb2⟩
            obtain ⟨A2, c2, rfl, hc2, hC2⟩ := OB_readn hO2 1 (by rw [vput_small t (by omega)])
            have HC2 := Aside0.mk hC2
            have HPa := Aside0.mk (KP_step HP.out hb2)
            clear hC2 hO2 hb2 HP x0 x1 x2 x3 x4 x5 x6 x7
            go_wp2_with ((with_reducible refine gate_dst (N := 50) rfl ?_); refine app_bytes rfl rfl rfl rfl HPa.out.1 HC2.out HPa.out.2.2.size (by have := HM4.out; omega) ?_; intro v3 w3 hO3 hb3 hg3 hat3; have HPb := Aside0.mk (KP_app HPa.out hO3 hb3 hg3 hat3); obtain ⟨A3b, c3b, rfl, hc3b, -⟩ := OB_readn hO3 (m + 1) (by rw [List.length_append, HM4.out.1, vput_small t (by omega)]); obtain ⟨x0, x1, x2, x3, x4, x5, x6, x7⟩ := vr_cells (HPb.out.2.1 _ List.mem_cons_self).2; clear hO3 hb3 hg3 hat3)
            clear HPa HC2
            have hsf : SF.size ≤ 92 := HSF.out.2
            (with_reducible refine (V.reftext_calls SF _ (by omega)).mono ?_)
            rintro e w4 ⟨v4, rfl, hO4, hb4⟩
            obtain ⟨n4, hn4⟩ : ∃ n4, (V.vtext SF).length = n4 := ⟨_, rfl⟩
            have hn4l : n4 ≤ 110 := by rw [← hn4, V.vtext_len]; have := V.vput_le (SF.size : Int) (by omega); omega
            obtain ⟨A4, c4, rfl, hc4, hC4⟩ := OB_readn hO4 n4 hn4
            have HC4 := Aside0.mk hC4
            have HN4 := Aside0.mk hn4
            have HPc := Aside0.mk (KP_step HPb.out hb4)
            have hl4 : (Bs ++ V.vput (t : Int)).length ≤ 6000 := by rw [List.length_append, HM4.out.1, vput_small t (by omega)]; have := HM4.out.2; omega
            clear hC4 hO4 hb4 HPb hn4 x0 x1 x2 x3 x4 x5 x6 x7
            go_wp2_with ((with_reducible refine gate_dst (N := 57) rfl ?_); refine app_bytes rfl rfl rfl rfl HPc.out.1 HC4.out HPc.out.2.2.size (by omega) ?_; intro v5 w5 hO5 hb5 hg5 hat5; have HPd := Aside0.mk (KP_app HPc.out hO5 hb5 hg5 hat5); obtain ⟨A5, c5, rfl, hc5, -⟩ := OB_readn hO5 (m + 1 + n4) (by rw [List.length_append, List.length_append, HM4.out.1, HN4.out, vput_small t (by omega)]); obtain ⟨x0, x1, x2, x3, x4, x5, x6, x7⟩ := vr_cells (HPd.out.2.1 _ List.mem_cons_self).2; clear hO5 hb5 hg5 hat5)
            have HPe := Aside0.mk (KP_alloc HPd.out (.cells #[.int .i64 qbr, .int .i64 qep, .int .i64 qsq, .int .i64 qf, .int .i64 (qt - qf), .int .i64 1] 3))
            obtain ⟨w6, hw6⟩ : ∃ w6, w5.alloc (.cells #[.int .i64 qbr, .int .i64 qep, .int .i64 qsq, .int .i64 qf, .int .i64 (qt - qf), .int .i64 1] 3) = w6 := ⟨_, rfl⟩
            obtain ⟨y, hy⟩ : ∃ y, w5.heap.size = y := ⟨_, rfl⟩
            rw [hw6, hy] at HPe
            rw [hw6, hy]
            obtain ⟨L, hL⟩ : ∃ L, [qbr, qep, qsq, qf, qt - qf, 1] = L := ⟨_, rfl⟩
            have HLL : Aside0 (L.length = 6 ∧ (∀ z ∈ L, z ≤ 9223372036854775807)) := ⟨by
              rw [← hL]
              refine ⟨rfl, fun z hz => ?_⟩
              simp only [List.mem_cons, List.not_mem_nil, or_false] at hz
              rcases hz with rfl | rfl | rfl | rfl | rfl | rfl <;> omega⟩
            rw [show (Obj.cells #[.int .i64 qbr, .int .i64 qep, .int .i64 qsq, .int .i64 qf, .int .i64 (qt - qf), .int .i64 1] 3) = Obj.cells (L.map (Value.int .i64)).toArray 3 (0, 0) by rw [← hL]; rfl] at HPe
            have HLE := Aside0.mk hL
            have HHL : Aside0 (∀ j, ((L.take j).flatMap V.vput).length ≤ 54) := ⟨fun j => Nat.le_trans (flat_le V.vput L j) (by rw [← hL]; exact six_le _ _ _ _ _ _ (by omega) (by omega) (by omega) (by omega) (by omega) (by omega))⟩
            obtain ⟨B5, hB5⟩ : ∃ B5, (Bs ++ V.vput (t : Int)) ++ V.vtext SF = B5 := ⟨_, rfl⟩
            rw [hB5] at HPe
            have HB5 := Aside0.mk hB5
            have HM5 : Aside0 (B5.length = m + 1 + n4) := ⟨by rw [← hB5, List.length_append, List.length_append, HM4.out.1, HN4.out, vput_small t (by omega)]⟩
            have hm6 : m + 1 + n4 ≤ 5200 := by have := HM4.out.2; omega
            clear hL hw6 hy hB5 HPc HPd HC4 x0 x1 x2 x3 x4 x5 x6 x7
            go_wp2_with fail
            go_loopw [3, 10] (fun v3 v10 w' => ∃ j : Nat, j ≤ 6 ∧ v10 = .int .i64 j ∧ Aside0 (KP w v3 (B5 ++ (L.take j).flatMap V.vput) ((y, .cells (L.map (Value.int .i64)).toArray 3 (0, 0)) :: [(x, vrB ⟨qk, qbr, qep, qsq, qf, qt, qv, true⟩)]) w')) (fun _ v10 _ => 6 - (intOf v10).toNat)
            case atStart => exact ⟨0, by omega, rfl, ⟨by simpa using HPe.out⟩⟩
            case round =>
              clear HPe
              obtain ⟨j, hj, rfl, HJ⟩ := hrel
              by_cases hj6 : j < 6
              · have p0 := row_int (HJ.out.2.1 _ List.mem_cons_self).2 j (by rw [HLL.out.1]; exact hj6)
                have hfl := flat_take V.vput L 0 j (by rw [HLL.out.1]; exact hj6)
                have hmem : L.getD j 0 ≤ 9223372036854775807 := by
                  have e : L.getD j 0 = L[j]'(by rw [HLL.out.1]; exact hj6) := by simp [List.getD_eq_getElem?_getD, HLL.out.1, hj6]
                  rw [e]
                  exact HLL.out.2 _ (List.getElem_mem _)
                have hll := HHL.out j
                generalize L.getD j 0 = a at *
                generalize (L.take j).flatMap V.vput = mid at *
                have HFL := Aside0.mk hfl
                have j1 : (0 : Int) ≤ (j : Int) := by omega
                have j2 : (j : Int) < 6 := by omega
                clear hfl
                go_wp2_with fail
                (with_reducible refine (V.refput_calls a _ hmem).mono ?_)
                rintro e w7 ⟨v7, rfl, hO7, hb7⟩
                have hvl := V.vput_le a hmem
                obtain ⟨n7, hn7⟩ : ∃ n7, (V.vput a).length = n7 := ⟨_, rfl⟩
                rw [hn7] at hvl
                obtain ⟨A7, c7, rfl, hc7, hC7⟩ := OB_readn hO7 n7 hn7
                have HC7 := Aside0.mk hC7
                have HJ7 := Aside0.mk (KP_step HJ.out hb7)
                clear hO7 hC7 hb7 HJ p0 hn7
                go_wp2_with ((with_reducible refine gate_dst (N := 93) rfl ?_); refine app_bytes rfl rfl rfl rfl HJ7.out.1 HC7.out HJ7.out.2.2.size (by rw [List.length_append, HM5.out]; omega) ?_; intro v8 w8 hO8 hb8 hg8 hat8; have HJ8 := Aside0.mk (KP_app HJ7.out hO8 hb8 hg8 hat8); clear hO8 hb8 hg8 hat8)
                go_roundw
                case rel => exact ⟨j + 1, hj6, rfl, ⟨by rw [HFL.out, ← List.append_assoc]; exact HJ8.out⟩⟩
                case measure => simp [intOf]; omega
              · obtain rfl : j = 6 := by omega
                have hta : L.take 6 = L := List.take_of_length_le (by rw [HLL.out.1]; omega)
                have hJ := HJ.out
                have hll := HHL.out 6
                rw [hta] at hJ hll
                have HK := Aside0.mk (KP_tail hJ)
                have hm6l : (B5 ++ L.flatMap V.vput).length ≤ 6000 := by rw [List.length_append, HM5.out]; omega
                obtain ⟨x0, x1, x2, x3, x4, x5, x6, x7⟩ := vr_cells (HK.out.2.1 _ List.mem_cons_self).2
                clear hta hJ hll HJ
                go_wp2_with fail
                (with_reducible refine (V.reftext_calls qv _ (by omega)).mono ?_)
                rintro e w7 ⟨v7, rfl, hO7, hb7⟩
                obtain ⟨n7, hn7⟩ : ∃ n7, (V.vtext qv).length = n7 := ⟨_, rfl⟩
                have hn7l : n7 ≤ 220 := by rw [← hn7, V.vtext_len]; have := V.vput_le (qv.size : Int) (by omega); omega
                obtain ⟨A7, c7, rfl, hc7, hC7⟩ := OB_readn hO7 n7 hn7
                have HC7 := Aside0.mk hC7
                have HK7 := Aside0.mk (KP_step HK.out hb7)
                clear hO7 hC7 hb7 HK hn7 x0 x1 x2 x3 x4 x5 x6 x7
                go_wp2_with ((with_reducible refine gate_dst (N := 98) rfl ?_); refine app_bytes rfl rfl rfl rfl HK7.out.1 HC7.out HK7.out.2.2.size (by omega) ?_; intro v8 w8 hO8 hb8 hg8 hat8; have HK8 := Aside0.mk (KP_app HK7.out hO8 hb8 hg8 hat8); obtain ⟨x0, x1, x2, x3, x4, x5, x6, x7⟩ := vr_cells (HK8.out.2.1 _ List.mem_cons_self).2; clear hO8 hb8 hg8 hat8)
                go_roundw
                case rel =>
                  refine ⟨k + 1, hlt, rfl, ?_, ⟨KP_forget HK8.out ?_⟩⟩
                  · rw [HTK.out, lastK_snoc]
                  · rw [HTK.out, bytesW_snoc, HLK.out, ← List.append_assoc, HBB.out]
                    unfold bytesP
                    simp only
                    rw [HCN.out, HSF.out.1, HGI.out, HLE.out, ← HB5.out]
                    simp only [List.append_assoc]
                case measure => simp [intOf]; omega
    · obtain rfl : k = n := by omega
      have i1 : ¬ (k : Int) < (k : Int) := by omega
      have hO := HK0.out.1
      rw [List.take_of_length_le (by rw [HN.out]; omega)] at hO
      have HOO := Aside0.mk hO
      have HBk := Aside0.mk HK0.out.2.2
      clear hO HK0
      go_wp2_with fail
      go_ret
      exact ⟨_, rfl, by unfold blockB; rw [HN.out]; exact HOO.out, HBk.out⟩
end Go.Proofs.Ytmfnbkghfmeekaa.A.C
