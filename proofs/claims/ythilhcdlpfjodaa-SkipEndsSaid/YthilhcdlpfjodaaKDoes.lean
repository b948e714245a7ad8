/- What is asked of a list, of both; texts cut; the document's example. -/
import Derived.Test.YthilhcdlpfjodaaKHeight
namespace Go.Proofs.Ythilhcdlpfjodaa.A
open Go.RowKit Go.Proofs.YthilhcdlpfjodaaW.PrintWords Go.Proofs.YthilhcdlpfjodaaW.PrintLast Go.Proofs.YthilhcdlpfjodaaW.PrintMore
set_option linter.unusedVariables false
set_option linter.unusedSimpArgs false

def fewS (s : ByteArray) : ByteArray := if 8 < s.size then s.extract 0 8 else s
theorem few_calls (s : ByteArray) (w : World) (hs : s.size ≤ 9223372036854775807) : Calls Try.prog 14 #[.string s] w fun e w' => e = .returned (.string (fewS s)) ∧ w = w' := by
  by_cases h : 8 < s.size
  · have e1 : fewS s = s.extract 0 8 := if_pos h
    rw [e1]
    have h1 : (8 : Int) < (s.size : Int) := by omega
    clear e1
    go_enter Try.func14, Try.ntmps14
    go_wp2
    go_ret
    exact ⟨rfl, rfl⟩
  · have e1 : fewS s = s := if_neg h
    rw [e1]
    have h1 : ¬ (8 : Int) < (s.size : Int) := by omega
    clear e1
    go_enter Try.func14, Try.ntmps14
    go_wp2
    go_ret
    exact ⟨rfl, rfl⟩
structure Dd where
  kind : Int
  lv : Int
  v : Int
  key : ByteArray
instance : Inhabited Dd := ⟨⟨0, 0, 0, ByteArray.empty⟩⟩
def doS (l : List It) (d : Dd) : List It := if d.kind = 0 then putS l (fewS d.key) d.lv d.v else if d.kind = 1 then dropS l (fewS d.key) else l
theorem putS_len (l : List It) (key : ByteArray) (lv v : Int) : (putS l key lv v).length ≤ l.length + 1 := by
  unfold putS
  split <;> (rw [List.length_append, List.length_take, List.length_cons, List.length_drop]; omega)
theorem dropS_len (l : List It) (key : ByteArray) : (dropS l key).length ≤ l.length := by
  unfold dropS
  split
  · rw [List.length_append, List.length_take, List.length_drop]; omega
  · exact Nat.le_refl _
theorem doS_len (l : List It) (d : Dd) : (doS l d).length ≤ l.length + 1 := by
  unfold doS
  have h1 := putS_len l (fewS d.key) d.lv d.v
  have h2 := dropS_len l (fewS d.key)
  split
  · exact h1
  · split
    · omega
    · omega
theorem SL_types {W : World} {L : Nat} {xs : List Nd} {f : Nat → Nat → Option Nat} {m : Int} (h : SL W L xs f m) : ∀ k ∈ L :: blks xs, ∀ cs q fr, W.heap[k]? = some (.cells cs q fr) → q = 55 ∨ q = 53 ∨ q = 50 := by
  intro k hk cs q fr hq
  rcases List.mem_cons.1 hk with rfl | hk
  · rw [h.1] at hq
    injection hq with hq
    injection hq with h1 h2
    exact .inl h2.symm
  · obtain ⟨n, hn, hk⟩ := List.mem_flatMap.1 hk
    obtain ⟨i, hi, rfl⟩ := List.mem_iff_getElem.1 hn
    have h3 := h.2.2.1 i hi
    rw [getD_idx xs i hi] at h3
    simp only [List.mem_cons, List.not_mem_nil, or_false] at hk
    rcases hk with rfl | rfl
    · rw [h3.1] at hq
      injection hq with hq
      injection hq with h1 h2
      exact .inr (.inl h2.symm)
    · rw [h3.2] at hq
      injection hq with hq
      injection hq with h1 h2
      exact .inr (.inr h2.symm)
/-- A row of another type stays where the list is written. -/
theorem OR_frm {α : Type} {d : Kd α} {e : Nat} {W W1 : World} {B : Nat} {v : Value} {l : List α} {L : Nat} {xs : List Nd} {f : Nat → Nat → Option Nat} {m : Int} (h : OR d e W B v l) (hS : SL W L xs f m) (hb : Frm (L :: blks xs) W W1)
    (ht : ∀ q ∈ e :: d.E, q ≠ 55 ∧ q ≠ 53 ∧ q ≠ 50) : OR d e W1 B v l := by
  refine Kd.R_mono (Kd.R_move (Kd.R_bound h) ?_) (fun _ _ => trivial)
  rintro k ⟨-, h1, h2, q, hq, cells, hc⟩
  refine hb.block k h2 (fun hk => ?_)
  have h3 := SL_types hS k hk _ _ _ hc
  obtain ⟨a1, a2, a3⟩ := ht q hq
  rcases h3 with h3 | h3 | h3
  · exact a1 h3
  · exact a2 h3
  · exact a3 h3
theorem OIt_frm {W W1 : World} {B : Nat} {v : Value} {l : List It} {L : Nat} {xs : List Nd} (h : OIt W B v l) (hS : SK W L xs) (hb : Frm (L :: blks xs) W W1) : OIt W1 B v l :=
  OR_frm h hS.1 hb (fun q hq => by
    have : q = 47 := by simpa [KIt, Kd.iso, Kd.pair, Kd.string, Kd.int, Kd.scalar] using hq
    subst this
    decide)
theorem OStr_frm {W W1 : World} {B : Nat} {v : Value} {l : List ByteArray} {L : Nat} {xs : List Nd} (h : OStr W B v l) (hS : SK W L xs) (hb : Frm (L :: blks xs) W W1) : OStr W1 B v l :=
  OR_frm h hS.1 hb (fun q hq => by
    have : q = 9 := by simpa [Kd.string, Kd.scalar] using hq
    subst this
    decide)
/-- A list, and the document's row beside it. -/
def LB (W : World) (B L : Nat) (xs : List Nd) (v : Value) (l : List It) : Prop := SK W L xs ∧ xs.tail.map Nd.it = l ∧ OIt W B v l
/-- What a step does to both. -/
def LBs (w W : World) (B L : Nat) (xs : List Nd) (v : Value) (l : List It) : Prop := ∃ xs', LB W B L xs' v l ∧ Frm (L :: blks xs) w W ∧ ∀ k ∈ blks xs', k ∈ blks xs ∨ w.heap.size ≤ k
theorem frm_trans {w W1 W2 : World} {L : Nat} {xs xs1 xs2 : List Nd} (h1 : Frm (L :: blks xs) w W1) (hs1 : ∀ k ∈ blks xs1, k ∈ blks xs ∨ w.heap.size ≤ k) (h2 : Frm (L :: blks xs1) W1 W2) (hs2 : ∀ k ∈ blks xs2, k ∈ blks xs1 ∨ W1.heap.size ≤ k) : Frm (L :: blks xs) w W2 ∧ ∀ k ∈ blks xs2, k ∈ blks xs ∨ w.heap.size ≤ k := by
  refine ⟨⟨h2.os.trans h1.os, h2.tape.trans h1.tape, h2.output.trans h1.output, Nat.le_trans h1.size h2.size, fun k hk hn => ?_⟩, fun k hk => ?_⟩
  · refine (h2.block k (Nat.lt_of_lt_of_le hk h1.size) (fun h => ?_)).trans (h1.block k hk hn)
    rcases List.mem_cons.1 h with rfl | h
    · exact hn List.mem_cons_self
    · rcases hs1 k h with h3 | h3
      · exact hn (List.mem_cons_of_mem _ h3)
      · omega
  · rcases hs2 k hk with h3 | h3
    · exact hs1 k h3
    · right
      have := h1.size
      omega
theorem LB_below {w W : World} {B L : Nat} {xs : List Nd} {v : Value} {l : List It} (h : LB w B L xs v l) (hb : Below w.heap.size w W) : LB W B L xs v l := ⟨⟨SL_below h.1.1 hb, h.1.2⟩, h.2.1, Kd.R_below h.2.2 hb⟩
abbrev ddBox (d : Dd) : Obj := .cells #[.int .i64 d.kind, .int .i64 d.lv, .int .i64 d.v, .string d.key] 29
theorem dd_cells {W : World} {g : Nat} {d : Dd} (h : W.heap[g]? = some (ddBox d)) : W.cell? ⟨g, 0, none⟩ = some (.int .i64 d.kind) ∧ W.cell? ⟨g, 1, none⟩ = some (.int .i64 d.lv) ∧ W.cell? ⟨g, 2, none⟩ = some (.int .i64 d.v) ∧ W.cell? ⟨g, 3, none⟩ = some (.string d.key) := by
  refine ⟨?_, ?_, ?_, ?_⟩ <;> (rw [cell_of_row _ _ _ _ _ _ h]; rfl)
set_option maxRecDepth 100000 in
set_option maxHeartbeats 4000000 in
theorem does_put (w : World) (B L : Nat) (xs : List Nd) (v : Value) (l : List It) (d : Dd) (h : LB w B L xs v l) (hB : B ≤ w.heap.size) (hl : l.length ≤ 900) (hk : d.key.size ≤ 9223372036854775807) (h0 : d.kind = 0) :
    Calls Try.prog 9 #[.pointer (some ⟨L, 0, none⟩), v, .agg #[.int .i64 d.kind, .int .i64 d.lv, .int .i64 d.v, .string d.key]] w fun e w' => ∃ v', e = .returned (.tuple #[v', .bool true]) ∧ LBs w w' B L xs v' (doS l d) := by
  obtain ⟨kd, lv, z, key⟩ := d
  simp only at h0 hk
  subst h0
  obtain ⟨n, hn⟩ : ∃ n, l.length = n := ⟨_, rfl⟩
  have hn9 : n ≤ 900 := by omega
  obtain ⟨A, c, rfl, hc, hC⟩ := OIt_readn h.2.2 n hn
  have HH := Aside0.mk h
  have HC := Aside0.mk hC
  have HXL : Aside0 (xs.length ≤ 1000) := ⟨by
    have h1 := tail_len xs
    rw [h.2.1] at h1
    omega⟩
  have HD : Aside0 (doS l ⟨0, lv, z, key⟩ = putS l (fewS key) lv z) := ⟨rfl⟩
  obtain ⟨W0, hW0⟩ : ∃ W0, w.alloc (ddBox ⟨0, lv, z, key⟩) = W0 := ⟨_, rfl⟩
  have hb0 : Below w.heap.size w W0 := by rw [← hW0]; exact below_alloc (Below.refl _ _) _
  have hg := heap_alloc_new w (ddBox ⟨0, lv, z, key⟩)
  rw [hW0] at hg
  obtain ⟨x0, x1, x2, x3⟩ := dd_cells hg
  have HG := Aside0.mk hg
  have HB0 := Aside0.mk hb0
  clear h hC hn hg hb0
  go_enter Try.func9, Try.ntmps9
  go_wp2_with fail
  (with_reducible refine (few_calls key W0 hk).mono ?_)
  rintro e w1 ⟨rfl, rfl⟩
  obtain ⟨b, hb⟩ : ∃ b, (!isS l (fewS key)) = b := ⟨_, rfl⟩
  have HR := Aside0.mk (rput_calls A n c l (fewS key) lv z W0 (Kd.C_below HC.out HB0.out) hc (by omega))
  have HS0 : Aside0 (SK W0 L xs) := ⟨SL_below HH.out.1.1 HB0.out, HH.out.1.2⟩
  have HP := Aside0.mk (fun W (hW : SK W L xs) => put_calls W L xs (fewS key) lv z hW (by have := HXL.out; omega))
  rw [HH.out.2.1] at HP
  rw [hb] at HR HP
  clear hb
  go_wp2_with fail
  (with_reducible refine HR.out.mono ?_)
  rintro e w2 ⟨v2, rfl, hO2, hb2⟩
  have HO2 := Aside0.mk hO2
  have HS2 : Aside0 (SK w2 L xs) := ⟨SL_below HS0.out.1 hb2, HS0.out.2⟩
  have HB2 := Aside0.mk (below_step HB0.out hb2)
  clear x0 x1 x2 x3
  obtain ⟨x0, x1, x2, x3⟩ := dd_cells (blk_keep HG.out hb2)
  have hsz : w.heap.size ≤ W0.heap.size := HB0.out.size
  have HSZ := Aside0.mk hsz
  clear hO2 hb2 hsz
  go_wp2_with fail
  (with_reducible refine (HP.out w2 HS2.out).mono ?_)
  rintro e w3 ⟨rfl, xs3, k1, k2, k3, k4⟩
  have HK := Aside0.mk (show LBs w w3 B L xs v2 (doS l ⟨0, lv, z, key⟩) from by
    refine ⟨xs3, ⟨k1, by rw [k2, HD.out], ?_⟩, (Frm.of_below HB2.out).trans k3, fun k hk => (k4 k hk).elim .inl (fun h9 => .inr (by have := HB2.out.size; omega))⟩
    rw [HD.out]
    exact OIt_frm (Kd.R_lower HO2.out (by have := HSZ.out; omega)) HS2.out k3)
  clear k1 k2 k3 k4 x0 x1 x2 x3
  go_wp2_with fail
  go_ret2
  exact ⟨v2, rfl, HK.out⟩
set_option maxRecDepth 100000 in
set_option maxHeartbeats 4000000 in
theorem does_drop (w : World) (B L : Nat) (xs : List Nd) (v : Value) (l : List It) (d : Dd) (h : LB w B L xs v l) (hB : B ≤ w.heap.size) (hl : l.length ≤ 900) (hk : d.key.size ≤ 9223372036854775807) (h0 : d.kind = 1) :
    Calls Try.prog 9 #[.pointer (some ⟨L, 0, none⟩), v, .agg #[.int .i64 d.kind, .int .i64 d.lv, .int .i64 d.v, .string d.key]] w fun e w' => ∃ v', e = .returned (.tuple #[v', .bool true]) ∧ LBs w w' B L xs v' (doS l d) := by
  obtain ⟨kd, lv, z, key⟩ := d
  simp only at h0 hk
  subst h0
  obtain ⟨n, hn⟩ : ∃ n, l.length = n := ⟨_, rfl⟩
  have hn9 : n ≤ 900 := by omega
  obtain ⟨A, c, rfl, hc, hC⟩ := OIt_readn h.2.2 n hn
  have HH := Aside0.mk h
  have HC := Aside0.mk hC
  have HXL : Aside0 (xs.length ≤ 1000) := ⟨by
    have h1 := tail_len xs
    rw [h.2.1] at h1
    omega⟩
  have HD : Aside0 (doS l ⟨1, lv, z, key⟩ = dropS l (fewS key)) := ⟨rfl⟩
  obtain ⟨W0, hW0⟩ : ∃ W0, w.alloc (ddBox ⟨1, lv, z, key⟩) = W0 := ⟨_, rfl⟩
  have hb0 : Below w.heap.size w W0 := by rw [← hW0]; exact below_alloc (Below.refl _ _) _
  have hg := heap_alloc_new w (ddBox ⟨1, lv, z, key⟩)
  rw [hW0] at hg
  obtain ⟨x0, x1, x2, x3⟩ := dd_cells hg
  have HG := Aside0.mk hg
  have HB0 := Aside0.mk hb0
  clear h hC hn hg hb0
  go_enter Try.func9, Try.ntmps9
  go_wp2_with fail
  (with_reducible refine (few_calls key W0 hk).mono ?_)
  rintro e w1 ⟨rfl, rfl⟩
  obtain ⟨b, hb⟩ : ∃ b, isS l (fewS key) = b := ⟨_, rfl⟩
  have HR := Aside0.mk (rdrop_calls A n c l (fewS key) W0 B (Nat.le_trans hB HB0.out.size) (Kd.R_below HH.out.2.2 HB0.out) hc (by omega))
  have HS0 : Aside0 (SK W0 L xs) := ⟨SL_below HH.out.1.1 HB0.out, HH.out.1.2⟩
  have HP := Aside0.mk (fun W (hW : SK W L xs) => drop_calls W L xs (fewS key) hW (by have := HXL.out; omega))
  rw [HH.out.2.1] at HP
  rw [hb] at HR HP
  clear hb
  go_wp2_with fail
  (with_reducible refine HR.out.mono ?_)
  rintro e w2 ⟨v2, rfl, hO2, hb2⟩
  have HO2 := Aside0.mk hO2
  have HS2 : Aside0 (SK w2 L xs) := ⟨SL_below HS0.out.1 hb2, HS0.out.2⟩
  have HB2 := Aside0.mk (below_step HB0.out hb2)
  clear x0 x1 x2 x3
  obtain ⟨x0, x1, x2, x3⟩ := dd_cells (blk_keep HG.out hb2)
  have hsz : w.heap.size ≤ W0.heap.size := HB0.out.size
  have HSZ := Aside0.mk hsz
  clear hO2 hb2 hsz
  go_wp2_with fail
  (with_reducible refine (HP.out w2 HS2.out).mono ?_)
  rintro e w3 ⟨rfl, xs3, k1, k2, k3, k4⟩
  have HK := Aside0.mk (show LBs w w3 B L xs v2 (doS l ⟨1, lv, z, key⟩) from by
    refine ⟨xs3, ⟨k1, by rw [k2, HD.out], ?_⟩, (Frm.of_below HB2.out).trans k3, fun k hk => .inl (k4 k hk)⟩
    rw [HD.out]
    exact OIt_frm HO2.out HS2.out k3)
  clear k1 k2 k3 k4 x0 x1 x2 x3
  go_wp2_with fail
  go_ret2
  exact ⟨v2, rfl, HK.out⟩
set_option maxRecDepth 100000 in
set_option maxHeartbeats 4000000 in
theorem does_get (w : World) (B L : Nat) (xs : List Nd) (v : Value) (l : List It) (d : Dd) (h : LB w B L xs v l) (hB : B ≤ w.heap.size) (hl : l.length ≤ 900) (hk : d.key.size ≤ 9223372036854775807) (h0 : d.kind ≠ 0) (h1 : d.kind ≠ 1) :
    Calls Try.prog 9 #[.pointer (some ⟨L, 0, none⟩), v, .agg #[.int .i64 d.kind, .int .i64 d.lv, .int .i64 d.v, .string d.key]] w fun e w' => ∃ v', e = .returned (.tuple #[v', .bool true]) ∧ LBs w w' B L xs v' (doS l d) := by
  obtain ⟨kd, lv, z, key⟩ := d
  simp only at h0 h1 hk
  obtain ⟨n, hn⟩ : ∃ n, l.length = n := ⟨_, rfl⟩
  have hn9 : n ≤ 900 := by omega
  obtain ⟨A, c, rfl, hc, hC⟩ := OIt_readn h.2.2 n hn
  have HH := Aside0.mk h
  have HC := Aside0.mk hC
  have HXL : Aside0 (xs.length ≤ 1000) := ⟨by
    have h1 := tail_len xs
    rw [h.2.1] at h1
    omega⟩
  have HD : Aside0 (doS l ⟨kd, lv, z, key⟩ = l) := ⟨by unfold doS; rw [if_neg h0, if_neg h1]⟩
  obtain ⟨W0, hW0⟩ : ∃ W0, w.alloc (ddBox ⟨kd, lv, z, key⟩) = W0 := ⟨_, rfl⟩
  have hb0 : Below w.heap.size w W0 := by rw [← hW0]; exact below_alloc (Below.refl _ _) _
  have hg := heap_alloc_new w (ddBox ⟨kd, lv, z, key⟩)
  rw [hW0] at hg
  obtain ⟨x0, x1, x2, x3⟩ := dd_cells hg
  have HG := Aside0.mk hg
  have HB0 := Aside0.mk hb0
  have j1 : (kd == 0) = false := by simpa using h0
  have j2 : (kd == 1) = false := by simpa using h1
  have hfl : floorS l (fewS key) = if isS l (fewS key) then (fewS key, true) else floorS l (fewS key) := by
    cases hi : isS l (fewS key) with
    | true => unfold floorS; rw [hi]; rfl
    | false => rfl
  have hth : isS l (fewS key) = false → (floorS l (fewS key)).2 = true → ((floorS l (fewS key)).1.toList == (fewS key).toList) = false := by
    intro h3 h4
    unfold floorS at h4 ⊢
    rw [h3, if_neg (by simp)] at h4 ⊢
    by_cases h5 : atS l (fewS key) = 0
    · rw [if_pos h5] at h4
      cases h4
    · rw [if_neg h5]
      have h6 := atS_lt l (fewS key) (atS l (fewS key) - 1) (by omega)
      rw [beq_eq_false_iff_ne]
      intro h7
      have h8 : (l.getD (atS l (fewS key) - 1) default).k = fewS key := toL_inj h7
      rw [h8, ltS_self] at h6
      cases h6
  have hty : isS l (fewS key) = true → atS l (fewS key) < n := fun h => by have := (isS_lt h).1; omega
  have HG2 := Aside0.mk (fun W (hW : SK W L xs) => get_calls W L xs (fewS key) hW)
  rw [h.2.1] at HG2
  have HF := Aside0.mk (fun W (hW : KIt.C W A n l) => rfloor_calls A n c l (fewS key) W hW hc (by omega))
  have HFR := Aside0.mk (fun W (hW : KIt.C W A n l) => rfrom_calls A n c l (fewS key) W hW hc (by omega))
  have hgs : getS l (fewS key) = if isS l (fewS key) then ((l.getD (atS l (fewS key)) default).v, true) else (0, false) := rfl
  have hfr : fromS l (fewS key) = l.drop (atS l (fewS key)) := rfl
  have HS0 : Aside0 (SK W0 L xs) := ⟨SL_below HH.out.1.1 hb0, HH.out.1.2⟩
  have HN := Aside0.mk hn
  obtain ⟨key2, hkey2⟩ : ∃ k, fewS key = k := ⟨_, rfl⟩
  rw [hkey2] at HG2 HF HFR hgs hfr hfl hth hty
  have HK2 := Aside0.mk hkey2
  clear h hC hn hg hb0 h0 h1 hkey2
  cases hi : isS l key2 with
  | true =>
    rw [hi, if_pos rfl] at hgs hfl
    rw [hgs] at HG2
    rw [hfl] at HF
    have hpl := hty hi
    have HFS := Aside0.mk hfr
    obtain ⟨p, hp⟩ : ∃ p, atS l key2 = p := ⟨_, rfl⟩
    rw [hp] at HFR HFS hpl HG2
    have HP := Aside0.mk hpl
    obtain ⟨m, hm⟩ : ∃ m, n - p = m := ⟨_, rfl⟩
    rw [hm] at HFR
    have j5 : (0 : Int) < (m : Int) := by omega
    have j6 : 0 < m := by omega
    obtain ⟨x, hx⟩ : ∃ x, (l.getD p default).v = x := ⟨_, rfl⟩
    rw [hx] at HG2
    have HX := Aside0.mk hx
    clear hgs hfr hfl hth hty hi hp hx hpl hm
    go_enter Try.func9, Try.ntmps9
    go_wp2_with fail
    (with_reducible refine (few_calls key W0 hk).mono ?_)
    rintro e w1 ⟨rfl, rfl⟩
    rw [HK2.out]
    go_wp2_with fail
    (with_reducible refine (HG2.out W0 HS0.out).mono ?_)
    rintro e w2 ⟨rfl, hb2⟩
    have HB2 := Aside0.mk (below_step HB0.out hb2)
    clear hb2 x0 x1 x2 x3
    go_wp2_with fail
    (with_reducible refine (HF.out w2 (Kd.C_below HC.out HB2.out)).mono ?_)
    rintro e w3 ⟨rfl, hb3⟩
    have HB3 := Aside0.mk (below_step HB2.out hb3)
    clear hb3
    go_wp2_with fail
    (with_reducible refine (HFR.out w3 (Kd.C_below HC.out HB3.out)).mono ?_)
    rintro e w4 ⟨A4, c4, rfl, hc4, hC4, hb4⟩
    have HB4 := Aside0.mk (below_drew1 (below_step HB3.out hb4))
    have HC4 := hC4 w4.drew (Kd.C_below HC.out HB4.out)
    obtain ⟨ad, rfl, -, -, q2⟩ := C_atIt HC4 0 j6
    have e2 : ((fromS l key2).getD 0 default).v = x := by
      rw [HFS.out, ← HX.out, List.getD_eq_getElem?_getD, List.getD_eq_getElem?_getD, List.getElem?_drop]
      rfl
    rw [e2] at q2
    have q3 : w4.drew.cell? ⟨ad.block, ad.off + 2, none⟩ = some (.int .i64 x) := by
      have h9 := q2
      rw [Nat.zero_mul] at h9
      unfold Addr.add at h9
      simpa using h9
    clear hb4 hC4 HC4 e2 q2
    go_wp2_with fail
    go_region
    all_goals go_wp2_with fail
    all_goals go_ret2
    all_goals exact ⟨_, rfl, xs, by rw [HD.out]; exact LB_below HH.out HB4.out, Frm.of_below HB4.out, fun k hk => .inl hk⟩
  | false =>
    rw [hi, if_neg (by simp)] at hgs
    rw [hgs] at HG2
    have hth2 := hth hi
    obtain ⟨s, hs⟩ : ∃ s, (floorS l key2).1 = s := ⟨_, rfl⟩
    obtain ⟨b, hb⟩ : ∃ s, (floorS l key2).2 = s := ⟨_, rfl⟩
    rw [hs, hb] at HF hth2
    clear hgs hfr hfl hth hty hi hs hb
    cases b with
    | true =>
      have hsk := hth2 rfl
      clear hth2
      go_enter Try.func9, Try.ntmps9
      go_wp2_with fail
      (with_reducible refine (few_calls key W0 hk).mono ?_)
      rintro e w1 ⟨rfl, rfl⟩
      rw [HK2.out]
      go_wp2_with fail
      (with_reducible refine (HG2.out W0 HS0.out).mono ?_)
      rintro e w2 ⟨rfl, hb2⟩
      have HB2 := Aside0.mk (below_step HB0.out hb2)
      clear hb2 x0 x1 x2 x3
      go_wp2_with fail
      (with_reducible refine (HF.out w2 (Kd.C_below HC.out HB2.out)).mono ?_)
      rintro e w3 ⟨rfl, hb3⟩
      have HB3 := Aside0.mk (below_step HB2.out hb3)
      clear hb3
      go_wp2_with fail
      go_ret2
      exact ⟨_, rfl, xs, by rw [HD.out]; exact LB_below HH.out HB3.out, Frm.of_below HB3.out, fun k hk => .inl hk⟩
    | false =>
      clear hth2
      go_enter Try.func9, Try.ntmps9
      go_wp2_with fail
      (with_reducible refine (few_calls key W0 hk).mono ?_)
      rintro e w1 ⟨rfl, rfl⟩
      rw [HK2.out]
      go_wp2_with fail
      (with_reducible refine (HG2.out W0 HS0.out).mono ?_)
      rintro e w2 ⟨rfl, hb2⟩
      have HB2 := Aside0.mk (below_step HB0.out hb2)
      clear hb2 x0 x1 x2 x3
      go_wp2_with fail
      (with_reducible refine (HF.out w2 (Kd.C_below HC.out HB2.out)).mono ?_)
      rintro e w3 ⟨rfl, hb3⟩
      have HB3 := Aside0.mk (below_step HB2.out hb3)
      clear hb3
      go_wp2_with fail
      go_ret2
      exact ⟨_, rfl, xs, by rw [HD.out]; exact LB_below HH.out HB3.out, Frm.of_below HB3.out, fun k hk => .inl hk⟩
theorem does_calls (w : World) (B L : Nat) (xs : List Nd) (v : Value) (l : List It) (d : Dd) (h : LB w B L xs v l) (hB : B ≤ w.heap.size) (hl : l.length ≤ 900) (hk : d.key.size ≤ 9223372036854775807) :
    Calls Try.prog 9 #[.pointer (some ⟨L, 0, none⟩), v, .agg #[.int .i64 d.kind, .int .i64 d.lv, .int .i64 d.v, .string d.key]] w fun e w' => ∃ v', e = .returned (.tuple #[v', .bool true]) ∧ LBs w w' B L xs v' (doS l d) := by
  by_cases h0 : d.kind = 0
  · exact does_put w B L xs v l d h hB hl hk h0
  · by_cases h1 : d.kind = 1
    · exact does_drop w B L xs v l d h hB hl hk h1
    · exact does_get w B L xs v l d h hB hl hk h0 h1
end Go.Proofs.Ythilhcdlpfjodaa.A
