/- Rows of one's own that are written over; the reader, said of its row. -/
import Derived.Test.YthfpbaaefncamaaAReader
import Derived.Test.YthfpbaaefncamaaARefNumber
import Derived.Test.YthfpbaaefncamaaALawRound
namespace Go.Proofs.Ythfpbaaefncamaa.A
open Go.RowKit Go.Proofs.YthfpbaaefncamaaW.PrintWords Go.Proofs.YthfpbaaefncamaaW.PrintLast Go.Proofs.YthfpbaaefncamaaW.PrintMore
set_option linter.unusedVariables false
set_option linter.unusedSimpArgs false

/-- A row that is newer is apart. -/
theorem own_ne_newer {α β : Type} {d : Kd α} {d' : Kd β} {e e' B B' : Nat} {W W1 : World} {ok ok' : Nat → Prop} {v u : Value} {xs : List α} {ys : List β} (h : d.R e W B ok v xs) (h' : d'.R e' W1 B' ok' u ys) (hB : W.heap.size ≤ B') : u.ownBlock = none ∨ u.ownBlock ≠ v.ownBlock := by
  cases hu : u.ownBlock with
  | none => exact .inl rfl
  | some k =>
    refine .inr fun e1 => ?_
    have h1 := Kd.R_lt h k e1.symm
    have h2 := Kd.R_base h' k hu
    omega
theorem ne_turned {v u : Value} (h : u.ownBlock = none ∨ u.ownBlock ≠ v.ownBlock) : v.ownBlock = none ∨ v.ownBlock ≠ u.ownBlock := by
  cases hv : v.ownBlock with
  | none => exact .inl rfl
  | some k =>
    refine .inr fun e1 => ?_
    rcases h with h | h
    · rw [h] at e1
      cases e1
    · exact h (e1.symm.trans hv.symm)
/-- One byte of one's own row is written over. -/
theorem own_step {W : World} {B n c : Nat} {A : Option Addr} (h : ∃ l : List Int, OB W B (.slice A n c) l) (k : Nat) (hk : k < n) :
    ∃ g, A = some ⟨g, 0, none⟩ ∧ B ≤ g ∧ (∃ y, W.cell? ⟨g, k, none⟩ = some y) ∧ W.frozen? ⟨g, k, none⟩ = false ∧ ∀ y : Int, (∃ l : List Int, OB (W.setCell ⟨g, k, none⟩ (.int .u8 y)) B (.slice A n c) l) ∧ W.grownBy (W.setCell ⟨g, k, none⟩ (.int .u8 y)) (Value.slice A n c).ownBlock := by
  obtain ⟨l, h⟩ := h
  have hn := (Kd.R_reads' h).1
  obtain ⟨g, cap, e, hg, _, _⟩ := Kd.R_form h (by omega)
  injection e with e1 e2 e3
  subst e1
  have h1 := Kd.R_celln (0 : Int) h (k : Int) (by omega) (by omega)
  rw [Int.toNat_natCast] at h1
  refine ⟨g, rfl, hg, ⟨_, h1.1⟩, h1.2, fun y => ?_⟩
  have h2 := Kd.R_putg h (k : Int) y
  rw [Int.toNat_natCast] at h2
  exact ⟨⟨_, h2.1⟩, h2.2⟩
/-- A row's bytes, where its block stays. -/
theorem C_block {W W' : World} {g n : Nat} {l : List Int} (h : U8.C W (some ⟨g, 0, none⟩) n l) (hb : W'.heap[g]? = W.heap[g]?) : U8.C W' (some ⟨g, 0, none⟩) n l := by
  refine ⟨h.1, h.2.1, fun hp => ?_⟩
  obtain ⟨ad, e, hc⟩ := h.2.2 hp
  injection e with e
  subst e
  refine ⟨_, rfl, fun j p hj => ?_⟩
  obtain ⟨c0, h1, h2, h3⟩ := hc j p hj
  refine ⟨c0, h1, h2, fun i u hu => ?_⟩
  have h4 := h3 i u hu
  rw [add_plain] at h4 ⊢
  unfold World.cell? at h4 ⊢
  simpa only [hb] using h4
theorem bytesOf_str (L : List Int) (h : ∀ x ∈ L, 0 ≤ x ∧ x ≤ 255) : bytesOf (strOfNums L) = L := by
  show ((L.map fun n => UInt8.ofNat n.toNat).toArray.toList.map fun b => (b.toNat : Int)) = L
  rw [List.map_map]
  refine (List.map_congr_left (g := id) fun x hx => ?_).trans (List.map_id _)
  have hx := h x hx
  show ((UInt8.ofNat x.toNat).toNat : Int) = x
  rw [UInt8.toNat_ofNat']
  omega
theorem bytes_C (W : World) (e : TypeId) (s : ByteArray) (hs : s.size ≤ 9223372036854775807) : U8.C (Lib.bytesWorld W e s) (some ⟨W.heap.size, 0, none⟩) s.size (bytesOf s) := by
  refine ⟨bytesOf_length s, hs, fun _ => ⟨_, rfl, fun j p hj => ⟨[.int .u8 p], rfl, rfl, fun i u hu => ?_⟩⟩⟩
  have hi : i = 0 := by
    have := (List.getElem?_eq_some_iff.1 hu).1
    simpa using this
  subst hi
  have hu' : u = .int .u8 p := by simpa using hu.symm
  subst hu'
  have hjl : j < s.size := by
    have := (List.getElem?_eq_some_iff.1 hj).1
    rwa [bytesOf_length] at this
  rw [add_plain]
  show (Lib.bytesWorld W e s).cell? ⟨W.heap.size, j * 1 + 0, none⟩ = _
  rw [Nat.mul_one, Nat.add_zero, Lib.bytesWorld_cell W e s j hjl]
  have h' : j < s.data.toList.length := by simpa using hjl
  have e2 : (bytesOf s)[j]? = some ((s.data.toList[j].toNat : Nat) : Int) := by
    unfold bytesOf
    rw [List.getElem?_map, List.getElem?_eq_getElem h']
    rfl
  rw [e2] at hj
  injection hj with hj
  rw [← hj, List.getD_eq_getElem?_getD, List.getElem?_eq_getElem h']
  rfl
set_option maxRecDepth 100000 in
/-- A reader of bytes: its row is its own. -/
theorem readO_calls (A : Option Addr) (n c : Nat) (bs : List Int) (w : World) (hr : U8.C w A n bs) (hc : n ≤ c) (hl : n ≤ 100000) :
    Calls Try.prog 14 #[.slice A n c] w fun e w' => ∃ (g : Nat) (A2 : Option Addr) (c2 : Nat), e = .returned (.pointer (some ⟨g, 0, none⟩)) ∧ w'.heap[g]? = some (rdr A2 n c2 0) ∧ n ≤ c2 ∧ OB w' w.heap.size (.slice A2 n c2) bs ∧ Below w.heap.size w w' ∧ w.heap.size ≤ g := by
  have HR := Aside0.mk hr
  have hn := hr.1
  have HN := Aside0.mk hn
  clear hr hn
  go_enter Try.func14, Try.ntmps14
  go_wp2_with fail
  (with_reducible refine (cloneN_calls _ _ _ bs _ HR.out hc (by omega)).mono ?_)
  rintro e w2 ⟨v2, rfl, HO2, hb2⟩
  obtain ⟨A2, c2, rfl, hc2, HC2⟩ := OB_readn HO2 n HN.out
  have HB2 := Aside0.mk hb2
  have HO := Aside0.mk HO2
  clear HO2 HC2 hb2
  go_wp2
  go_ret
  exact ⟨w2.heap.size, A2, c2, rfl, heap_alloc_new w2 _, hc2, Kd.R_alloc HO.out _, below_alloc HB2.out _, HB2.out.size⟩
end Go.Proofs.Ythfpbaaefncamaa.A
