/- Texts as bytes, and the document's numbers. -/
import Derived.Test.YtmkabbfglijckaaVAFew
namespace Go.Proofs.Ytmkabbfglijckaa.A.V
open Go.RowKit Go.Proofs.YtmkabbfglijckaaW.PrintWords Go.Proofs.YtmkabbfglijckaaW.PrintLast Go.Proofs.YtmkabbfglijckaaW.PrintMore
attribute [local go_sem] max2_int min2_int max_two min_two
set_option linter.unusedVariables false
set_option linter.unusedSimpArgs false

/-- A list of texts, read at a place. -/
theorem C_atT {A : Option Addr} {l : List ByteArray} {w : World} (h : Kd.string.C w A l.length l) (i : Nat) (hi : i < l.length) : ∃ ad, A = some ad ∧ w.cell? (ad.add i) = some (.string (l.getD i default)) := by
  obtain ⟨ad, e, hc⟩ := h.2.2 (by omega)
  obtain ⟨c, h1, h2, h3⟩ := hc i _ (List.getElem?_eq_getElem hi)
  have h2' : c = [Value.string l[i]] := h2
  subst h2'
  refine ⟨ad, e, ?_⟩
  have := h3 0 _ rfl
  simpa [Kd.string, Kd.scalar, List.getD_eq_getElem?_getD, hi] using this
/-- A literal row of texts. -/
theorem lit_CT (W : World) (l : List ByteArray) (e : Nat) (hl : l.length ≤ 9223372036854775807) (fr : Nat × Nat) : Kd.string.C (W.alloc (.cells (l.map Value.string).toArray e fr)) (some ⟨W.heap.size, 0, none⟩) l.length l := by
  refine ⟨rfl, hl, fun _ => ⟨_, rfl, fun j p hj => ⟨[.string p], rfl, rfl, fun i u hu => ?_⟩⟩⟩
  have hi : i = 0 := by
    have := (List.getElem?_eq_some_iff.1 hu).1
    simpa using this
  subst hi
  have hu' : u = .string p := by simpa using hu.symm
  subst hu'
  rw [add_plain, cell_of_row _ _ _ (l.map Value.string).toArray e fr (heap_alloc_new W _)]
  simp [Kd.string, Kd.scalar, hj]
/-- A text's length and bytes. -/
def vtext (s : ByteArray) : List Int := vput s.size ++ bytesOf s
theorem vtext_len (s : ByteArray) : (vtext s).length = (vput s.size).length + s.size := by rw [vtext, List.length_append, bytesOf_length]

set_option maxRecDepth 100000 in
set_option maxHeartbeats 1000000 in
theorem text_calls (A : Option Addr) (n c : Nat) (b : List Int) (A1 : Option Addr) (n1 c1 : Nat) (l : List ByteArray) (w : World) (hr : U8.C w A n b) (hc : n ≤ c) (hr1 : Kd.string.C w A1 n1 l) (hc1 : n1 ≤ c1) (hl : b.length + (l.flatMap vtext).length ≤ 140737000000000) :
    Calls Try.prog 44 #[.slice A n c, .slice A1 n1 c1] w fun e w' => ∃ v, e = .returned v ∧ OB w' w.heap.size v (b ++ l.flatMap vtext) ∧ Below w.heap.size w w' := by
  have hn1 := hr1.1
  subst hn1
  have hm : l.length ≤ 9223372036854775807 := hr1.2.1
  have HR1 := Aside0.mk hr1
  have HL := Aside0.mk hl
  have hnb : n ≤ 140737000000000 := by
    have := hr.1
    omega
  have HR := Aside0.mk hr
  clear hr hr1 hl
  go_enter Try.func44, Try.ntmps44
  go_wp2_with fail
  (with_reducible refine (cloneN_calls _ _ _ b _ HR.out hc (by omega)).mono ?_)
  rintro e w1 ⟨v1, rfl, HO1, hb1⟩
  have HO := Aside0.mk HO1
  have HB := Aside0.mk hb1
  clear HO1 hb1 HR
  go_wp2
  go_loopw [0, 11] (fun v0 v11 w' => ∃ k : Nat, k ≤ l.length ∧ v11 = .int .i64 k ∧ Aside0 (OB w' w.heap.size v0 (b ++ (l.take k).flatMap vtext)) ∧ Aside0 (Below w.heap.size w w')) (fun _ v11 _ => l.length - (intOf v11).toNat)
  case atStart => exact ⟨0, Nat.zero_le _, rfl, ⟨by simpa using HO.out⟩, HB⟩
  case round =>
    clear HO HB
    obtain ⟨k, hk, rfl, HO, HB⟩ := hrel
    by_cases hlt : k < l.length
    · obtain ⟨ad, rfl, hcell0⟩ := C_atT HR1.out k hlt
      have hcell := pw_cell_below HB.out hcell0
      have hfl := flat_take vtext l default k hlt
      have hle := flat_le vtext l (k + 1)
      have hL := HL.out
      rw [hfl, List.length_append, vtext_len] at hle
      generalize hx : l.getD k default = x at *
      generalize hp : (l.take k).flatMap vtext = pre at *
      obtain ⟨n0, hn0⟩ : ∃ n0, (b ++ pre).length = n0 := ⟨_, rfl⟩
      have hn0' : n0 = b.length + pre.length := by rw [← hn0, List.length_append]
      obtain ⟨A0, cp0, rfl, hcp0, HC0⟩ := OB_readn HO.out n0 hn0
      have HC := Aside0.mk HC0
      have HX := Aside0.mk hfl
      have hxs : x.size ≤ 140737000000000 := by omega
      have hxt : n0 + 9 + x.size ≤ 140737488000000 := by omega
      have h9 := vput_le (x.size : Int) (by omega)
      clear hx hfl hle hL hcell0 hp HC0 hn0 hn0'
      go_wp2_with fail
      (with_reducible refine (put1_calls _ _ _ (b ++ pre) _ _ _ HC.out hcp0 (by omega) (by omega)).mono ?_)
      rintro e w2 ⟨v2, rfl, HO2, hb2⟩
      have hlen2 : (b ++ pre ++ vput (x.size : Int)).length ≤ n0 + 9 := by
        have := HC.out.1
        rw [List.length_append, this]
        omega
      have HO3 := Aside0.mk (Kd.R_lower HO2 HB.out.size)
      have HB3 := Aside0.mk (below_step HB.out hb2)
      clear HO HB HO2 hb2 HC hcell
      go_wp2_with ((with_reducible refine gate_dst (N := 21) rfl ?_); refine app_str rfl rfl rfl rfl HO3.out HB3.out.size (by omega) ?_; intro v4 w4 HO4 hb4 _)
      go_roundw
      case rel =>
        refine ⟨k + 1, hlt, rfl, ⟨?_⟩, ⟨HB3.out.trans hb4⟩⟩
        rw [HX.out, ← List.append_assoc, vtext, ← List.append_assoc]
        exact HO4
      case measure => simp [intOf]; omega
    · obtain rfl : k = l.length := by omega
      go_wp2
      go_ret
      refine ⟨_, rfl, ?_, HB.out⟩
      have := HO.out
      rwa [List.take_length] at this

end Go.Proofs.Ytmkabbfglijckaa.A.V
