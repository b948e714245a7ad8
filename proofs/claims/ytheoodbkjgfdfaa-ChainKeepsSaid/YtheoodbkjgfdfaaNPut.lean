/- Versions with levels, as they came in. -/
import Derived.Test.YtheoodbkjgfdfaaNSome
import Derived.Test.YtheoodbkjgfdfaaAOpen
namespace Go.Proofs.Ytheoodbkjgfdfaa.A
open R
open Go.RowKit Go.Proofs.YtheoodbkjgfdfaaW.PrintWords Go.Proofs.YtheoodbkjgfdfaaW.PrintLast Go.Proofs.YtheoodbkjgfdfaaW.PrintMore
set_option linter.unusedVariables false
set_option linter.unusedSimpArgs false

/-- A version, with a level. -/
structure Pu where
  v : Vr
  lv : Int
instance : Inhabited Pu := ⟨⟨default, 0⟩⟩
def KPu : Kd Pu := Kd.iso (Kd.pair KVr (Kd.int .i64)) (fun p => (p.v, p.lv))
abbrev puCells (p : Pu) : List Value := [.string p.v.k, .int .i64 p.v.br, .int .i64 p.v.ep, .int .i64 p.v.sq, .int .i64 p.v.f, .int .i64 p.v.t, .string p.v.v, .bool p.v.g, .int .i64 p.lv]
theorem KPu_K (w : World) (p : Pu) : KPu.K w p (puCells p) := ⟨vrCells p.v, [.int .i64 p.lv], rfl, KVr_K w p.v, rfl⟩
theorem KPu_of {w : World} {p : Pu} {cs : List Value} (h : KPu.K w p cs) : cs = puCells p := by
  obtain ⟨a, b, rfl, h1, h2⟩ := h
  have e1 := KVr_of h1
  have e2 : b = [.int .i64 p.lv] := h2
  rw [e1, e2]
  rfl
def Pu.fits (d : Pu) : Prop := d.v.fits
set_option maxRecDepth 100000 in
theorem opens_put : Opens 57 KPu Pu.fits := by
  intro H enc w base spare held fuel cs x h
  obtain ⟨xs, n, rfl, rfl, hl, hx, hf⟩ := DataW.trod_struct Try.underlying57 h
  have hl2 : cs.length = 9 := hl.trans (by kernel_rfl)
  match cs, hl2 with
  | [c0, c1, c2, c3, c4, c5, c6, c7, c8], _ =>
    have f0 := hf 0 _ rfl
    have f1 := hf 1 _ rfl
    have hx2 : xs.length = 2 := hx
    match xs, hx2 with
    | [x0, x1], _ =>
      obtain ⟨v, hk1, hg1⟩ := opens_version _ _ _ _ _ _ _ _ _ f0
      obtain ⟨a, ha, _, _⟩ := DataW.trod_int (x := x1) Try.underlying3 f1
      have hcv : Try.prog.cellsOf 35 = 8 := by kernel_rfl
      have hci : Try.prog.cellsOf 3 = 1 := by kernel_rfl
      have e1 := KVr_of hk1
      have ha' : c8 = .int .i64 a := by simpa [hci, hcv] using ha
      have e1' : c0 = .string v.k ∧ c1 = .int .i64 v.br ∧ c2 = .int .i64 v.ep ∧ c3 = .int .i64 v.sq ∧ c4 = .int .i64 v.f ∧ c5 = .int .i64 v.t ∧ c6 = .string v.v ∧ c7 = .bool v.g := by simpa [hci, hcv] using e1
      obtain ⟨rfl, rfl, rfl, rfl, rfl, rfl, rfl, rfl⟩ := e1'
      subst ha'
      exact ⟨⟨v, a⟩, KPu_K _ _, hg1⟩
theorem C_atPu {A : Option Addr} {n : Nat} {l : List Pu} {w : World} (h : KPu.C w A n l) (i : Nat) (hi : i < n) (p : Pu) (hp : l.getD i default = p) :
    ∃ ad, A = some ad ∧ w.cell? (ad.add (i * 9)) = some (.string p.v.k) ∧ w.cell? ⟨(ad.add (i * 9)).block, (ad.add (i * 9)).off + 1, none⟩ = some (.int .i64 p.v.br) ∧ w.cell? ⟨(ad.add (i * 9)).block, (ad.add (i * 9)).off + 2, none⟩ = some (.int .i64 p.v.ep) ∧ w.cell? ⟨(ad.add (i * 9)).block, (ad.add (i * 9)).off + 3, none⟩ = some (.int .i64 p.v.sq) ∧ w.cell? ⟨(ad.add (i * 9)).block, (ad.add (i * 9)).off + 4, none⟩ = some (.int .i64 p.v.f) ∧ w.cell? ⟨(ad.add (i * 9)).block, (ad.add (i * 9)).off + 5, none⟩ = some (.int .i64 p.v.t) ∧ w.cell? ⟨(ad.add (i * 9)).block, (ad.add (i * 9)).off + 6, none⟩ = some (.string p.v.v) ∧ w.cell? ⟨(ad.add (i * 9)).block, (ad.add (i * 9)).off + 7, none⟩ = some (.bool p.v.g) ∧ w.cell? ⟨(ad.add (i * 9)).block, (ad.add (i * 9)).off + 8, none⟩ = some (.int .i64 p.lv) := by
  have hn := h.1
  subst hn
  obtain ⟨ad, e, hc⟩ := h.2.2 (by omega)
  obtain ⟨c, h1, hK, h3⟩ := hc i _ (List.getElem?_eq_getElem hi)
  have e2 : l.getD i default = l[i] := by simp [List.getD_eq_getElem?_getD, hi]
  rw [e2] at hp
  rw [hp] at hK
  have hcc := KPu_of hK
  subst hcc
  have a1 := h3 1 _ rfl
  have a2 := h3 2 _ rfl
  have a3 := h3 3 _ rfl
  have a4 := h3 4 _ rfl
  have a5 := h3 5 _ rfl
  have a6 := h3 6 _ rfl
  have a7 := h3 7 _ rfl
  have a8 := h3 8 _ rfl
  rw [show KPu.sz = 9 from rfl, add_fieldV] at a1 a2 a3 a4 a5 a6 a7 a8
  exact ⟨ad, e, h3 0 _ rfl, a1, a2, a3, a4, a5, a6, a7, a8⟩
theorem pu9 {A : Option Addr} {n : Nat} {l : List Pu} {w : World} {ad : Addr} (hA : A = some ad) (h : KPu.C w A n l) (i : Nat) (hi : i < n) (p : Pu) (hp : l.getD i default = p) : w.cell? (ad.add (i * 9)) = some (.string p.v.k) ∧ w.cell? ⟨(ad.add (i * 9)).block, (ad.add (i * 9)).off + 1, none⟩ = some (.int .i64 p.v.br) ∧ w.cell? ⟨(ad.add (i * 9)).block, (ad.add (i * 9)).off + 2, none⟩ = some (.int .i64 p.v.ep) ∧ w.cell? ⟨(ad.add (i * 9)).block, (ad.add (i * 9)).off + 3, none⟩ = some (.int .i64 p.v.sq) ∧ w.cell? ⟨(ad.add (i * 9)).block, (ad.add (i * 9)).off + 4, none⟩ = some (.int .i64 p.v.f) ∧ w.cell? ⟨(ad.add (i * 9)).block, (ad.add (i * 9)).off + 5, none⟩ = some (.int .i64 p.v.t) ∧ w.cell? ⟨(ad.add (i * 9)).block, (ad.add (i * 9)).off + 6, none⟩ = some (.string p.v.v) ∧ w.cell? ⟨(ad.add (i * 9)).block, (ad.add (i * 9)).off + 7, none⟩ = some (.bool p.v.g) ∧ w.cell? ⟨(ad.add (i * 9)).block, (ad.add (i * 9)).off + 8, none⟩ = some (.int .i64 p.lv) := by
  obtain ⟨ad', e, h⟩ := C_atPu h i hi p hp
  rw [hA] at e
  injection e with e
  subst e
  exact h
theorem opens_puts : Opens 22 (Kd.slice 57 KPu) (fun l => ∀ x ∈ l, Pu.fits x) := opens_slice Try.underlying22 (by kernel_rfl) opens_put
/-- Those that may be, cut to few bytes. -/
def GdV (l : List Vr) : Prop := ∀ p ∈ l, mayV p = true ∧ p.k.size ≤ 110 ∧ p.v.size ≤ 210
theorem addV_mem {l : List Vr} {v : Vr} (p : Vr) (hp : p ∈ (addV l v).1) : p ∈ l ∨ (p = v ∧ mayV v = true) := by
  unfold addV at hp
  split at hp
  · exact .inl hp
  · rename_i hm
    split at hp
    · exact .inl hp
    · rcases List.mem_append.1 hp with h | h
      · exact .inl (by rw [← ab_is l v]; exact List.mem_append_left _ h)
      · rcases List.mem_cons.1 h with h | h
        · exact .inr ⟨h, by simpa using hm⟩
        · exact .inl (by rw [← ab_is l v]; exact List.mem_append_right _ h)
theorem GdV_add {l : List Vr} {v : Vr} (h : GdV l) (h1 : v.k.size ≤ 110) (h2 : v.v.size ≤ 210) : GdV (addV l v).1 := fun p hp => by
  rcases addV_mem p hp with h3 | ⟨rfl, h3⟩
  · exact h p h3
  · exact ⟨h3, h1, h2⟩
/-- An index at X, the document's row v of the same, nothing of w's written. -/
def FI (w W : World) (X : Nat) (v : Value) (l : List Vr) : Prop := (∃ its, IXi W w.heap.size X l.length its l) ∧ OVr W w.heap.size v l ∧ Below w.heap.size w W ∧ GdV l
theorem FI_below {w W W1 : World} {X : Nat} {v : Value} {l : List Vr} (h : FI w W X v l) (hb : Below W.heap.size W W1) : FI w W1 X v l := by
  obtain ⟨⟨its, h1⟩, h2, h3, h4⟩ := h
  exact ⟨⟨its, IXi_below h1 hb⟩, Kd.R_below h2 hb, below_step h3 hb, h4⟩
theorem IXi_srt {W : World} {B X : Nat} {m : Int} {its : List M.It} {l : List Vr} (h : IXi W B X m its l) : SrtV l := (its_keys h).1
theorem cutS_le (k : ByteArray) (n : Nat) : (cutS k n).size ≤ n := by
  unfold cutS
  split
  · rw [ByteArray.size_extract]; omega
  · omega
end Go.Proofs.Ytheoodbkjgfdfaa.A
