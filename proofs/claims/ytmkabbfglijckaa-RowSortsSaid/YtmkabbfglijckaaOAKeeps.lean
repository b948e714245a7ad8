/- Bytes of tuples are in their order: the plain law. -/
import Derived.Test.YtmkabbfglijckaaOAKey
namespace Go.Proofs.Ytmkabbfglijckaa.A.O
open Go.RowKit Go.Proofs.YtmkabbfglijckaaW.PrintWords Go.Proofs.YtmkabbfglijckaaW.PrintLast Go.Proofs.YtmkabbfglijckaaW.PrintMore
open Go.Op (bytesLess)
set_option linter.unusedVariables false
set_option linter.unusedSimpArgs false

/-- The order of two lists of bytes. -/
def lexI : List Int → List Int → Int
  | [], [] => 0
  | [], _ :: _ => -1
  | _ :: _, [] => 1
  | x :: a, y :: b => if x = y then lexI a b else if x < y then -1 else 1
theorem lex_self : ∀ a, lexI a a = 0
  | [] => rfl
  | x :: a => by rw [lexI, if_pos rfl, lex_self a]
theorem lex_u8 : ∀ x y : List UInt8, (if bytesLess x y = true then (-1 : Int) else if x = y then 0 else 1) = lexI (x.map fun b => (b.toNat : Int)) (y.map fun b => (b.toNat : Int))
  | [], [] => rfl
  | [], b :: y => rfl
  | a :: x, [] => by simp [bytesLess, lexI]
  | a :: x, b :: y => by
    simp only [List.map_cons, lexI]
    by_cases h : a = b
    · subst h
      rw [if_pos rfl, ← lex_u8 x y]
      have h1 : ¬ a < a := by rw [UInt8.lt_iff_toNat_lt]; omega
      simp [bytesLess, h1]
    · have hn : ¬ (a.toNat : Int) = (b.toNat : Int) := fun e => h (UInt8.toNat_inj.1 (by omega))
      rw [if_neg hn]
      have h3 : ¬ a :: x = b :: y := fun e => h (by injection e)
      by_cases h2 : a < b
      · have h4 : (a.toNat : Int) < (b.toNat : Int) := by rw [UInt8.lt_iff_toNat_lt] at h2; omega
        rw [if_pos h4]
        simp [bytesLess, h2]
      · have h4 : ¬ (a.toNat : Int) < (b.toNat : Int) := by rw [UInt8.lt_iff_toNat_lt] at h2; omega
        rw [if_neg h4, if_neg h3]
        simp [bytesLess, h2, h]
theorem cmpS_lex (x y : ByteArray) : cmpS x y = lexI (bytesOf x) (bytesOf y) := by
  unfold cmpS
  rw [ByteArray.toList_eq, ByteArray.toList_eq]
  exact lex_u8 _ _
theorem cmpS_facts (x y : ByteArray) : (cmpS x y = -1 ∧ bytesLess x.toList y.toList = true ∧ (x.toList == y.toList) = false) ∨ (cmpS x y = 0 ∧ bytesLess x.toList y.toList = false ∧ (x.toList == y.toList) = true) ∨ (cmpS x y = 1 ∧ bytesLess x.toList y.toList = false ∧ (x.toList == y.toList) = false) := by
  unfold cmpS
  rcases bl_tri x.toList y.toList with ⟨h1, h2, h3⟩ | h | ⟨h1, h2, h3⟩
  · simp [h1, h3]
  · rw [h]
    simp [bl_self]
  · simp [h1, h2, h3]
theorem lex_app : ∀ (a b X Y : List Int), a.length = b.length → lexI (a ++ X) (b ++ Y) = if lexI a b = 0 then lexI X Y else lexI a b
  | [], [], X, Y, _ => by simp [lexI]
  | [], _ :: _, _, _, h => by simp at h
  | _ :: _, [], _, _, h => by simp at h
  | x :: a, y :: b, X, Y, h => by
    have h2 : a.length = b.length := by simpa using h
    have e1 : lexI (x :: a ++ X) (y :: b ++ Y) = if x = y then lexI (a ++ X) (b ++ Y) else if x < y then -1 else 1 := rfl
    have e2 : lexI (x :: a) (y :: b) = if x = y then lexI a b else if x < y then -1 else 1 := rfl
    by_cases e : x = y
    · rw [if_pos e] at e1 e2
      rw [e1, e2]
      exact lex_app a b X Y h2
    · rw [if_neg e] at e1 e2
      rw [e1, e2]
      split <;> rfl
/-- k bytes of a number, the highest first. -/
def numK : Nat → Int → List Int
  | 0, _ => []
  | k + 1, u => numK k (u / 256) ++ [u % 256]
theorem numK_len : ∀ (k : Nat) (u : Int), (numK k u).length = k
  | 0, _ => rfl
  | k + 1, u => by rw [numK, List.length_append, numK_len k]; rfl
theorem num8_K (u : Int) : num8 u = numK 8 u := by
  have e1 : u / 256 / 256 = u / 65536 := by omega
  have e2 : u / 65536 / 256 = u / 16777216 := by omega
  have e3 : u / 16777216 / 256 = u / 4294967296 := by omega
  have e4 : u / 4294967296 / 256 = u / 1099511627776 := by omega
  have e5 : u / 1099511627776 / 256 = u / 281474976710656 := by omega
  have e6 : u / 281474976710656 / 256 = u / 72057594037927936 := by omega
  simp only [numK, List.nil_append, List.append_assoc, List.cons_append, e1, e2, e3, e4, e5, e6]
  rfl
theorem lex_numK : ∀ (k : Nat) (u v : Int), 0 ≤ u → 0 ≤ v → u < 256 ^ k → v < 256 ^ k → lexI (numK k u) (numK k v) = cmpI u v
  | 0, u, v, h0, h1, h2, h3 => by
    have hu : u = 0 := by
      have : (256 : Int) ^ 0 = 1 := rfl
      omega
    have hv : v = 0 := by
      have : (256 : Int) ^ 0 = 1 := rfl
      omega
    subst hu hv
    rfl
  | k + 1, u, v, h0, h1, h2, h3 => by
    rw [Int.pow_succ] at h2 h3
    have ih := lex_numK k (u / 256) (v / 256) (by omega) (by omega) (by generalize (256 : Int) ^ k = m at *; omega) (by generalize (256 : Int) ^ k = m at *; omega)
    rw [numK, numK, lex_app _ _ _ _ (by rw [numK_len, numK_len]), ih]
    have e0 : ∀ p q : Int, lexI [p] [q] = if p = q then 0 else if p < q then -1 else 1 := fun _ _ => rfl
    rw [e0]
    rcases Int.lt_trichotomy (u / 256) (v / 256) with h | h | h
    · have hc : cmpI (u / 256) (v / 256) = -1 := if_pos h
      rw [hc, if_neg (by omega)]
      exact (if_pos (by omega)).symm
    · have hc : cmpI (u / 256) (v / 256) = 0 := by unfold cmpI; rw [if_neg (by omega), if_pos h]
      rw [hc, if_pos rfl]
      unfold cmpI
      rcases Int.lt_trichotomy (u % 256) (v % 256) with g | g | g
      · rw [if_neg (by omega), if_pos g, if_pos (by omega)]
      · rw [if_pos g, if_neg (by omega), if_pos (by omega)]
      · rw [if_neg (by omega), if_neg (by omega), if_neg (by omega), if_neg (by omega)]
    · have hc : cmpI (u / 256) (v / 256) = 1 := by unfold cmpI; rw [if_neg (by omega), if_neg (by omega)]
      rw [hc, if_neg (by omega)]
      unfold cmpI
      rw [if_neg (by omega), if_neg (by omega)]
theorem lex_text : ∀ (x y X Y : List Int), (∀ b ∈ x, 0 ≤ b ∧ b ≤ 255) → (∀ b ∈ y, 0 ≤ b ∧ b ≤ 255) → lexI (x.flatMap wtextB ++ ([0, 1] ++ X)) (y.flatMap wtextB ++ ([0, 1] ++ Y)) = if lexI x y = 0 then lexI X Y else lexI x y
  | [], [], X, Y, _, _ => by simp [lexI]
  | [], b :: y, X, Y, _, hy => by
    have hb := hy b (by simp)
    by_cases h : b = 0
    · subst h
      simp [wtextB, lexI]
    · have h1 : ¬ (0 : Int) = b := fun e => h e.symm
      have h2 : (0 : Int) < b := by omega
      simp [wtextB, lexI, h, h1, h2]
  | a :: x, [], X, Y, hx, _ => by
    have ha := hx a (by simp)
    by_cases h : a = 0
    · subst h
      simp [wtextB, lexI]
    · have h2 : ¬ a < 0 := by omega
      simp [wtextB, lexI, h, h2]
  | a :: x, b :: y, X, Y, hx, hy => by
    have ha := hx a (by simp)
    have hb := hy b (by simp)
    have ih := lex_text x y X Y (fun c hc => hx c (by simp [hc])) (fun c hc => hy c (by simp [hc]))
    by_cases e : a = b
    · subst e
      rw [List.flatMap_cons, List.flatMap_cons, List.append_assoc, List.append_assoc, lex_app _ _ _ _ rfl, lex_self, if_pos rfl, ih]
      simp [lexI]
    · have e2 : lexI (a :: x) (b :: y) = if a = b then lexI x y else if a < b then -1 else 1 := rfl
      rw [if_neg e] at e2
      rw [e2]
      by_cases h : a = 0
      · subst h
        have h3 : ¬ b = 0 := fun e2 => e e2.symm
        have h4 : (0 : Int) < b := by omega
        simp [wtextB, lexI, e, h3, h4]
      · by_cases h2 : b = 0
        · subst h2
          have h4 : ¬ a < 0 := by omega
          simp [wtextB, lexI, h, h4]
        · by_cases h5 : a < b
          · simp [wtextB, lexI, h, h2, e, h5]
          · simp [wtextB, lexI, h, h2, e, h5]
theorem bytesOf_range (s : ByteArray) : ∀ b ∈ bytesOf s, 0 ≤ b ∧ b ≤ 255 := by
  intro b hb
  obtain ⟨c, _, rfl⟩ := List.mem_map.1 hb
  have := UInt8.toNat_lt c
  omega
theorem lex_part (p q : Pt) (X Y : List Int) (hp : p.ok) (hq : q.ok) : lexI (wpart p ++ X) (wpart q ++ Y) = if cmpP p q = 0 then lexI X Y else cmpP p q := by
  obtain ⟨pt, pn, ps⟩ := p
  obtain ⟨qt, qn, qs⟩ := q
  have h1 : -9223372036854775808 ≤ pn := hp.1.1
  have h2 : pn ≤ 9223372036854775807 := hp.1.2
  have h3 : -9223372036854775808 ≤ qn := hq.1.1
  have h4 : qn ≤ 9223372036854775807 := hq.1.2
  cases pt <;> cases qt
  · have e : cmpP ⟨false, pn, ps⟩ ⟨false, qn, qs⟩ = cmpI (pn + 9223372036854775808) (qn + 9223372036854775808) := by
      show cmpI pn qn = _
      unfold cmpI
      rcases Int.lt_trichotomy pn qn with h | h | h
      · rw [if_pos h, if_pos (by omega)]
      · rw [if_neg (by omega), if_pos h, if_neg (by omega), if_pos (by omega)]
      · rw [if_neg (by omega), if_neg (by omega), if_neg (by omega), if_neg (by omega)]
    rw [e]
    show lexI ([1] ++ num8 (pn + 9223372036854775808) ++ X) ([1] ++ num8 (qn + 9223372036854775808) ++ Y) = _
    have p8 : (256 : Int) ^ 8 = 18446744073709551616 := by decide
    have hk := lex_numK 8 (pn + 9223372036854775808) (qn + 9223372036854775808) (by omega) (by omega) (by rw [p8]; omega) (by rw [p8]; omega)
    rw [List.append_assoc, List.append_assoc, lex_app [1] [1] _ _ rfl, if_pos (lex_self _), lex_app _ _ _ _ (by rw [num8_len, num8_len]), num8_K, num8_K, hk]
  · show lexI (1 :: _) (2 :: _) = _
    rw [lexI, if_neg (by omega), if_pos (by omega)]
    rfl
  · show lexI (2 :: _) (1 :: _) = _
    rw [lexI, if_neg (by omega), if_neg (by omega)]
    rfl
  · show lexI ([2] ++ wtext ps ++ X) ([2] ++ wtext qs ++ Y) = _
    have e : cmpP ⟨true, pn, ps⟩ ⟨true, qn, qs⟩ = lexI (bytesOf ps) (bytesOf qs) := cmpS_lex ps qs
    rw [e, List.append_assoc, List.append_assoc, lex_app [2] [2] _ _ rfl, if_pos (lex_self _)]
    unfold wtext
    rw [List.append_assoc, List.append_assoc]
    exact lex_text _ _ _ _ (bytesOf_range _) (bytesOf_range _)
theorem wpart_cons (p : Pt) : ∃ c r, wpart p = c :: r := by
  unfold wpart
  split
  · exact ⟨_, _, rfl⟩
  · exact ⟨_, _, rfl⟩
theorem lex_write : ∀ (a b : List Pt), (∀ p ∈ a, p.ok) → (∀ p ∈ b, p.ok) → lexI (writeL a) (writeL b) = cmpL a b
  | [], [], _, _ => rfl
  | [], q :: b, _, _ => by
    obtain ⟨c, r, e⟩ := wpart_cons q
    simp [writeL, e, lexI, cmpL]
  | p :: a, [], _, _ => by
    obtain ⟨c, r, e⟩ := wpart_cons p
    simp [writeL, e, lexI, cmpL]
  | p :: a, q :: b, ha, hb => by
    have ih := lex_write a b (fun x hx => ha x (by simp [hx])) (fun x hx => hb x (by simp [hx]))
    unfold writeL at ih ⊢
    rw [List.flatMap_cons, List.flatMap_cons, lex_part p q _ _ (ha p (by simp)) (hb q (by simp)), ih]
    rfl
theorem bytesOf_str (L : List Int) (h : ∀ x ∈ L, 0 ≤ x ∧ x ≤ 255) : bytesOf (strOfNums L) = L := by
  unfold bytesOf
  rw [strOfNums_data, List.map_map]
  refine (List.map_congr_left (g := id) fun x hx => ?_).trans (List.map_id _)
  have := h x hx
  show ((UInt8.ofNat x.toNat).toNat : Int) = x
  rw [UInt8.toNat_ofNat']
  omega
theorem wtextB_range (b : Int) (h : 0 ≤ b ∧ b ≤ 255) : ∀ x ∈ wtextB b, 0 ≤ x ∧ x ≤ 255 := by
  unfold wtextB
  split
  · intro x hx
    simp only [List.mem_cons, List.not_mem_nil, or_false] at hx
    rcases hx with rfl | rfl <;> omega
  · intro x hx
    rw [List.mem_singleton] at hx
    rw [hx]
    exact h
theorem wpart_range (p : Pt) : ∀ x ∈ wpart p, 0 ≤ x ∧ x ≤ 255 := by
  intro x hx
  unfold wpart at hx
  split at hx
  · rw [List.mem_append, List.mem_singleton] at hx
    rcases hx with rfl | hx
    · omega
    · unfold wtext at hx
      rw [List.mem_append] at hx
      rcases hx with hx | hx
      · obtain ⟨b, hb, hx⟩ := List.mem_flatMap.1 hx
        exact wtextB_range b (bytesOf_range _ b hb) x hx
      · simp only [List.mem_cons, List.not_mem_nil, or_false] at hx
        rcases hx with rfl | rfl <;> omega
  · rw [List.mem_append, List.mem_singleton] at hx
    rcases hx with rfl | hx
    · omega
    · simp only [num8, List.mem_cons, List.not_mem_nil, or_false] at hx
      rcases hx with rfl | rfl | rfl | rfl | rfl | rfl | rfl | rfl <;> omega
theorem write_range (l : List Pt) : ∀ x ∈ writeL l, 0 ≤ x ∧ x ≤ 255 := by
  intro x hx
  obtain ⟨p, _, hx⟩ := List.mem_flatMap.1 hx
  exact wpart_range p x hx
/-- Bytes of tuples are in their order. -/
theorem keeps (a b : List Pt) (ha : ∀ p ∈ a, p.ok) (hb : ∀ p ∈ b, p.ok) : cmpS (strOfNums (writeL a)) (strOfNums (writeL b)) = cmpL a b := by
  rw [cmpS_lex, bytesOf_str _ (write_range a), bytesOf_str _ (write_range b), lex_write a b ha hb]

theorem byte_of {l : List Int} (hb : ∀ x ∈ l, 0 ≤ x ∧ x ≤ 255) (i : Nat) : 0 ≤ l.getD i 0 ∧ l.getD i 0 ≤ 255 := by
  rw [List.getD_eq_getElem?_getD]
  cases h : l[i]? with
  | none => simp
  | some x => exact hb x (List.mem_of_getElem? h)
theorem C_atN {k : IntKind} {A : Option Addr} {n : Nat} {l : List Int} {w : World} (h : Kd.C (Kd.int k) w A n l) (i : Nat) (hi : i < n) : ∃ ad, A = some ad ∧ w.cell? (ad.add i) = some (.int k (l.getD i 0)) := by
  have hn := h.1
  subst hn
  exact C_at h i hi

end Go.Proofs.Ytmkabbfglijckaa.A.O
