/- Points and areas of what is left. No program in sight. -/
import Derived.Test.YthmkpgemilmikaaPLives
namespace Go.Proofs.Ythmkpgemilmikaa.A
open Go.RowKit
set_option linter.unusedVariables false
set_option linter.unusedSimpArgs false

abbrev Rc.inn (r : Rc) (x y : Int) : Prop := (r.e0 : Int) ≤ x ∧ x < (r.e1 : Int) ∧ (r.t0 : Int) ≤ y ∧ y < (r.t1 : Int)
theorem has_inn (r : Rc) (hr : r.ok) (x y : Int) : r.has x y = decide (r.inn x y) := by
  unfold Rc.ok at hr
  unfold Rc.has S.Sp.has S.Sp.may
  simp only
  by_cases h : (r.e0 : Int) ≤ x ∧ x < (r.e1 : Int)
  · rw [decide_eq_true h, Bool.true_and]
    by_cases h2 : (r.t0 : Int) ≤ y ∧ y < (r.t1 : Int)
    · rw [decide_eq_true h2, decide_eq_true (show (0 : Int) ≤ (r.t0 : Int) ∧ (r.t0 : Int) < (r.t1 : Int) ∧ (r.t1 : Int) ≤ 1099511627776 by omega), decide_eq_true (show r.inn x y from ⟨h.1, h.2, h2.1, h2.2⟩)]
      rfl
    · rw [decide_eq_false h2, Bool.and_false, decide_eq_false (fun h3 : r.inn x y => h2 ⟨h3.2.2.1, h3.2.2.2⟩)]
  · rw [decide_eq_false h, Bool.false_and, decide_eq_false (fun h3 : r.inn x y => h ⟨h3.1, h3.2.1⟩)]
def ind (r : Rc) (x y : Int) : Nat := if r.inn x y then 1 else 0
def cnt (L : List Rc) (x y : Int) : Nat := (L.map fun r => ind r x y).sum
theorem cnt_append (L M : List Rc) (x y : Int) : cnt (L ++ M) x y = cnt L x y + cnt M x y := by unfold cnt; rw [List.map_append, List.sum_append]
theorem cnt_cons (r : Rc) (M : List Rc) (x y : Int) : cnt (r :: M) x y = ind r x y + cnt M x y := by unfold cnt; rw [List.map_cons, List.sum_cons]
theorem dead_ind (r : Rc) (x y : Int) (h : r.live = false) : ind r x y = 0 := by
  unfold ind
  rw [if_neg]
  rintro ⟨h1, h2, h3, h4⟩
  unfold Rc.live at h
  rw [decide_eq_true (by omega), decide_eq_true (by omega)] at h
  cases h
theorem cnt_live (L : List Rc) (x y : Int) : cnt (L.filter Rc.live) x y = cnt L x y := by
  induction L with
  | nil => rfl
  | cons r L ih =>
    cases h : r.live with
    | true => rw [List.filter_cons_of_pos h, cnt_cons, cnt_cons, ih]
    | false => rw [List.filter_cons_of_neg (by rw [h]; simp), cnt_cons, ih, dead_ind r x y h, Nat.zero_add]
theorem minus_cnt (a b : Rc) (x y : Int) : cnt (minusR a b) x y = if a.inn x y ∧ ¬ b.inn x y then 1 else 0 := by
  unfold minusR
  cases hm : meetB a b with
  | true =>
    rw [if_pos rfl, cnt_live]
    unfold meetB Rc.live meetR at hm
    simp only [Bool.and_eq_true, decide_eq_true_eq] at hm
    obtain ⟨a0, a1, a2, a3⟩ := a
    obtain ⟨b0, b1, b2, b3⟩ := b
    simp only at hm
    simp only [fourOf, meetR, cnt, List.map_cons, List.map_nil, List.sum_cons, List.sum_nil, ind, Rc.inn]
    (repeat' split) <;> omega
  | false =>
    rw [if_neg (by simp)]
    have hno : a.inn x y → ¬ b.inn x y := by
      rintro ⟨h1, h2, h3, h4⟩ ⟨h5, h6, h7, h8⟩
      unfold meetB Rc.live meetR at hm
      simp only at hm
      rw [decide_eq_true (by omega), decide_eq_true (by omega)] at hm
      cases hm
    cases hz : a.isZ with
    | true =>
      rw [if_pos rfl, if_neg]
      · rfl
      · rintro ⟨⟨h1, h2, -, -⟩, -⟩
        unfold Rc.isZ at hz
        simp only [Bool.and_eq_true, decide_eq_true_eq] at hz
        omega
    | false =>
      rw [if_neg (by simp), cnt_cons]
      show ind a x y + 0 = _
      unfold ind
      by_cases h : a.inn x y
      · rw [if_pos h, if_pos ⟨h, hno h⟩]
      · rw [if_neg h, if_neg (fun k => h k.1)]
theorem step_cnt (L : List Rc) (b : Rc) (x y : Int) : cnt (stepC L b) x y = if b.inn x y then 0 else cnt L x y := by
  induction L with
  | nil => split <;> rfl
  | cons a L ih =>
    have e : stepC (a :: L) b = minusR a b ++ stepC L b := rfl
    rw [e, cnt_append, ih, minus_cnt, cnt_cons]
    unfold ind
    by_cases hb : b.inn x y
    · rw [if_neg (fun h => h.2 hb), if_pos hb, if_pos hb]
    · rw [if_neg hb, if_neg hb]
      by_cases ha : a.inn x y
      · rw [if_pos ⟨ha, hb⟩, if_pos ha]
      · rw [if_neg (fun h => ha h.1), if_neg ha]
theorem left_cnt (r : Rc) (l : List Rc) (x y : Int) : cnt (leftL r l) x y = if r.inn x y ∧ ∀ b ∈ l, ¬ b.inn x y then 1 else 0 := by
  have gen : ∀ (l : List Rc) (L : List Rc), cnt (l.foldl stepC L) x y = if ∀ b ∈ l, ¬ b.inn x y then cnt L x y else 0 := by
    intro l
    induction l with
    | nil => intro L; rw [if_pos (fun b hb => by cases hb)]; rfl
    | cons b l ih =>
      intro L
      rw [List.foldl_cons, ih, step_cnt]
      by_cases hb : b.inn x y
      · rw [if_pos hb, ite_self, if_neg (fun h => h b List.mem_cons_self hb)]
      · rw [if_neg hb]
        by_cases hl : ∀ c ∈ l, ¬ c.inn x y
        · rw [if_pos hl, if_pos]
          intro c hc
          rcases List.mem_cons.1 hc with rfl | hc
          · exact hb
          · exact hl c hc
        · rw [if_neg hl, if_neg (fun h => hl (fun c hc => h c (List.mem_cons_of_mem _ hc)))]
  unfold leftL
  rw [gen, cnt_cons]
  show (if _ then ind r x y + 0 else 0) = _
  unfold ind
  by_cases h1 : r.inn x y
  · by_cases h2 : ∀ b ∈ l, ¬ b.inn x y
    · rw [if_pos h2, if_pos h1, if_pos ⟨h1, h2⟩]
    · rw [if_neg h2, if_neg (fun h => h2 h.2)]
  · rw [if_neg h1, ite_self, if_neg (fun h => h1 h.1)]
theorem cover_cnt (r : Rc) (l : List Rc) (x y : Int) : cnt (coverL r l) x y = if r.inn x y ∧ ∀ b ∈ l, ¬ b.inn x y then 1 else 0 := by
  unfold coverL
  split
  · rename_i h
    rw [if_neg]
    · rfl
    · rintro ⟨⟨h1, h2, -, -⟩, -⟩
      have hz := h.2
      unfold Rc.isZ at hz
      simp only [Bool.and_eq_true, decide_eq_true_eq] at hz
      omega
  · exact left_cnt r l x y

/-! ### Areas -/
def sumN : Nat → (Nat → Nat) → Nat
  | 0, _ => 0
  | n + 1, f => sumN n f + f n
theorem sumN_add (n : Nat) (f g : Nat → Nat) : sumN n (fun x => f x + g x) = sumN n f + sumN n g := by
  induction n with
  | zero => rfl
  | succ n ih => simp only [sumN, ih]; omega
theorem sumN_mul (n c : Nat) (f : Nat → Nat) : sumN n (fun x => f x * c) = sumN n f * c := by
  induction n with
  | zero => simp [sumN]
  | succ n ih => simp only [sumN, ih, Nat.add_mul]
theorem sumN_congr (n : Nat) (f g : Nat → Nat) (h : ∀ x, f x = g x) : sumN n f = sumN n g := by rw [funext h]
theorem sumN_zero (n : Nat) : sumN n (fun _ => 0) = 0 := by
  induction n with
  | zero => rfl
  | succ n ih => simp only [sumN, ih]
def seg (a b x : Nat) : Nat := if a ≤ x ∧ x < b then 1 else 0
theorem sumN_seg (a b n : Nat) (h : a ≤ b) : sumN n (seg a b) = min n b - min n a := by
  induction n with
  | zero => simp [sumN]
  | succ n ih =>
    simp only [sumN, ih, seg]
    split <;> omega
theorem ind_seg (r : Rc) (x y : Nat) : ind r (x : Int) (y : Int) = seg r.t0 r.t1 y * seg r.e0 r.e1 x := by
  unfold ind seg Rc.inn
  by_cases h1 : r.e0 ≤ x ∧ x < r.e1
  · by_cases h2 : r.t0 ≤ y ∧ y < r.t1
    · rw [if_pos (by omega), if_pos h1, if_pos h2]
    · rw [if_neg (by omega), if_neg h2, Nat.zero_mul]
  · rw [if_neg (by omega), if_neg h1, Nat.mul_zero]
/-- How many of the points of a square something has. -/
def grid (n : Nat) (f : Nat → Nat → Nat) : Nat := sumN n fun x => sumN n fun y => f x y
theorem grid_add (n : Nat) (f g : Nat → Nat → Nat) : grid n (fun x y => f x y + g x y) = grid n f + grid n g := by
  unfold grid
  rw [← sumN_add]
  exact sumN_congr n _ _ (fun x => sumN_add n _ _)
theorem grid_ind (r : Rc) (hr : r.ok) (n : Nat) (h1 : r.e1 ≤ n) (h2 : r.t1 ≤ n) : grid n (fun x y => ind r (x : Int) (y : Int)) = (r.e1 - r.e0) * (r.t1 - r.t0) := by
  unfold Rc.ok at hr
  unfold grid
  have e : ∀ x : Nat, sumN n (fun y => ind r (x : Int) (y : Int)) = seg r.e0 r.e1 x * (r.t1 - r.t0) := fun x => by
    rw [sumN_congr n _ _ (fun y => ind_seg r x y), sumN_mul, sumN_seg _ _ _ hr.2.2.1, Nat.mul_comm, Nat.min_eq_right h2, Nat.min_eq_right (by omega)]
  rw [sumN_congr n _ _ e, sumN_mul, sumN_seg _ _ _ hr.1, Nat.min_eq_right h1, Nat.min_eq_right (by omega)]
theorem area_small (r : Rc) (h1 : r.e1 ≤ 1048576) (h2 : r.t1 ≤ 1048576) : r.area = (r.e1 - r.e0) * (r.t1 - r.t0) := by
  unfold Rc.area
  rw [if_neg]
  have h : (r.e1 - r.e0) * (r.t1 - r.t0) ≤ 1048576 * 1048576 := Nat.mul_le_mul (by omega) (by omega)
  omega
/-- Within a square. -/
def Rc.below (r : Rc) (n : Nat) : Prop := r.e1 ≤ n ∧ r.t1 ≤ n
theorem sumA_grid (n : Nat) (hn : n ≤ 1048576) (L : List Rc) (hok : ∀ r ∈ L, r.ok) (hb : ∀ r ∈ L, r.below n) : sumA L = grid n (fun x y => cnt L (x : Int) (y : Int)) := by
  induction L with
  | nil =>
    unfold grid cnt
    simp only [List.map_nil, List.sum_nil]
    rw [sumN_congr n _ (fun _ => 0) (fun x => sumN_zero n), sumN_zero]
    first | done | rfl
  | cons r L ih =>
    have h1 := hb r List.mem_cons_self
    have e : sumA (r :: L) = r.area + sumA L := by unfold sumA; rw [List.map_cons, List.sum_cons]
    rw [e, ih (fun x hx => hok x (List.mem_cons_of_mem _ hx)) (fun x hx => hb x (List.mem_cons_of_mem _ hx)), area_small r (Nat.le_trans h1.1 hn) (Nat.le_trans h1.2 hn), ← grid_ind r (hok r List.mem_cons_self) n h1.1 h1.2, ← grid_add]
    congr 1
theorem minus_below (a b : Rc) (ha : a.ok) (n : Nat) (h : a.below n) : ∀ r ∈ minusR a b, r.below n := by
  intro r hr
  unfold minusR at hr
  split at hr
  · rename_i hm
    have hr2 := (List.mem_filter.1 hr).1
    unfold fourOf meetR at hr2
    simp only [List.mem_cons, List.not_mem_nil, or_false] at hr2
    unfold meetB Rc.live meetR at hm
    simp only [Bool.and_eq_true, decide_eq_true_eq] at hm
    unfold Rc.ok at ha
    unfold Rc.below at *
    rcases hr2 with rfl | rfl | rfl | rfl
    all_goals simp only
    all_goals omega
  · split at hr
    · cases hr
    · rw [List.mem_singleton] at hr
      rw [hr]
      exact h
theorem left_below (r : Rc) (hr : r.ok) (n : Nat) (h : r.below n) (l : List Rc) (hl : ∀ b ∈ l, b.ok) : ∀ a ∈ leftL r l, a.below n := by
  have gen : ∀ (l : List Rc) (L : List Rc), (∀ b ∈ l, b.ok) → (∀ a ∈ L, a.ok ∧ a.below n) → ∀ a ∈ l.foldl stepC L, a.ok ∧ a.below n := by
    intro l
    induction l with
    | nil => intro L _ hL; exact hL
    | cons b l ih =>
      intro L hl hL
      refine ih _ (fun x hx => hl x (List.mem_cons_of_mem _ hx)) (fun a ha => ?_)
      obtain ⟨x, hx, ha⟩ := List.mem_flatMap.1 ha
      exact ⟨minus_ok x b (hL x hx).1 (hl b List.mem_cons_self) a ha, minus_below x b (hL x hx).1 n (hL x hx).2 a ha⟩
  intro a ha
  exact (gen l [r] hl (fun a ha => by rw [List.mem_singleton] at ha; rw [ha]; exact ⟨hr, h⟩) a ha).2
theorem sumA_cover (r : Rc) (hr : r.ok) (h : r.below 1048576) (l m : List Rc) (hl : ∀ b ∈ l, b.ok) (hm : ∀ b ∈ m, b.ok) (hlen : l.length = m.length) (hlm : ∀ b, b ∈ l ↔ b ∈ m) : sumA (coverL r l) = sumA (coverL r m) := by
  unfold coverL
  rw [hlen]
  split
  · rfl
  · rw [sumA_grid 1048576 (Nat.le_refl _) _ (leftL_ok r hr l hl) (left_below r hr _ h l hl), sumA_grid 1048576 (Nat.le_refl _) _ (leftL_ok r hr m hm) (left_below r hr _ h m hm)]
    congr 1
    funext x y
    rw [left_cnt, left_cnt]
    by_cases h1 : r.inn (x : Int) (y : Int) ∧ ∀ b ∈ l, ¬ b.inn (x : Int) (y : Int)
    · rw [if_pos h1, if_pos ⟨h1.1, fun b hb => h1.2 b ((hlm b).2 hb)⟩]
    · rw [if_neg h1, if_neg (fun h2 => h1 ⟨h2.1, fun b hb => h2.2 b ((hlm b).1 hb)⟩)]
theorem grid_le (n : Nat) (f g : Nat → Nat → Nat) (h : ∀ x y, f x y ≤ g x y) : grid n f ≤ grid n g := by
  have one : ∀ (m : Nat) (f g : Nat → Nat), (∀ x, f x ≤ g x) → sumN m f ≤ sumN m g := by
    intro m
    induction m with
    | zero => intro f g _; exact Nat.le_refl _
    | succ m ih => intro f g h; exact Nat.add_le_add (ih f g h) (h m)
  exact one n _ _ (fun x => one n _ _ (fun y => h x y))
theorem sumA_cover_le (r : Rc) (hr : r.ok) (h : r.below 1048576) (l : List Rc) (hl : ∀ b ∈ l, b.ok) : sumA (coverL r l) ≤ 4611686018427387904 := by
  have h1 : sumA (leftL r l) ≤ 1048576 * 1048576 := by
    rw [sumA_grid 1048576 (Nat.le_refl _) _ (leftL_ok r hr l hl) (left_below r hr _ h l hl)]
    have h2 : grid 1048576 (fun x y => cnt (leftL r l) (x : Int) (y : Int)) ≤ grid 1048576 (fun x y => ind r (x : Int) (y : Int)) := grid_le _ _ _ (fun x y => by
      rw [left_cnt]
      unfold ind
      by_cases h3 : r.inn (x : Int) (y : Int)
      · rw [if_pos h3]; split <;> omega
      · rw [if_neg (fun h4 => h3 h4.1)]; omega)
    rw [grid_ind r hr _ h.1 h.2] at h2
    refine Nat.le_trans h2 ?_
    have h5 := h.1
    have h6 := h.2
    exact Nat.mul_le_mul (by omega) (by omega)
  unfold coverL
  split
  · show 0 ≤ _
    omega
  · omega
theorem sumA_minus (a b : Rc) (ha : a.ok) (hb : b.ok) (h : a.below 1048576) : (meetX a b).area + sumA (minusR a b) = a.area := by
  have hx : (meetX a b).ok := meetX_ok a b ha hb
  have hxb : (meetX a b).below 1048576 := by
    unfold meetX
    split
    · unfold Rc.below meetR at *
      simp only
      omega
    · unfold Rc.below R0
      simp only
      omega
  rw [area_small _ hxb.1 hxb.2, area_small a h.1 h.2, ← grid_ind _ hx 1048576 hxb.1 hxb.2, ← grid_ind a ha 1048576 h.1 h.2, sumA_grid 1048576 (Nat.le_refl _) _ (minus_ok a b ha hb) (minus_below a b ha _ h), ← grid_add]
  congr 1
  funext x y
  rw [minus_cnt]
  unfold meetX
  cases hm : meetB a b with
  | true =>
    rw [if_pos rfl]
    unfold ind Rc.inn meetR
    simp only
    by_cases h1 : a.inn (x : Int) (y : Int)
    · by_cases h2 : b.inn (x : Int) (y : Int)
      · unfold Rc.inn at h1 h2
        rw [if_pos (by omega), if_neg (fun k => k.2 h2), if_pos h1]
      · rw [if_neg (fun k => h2 (by unfold Rc.inn; omega)), if_pos ⟨h1, h2⟩, if_pos h1]
    · rw [if_neg (fun k => h1 (by unfold Rc.inn; omega)), if_neg (fun k => h1 k.1), if_neg h1]
  | false =>
    rw [if_neg (by simp)]
    have e : ind R0 (x : Int) (y : Int) = 0 := by
      unfold ind Rc.inn R0
      simp only
      rw [if_neg (by omega)]
    rw [e, Nat.zero_add]
    unfold ind
    by_cases h1 : a.inn (x : Int) (y : Int)
    · have h2 : ¬ b.inn (x : Int) (y : Int) := by
        intro h2
        unfold Rc.inn at h1 h2
        unfold meetB Rc.live meetR at hm
        simp only at hm
        rw [decide_eq_true (by omega), decide_eq_true (by omega)] at hm
        cases hm
      rw [if_pos ⟨h1, h2⟩, if_pos h1]
    · rw [if_neg (fun k => h1 k.1), if_neg h1]
end Go.Proofs.Ythmkpgemilmikaa.A
