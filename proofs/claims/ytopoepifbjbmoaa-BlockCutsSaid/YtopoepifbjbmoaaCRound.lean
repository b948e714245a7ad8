/- A block's bytes are read as it. -/
import Derived.Test.YtopoepifbjbmoaaCParse
namespace Go.Proofs.Ytopoepifbjbmoaa.A
open Go.RowKit Go.Proofs.YtopoepifbjbmoaaW.PrintWords Go.Proofs.YtopoepifbjbmoaaW.PrintLast Go.Proofs.YtopoepifbjbmoaaW.PrintMore
open R
set_option linter.unusedVariables false
set_option linter.unusedSimpArgs false

theorem toL_data (x : ByteArray) : x.toList = x.data.toList := ByteArray.toList_eq x
theorem com_join (key k : ByteArray) : key.extract 0 (comS key k) ++ k.extract (comS key k) k.size = k := by
  have h := comL_take key.toList k.toList
  have hc : comL key.toList k.toList = comS key k := rfl
  rw [hc, toL_data, toL_data] at h
  apply ByteArray.ext
  apply Array.ext'
  simp only [ByteArray.data_append, ByteArray.data_extract, Array.toList_append, Array.toList_extract]
  simp only [List.extract_eq_take_drop, List.drop_zero, Nat.sub_zero]
  rw [h]
  have e : k.size = k.data.toList.length := by rw [Array.length_toList]; rfl
  have hle : comS key k ≤ k.data.toList.length := by rw [← e]; exact (comS_le key k).2
  rw [List.take_of_length_le (l := k.data.toList.drop (comS key k)) (by rw [List.length_drop]; omega), List.take_append_drop]
theorem oneB_bytes (key : ByteArray) (p : Vr) (X : List Int) (hm : mayV p = true) (hk : key.size ≤ 92) : oneB key (bytesP key p ++ X, 0) = (p, (X, 0)) := by
  have hk2 := key_le hm
  have hcs := comS_le key p.k
  have hss := suf_size key p.k
  obtain ⟨_, ⟨⟨⟨r1, r2⟩, ⟨r3, r4⟩⟩, ⟨r5, r6⟩⟩, ⟨r7, r8, r9⟩, r10, _⟩ := (mayV_iff p).1 hm
  have hgone : 0 ≤ goneI p.g ∧ goneI p.g ≤ 1 := by cases p.g <;> simp [goneI]
  have e0 : bytesP key p ++ X = V.vput (comS key p.k) ++ (V.vtext (sufS key p.k) ++ (V.vput p.br ++ (V.vput p.ep ++ (V.vput p.sq ++ (V.vput p.f ++ (V.vput (p.t - p.f) ++ (V.vput (goneI p.g) ++ (V.vtext p.v ++ X)))))))) := by
    unfold bytesP
    simp only [List.flatMap_cons, List.flatMap_nil, List.append_nil, List.append_assoc]
  rw [e0]
  have n0 : ∀ Y, numS (V.vput (comS key p.k) ++ Y, 0) = ((comS key p.k : Int), (Y, 0)) := fun Y => numS_put _ _ (by omega) (by omega)
  have t0 : ∀ Y, textS 200 (V.vtext (sufS key p.k) ++ Y, 0) = (sufS key p.k, (Y, 0)) := fun Y => textS_put 200 _ _ (by omega) (by decide)
  have n1 : ∀ Y, numS (V.vput p.br ++ Y, 0) = (p.br, (Y, 0)) := fun Y => numS_put _ _ (by omega) (by omega)
  have n2 : ∀ Y, numS (V.vput p.ep ++ Y, 0) = (p.ep, (Y, 0)) := fun Y => numS_put _ _ (by omega) (by omega)
  have n3 : ∀ Y, numS (V.vput p.sq ++ Y, 0) = (p.sq, (Y, 0)) := fun Y => numS_put _ _ (by omega) (by omega)
  have n4 : ∀ Y, numS (V.vput p.f ++ Y, 0) = (p.f, (Y, 0)) := fun Y => numS_put _ _ (by omega) (by omega)
  have n5 : ∀ Y, numS (V.vput (p.t - p.f) ++ Y, 0) = (p.t - p.f, (Y, 0)) := fun Y => numS_put _ _ (by omega) (by omega)
  have n6 : ∀ Y, numS (V.vput (goneI p.g) ++ Y, 0) = (goneI p.g, (Y, 0)) := fun Y => numS_put _ _ (by omega) (by omega)
  have t1 : ∀ Y, textS 200 (V.vtext p.v ++ Y, 0) = (p.v, (Y, 0)) := fun Y => textS_put 200 _ _ (by omega) (by decide)
  have hcut : cutN key (comS key p.k : Int) = comS key p.k := by
    unfold cutN
    rw [if_neg (by omega)]
    omega
  unfold oneB keyB s6B s5B s4B s3B s2B s1B s0B
  simp only [n0, t0, n1, n2, n3, n4, n5, n6, t1, hcut]
  have hj : key.extract 0 (comS key p.k) ++ sufS key p.k = p.k := com_join key p.k
  rw [hj]
  obtain ⟨k, br, ep, sq, f, t, v, g⟩ := p
  have ht : f + (t - f) = t := by omega
  cases g <;> simp [goneI, ht]
theorem rb_bytes : ∀ (l : List Vr) (f : Nat) (c : Nat) (key : ByteArray), l.length ≤ f → (∀ p ∈ l, mayV p = true) → key.size ≤ 92 → rb f ((c + l.length : Nat) : Int) c key (bytesW key l, 0) = (l, ([], 0))
  | [], f, c, key, _, _, _ => by
    rw [rb_stop (by simp)]
    rfl
  | p :: l, f, c, key, hf, hm, hk => by
    obtain ⟨f', rfl⟩ : ∃ f', f = f' + 1 := ⟨f - 1, by simp only [List.length_cons] at hf; omega⟩
    rw [rb_go rfl (by simp only [List.length_cons]; omega), bytesW, oneB_bytes key p _ (hm p List.mem_cons_self) hk]
    have ih := rb_bytes l f' (c + 1) p.k (by simp only [List.length_cons] at hf; omega) (fun q hq => hm q (List.mem_cons_of_mem _ hq)) (key_le (hm p List.mem_cons_self))
    rw [show (c + 1 + l.length : Nat) = c + (p :: l).length by simp only [List.length_cons]; omega] at ih
    simp only [ih]
theorem bytesW_pos : ∀ (l : List Vr) (key : ByteArray), l.length ≤ (bytesW key l).length
  | [], _ => Nat.le_refl _
  | p :: l, key => by
    have h := bytesW_pos l p.k
    have h1 := V.vnat_pos (comS key p.k)
    rw [bytesW, List.length_append, List.length_cons]
    unfold bytesP
    simp only [List.length_append, V.vput_nat]
    omega
/-- A block's bytes are read as it. -/
theorem readB_block (l : List Vr) (h : mayBl l = true) : readB (blockB l) = (l, 0) := by
  obtain ⟨h1, h2, h3⟩ := mayBl_all h
  have hn : numS (blockB l, 0) = ((l.length : Int), (bytesW { data := #[] } l, 0)) := numS_put _ _ (by omega) (by omega)
  have hp := bytesW_pos l { data := #[] }
  have hr : rbAll (blockB l) = (l, ([], 0)) := by
    unfold rbAll
    rw [hn]
    have := rb_bytes l ((blockB l).length + 2) 0 { data := #[] } (by unfold blockB; rw [List.length_append]; omega) h1 (by decide)
    rw [Nat.zero_add] at this
    exact this
  unfold readB
  rw [hr]
  simp [h]
theorem vput_rangeB (n : Int) : ∀ x ∈ V.vput n, 0 ≤ x ∧ x ≤ 255 := vput_range n
theorem bytesP_range (key : ByteArray) (p : Vr) : ∀ x ∈ bytesP key p, 0 ≤ x ∧ x ≤ 255 := by
  intro x hx
  unfold bytesP at hx
  rcases List.mem_append.1 hx with hx | hx
  · rcases List.mem_append.1 hx with hx | hx
    · exact vput_range _ x hx
    · exact vtext_range _ x hx
  · rcases List.mem_append.1 hx with hx | hx
    · obtain ⟨n, _, hx⟩ := List.mem_flatMap.1 hx
      exact vput_range _ x hx
    · exact vtext_range _ x hx
theorem bytesW_range : ∀ (l : List Vr) (key : ByteArray), ∀ x ∈ bytesW key l, 0 ≤ x ∧ x ≤ 255
  | [], _, x, hx => by cases hx
  | p :: l, key, x, hx => by
    rcases List.mem_append.1 hx with hx | hx
    · exact bytesP_range key p x hx
    · exact bytesW_range l p.k x hx
theorem blockB_range (l : List Vr) : ∀ x ∈ blockB l, 0 ≤ x ∧ x ≤ 255 := by
  intro x hx
  rcases List.mem_append.1 hx with hx | hx
  · exact vput_range _ x hx
  · exact bytesW_range l _ x hx
theorem blockB_len (l : List Vr) (h : mayBl l = true) : (blockB l).length ≤ 4000 := by
  obtain ⟨h1, h2, h3⟩ := mayBl_all h
  have := bytesW_len l { data := #[] } h1
  unfold blockB
  rw [List.length_append, vput_small _ (by omega)]
  omega
end Go.Proofs.Ytopoepifbjbmoaa.A
