/- A version's bytes are read as it: the plain law. -/
import Derived.Test.YtmkabbfglijckaaBRead
namespace Go.Proofs.Ytmkabbfglijckaa.A
open Go.RowKit Go.Proofs.YtmkabbfglijckaaW.PrintWords Go.Proofs.YtmkabbfglijckaaW.PrintLast Go.Proofs.YtmkabbfglijckaaW.PrintMore
set_option linter.unusedVariables false
set_option linter.unusedSimpArgs false

theorem numS_put (a : Int) (X : List Int) (h0 : 0 ≤ a) (h1 : a < 4611686018427387904) : numS (V.vput a ++ X, 0) = (a, (X, 0)) := by
  unfold numS
  rw [if_pos rfl]
  simp only
  rw [V.numG_put a X h0 h1]
theorem str_bytes (s : ByteArray) : strOfNums (bytesOf s) = s := by
  have e : (bytesOf s).map (fun n => UInt8.ofNat n.toNat) = s.data.toList := by
    unfold bytesOf
    rw [List.map_map]
    refine (List.map_congr_left (g := id) fun x hx => ?_).trans (List.map_id _)
    show UInt8.ofNat ((x.toNat : Int)).toNat = x
    rw [Int.toNat_natCast]
    exact UInt8.ofNat_toNat
  unfold strOfNums
  rw [e]
theorem textS_put (most : Int) (s : ByteArray) (X : List Int) (h : (s.size : Int) ≤ most) (hm : most ≤ 1000000) : textS most (V.vtext s ++ X, 0) = (s, (X, 0)) := by
  unfold textS V.vtext
  rw [List.append_assoc, numS_put _ _ (by omega) (by omega)]
  have hl : (bytesOf s).length = s.size := bytesOf_length s
  rw [if_neg (by simp), if_neg (by simp only; omega), if_neg (by simp only [List.length_append]; omega)]
  simp only [Int.toNat_natCast]
  rw [← hl, List.take_left, List.drop_left, str_bytes]
theorem key_size {k : ByteArray} (h : (O.splitK k).2.2 = 0) : k.size ≤ 92 := by
  unfold O.splitK at h
  split at h
  · split at h
    · rename_i p q _
      split at h
      · rename_i h2
        obtain ⟨_, _, h3, h4⟩ := h2
        have h40 : q.s.size ≤ 40 := by
          unfold O.keyErr at h3
          split at h3
          · omega
          · split at h3
            · omega
            · omega
        rw [← h4]
        unfold O.keyStr
        rw [if_pos h3, strOfNums_size]
        have hf := O.flat_text_len (bytesOf q.s)
        rw [bytesOf_length] at hf
        simp [O.keyParts, O.writeL, O.wpart, O.num8, O.wtext, -List.length_flatMap]
        omega
      · simp at h
    · simp at h
  · rename_i h1
    exact absurd h h1
theorem readV_bytes (p : Vr) (X : List Int) (hm : mayV p = true) : readV (bytesV p ++ X, 0) = (p, 0, (X, 0)) := by
  obtain ⟨h1, ⟨⟨⟨r1, r2⟩, ⟨r3, r4⟩⟩, ⟨r5, r6⟩⟩, ⟨r7, r8, r9⟩, r10, r11⟩ := (mayV_iff p).1 hm
  have hks := key_size h1
  have hg : 0 ≤ goneI p.g ∧ goneI p.g ≤ 1 := by unfold goneI; split <;> omega
  have e0 : (bytesV p ++ X, (0 : Int)) = (V.vput p.br ++ (V.vput p.ep ++ (V.vput p.sq ++ (V.vput p.f ++ (V.vput (p.t - p.f) ++ (V.vput (goneI p.g) ++ (V.vtext p.k ++ (V.vtext p.v ++ X))))))), 0) := by
    unfold bytesV
    simp [List.append_assoc]
  rw [e0]
  have e1 := numS_put p.br (V.vput p.ep ++ (V.vput p.sq ++ (V.vput p.f ++ (V.vput (p.t - p.f) ++ (V.vput (goneI p.g) ++ (V.vtext p.k ++ (V.vtext p.v ++ X))))))) r1 (by omega)
  have e2 := numS_put p.ep (V.vput p.sq ++ (V.vput p.f ++ (V.vput (p.t - p.f) ++ (V.vput (goneI p.g) ++ (V.vtext p.k ++ (V.vtext p.v ++ X)))))) (by omega) (by omega)
  have e3 := numS_put p.sq (V.vput p.f ++ (V.vput (p.t - p.f) ++ (V.vput (goneI p.g) ++ (V.vtext p.k ++ (V.vtext p.v ++ X))))) (by omega) (by omega)
  have e4 := numS_put p.f (V.vput (p.t - p.f) ++ (V.vput (goneI p.g) ++ (V.vtext p.k ++ (V.vtext p.v ++ X)))) r7 (by omega)
  have e5 := numS_put (p.t - p.f) (V.vput (goneI p.g) ++ (V.vtext p.k ++ (V.vtext p.v ++ X))) (by omega) (by omega)
  have e6 := numS_put (goneI p.g) (V.vtext p.k ++ (V.vtext p.v ++ X)) hg.1 (by omega)
  have e7 := textS_put 100 p.k (V.vtext p.v ++ X) (by omega) (by omega)
  have e8 := textS_put 200 p.v X (by omega) (by omega)
  have hv : verS (V.vput p.br ++ (V.vput p.ep ++ (V.vput p.sq ++ (V.vput p.f ++ (V.vput (p.t - p.f) ++ (V.vput (goneI p.g) ++ (V.vtext p.k ++ (V.vtext p.v ++ X))))))), 0) = p := by
    unfold verS t2S t1S n6S n5S n4S n3S n2S n1S
    rw [e1]; simp only
    rw [e2]; simp only
    rw [e3]; simp only
    rw [e4]; simp only
    rw [e5]; simp only
    rw [e6]; simp only
    rw [e7]; simp only
    rw [e8]; simp only
    have hgg : decide (goneI p.g = 1) = p.g := by unfold goneI; cases p.g <;> simp
    have htt : p.f + (p.t - p.f) = p.t := by omega
    rw [hgg, htt]
  unfold readV
  rw [hv, hm]
  have ht : (t2S (V.vput p.br ++ (V.vput p.ep ++ (V.vput p.sq ++ (V.vput p.f ++ (V.vput (p.t - p.f) ++ (V.vput (goneI p.g) ++ (V.vtext p.k ++ (V.vtext p.v ++ X))))))), 0)).2 = (X, 0) ∧ (n6S (V.vput p.br ++ (V.vput p.ep ++ (V.vput p.sq ++ (V.vput p.f ++ (V.vput (p.t - p.f) ++ (V.vput (goneI p.g) ++ (V.vtext p.k ++ (V.vtext p.v ++ X))))))), 0)).1 = goneI p.g := by
    unfold t2S t1S n6S n5S n4S n3S n2S n1S
    rw [e1]; simp only
    rw [e2]; simp only
    rw [e3]; simp only
    rw [e4]; simp only
    rw [e5]; simp only
    rw [e6]; simp only
    rw [e7]; simp only
    rw [e8]; simp only
    exact ⟨trivial, trivial⟩
  rw [ht.1, ht.2, if_neg (by simp), if_neg (by 
    rintro (h | h)
    · omega
    · cases h)]
theorem vput_range (n : Int) : ∀ x ∈ V.vput n, 0 ≤ x ∧ x ≤ 255 := by
  have h : ∀ (N m : Nat), m ≤ N → ∀ x ∈ V.vnat m, 0 ≤ x ∧ x ≤ 255 := by
    intro N
    induction N with
    | zero =>
      intro m hm x hx
      rw [V.vnat_small (by omega), List.mem_singleton] at hx
      omega
    | succ N ih =>
      intro m hm x hx
      by_cases hs : m < 128
      · rw [V.vnat_small hs, List.mem_singleton] at hx
        omega
      · rw [V.vnat_big hs, List.mem_cons] at hx
        rcases hx with rfl | hx
        · omega
        · exact ih (m / 128) (by omega) x hx
  exact h _ _ (Nat.le_refl _)
theorem bytes_range (s : ByteArray) : ∀ x ∈ bytesOf s, 0 ≤ x ∧ x ≤ 255 := by
  intro x hx
  obtain ⟨c, _, rfl⟩ := List.mem_map.1 hx
  have := UInt8.toNat_lt c
  omega
theorem vtext_range (s : ByteArray) : ∀ x ∈ V.vtext s, 0 ≤ x ∧ x ≤ 255 := by
  intro x hx
  unfold V.vtext at hx
  rcases List.mem_append.1 hx with hx | hx
  · exact vput_range _ x hx
  · exact bytes_range s x hx
/-- Two that may be have the same bytes just if they are the same. -/
theorem bytesV_inj {p q : Vr} (hp : mayV p = true) (hq : mayV q = true) (h : bytesV p = bytesV q) : p = q := by
  have h1 := readV_bytes p [] hp
  have h2 := readV_bytes q [] hq
  rw [h] at h1
  rw [h1] at h2
  injection h2
theorem bytesV_range (p : Vr) : ∀ x ∈ bytesV p, 0 ≤ x ∧ x ≤ 255 := by
  intro x hx
  unfold bytesV at hx
  rcases List.mem_append.1 hx with hx | hx
  · obtain ⟨n, _, hx⟩ := List.mem_flatMap.1 hx
    exact vput_range n x hx
  · rcases List.mem_append.1 hx with hx | hx <;> exact vtext_range _ x hx
theorem bytesV_len (p : Vr) (hm : mayV p = true) : (bytesV p).length ≤ 400 := by
  obtain ⟨h1, ⟨⟨⟨r1, r2⟩, ⟨r3, r4⟩⟩, ⟨r5, r6⟩⟩, ⟨r7, r8, r9⟩, r10, r11⟩ := (mayV_iff p).1 hm
  have hks := key_size h1
  have hg : 0 ≤ goneI p.g ∧ goneI p.g ≤ 1 := by unfold goneI; split <;> omega
  have l1 := V.flat_put_len [p.br, p.ep, p.sq, p.f, p.t - p.f, goneI p.g] (by intro y hy; simp only [List.mem_cons, List.not_mem_nil, or_false] at hy; rcases hy with rfl | rfl | rfl | rfl | rfl | rfl <;> omega)
  have l2 := V.vput_le (p.k.size : Int) (by omega)
  have l3 := V.vput_le (p.v.size : Int) (by omega)
  simp only [List.length_cons, List.length_nil] at l1
  unfold bytesV
  rw [List.length_append, List.length_append, V.vtext_len, V.vtext_len]
  omega
end Go.Proofs.Ytmkabbfglijckaa.A
