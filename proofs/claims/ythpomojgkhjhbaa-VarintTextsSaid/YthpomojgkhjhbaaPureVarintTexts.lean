/- A text is got if it is no longer than may be and its bytes are there; else it is refused, whatever stands behind: for all texts, bounds, cuts and bytes, no condition. -/
import Derived.Test.YthpomojgkhjhbaaPSx21
import Derived.Test.YthpomojgkhjhbaaVarint
import Derived.Test.YthpomojgkhjhbaaZigs
import Derived.Test.YthpomojgkhjhbaaWithin
namespace Go.Proofs.Ythpomojgkhjhbaa.Pure
open Go.RowKit Go.Proofs.Ythpomojgkhjhbaa.PS Go.Proofs.YthpomojgkhjhbaaW.PrintWords Go.Proofs.YthpomojgkhjhbaaW.PrintLast Go.Proofs.Ythpomojgkhjhbaa.Base Go.Proofs.Ythpomojgkhjhbaa.VPlain Go.Proofs.Ythpomojgkhjhbaa.Varint Go.Proofs.Ythpomojgkhjhbaa.Zigs Go.Proofs.Ythpomojgkhjhbaa.Within

theorem get_at (s : ByteArray) (hs : s.size ≤ 300) (r : List Int) : getI (vput s.size ++ r) 0 = ((s.size : Int), ((vput s.size).length : Int), 0) := by
  have := getI_put (b := []) (r := r) (n := (s.size : Int)) (by omega) (by omega)
  simpa using this
theorem texts_whole (s : ByteArray) (hs : s.size ≤ 300) (most : Int) (hm0 : 0 ≤ most) (hm1 : most ≤ 320) (l : List Int) : getT (vput s.size ++ bytesOf s ++ l) 0 most = if (s.size : Int) > most then (⟨#[]⟩, 0, 3) else (s, ((vput s.size ++ bytesOf s).length : Int), 0) := by
  have hvs := vput_len (s.size : Int)
  have hsb := vput_byte (show ((s.size : Nat) : Int) ≤ 18446744073709551615 by omega)
  have hlen : (vput s.size ++ bytesOf s).length = (vput s.size).length + s.size := by simp [bytesOf_size]
  have hmx : max most 0 = most := by omega
  unfold getT
  rw [List.append_assoc, get_at s hs]
  simp only
  rw [if_pos trivial, hmx]
  by_cases h : (s.size : Int) > most
  · rw [if_pos h, if_pos h]
  · rw [if_neg h, if_neg h, if_neg (by simp [bytesOf_size]; omega)]
    have e1 : (((vput s.size).length : Int) + s.size).toNat = (vput s.size ++ bytesOf s).length := by rw [hlen]; omega
    rw [← List.append_assoc, e1, List.take_left, Int.toNat_natCast, List.drop_left, str_bytesOf, hlen]
    refine Prod.ext rfl (Prod.ext ?_ rfl)
    simp only
    omega
theorem texts_cut (s : ByteArray) (hs : s.size ≤ 300) (most : Int) (hm0 : 0 ≤ most) (hm1 : most ≤ 320) (c : Nat) : (getT ((vput s.size ++ bytesOf s).take c) 0 most).2.2 = if c < (vput s.size).length then 10 else if (s.size : Int) > most then 3 else if c < (vput s.size ++ bytesOf s).length then 10 else 0 := by
  have hvs := vput_len (s.size : Int)
  have hsb := vput_byte (show ((s.size : Nat) : Int) ≤ 18446744073709551615 by omega)
  have hlen : (vput s.size ++ bytesOf s).length = (vput s.size).length + s.size := by simp [bytesOf_size]
  have hmx : max most 0 = most := by omega
  unfold getT
  by_cases h : c < (vput s.size).length
  · have e : getI ((vput s.size ++ bytesOf s).take c) 0 = (0, 0, 10) := by
      unfold getI
      rw [if_neg (by omega), show (0 : Int).toNat = 0 from rfl, List.drop_zero, List.take_append_of_le_length (by omega)]
      exact go_cut 0 _ c h
    rw [e, if_pos h]
    simp only
    rw [if_neg (by decide)]
  · have e : (vput s.size ++ bytesOf s).take c = vput s.size ++ (bytesOf s).take (c - (vput s.size).length) := by
      rw [List.take_append, List.take_of_length_le (by omega)]
    rw [e, get_at s hs, if_neg h]
    simp only
    rw [if_pos trivial, hmx]
    by_cases h2 : (s.size : Int) > most
    · rw [if_pos h2, if_pos h2]
    · rw [if_neg h2, if_neg h2]
      have e3 : ((vput s.size ++ (bytesOf s).take (c - (vput s.size).length)).length : Int) - (vput s.size).length = min (c - (vput s.size).length : Nat) s.size := by
        rw [List.length_append, List.length_take, bytesOf_size]
        omega
      rw [e3, hlen]
      by_cases h3 : c < (vput s.size).length + s.size
      · rw [if_pos h3, if_pos (by omega)]
      · rw [if_neg h3, if_neg (by omega)]
theorem texts_any (s : ByteArray) (hs : s.size ≤ 300) (a1 a2 : Int) (l : List Int) (hl : l.length ≤ 140737488351232) (hb : ∀ x ∈ l, 0 ≤ x ∧ x ≤ 255) (k : Nat) (hk : l.length + 1000 ≤ k) : columbariumlaw1_VarintTexts.j0 (k + 1) s a1 a2 l = some true := by
  have hvs := vput_len (s.size : Int)
  have hsb := vput_byte (show ((s.size : Nat) : Int) ≤ 18446744073709551615 by omega)
  obtain ⟨most, hw, hm0, hm1⟩ := within_f (n := a1) (hi := 320) (by decide) (by decide)
  have hB : ∀ x ∈ vput s.size ++ bytesOf s, 0 ≤ x ∧ x ≤ 255 := by
    intro x h
    rcases List.mem_append.1 h with h | h
    · exact hsb x h
    · exact bytesOf_range h
  have hlen : (vput s.size ++ bytesOf s).length = (vput s.size).length + s.size := by simp [bytesOf_size]
  obtain ⟨c, hc, hc0, hc1⟩ := within_f (n := a2) (hi := ((vput s.size ++ bytesOf s).length : Int)) (by omega) (by omega)
  have hBl : ∀ x ∈ vput s.size ++ bytesOf s ++ l, 0 ≤ x ∧ x ≤ 255 := by
    intro x h
    rcases List.mem_append.1 h with h | h
    · exact hB x h
    · exact hb x h
  have eF := texts_whole s hs most hm0 hm1 l
  obtain ⟨c, rfl⟩ := Int.eq_ofNat_of_zero_le hc0
  have eE := texts_cut s hs most hm0 hm1 c
  have hP : varint_PutText.f k [] s = some (vput s.size ++ bytesOf s) := by
    have := putText_f (l := []) (s := s) (k := k) (by rw [List.length_nil]; omega) (by omega)
    rwa [List.nil_append] at this
  have hE := getText_f (l := (vput s.size ++ bytesOf s).take c) (by rw [List.length_take]; omega) (fun x h => hB x (List.mem_of_mem_take h)) 0 (most := most) (by omega) (by omega) (k := k) (by rw [List.length_take]; omega)
  have hF := getText_f (l := vput s.size ++ bytesOf s ++ l) (by rw [List.length_append]; omega) hBl 0 (most := most) (by omega) (by omega) (k := k) (by rw [List.length_append]; omega)
  simp only [columbariumlaw1_VarintTexts.j0]
  rw [hw, Option.bind_some, hP, Option.bind_some, hc, Option.bind_some, if_pos (by omega), if_pos (by omega), Int.toNat_natCast, hE, Option.bind_some, Option.bind_some, if_pos (by rw [List.length_nil]; omega), List.nil_append, Option.bind_some,
    if_pos (by omega), hF, Option.bind_some, eF, known_f (by omega), Option.bind_some]
  rw [eE, w64_id (n := ((vput s.size ++ bytesOf s).length : Int) - s.size) (by omega) (by omega)]
  have hch : ((c : Int) < ((vput s.size ++ bytesOf s).length : Int) - s.size) ↔ c < (vput s.size).length := by rw [hlen]; omega
  by_cases h : (s.size : Int) > most
  · rw [if_pos h, if_neg (by decide : ¬ ((⟨#[]⟩, 0, 3) : ByteArray × Int × Int).2.2 = 0), if_neg (by omega), if_pos (by decide : ((⟨#[]⟩, 0, 3) : ByteArray × Int × Int).2.2 = 3)]
    by_cases h1 : c < (vput s.size).length
    · rw [if_pos (hch.2 h1), if_pos h1, if_pos rfl]
    · rw [if_neg (fun h2 => h1 (hch.1 h2)), if_neg h1, if_pos h, if_pos rfl]
  · rw [if_neg h]
    simp only [if_true]
    rw [if_pos (by omega)]
    by_cases h1 : c < (vput s.size).length
    · rw [if_pos (hch.2 h1), if_pos h1, if_pos rfl]
    · rw [if_neg (fun h2 => h1 (hch.1 h2)), if_neg h1, if_neg h]
      by_cases h3 : c < (vput s.size ++ bytesOf s).length
      · rw [if_pos (by omega), if_pos h3, if_pos rfl]
      · rw [if_neg (by omega), if_neg h3, if_pos rfl]

theorem VarintTexts : columbariumlaw1_VarintTexts.Pure := by
  intro s a1 a2 l hs _ _ _ hl hb
  have hl2 : l.length ≤ 140737488351232 := by omega
  have hb2 : ∀ x ∈ l, 0 ≤ x ∧ x ≤ 255 := fun x h => u8wf (hb x h)
  refine ⟨l.length + 1001, ?_⟩
  unfold columbariumlaw1_VarintTexts.f
  by_cases h : (s.size : Int) > 300
  · rw [if_pos h, if_pos (by decide), if_pos (by omega)]
    exact texts_any _ (by simp; omega) a1 a2 l hl2 hb2 (l.length + 1000) (by omega)
  · rw [if_neg h]
    exact texts_any s (by omega) a1 a2 l hl2 hb2 (l.length + 1000) (by omega)
end Go.Proofs.Ythpomojgkhjhbaa.Pure
