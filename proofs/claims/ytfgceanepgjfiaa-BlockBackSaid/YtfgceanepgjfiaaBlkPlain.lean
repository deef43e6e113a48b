/- Chapter 6's frames as lists of bytes, in plain Lean. -/
import Derived.Test.YtfgceanepgjfiaaCPlain
namespace Go.Proofs.Ytfgceanepgjfiaa.BlkPlain
open Go.RowKit Go.Proofs.YtfgceanepgjfiaaW.PrintWords Go.Proofs.Ytfgceanepgjfiaa.Base Go.Proofs.Ytfgceanepgjfiaa.CPlain

def crcI (l : List Int) : Int := 4294967295 - ((crcV 0xffffffff#32 l).toNat : Int)
theorem crcI_range (l : List Int) : 0 ≤ crcI l ∧ crcI l ≤ 4294967295 := by
  have := (crcV 0xffffffff#32 l).isLt
  unfold crcI
  omega
def B4 (n : Int) : List Int := [n % 256, n / 256 % 256, n / 65536 % 256, n / 16777216 % 256]
def get4 (l : List Int) : Int := rd l 0 + 256 * rd l 1 + 65536 * rd l 2 + 16777216 * rd l 3
def sealL (b : List Int) : List Int := B4 b.length ++ B4 (4294967295 - (b.length : Int)) ++ b ++ B4 (crcI b)
/-- What a Seal at the list's begin is: its bytes, how long it is, or why not. -/
def openL (l : List Int) : List Int × Int × Int :=
  if (l.length : Int) < 8 then ([], 0, 10) else
  if get4 (l.drop 4) = 4294967295 - get4 l then
    (if get4 l > 1048576 then ([], 0, 3) else
     if (l.length : Int) - 8 - 4 < get4 l then ([], 0, 10) else
     if get4 (l.drop (8 + get4 l).toNat) = crcI ((l.take (8 + get4 l).toNat).drop 8) then ((l.take (8 + get4 l).toNat).drop 8, 8 + get4 l + 4, 0) else ([], 0, 14))
  else ([], 0, 14)
def openI (l : List Int) (a : Int) : List Int × Int × Int :=
  if a < 0 ∨ a > l.length then ([], 0, 1) else
  match openL (l.drop a.toNat) with
  | (x, n, e) => if e = 0 then (x, a + n, 0) else ([], 0, e)

theorem B4_len (n : Int) : (B4 n).length = 4 := rfl
theorem B4_byte {n : Int} (_ : 0 ≤ n) : ∀ x ∈ B4 n, 0 ≤ x ∧ x ≤ 255 := by
  intro x hx
  simp [B4] at hx
  omega
theorem get4_B4 {n : Int} (h0 : 0 ≤ n) (h1 : n ≤ 4294967295) (r : List Int) : get4 (B4 n ++ r) = n := by
  have e : get4 (B4 n ++ r) = n % 256 + 256 * (n / 256 % 256) + 65536 * (n / 65536 % 256) + 16777216 * (n / 16777216 % 256) := rfl
  rw [e]
  omega
theorem get4_cons (a b c d : Int) (r : List Int) : get4 (a :: b :: c :: d :: r) = a + 256 * b + 65536 * c + 16777216 * d := rfl
theorem get4_range {l : List Int} (hb : ∀ x ∈ l, 0 ≤ x ∧ x ≤ 255) : 0 ≤ get4 l ∧ get4 l ≤ 4294967295 := by
  have h : ∀ i : Int, 0 ≤ rd l i ∧ rd l i ≤ 255 := by
    intro i
    unfold rd
    rw [List.getD_eq_getElem?_getD]
    cases hg : l[i.toNat]? with
    | none => simp
    | some x => exact hb x (List.mem_of_getElem? hg)
  have h0 := h 0
  have h1 := h 1
  have h2 := h 2
  have h3 := h 3
  unfold get4
  omega
/-- Four bytes are those of their number. -/
theorem B4_get4 {a b c d : Int} (ha : 0 ≤ a ∧ a ≤ 255) (hb : 0 ≤ b ∧ b ≤ 255) (hc : 0 ≤ c ∧ c ≤ 255) (hd : 0 ≤ d ∧ d ≤ 255) : B4 (a + 256 * b + 65536 * c + 16777216 * d) = [a, b, c, d] := by
  unfold B4
  have e0 : (a + 256 * b + 65536 * c + 16777216 * d) % 256 = a := by omega
  have e1 : (a + 256 * b + 65536 * c + 16777216 * d) / 256 % 256 = b := by omega
  have e2 : (a + 256 * b + 65536 * c + 16777216 * d) / 65536 % 256 = c := by omega
  have e3 : (a + 256 * b + 65536 * c + 16777216 * d) / 16777216 % 256 = d := by omega
  rw [e0, e1, e2, e3]
theorem sealL_len (b : List Int) : (sealL b).length = b.length + 12 := by
  unfold sealL
  simp only [List.length_append, B4_len]
  omega
theorem sealL_byte {b : List Int} (hl : b.length ≤ 1048576) (hb : ∀ x ∈ b, 0 ≤ x ∧ x ≤ 255) : ∀ x ∈ sealL b, 0 ≤ x ∧ x ≤ 255 := by
  intro x hx
  unfold sealL at hx
  simp only [List.mem_append] at hx
  rcases hx with ((hx | hx) | hx) | hx
  · exact B4_byte (by omega) x hx
  · exact B4_byte (by omega) x hx
  · exact hb x hx
  · exact B4_byte (crcI_range b).1 x hx
/-- The parts of a Seal, whatever stands behind it. -/
theorem sealL_parts (b r : List Int) (hl : b.length ≤ 1048576) : get4 (sealL b ++ r) = b.length ∧ get4 ((sealL b ++ r).drop 4) = 4294967295 - (b.length : Int) ∧ ((sealL b ++ r).take (8 + b.length)).drop 8 = b ∧ get4 ((sealL b ++ r).drop (8 + b.length)) = crcI b := by
  have hc := crcI_range b
  have e : sealL b ++ r = B4 b.length ++ (B4 (4294967295 - (b.length : Int)) ++ (b ++ (B4 (crcI b) ++ r))) := by
    unfold sealL
    simp only [List.append_assoc]
  refine ⟨?_, ?_, ?_, ?_⟩
  · rw [e]; exact get4_B4 (by omega) (by omega) _
  · rw [e, List.drop_left' (B4_len _)]; exact get4_B4 (by omega) (by omega) _
  · have e2 : sealL b ++ r = (B4 b.length ++ B4 (4294967295 - (b.length : Int)) ++ b) ++ (B4 (crcI b) ++ r) := by
      unfold sealL
      simp only [List.append_assoc]
    rw [e2, List.take_left' (by simp only [List.length_append, B4_len]), List.drop_left' (by simp only [List.length_append, B4_len])]
  · have e2 : sealL b ++ r = (B4 b.length ++ B4 (4294967295 - (b.length : Int)) ++ b) ++ (B4 (crcI b) ++ r) := by
      unfold sealL
      simp only [List.append_assoc]
    rw [e2, List.drop_left' (by simp only [List.length_append, B4_len])]
    exact get4_B4 hc.1 hc.2 _
/-- What was sealed is opened, whatever stands behind. -/
theorem open_seal (b r : List Int) (hl : b.length ≤ 1048576) : openL (sealL b ++ r) = (b, ((b.length + 12 : Nat) : Int), 0) := by
  obtain ⟨h1, h2, h3, h4⟩ := sealL_parts b r hl
  have hlen : (sealL b ++ r).length = b.length + 12 + r.length := by rw [List.length_append, sealL_len]
  unfold openL
  have e8 : (8 + (b.length : Int)).toNat = 8 + b.length := by omega
  rw [if_neg (by omega), h1, h2, if_pos rfl, if_neg (by omega), if_neg (by omega), e8, h3, h4, if_pos rfl]
  refine Prod.ext rfl (Prod.ext ?_ rfl)
  simp only
  omega
theorem front {l : List Int} {n : Nat} (h : n + 1 ≤ l.length) : ∃ a t, l = a :: t ∧ n ≤ t.length := by
  cases l with
  | nil => simp at h
  | cons a t => exact ⟨a, t, rfl, by simpa using h⟩
theorem front4 {l : List Int} {n : Nat} (h : n + 4 ≤ l.length) : ∃ a b c d t, l = a :: b :: c :: d :: t ∧ n ≤ t.length := by
  obtain ⟨a, t1, e1, h1⟩ := front (n := n + 3) h
  obtain ⟨b, t2, e2, h2⟩ := front (n := n + 2) h1
  obtain ⟨c, t3, e3, h3⟩ := front (n := n + 1) h2
  obtain ⟨d, t4, e4, h4⟩ := front (n := n) h3
  exact ⟨a, b, c, d, t4, by rw [e1, e2, e3, e4], h4⟩
/-- What is opened was a Seal. -/
theorem open_ok {l x : List Int} {n : Int} (hb : ∀ u ∈ l, 0 ≤ u ∧ u ≤ 255) (h : openL l = (x, n, 0)) : ∃ r, l = sealL x ++ r ∧ n = ((x.length + 12 : Nat) : Int) ∧ x.length ≤ 1048576 := by
  unfold openL at h
  split at h
  · simp at h
  · rename_i h8
    split at h
    · rename_i h4
      split at h
      · simp at h
      · rename_i h20
        split at h
        · simp at h
        · rename_i hfit
          split at h
          · rename_i hsum
            simp only [Prod.mk.injEq, and_true] at h
            obtain ⟨hx, hn⟩ := h
            have hr := get4_range hb
            obtain ⟨s, hs⟩ : ∃ s : Nat, get4 l = s := ⟨(get4 l).toNat, by omega⟩
            rw [hs] at h4 h20 hfit hsum hx hn
            have e8 : (8 + (s : Int)).toNat = 8 + s := by omega
            rw [e8] at hsum hx
            have hxl : x.length = s := by rw [← hx, List.length_drop, List.length_take]; omega
            obtain ⟨a0, a1, a2, a3, t, rfl, h8'⟩ := front4 (l := l) (n := 4) (by omega)
            obtain ⟨b0, b1, b2, b3, t, rfl, _⟩ := front4 (l := t) (n := 0) h8'
            have m : ∀ u ∈ [a0, a1, a2, a3, b0, b1, b2, b3], 0 ≤ u ∧ u ≤ 255 := fun u hu => hb u (by simp at hu; simp; omega)
            have hx2 : t.take s = x := by
              rw [← hx, Nat.add_comm 8 s]
              rfl
            have ht : 4 ≤ (t.drop s).length := by
              simp only [List.length_cons] at hfit
              rw [List.length_drop]
              omega
            have hd : (a0 :: a1 :: a2 :: a3 :: b0 :: b1 :: b2 :: b3 :: t).drop (8 + s) = t.drop s := by
              rw [Nat.add_comm 8 s]
              rfl
            rw [hd] at hsum
            rw [hx] at hsum
            obtain ⟨c0, c1, c2, c3, r, hq, _⟩ := front4 (l := t.drop s) (n := 0) ht
            have mc : ∀ u ∈ [c0, c1, c2, c3], 0 ≤ u ∧ u ≤ 255 := fun u hu => hb u (by
              have : u ∈ t.drop s := by rw [hq]; simp at hu; simp; omega
              have := List.mem_of_mem_drop this
              simp [this])
            rw [hq, get4_cons] at hsum
            rw [get4_cons] at hs
            have h4' : get4 (b0 :: b1 :: b2 :: b3 :: t) = 4294967295 - (s : Int) := h4
            rw [get4_cons] at h4'
            have k0 := B4_get4 (m a0 (by simp)) (m a1 (by simp)) (m a2 (by simp)) (m a3 (by simp))
            have k1 := B4_get4 (m b0 (by simp)) (m b1 (by simp)) (m b2 (by simp)) (m b3 (by simp))
            have k2 := B4_get4 (mc c0 (by simp)) (mc c1 (by simp)) (mc c2 (by simp)) (mc c3 (by simp))
            rw [hs] at k0
            rw [h4'] at k1
            rw [hsum] at k2
            refine ⟨r, ?_, by omega, by omega⟩
            unfold sealL
            rw [hxl, k0, k1, k2]
            have htt : t = x ++ c0 :: c1 :: c2 :: c3 :: r := by rw [← hx2, ← hq, List.take_append_drop]
            rw [htt]
            simp
          · simp at h
    · simp at h
end Go.Proofs.Ytfgceanepgjfiaa.BlkPlain
