/- A block with one byte turned does not open. -/
import Derived.Test.YtfgceanepgjfiaaBAll
namespace Go.Proofs.Ytfgceanepgjfiaa.BTurn
open Go.RowKit Go.Proofs.Ytfgceanepgjfiaa.PS Go.Proofs.YtfgceanepgjfiaaW.PrintWords Go.Proofs.YtfgceanepgjfiaaW.PrintLast Go.Proofs.Ytfgceanepgjfiaa.Base Go.Proofs.Ytfgceanepgjfiaa.CPlain Go.Proofs.Ytfgceanepgjfiaa.BlkPlain Go.Proofs.Ytfgceanepgjfiaa.BAll
theorem B4_inj {n m : Int} (h0 : 0 ≤ n) (h1 : n ≤ 4294967295) (g0 : 0 ≤ m) (g1 : m ≤ 4294967295) (h : B4 n = B4 m) : n = m := by
  have a := get4_B4 h0 h1 []
  have b := get4_B4 g0 g1 []
  rw [h, b] at a
  exact a.symm
theorem byte_inj {x y : Int} (hx : 0 ≤ x ∧ x ≤ 255) (hy : 0 ≤ y ∧ y ≤ 255) (h : byte x = byte y) : x = y := by
  have a := byte_toNat hx.1 hx.2
  have b := byte_toNat hy.1 hy.2
  rw [h, b] at a
  omega
theorem crc_one {p q : List Int} {x y : Int} (hx : 0 ≤ x ∧ x ≤ 255) (hy : 0 ≤ y ∧ y ≤ 255) {v : BitVec 32} (h : crcV v (p ++ x :: q) = crcV v (p ++ y :: q)) : x = y := by
  rw [crcV_append, crcV_append, crcV_cons, crcV_cons] at h
  have h2 := Rn_inj 8 (crcV_inj q h)
  exact byte_inj hx hy (BitVec.xor_right_inj _ |>.1 h2)
theorem crc_set {b : List Int} {j : Nat} {x : Int} (hb : ∀ y ∈ b, 0 ≤ y ∧ y ≤ 255) (hx : 0 ≤ x ∧ x ≤ 255) (h : crcI (b.set j x) = crcI b) : b.set j x = b := by
  by_cases hj : j < b.length
  · have e : b.take j ++ b[j] :: b.drop (j + 1) = b := by rw [← List.drop_eq_getElem_cons hj, List.take_append_drop]
    have e2 : b.set j x = b.take j ++ x :: b.drop (j + 1) := by rw [List.set_eq_take_append_cons_drop, if_pos hj]
    have hc : crcV 0xffffffff#32 (b.set j x) = crcV 0xffffffff#32 b := by
      apply BitVec.eq_of_toNat_eq
      unfold crcI at h
      omega
    have hc2 : crcV 0xffffffff#32 (b.take j ++ x :: b.drop (j + 1)) = crcV 0xffffffff#32 (b.take j ++ b[j] :: b.drop (j + 1)) := by rw [← e2, e]; exact hc
    rw [e2, crc_one hx (hb _ (List.getElem_mem hj)) hc2, e]
  · rw [List.set_eq_of_length_le (by omega)]
/-- What is a block again is the block. -/
theorem seal_set {b y r r' : List Int} {i : Nat} {x : Int} (hb : b.length ≤ 1048576) (hbb : ∀ y ∈ b, 0 ≤ y ∧ y ≤ 255) (hx : 0 ≤ x ∧ x ≤ 255) (hy : y.length ≤ 1048576) (h : sealL y ++ r' = (sealL b).set i x ++ r) : (sealL b).set i x = sealL b := by
  have hcr := crcI_range b
  have hcy := crcI_range y
  unfold sealL at h ⊢
  simp only [List.append_assoc] at h ⊢
  by_cases h4 : i < 4
  · rw [List.set_append_left _ _ (by rw [B4_len]; omega)] at h ⊢
    simp only [List.append_assoc] at h
    obtain ⟨e1, h⟩ := List.append_inj h (by rw [List.length_set, B4_len, B4_len])
    obtain ⟨e2, h⟩ := List.append_inj h (by rw [B4_len, B4_len])
    have := B4_inj (by omega) (by omega) (by omega) (by omega) e2
    rw [← e1, show (y.length : Int) = b.length from by omega]
  · rw [List.set_append_right _ _ (by rw [B4_len]; omega), B4_len] at h ⊢
    simp only [List.append_assoc] at h
    obtain ⟨e1, h⟩ := List.append_inj h (by rw [B4_len, B4_len])
    have hn := B4_inj (by omega) (by omega) (by omega) (by omega) e1
    have hn' : y.length = b.length := by omega
    rw [hn'] at h
    by_cases h8 : i - 4 < 4
    · rw [List.set_append_left _ _ (by rw [B4_len]; omega)] at h ⊢
      simp only [List.append_assoc] at h
      obtain ⟨e2, h⟩ := List.append_inj h (by rw [List.length_set])
      rw [← e2]
    · rw [List.set_append_right _ _ (by rw [B4_len]; omega), B4_len] at h ⊢
      simp only [List.append_assoc] at h
      obtain ⟨_, h⟩ := List.append_inj h rfl
      by_cases hq : i - 4 - 4 < b.length
      · rw [List.set_append_left _ _ hq] at h ⊢
        simp only [List.append_assoc] at h
        obtain ⟨e2, h⟩ := List.append_inj h (by rw [List.length_set, hn'])
        obtain ⟨e3, h⟩ := List.append_inj h rfl
        have hc := B4_inj hcy.1 hcy.2 hcr.1 hcr.2 e3
        rw [e2] at hc
        rw [crc_set hbb hx hc]
      · rw [List.set_append_right _ _ (by omega)] at h ⊢
        simp only [List.append_assoc] at h
        obtain ⟨e2, h⟩ := List.append_inj h hn'
        obtain ⟨e3, h⟩ := List.append_inj h (by rw [List.length_set, B4_len, B4_len])
        rw [← e3, e2]
theorem open_turned {b r : List Int} {i : Nat} {x : Int} (hb : b.length ≤ 1048576) (hbb : ∀ y ∈ b, 0 ≤ y ∧ y ≤ 255) (hr : ∀ y ∈ r, 0 ≤ y ∧ y ≤ 255) (hx : 0 ≤ x ∧ x ≤ 255) (hne : (sealL b).set i x ≠ sealL b) : (openL ((sealL b).set i x ++ r)).2.2 ≠ 0 := by
  intro he
  have hby : ∀ u ∈ (sealL b).set i x ++ r, 0 ≤ u ∧ u ≤ 255 := by
    intro u hu
    rcases List.mem_append.1 hu with hu | hu
    · rcases List.mem_or_eq_of_mem_set hu with hu | rfl
      · exact sealL_byte hb hbb u hu
      · exact hx
    · exact hr u hu
  obtain ⟨r', h1, _, h3⟩ := open_ok (x := (openL ((sealL b).set i x ++ r)).1) (n := (openL ((sealL b).set i x ++ r)).2.1) hby (by rw [← he])
  exact hne (seal_set hb hbb hx h3 h1.symm)
end Go.Proofs.Ytfgceanepgjfiaa.BTurn
