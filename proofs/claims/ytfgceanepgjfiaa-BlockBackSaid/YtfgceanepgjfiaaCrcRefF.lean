/- What the document's own Crc comes to (seats without Fnv). -/
import Derived.Test.YtfgceanepgjfiaaPScolumbariumref2Crc
import Derived.Test.YtfgceanepgjfiaaBlkPlain
namespace Go.Proofs.Ytfgceanepgjfiaa.CrcRefF
open Go.RowKit Go.Proofs.Ytfgceanepgjfiaa.PS Go.Proofs.YtfgceanepgjfiaaW.PrintWords Go.Proofs.YtfgceanepgjfiaaW.PrintLast Go.Proofs.Ytfgceanepgjfiaa.Base Go.Proofs.Ytfgceanepgjfiaa.CPlain Go.Proofs.Ytfgceanepgjfiaa.BlkPlain
theorem xor_ones' {x : Int} (h0 : 0 ≤ x) (h1 : x < 4294967296) : bits .xor .u32 x 4294967295 = 4294967295 - x := by
  obtain ⟨n, rfl⟩ := Int.eq_ofNat_of_zero_le h0
  have hn : n < 2 ^ 32 := by omega
  have e := xor_bv32 (BitVec.ofNat 32 n) (BitVec.allOnes 32)
  have e1 : (BitVec.ofNat 32 n).toNat = n := by simp only [BitVec.toNat_ofNat]; omega
  have e2 : (BitVec.allOnes 32).toNat = 4294967295 := by decide
  rw [e1, e2, BitVec.xor_allOnes, BitVec.toNat_not, e1] at e
  rw [show ((4294967295 : Int)) = ((4294967295 : Nat) : Int) from rfl, e]
  omega
theorem round (l : List Int) (i : Int) (n : Nat) : ∀ (k : Nat) (v : BitVec 32), n ≤ 8 → columbariumref2_Crc.l1 (k + n + 1) l (v.toNat : Int) i ((8 - n : Nat) : Int) = columbariumref2_Crc.l0 k l ((Rn n v).toNat : Int) (wrap64 (i + 1)) := by
  induction n with
  | zero =>
    intro k v _
    rw [columbariumref2_Crc.l1, if_neg (by decide)]
    rfl
  | succ n ih =>
    intro k v hn
    rw [show k + (n + 1) + 1 = (k + n + 1) + 1 from by omega, columbariumref2_Crc.l1]
    have hv := v.isLt
    have hw : wrap64 (((8 - (n + 1) : Nat) : Int) + 1) = ((8 - n : Nat) : Int) := by rw [w64_id (by omega) (by omega)]; omega
    have hd : (v.toNat : Int) / (2 : Int) = ((v >>> 1).toNat : Int) := by rw [BitVec.toNat_ushiftRight, Nat.shiftRight_eq_div_pow]; omega
    have hb : v.getLsbD 0 = decide (v.toNat % 2 = 1) := by rw [BitVec.getLsbD, Nat.testBit_zero]
    rw [if_pos (by omega), and1_u32 (by omega) (by omega), hw, hd]
    have hR : Rn (n + 1) v = Rn n (R v) := rfl
    rw [hR]
    by_cases h : v.toNat % 2 = 1
    · rw [if_pos (by omega)]
      have := xor_bv32 (v >>> 1) 0x82f63b78#32
      rw [show ((0x82f63b78#32 : BitVec 32).toNat : Int) = 2197175160 from rfl] at this
      rw [this, ih k _ (by omega)]
      unfold R
      rw [hb, if_pos (by simpa using h)]
    · rw [if_neg (by omega), ih k _ (by omega)]
      unfold R
      rw [hb, if_neg (by simpa using h)]
theorem loop (l : List Int) (hl : l.length ≤ 140737488355328) (hb : ∀ x ∈ l, 0 ≤ x ∧ x ≤ 255) (d : Nat) : ∀ (k i : Nat) (v : BitVec 32), i ≤ l.length → l.length - i = d → 10 * d < k →
    columbariumref2_Crc.l0 k l (v.toNat : Int) (i : Int) = some (4294967295 - ((crcV v (l.drop i)).toNat : Int)) := by
  induction d with
  | zero =>
    intro k i v hi hd hk
    obtain ⟨k, rfl⟩ : ∃ m, k = m + 1 := ⟨k - 1, by omega⟩
    have : i = l.length := by omega
    subst this
    have hv := v.isLt
    rw [columbariumref2_Crc.l0, if_neg (by omega), List.drop_length, xor_ones' (by omega) (by omega)]
    rfl
  | succ d ih =>
    intro k i v hi hd hk
    obtain ⟨k, rfl⟩ : ∃ m, k = m + 10 := ⟨k - 10, by omega⟩
    have hlt : i < l.length := by omega
    have hc := hb _ (List.getElem_mem hlt)
    rw [← rd_nat hlt] at hc
    rw [show k + 10 = (k + 8 + 1) + 1 from rfl, columbariumref2_Crc.l0, if_pos (by omega), if_pos (by omega), Int.emod_eq_of_lt hc.1 (by omega)]
    have e : rd l i = ((byte (rd l i)).toNat : Int) := by rw [byte_toNat hc.1 hc.2]; omega
    have hx := xor_bv32 v (byte (rd l i))
    rw [← e] at hx
    rw [hx, show (0 : Int) = ((8 - 8 : Nat) : Int) from rfl, round l _ 8 k _ (by omega), show wrap64 ((i : Int) + 1) = ((i + 1 : Nat) : Int) from by rw [w64_id (by omega) (by omega)]; push_cast; rfl,
      ih k (i + 1) _ (by omega) (by omega) (by omega), drop_rd hlt, crcV_cons]
theorem crcRef_f {l : List Int} (hl : l.length ≤ 140737488355328) (hb : ∀ x ∈ l, 0 ≤ x ∧ x ≤ 255) {k : Nat} (hk : 10 * l.length < k) : columbariumref2_Crc.f k l = some (crcI l) := by
  unfold columbariumref2_Crc.f crcI
  have := loop l hl hb l.length k 0 0xffffffff#32 (by omega) (by omega) (by omega)
  rwa [List.drop_zero] at this
end Go.Proofs.Ytfgceanepgjfiaa.CrcRefF
