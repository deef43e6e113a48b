/- What Seal, Open and All of chapter 6 come to, whatever they are handed. -/
import Derived.Test.YtfgceanepgjfiaaPSblockSeal
import Derived.Test.YtfgceanepgjfiaaPSblockOpen
import Derived.Test.YtfgceanepgjfiaaCrcF
namespace Go.Proofs.Ytfgceanepgjfiaa.Blk
open Go.RowKit Go.Proofs.Ytfgceanepgjfiaa.PS Go.Proofs.YtfgceanepgjfiaaW.PrintWords Go.Proofs.YtfgceanepgjfiaaW.PrintLast Go.Proofs.Ytfgceanepgjfiaa.Base Go.Proofs.Ytfgceanepgjfiaa.CPlain Go.Proofs.Ytfgceanepgjfiaa.BlkPlain Go.Proofs.Ytfgceanepgjfiaa.CrcF

theorem put4_f {l : List Int} (hl : l.length ≤ 140737488355000) (n : Int) : block_put.f l n = some (l ++ B4 n) := by
  unfold block_put.f
  rw [Option.bind_some, if_pos (by simp; omega)]
  rfl
theorem or_bytes {a b c d : Int} (ha : 0 ≤ a ∧ a ≤ 255) (hb : 0 ≤ b ∧ b ≤ 255) (hc : 0 ≤ c ∧ c ≤ 255) (hd : 0 ≤ d ∧ d ≤ 255) :
    bits .or .u32 (bits .or .u32 (bits .or .u32 (a % 4294967296) (((b % 4294967296) * 256) % 4294967296)) (((c % 4294967296) * 65536) % 4294967296)) (((d % 4294967296) * 16777216) % 4294967296) = a + 256 * b + 65536 * c + 16777216 * d := by
  rw [show a % 4294967296 = a from by omega, show ((b % 4294967296) * 256) % 4294967296 = 256 * b from by omega, show ((c % 4294967296) * 65536) % 4294967296 = 65536 * c from by omega, show ((d % 4294967296) * 16777216) % 4294967296 = 16777216 * d from by omega]
  obtain ⟨a, rfl⟩ := Int.eq_ofNat_of_zero_le ha.1
  obtain ⟨b, rfl⟩ := Int.eq_ofNat_of_zero_le hb.1
  obtain ⟨c, rfl⟩ := Int.eq_ofNat_of_zero_le hc.1
  obtain ⟨d, rfl⟩ := Int.eq_ofNat_of_zero_le hd.1
  have o : ∀ (x y i : Nat), x < 2 ^ i → x < 2 ^ 32 → 2 ^ i * y < 2 ^ 32 → bits .or .u32 (x : Int) ((2 ^ i * y : Nat) : Int) = ((2 ^ i * y + x : Nat) : Int) := by
    intro x y i hx h1 h2
    rw [bits_or_nat .u32 rfl h1 h2, Nat.or_comm, ← Nat.two_pow_add_eq_or_of_lt hx y]
  have e1 := o a b 8 (by omega) (by omega) (by omega)
  have e2 := o (2 ^ 8 * b + a) c 16 (by omega) (by omega) (by omega)
  have e3 := o (2 ^ 16 * c + (2 ^ 8 * b + a)) d 24 (by omega) (by omega) (by omega)
  rw [show (256 : Int) * (b : Int) = ((2 ^ 8 * b : Nat) : Int) from by omega, e1, show (65536 : Int) * (c : Int) = ((2 ^ 16 * c : Nat) : Int) from by omega, e2, show (16777216 : Int) * (d : Int) = ((2 ^ 24 * d : Nat) : Int) from by omega, e3]
  omega
theorem rd_byte {l : List Int} (hb : ∀ x ∈ l, 0 ≤ x ∧ x ≤ 255) (i : Int) : 0 ≤ rd l i ∧ rd l i ≤ 255 := by
  unfold rd
  rw [List.getD_eq_getElem?_getD]
  cases hg : l[i.toNat]? with
  | none => simp
  | some x => exact hb x (List.mem_of_getElem? hg)
theorem get4_f {l : List Int} (hl : 4 ≤ l.length) (hb : ∀ x ∈ l, 0 ≤ x ∧ x ≤ 255) : block_get.f l = some (get4 l) := by
  unfold block_get.f
  rw [if_pos (by omega), if_pos (by omega), if_pos (by omega), if_pos (by omega), or_bytes (rd_byte hb 0) (rd_byte hb 1) (rd_byte hb 2) (rd_byte hb 3)]
  rfl
theorem seal_f {b : List Int} (hl : b.length ≤ 1048576) (hb : ∀ x ∈ b, 0 ≤ x ∧ x ≤ 255) {k : Nat} (hk : 10 * b.length < k) : block_Seal.f k b = some (sealL b, 0) := by
  unfold block_Seal.f
  rw [if_neg (by omega), Int.emod_eq_of_lt (by omega) (by omega), put4_f (by simp), Option.bind_some, xor_u32_ones (by omega) (by omega), put4_f (by simp [B4_len]), Option.bind_some, if_pos (by simp only [List.nil_append, List.length_append, B4_len]; omega), crc_f (by omega) hb hk, Option.bind_some,
    put4_f (by simp only [List.nil_append, List.length_append, B4_len]; omega), Option.bind_some]
  rfl
theorem seal_long {b : List Int} (hl : 1048576 < b.length) (k : Nat) : block_Seal.f k b = some ([], 3) := by
  unfold block_Seal.f
  rw [if_pos (by omega)]
theorem open_f {l : List Int} (hl : l.length ≤ 140737488355328) (hb : ∀ x ∈ l, 0 ≤ x ∧ x ≤ 255) (a : Int) {k : Nat} (hk : 10485770 < k) : block_Open.f k l a = some (openI l a) := by
  obtain ⟨k, rfl⟩ : ∃ m, k = m + 1 := ⟨k - 1, by omega⟩
  unfold block_Open.f openI
  by_cases h0 : a < 0
  · rw [if_pos h0, if_pos (.inl h0), block_Open.j0, if_pos rfl]
  · rw [if_neg h0]
    by_cases h1 : a > l.length
    · rw [if_pos (.inr h1), decide_eq_true h1, block_Open.j0, if_pos rfl]
    · rw [if_neg (by omega), decide_eq_false h1, block_Open.j0, if_neg (by decide), if_pos (by omega), if_pos (by omega), Option.bind_some]
      have hbd : ∀ x ∈ l.drop a.toNat, 0 ≤ x ∧ x ≤ 255 := fun x hx => hb x (List.mem_of_mem_drop hx)
      have hld : (l.drop a.toNat).length ≤ l.length := by rw [List.length_drop]; omega
      have hsum : a + (l.drop a.toNat).length = l.length := by rw [List.length_drop]; omega
      obtain ⟨d, hd⟩ : ∃ d, d = l.drop a.toNat := ⟨_, rfl⟩
      rw [← hd] at hbd hld hsum ⊢
      unfold openL
      by_cases h8 : (d.length : Int) < 8
      · rw [if_pos h8, if_pos h8]
        rfl
      · have hbd4 : ∀ x ∈ d.drop 4, 0 ≤ x ∧ x ≤ 255 := fun x hx => hbd x (List.mem_of_mem_drop hx)
        have hr := get4_range hbd
        rw [if_neg h8, if_neg h8, get4_f (by omega) hbd, Option.bind_some, if_pos (by omega), get4_f (by rw [List.length_drop]; omega) hbd4, Option.bind_some, xor_u32_ones hr.1 (by omega)]
        by_cases h4 : get4 (d.drop 4) = 4294967295 - get4 d
        · rw [if_pos h4, if_pos h4]
          by_cases h20 : get4 d > 1048576
          · rw [if_pos h20, if_pos h20]
            rfl
          · rw [if_neg h20, if_neg h20, w64_id (n := (d.length : Int) - 8) (by omega) (by omega), w64_id (n := (d.length : Int) - 8 - 4) (by omega) (by omega), w64_id (n := get4 d) (by omega) (by omega)]
            by_cases hf : (d.length : Int) - 8 - 4 < get4 d
            · rw [if_pos hf, if_pos hf]
              rfl
            · have hbe : ∀ x ∈ d.drop (8 + get4 d).toNat, 0 ≤ x ∧ x ≤ 255 := fun x hx => hbd x (List.mem_of_mem_drop hx)
              have hbm : ∀ x ∈ (d.take (8 + get4 d).toNat).drop 8, 0 ≤ x ∧ x ≤ 255 := fun x hx => hbd x (List.mem_of_mem_take (List.mem_of_mem_drop hx))
              have hml : ((d.take (8 + get4 d).toNat).drop 8).length ≤ 1048576 := by rw [List.length_drop, List.length_take]; omega
              rw [if_neg hf, if_neg hf, w64_id (n := 8 + get4 d) (by omega) (by omega), if_pos (by omega), if_pos (by omega), get4_f (by rw [List.length_drop]; omega) hbe, Option.bind_some, if_pos (by omega)]
              first
                | rw [crc_f (by omega) hbm (by omega), Option.bind_some]
                | rw [Option.bind_some, crc_f (by omega) hbm (by omega), Option.bind_some]
              by_cases hs : get4 (d.drop (8 + get4 d).toNat) = crcI ((d.take (8 + get4 d).toNat).drop 8)
              · rw [if_pos hs, if_pos hs, Option.bind_some]
                rw [w64_id (n := a + (8 + get4 d)) (by omega) (by omega), w64_id (n := a + (8 + get4 d) + 4) (by omega) (by omega)]
                first
                  | rw [List.nil_append, if_pos (by rw [List.length_nil]; omega)]
                  | rw [if_pos (by rw [List.length_nil]; omega), List.nil_append]
                simp only [if_true]
                congr 3
                omega
              · rw [if_neg hs, if_neg hs]
                rfl
        · rw [if_neg h4, if_neg h4]
          rfl
end Go.Proofs.Ytfgceanepgjfiaa.Blk
