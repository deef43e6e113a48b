/- Of three rows of bytes of one length, and the one that all three make together, the sums make nothing together: for all bytes, no condition. -/
import Derived.Test.YthpomojgkhjhbaaPScolumbariumlaw2SumMixes
import Derived.Test.YthpomojgkhjhbaaCrc
namespace Go.Proofs.Ythpomojgkhjhbaa.Pure
open Go.RowKit Go.Proofs.Ythpomojgkhjhbaa.PS Go.Proofs.YthpomojgkhjhbaaW.PrintWords Go.Proofs.YthpomojgkhjhbaaW.PrintLast Go.Proofs.Ythpomojgkhjhbaa.Base Go.Proofs.Ythpomojgkhjhbaa.CPlain Go.Proofs.Ythpomojgkhjhbaa.Crc

def mixC (x : Int) (i : Nat) : Int := (x + (i : Int) % 256) % 256
def rowC (x : Int) (n i : Nat) : List Int := (List.range n).map fun j => if j < i then mixC x j else 0
def rowD (a b : List Int) (x : Int) (n i : Nat) : List Int := (List.range n).map fun j => if j < i then bits .xor .u8 (bits .xor .u8 (rd a (j : Int)) (rd b (j : Int))) (mixC x j) else 0
theorem row_set (f : Nat → Int) (n i : Nat) : ((List.range n).map fun j => if j < i then f j else 0).set i (f i) = (List.range n).map fun j => if j < i + 1 then f j else 0 := by
  apply List.ext_getElem
  · simp
  · intro j h1 h2
    simp only [List.length_set, List.length_map, List.length_range] at h1
    rw [List.getElem_set]
    simp only [List.getElem_map, List.getElem_range]
    by_cases h : i = j
    · subst h
      rw [if_pos rfl, if_pos (by omega)]
    · rw [if_neg h]
      by_cases h3 : j < i
      · rw [if_pos h3, if_pos (by omega)]
      · rw [if_neg h3, if_neg (by omega)]
theorem xor8_range (a b : Int) : 0 ≤ bits .xor .u8 a b ∧ bits .xor .u8 a b ≤ 255 := by
  have := bits_range .xor .u8 rfl a b
  have h2 : (2 : Int) ^ IntKind.u8.bits = 256 := rfl
  omega
theorem byte_xor8 {b w : Int} (b0 : 0 ≤ b) (b1 : b ≤ 255) (w0 : 0 ≤ w) (w1 : w ≤ 255) : byte (bits .xor .u8 b w) = byte b ^^^ byte w := by
  obtain ⟨b, rfl⟩ := Int.eq_ofNat_of_zero_le b0
  obtain ⟨w, rfl⟩ := Int.eq_ofNat_of_zero_le w0
  have hb : b < 2 ^ 8 := by omega
  have hw : w < 2 ^ 8 := by omega
  have hlt := Nat.xor_lt_two_pow hb hw
  rw [bits_xor_nat .u8 rfl (a := b) (b := w) hb hw]
  apply BitVec.eq_of_toNat_eq
  rw [byte_toNat (by omega) (by omega), BitVec.toNat_xor, byte_toNat (by omega) (by omega), byte_toNat (by omega) (by omega)]
  rfl
theorem mix_loop (a b : List Int) (x : Int) (n : Nat) (hn : n ≤ 2000) (ha : n ≤ a.length) (hb : n ≤ b.length) (Q : Option Bool) (d : Nat) : ∀ (k i : Nat), i ≤ n → n - i = d → d < k →
    (columbariumlaw2_SumMixes.l0 (k - d) a b x (n : Int) (rowC x n n) (rowD a b x n n) (n : Int) = Q) → columbariumlaw2_SumMixes.l0 k a b x (n : Int) (rowC x n i) (rowD a b x n i) (i : Int) = Q := by
  induction d with
  | zero =>
    intro k i hi hd hk hQ
    have : i = n := by omega
    subst this
    exact hQ
  | succ d ih =>
    intro k i hi hd hk hQ
    obtain ⟨k, rfl⟩ : ∃ m, k = m + 1 := ⟨k - 1, by omega⟩
    have e2 : wrap64 ((i : Int) + 1) = ((i + 1 : Nat) : Int) := by rw [w64_id (by omega) (by omega)]; push_cast; rfl
    have lc : (rowC x n i).length = n := by simp [rowC]
    have ld : (rowD a b x n i).length = n := by simp [rowD]
    have sc : (rowC x n i).set i (mixC x i) = rowC x n (i + 1) := row_set (mixC x) n i
    have sd : (rowD a b x n i).set i (bits .xor .u8 (bits .xor .u8 (rd a (i : Int)) (rd b (i : Int))) (mixC x i)) = rowD a b x n (i + 1) := row_set (fun j => bits .xor .u8 (bits .xor .u8 (rd a (j : Int)) (rd b (j : Int))) (mixC x j)) n i
    have rc : rd (rowC x n (i + 1)) (i : Int) = mixC x i := by
      rw [rd_nat (by simp [rowC]; omega)]
      simp [rowC]
    have := ih k (i + 1) (by omega) (by omega) (by omega) (by rw [show k + 1 - (d + 1) = k - d from by omega] at hQ; exact hQ)
    rw [columbariumlaw2_SumMixes.l0, if_pos (by omega), if_pos (by omega), if_pos (by rw [lc]; omega), Option.bind_some, if_pos (by omega), if_pos (by omega), if_pos (by rw [ld]; omega), e2, Int.toNat_natCast]
    rw [show (x + (i : Int) % 256) % 256 = mixC x i from rfl, sc, rc, sd]
    exact this
theorem mix_any (a b : List Int) (x : Int) (ha : ∀ u ∈ a, 0 ≤ u ∧ u ≤ 255) (hb : ∀ u ∈ b, 0 ≤ u ∧ u ≤ 255) (n : Nat) (hn : n ≤ 2000) (hna : n ≤ a.length) (hnb : n ≤ b.length) :
    columbariumlaw2_SumMixes.j1 50001 a b x (n : Int) = some true := by
  have hrep : List.replicate n (0 : Int) = rowC x n 0 := by
    apply List.ext_getElem
    · simp [rowC]
    · intro j _ _; simp [rowC]
  have hrep2 : List.replicate n (0 : Int) = rowD a b x n 0 := by
    apply List.ext_getElem
    · simp [rowD]
    · intro j _ _; simp [rowD]
  rw [columbariumlaw2_SumMixes.j1, if_pos (by omega), if_pos (by omega), Int.toNat_natCast]
  conv => lhs; rw [hrep2]
  rw [← hrep2]
  conv => lhs; arg 6; rw [hrep]
  conv => lhs; arg 7; rw [hrep2]
  refine mix_loop a b x n hn hna hnb (some true) n 50000 0 (by omega) (by omega) (by omega) ?_
  obtain ⟨k, hk⟩ : ∃ k, 50000 - n = k + 1 := ⟨49999 - n, by omega⟩
  have lc : (rowC x n n).length = n := by simp [rowC]
  have ld : (rowD a b x n n).length = n := by simp [rowD]
  have gc : ∀ u ∈ rowC x n n, 0 ≤ u ∧ u ≤ 255 := by
    intro u hu
    obtain ⟨j, hj, rfl⟩ := List.mem_map.1 hu
    unfold mixC
    split <;> omega
  have gd : ∀ u ∈ rowD a b x n n, 0 ≤ u ∧ u ≤ 255 := by
    intro u hu
    obtain ⟨j, hj, rfl⟩ := List.mem_map.1 hu
    split
    · exact xor8_range _ _
    · omega
  have ga : ∀ u ∈ a.take n, 0 ≤ u ∧ u ≤ 255 := fun u hu => ha u (List.mem_of_mem_take hu)
  have gb : ∀ u ∈ b.take n, 0 ≤ u ∧ u ≤ 255 := fun u hu => hb u (List.mem_of_mem_take hu)
  rw [hk, columbariumlaw2_SumMixes.l0, if_neg (by omega), if_pos (by omega), if_pos (by omega), Int.toNat_natCast, crc_f (by rw [List.length_take]; omega) ga (by rw [List.length_take]; omega), Option.bind_some, if_pos (by omega),
    crc_f (by rw [List.length_take]; omega) gb (by rw [List.length_take]; omega), Option.bind_some, crc_f (by omega) gc (by omega), Option.bind_some, crc_f (by omega) gd (by omega), Option.bind_some]
  have hmix : crcV 0xffffffff#32 (rowD a b x n n) = crcV 0xffffffff#32 (a.take n) ^^^ crcV 0xffffffff#32 (b.take n) ^^^ crcV 0xffffffff#32 (rowC x n n) := by
    refine crcV_mix _ _ _ _ _ _ _ _ (by simp; omega) (by simp [lc]; omega) (by simp [ld]; omega) (fun i => ?_) (by decide)
    by_cases hi : i < n
    · have e1 : (rowD a b x n n).getD i 0 = bits .xor .u8 (bits .xor .u8 (rd a (i : Int)) (rd b (i : Int))) (mixC x i) := by
        rw [List.getD_eq_getElem?_getD, List.getElem?_eq_getElem (by omega)]
        simp [rowD, hi]
      have e2 : (rowC x n n).getD i 0 = mixC x i := by
        rw [List.getD_eq_getElem?_getD, List.getElem?_eq_getElem (by omega)]
        simp [rowC, hi]
      have e3 : (a.take n).getD i 0 = rd a (i : Int) := by
        rw [rd_nat (by omega), List.getD_eq_getElem?_getD, List.getElem?_take, if_pos hi, List.getElem?_eq_getElem (by omega)]
        rfl
      have e4 : (b.take n).getD i 0 = rd b (i : Int) := by
        rw [rd_nat (by omega), List.getD_eq_getElem?_getD, List.getElem?_take, if_pos hi, List.getElem?_eq_getElem (by omega)]
        rfl
      have ra := ha _ (List.getElem_mem (show i < a.length by omega))
      have rb := hb _ (List.getElem_mem (show i < b.length by omega))
      rw [← rd_nat (show i < a.length by omega)] at ra
      rw [← rd_nat (show i < b.length by omega)] at rb
      have hx := xor8_range (rd a (i : Int)) (rd b (i : Int))
      rw [e1, e2, e3, e4, byte_xor8 hx.1 hx.2 (by unfold mixC; omega) (by unfold mixC; omega), byte_xor8 ra.1 ra.2 rb.1 rb.2]
    · have o : ∀ l : List Int, l.length ≤ n → l.getD i 0 = 0 := fun l hl => by
        rw [List.getD_eq_getElem?_getD, List.getElem?_eq_none (by omega)]
        rfl
      rw [o _ (by omega), o (a.take n) (by simp; omega), o (b.take n) (by simp; omega), o _ (by omega)]
      decide
  have hnot : ∀ v : BitVec 32, 4294967295 - (v.toNat : Int) = ((~~~v).toNat : Int) := by
    intro v
    have := v.isLt
    rw [BitVec.toNat_not]
    omega
  have hfin : bits .xor .u32 (bits .xor .u32 (crcI (a.take n)) (crcI (b.take n))) (crcI (rowC x n n)) = crcI (rowD a b x n n) := by
    unfold crcI
    rw [hnot, hnot, hnot, hnot, xor_bv32, xor_bv32, hmix]
    congr 2
    simp only [← BitVec.xor_allOnes]
    have e : ∀ A B C D : BitVec 32, (A ^^^ D) ^^^ (B ^^^ D) ^^^ (C ^^^ D) = (A ^^^ B ^^^ C ^^^ D) ^^^ (D ^^^ D) := by intro A B C D; ac_rfl
    rw [e, BitVec.xor_self, BitVec.xor_zero]
  rw [if_pos hfin, known_f (by omega)]
  rfl
theorem SumMixes : columbariumlaw2_SumMixes.Pure := by
  intro a b x _ ha hab _ hb hbb _
  have ha2 : ∀ u ∈ a, 0 ≤ u ∧ u ≤ 255 := fun u h => u8wf (hab u h)
  have hb2 : ∀ u ∈ b, 0 ≤ u ∧ u ≤ 255 := fun u h => u8wf (hbb u h)
  refine ⟨50002, ?_⟩
  have j0 : ∀ n : Nat, n ≤ a.length → n ≤ b.length → columbariumlaw2_SumMixes.j0 50002 a b x (n : Int) = some true := by
    intro n h1 h2
    rw [columbariumlaw2_SumMixes.j0]
    by_cases h : (n : Int) > 2000
    · rw [if_pos h]
      exact mix_any a b x ha2 hb2 2000 (by omega) (by omega) (by omega)
    · rw [if_neg h]
      exact mix_any a b x ha2 hb2 n (by omega) h1 h2
  unfold columbariumlaw2_SumMixes.f
  by_cases h : (b.length : Int) < a.length
  · rw [if_pos h]
    exact j0 b.length (by omega) (by omega)
  · rw [if_neg h]
    exact j0 a.length (by omega) (by omega)
end Go.Proofs.Ythpomojgkhjhbaa.Pure
