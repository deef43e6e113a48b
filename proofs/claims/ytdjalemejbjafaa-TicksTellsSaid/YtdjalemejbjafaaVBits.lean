/- Numbers' bits, in plain Lean. -/
import Derived.Test.YtdjalemejbjafaaVPl
namespace Go.Proofs.Ytdjalemejbjafaa.VPl
open Go Go.RowKit
set_option linter.unusedVariables false
set_option linter.unusedSimpArgs false
theorem wrap8 (x : Int) : IntKind.wrap .u8 x = x % 256 := by simp [IntKind.wrap, IntKind.bits, IntKind.signed]
theorem or128_fin : ∀ m : Fin 256, IntKind.wrap .u8 (((BitVec.ofInt (IntKind.bits .u8) ((m.val : Nat) : Int) ||| BitVec.ofInt (IntKind.bits .u8) 128).toNat : Nat) : Int) = ((m.val % 128 + 128 : Nat) : Int) := by decide +kernel
theorem or128 (n : Int) : IntKind.wrap .u8 (((BitVec.ofInt (IntKind.bits .u8) (IntKind.wrap .u8 n) ||| BitVec.ofInt (IntKind.bits .u8) 128).toNat : Nat) : Int) = n % 128 + 128 := by
  rw [wrap8 n]
  have := or128_fin ⟨(n % 256).toNat, by omega⟩
  rw [show (((n % 256).toNat : Nat) : Int) = n % 256 by omega] at this
  rw [this]
  show (((n % 256).toNat % 128 + 128 : Nat) : Int) = _
  omega
theorem shr7 (n : Int) : Int.fdiv n (2 ^ min (Int.toNat 7) (IntKind.bits IntKind.u64)) = n / 128 := by
  have : (2 : Int) ^ min (Int.toNat 7) (IntKind.bits IntKind.u64) = 128 := by decide
  rw [this, Int.fdiv_eq_ediv_of_nonneg _ (by omega)]
theorem wrap64' (x : Int) : IntKind.wrap .u64 x = x % 18446744073709551616 := by simp [IntKind.wrap, IntKind.bits, IntKind.signed]
/-- A number without a sign. -/
def zigI (a : Int) : Int := if 0 ≤ a then 2 * a else -2 * a - 1
theorem zig_val (n : Int) (h : -9223372036854775808 ≤ n ∧ n ≤ 9223372036854775807) : IntKind.wrap .u64 (((BitVec.ofInt (IntKind.bits .u64) (IntKind.wrap .u64 (IntKind.wrap .u64 n * 2 ^ min (Int.toNat 1) (IntKind.bits .u64))) ^^^ BitVec.ofInt (IntKind.bits .u64) (IntKind.wrap .u64 (Int.fdiv n (2 ^ min (Int.toNat 63) (IntKind.bits .i64))))).toNat : Nat) : Int) = zigI n := by
  have e1 : (2 : Int) ^ min (Int.toNat 1) (IntKind.bits .u64) = 2 := by decide
  have e2 : (2 : Int) ^ min (Int.toNat 63) (IntKind.bits .i64) = 9223372036854775808 := by decide
  have e3 : Int.fdiv n 9223372036854775808 = if 0 ≤ n then 0 else -1 := by
    rw [Int.fdiv_eq_ediv_of_nonneg _ (by omega)]
    split <;> omega
  rw [e1, e2, e3]
  have hb : IntKind.bits .u64 = 64 := rfl
  rw [hb]
  unfold zigI
  by_cases h0 : 0 ≤ n
  · rw [if_pos h0, if_pos h0, wrap64' 0, wrap64' n, wrap64' (n % 18446744073709551616 * 2)]
    have : BitVec.ofInt 64 (0 % 18446744073709551616) = 0#64 := by decide
    rw [this, BitVec.xor_zero, BitVec.toNat_ofInt, wrap64']
    have e4 : ((2 ^ 64 : Nat) : Int) = 18446744073709551616 := by decide
    rw [e4]
    omega
  · rw [if_neg h0, if_neg h0, wrap64' (-1), wrap64' n, wrap64' (n % 18446744073709551616 * 2)]
    have : BitVec.ofInt 64 (-1 % 18446744073709551616) = BitVec.allOnes 64 := by decide
    rw [this, BitVec.xor_allOnes, BitVec.toNat_not, BitVec.toNat_ofInt, wrap64']
    have e4 : ((2 ^ 64 : Nat) : Int) = 18446744073709551616 := by decide
    have e5 : (2 ^ 64 : Nat) = 18446744073709551616 := by decide
    rw [e4, e5]
    omega
theorem zigI_range {n : Int} (h : -9223372036854775808 ≤ n ∧ n ≤ 9223372036854775807) : 0 ≤ zigI n ∧ zigI n ≤ 18446744073709551615 := by unfold zigI; split <;> omega
theorem and127_fin : ∀ m : Fin 256, IntKind.wrap .u8 (((BitVec.ofInt (IntKind.bits .u8) ((m.val : Nat) : Int) &&& BitVec.ofInt (IntKind.bits .u8) 127).toNat : Nat) : Int) = ((m.val % 128 : Nat) : Int) := by decide +kernel
theorem and127 (x : Int) (h : 0 ≤ x ∧ x ≤ 255) : IntKind.wrap .u8 (((BitVec.ofInt (IntKind.bits .u8) x &&& BitVec.ofInt (IntKind.bits .u8) 127).toNat : Nat) : Int) = x % 128 := by
  have := and127_fin ⟨x.toNat, by omega⟩
  rw [show ((x.toNat : Nat) : Int) = x by omega] at this
  rw [this]
  show ((x.toNat % 128 : Nat) : Int) = _
  omega
/-- A number's next seven bits. -/
theorem or_next (acc x : Int) (i : Nat) (hi : i ≤ 9) (ha : 0 ≤ acc ∧ acc < 2 ^ (7 * i)) (hx : 0 ≤ x ∧ x * 2 ^ (7 * i) < 18446744073709551616) :
    IntKind.wrap .u64 (((BitVec.ofInt (IntKind.bits .u64) acc ||| BitVec.ofInt (IntKind.bits .u64) (IntKind.wrap .u64 (IntKind.wrap .u64 x * 2 ^ min (Int.toNat (7 * (i : Int))) (IntKind.bits .u64)))).toNat : Nat) : Int) = acc + x * 2 ^ (7 * i) := by
  have e0 : min (Int.toNat (7 * (i : Int))) (IntKind.bits .u64) = 7 * i := by
    show min (Int.toNat (7 * (i : Int))) 64 = 7 * i
    omega
  rw [e0]
  obtain ⟨a, rfl⟩ : ∃ a : Nat, acc = (a : Int) := ⟨acc.toNat, by omega⟩
  obtain ⟨y, rfl⟩ : ∃ y : Nat, x = (y : Int) := ⟨x.toNat, by omega⟩
  have hb : IntKind.bits .u64 = 64 := rfl
  have hp : 0 < 2 ^ (7 * i) := Nat.two_pow_pos _
  have ha2 : a < 2 ^ (7 * i) := by have := ha.2; exact_mod_cast this
  have c1 : ((y : Nat) : Int) * 2 ^ (7 * i) = ((y * 2 ^ (7 * i) : Nat) : Int) := by rw [Int.natCast_mul, Int.natCast_pow]; rfl
  have hy : y * 2 ^ (7 * i) < 18446744073709551616 := by
    have h := hx.2
    rw [c1] at h
    omega
  have hy1 : y < 18446744073709551616 := Nat.lt_of_le_of_lt (Nat.le_mul_of_pos_right y hp) hy
  have hpow : 2 ^ (7 * i) ≤ 2 ^ 63 := Nat.pow_le_pow_right (by decide) (by omega)
  have e63 : (2 : Nat) ^ 63 = 9223372036854775808 := by decide
  have ha3 : a < 18446744073709551616 := by omega
  have w1 : IntKind.wrap .u64 ((y : Nat) : Int) = (y : Int) := by rw [wrap64']; omega
  have w2 : IntKind.wrap .u64 ((y * 2 ^ (7 * i) : Nat) : Int) = ((y * 2 ^ (7 * i) : Nat) : Int) := by rw [wrap64']; omega
  rw [w1, c1, w2, hb, BitVec.toNat_or, BitVec.ofInt_natCast, BitVec.ofInt_natCast, BitVec.toNat_ofNat, BitVec.toNat_ofNat]
  have e64 : (2 : Nat) ^ 64 = 18446744073709551616 := by decide
  rw [e64, Nat.mod_eq_of_lt ha3, Nat.mod_eq_of_lt hy]
  have ho : a ||| y * 2 ^ (7 * i) = a + y * 2 ^ (7 * i) := by
    rw [Nat.or_comm, Nat.mul_comm, Nat.two_pow_add_eq_or_of_lt ha2 y |>.symm]
    omega
  rw [ho, wrap64']
  have hsum : a + y * 2 ^ (7 * i) < 18446744073709551616 := by
    have h1 : a ||| y * 2 ^ (7 * i) < 2 ^ 64 := Nat.or_lt_two_pow (by rw [e64]; exact ha3) (by rw [e64]; exact hy)
    rw [ho, e64] at h1
    exact h1
  generalize y * 2 ^ (7 * i) = q at *
  omega
def zagI (n : Int) : Int := if n % 2 = 0 then n / 2 else -(n / 2) - 1
theorem wrapi64 (x : Int) : IntKind.wrap .i64 x = if x % 18446744073709551616 ≥ 9223372036854775808 then x % 18446744073709551616 - 18446744073709551616 else x % 18446744073709551616 := by simp [IntKind.wrap, IntKind.bits, IntKind.signed]
theorem zag_val (n : Int) (h : 0 ≤ n ∧ n ≤ 18446744073709551615) : IntKind.wrap .i64 (((BitVec.ofInt (IntKind.bits .i64) (IntKind.wrap .i64 (Int.fdiv n (2 ^ min (Int.toNat 1) (IntKind.bits .u64)))) ^^^ BitVec.ofInt (IntKind.bits .i64) (IntKind.wrap .i64 (0 - IntKind.wrap .i64 (IntKind.wrap .u64 (((BitVec.ofInt (IntKind.bits .u64) n &&& BitVec.ofInt (IntKind.bits .u64) 1).toNat : Nat) : Int))))).toNat : Nat) : Int) = zagI n := by
  have e1 : (2 : Int) ^ min (Int.toNat 1) (IntKind.bits .u64) = 2 := by decide
  have hb : IntKind.bits .u64 = 64 := rfl
  have hb2 : IntKind.bits .i64 = 64 := rfl
  obtain ⟨m, rfl⟩ : ∃ m : Nat, n = (m : Int) := ⟨n.toNat, by omega⟩
  have e2 : (BitVec.ofInt 64 (m : Int) &&& BitVec.ofInt 64 1).toNat = m % 2 := by
    rw [BitVec.toNat_and, BitVec.ofInt_natCast, BitVec.toNat_ofNat]
    show (m % 2 ^ 64) &&& 1 = m % 2
    rw [Nat.and_one_is_mod]
    omega
  have e3 : Int.fdiv (m : Int) 2 = ((m / 2 : Nat) : Int) := by rw [Int.fdiv_eq_ediv_of_nonneg _ (by omega)]; omega
  rw [e1, hb, hb2, e2, e3, wrap64' _]
  have w1 : IntKind.wrap .i64 ((m / 2 : Nat) : Int) = ((m / 2 : Nat) : Int) := by rw [wrapi64]; split <;> omega
  rw [w1, BitVec.ofInt_natCast]
  unfold zagI
  have h2 : m % 2 = 0 ∨ m % 2 = 1 := by omega
  rcases h2 with h2 | h2
  · rw [h2]
    have : IntKind.wrap .i64 (0 - IntKind.wrap .i64 (((0 : Nat) : Int) % 18446744073709551616)) = 0 := by decide
    rw [this, if_pos (by omega)]
    have : BitVec.ofInt 64 0 = 0#64 := by decide
    rw [this, BitVec.xor_zero, BitVec.toNat_ofNat, wrapi64]
    split <;> omega
  · rw [h2]
    have : IntKind.wrap .i64 (0 - IntKind.wrap .i64 (((1 : Nat) : Int) % 18446744073709551616)) = -1 := by decide
    rw [this, if_neg (by omega)]
    have : BitVec.ofInt 64 (-1) = BitVec.allOnes 64 := by decide
    rw [this, BitVec.xor_allOnes, BitVec.toNat_not, BitVec.toNat_ofNat, wrapi64]
    have : (2 : Nat) ^ 64 = 18446744073709551616 := by decide
    split <;> omega
theorem zag_zig (a : Int) (h : -9223372036854775808 ≤ a ∧ a ≤ 9223372036854775807) : zagI (zigI a) = a := by
  unfold zagI zigI
  split <;> split <;> omega
theorem zig_zag (n : Int) (h : 0 ≤ n) : zigI (zagI n) = n := by
  unfold zagI zigI
  split <;> split <;> omega
theorem zagI_range {n : Int} (h : 0 ≤ n ∧ n ≤ 18446744073709551615) : -9223372036854775808 ≤ zagI n ∧ zagI n ≤ 9223372036854775807 := by unfold zagI; split <;> omega
end Go.Proofs.Ytdjalemejbjafaa.VPl
