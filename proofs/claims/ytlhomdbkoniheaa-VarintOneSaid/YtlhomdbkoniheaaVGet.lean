/- What Get of chapter 1 comes to, whatever it is handed. -/
import Derived.Test.YtlhomdbkoniheaaPSvarintGet
import Derived.Test.YtlhomdbkoniheaaVPlain
namespace Go.Proofs.Ytlhomdbkoniheaa.VGet
open Go.RowKit Go.Proofs.Ytlhomdbkoniheaa.PS Go.Proofs.YtlhomdbkoniheaaW.PrintWords Go.Proofs.YtlhomdbkoniheaaW.PrintLast Go.Proofs.Ytlhomdbkoniheaa.Base Go.Proofs.Ytlhomdbkoniheaa.VPlain
open Go.Proofs.YtlhomdbkoniheaaW.PrintMore

theorem acc_step {acc c : Int} {i : Nat} (hi : i ≤ 9) (h0 : 0 ≤ acc) (h1 : acc < 2 ^ (7 * i)) (c0 : 0 ≤ c) (c1 : c ≤ 255) (hs : i ≤ 8 ∨ c % 128 ≤ 1) :
    bits .or .u64 acc (shl .u64 (IntKind.u64.wrap (bits .and .u8 c 127)) (wrap64 (7 * (i : Int)))) = acc + (c % 128) * 2 ^ (7 * i) := by
  rw [and127 c0 c1, u64_id (n := c % 128) (by omega) (by omega), w64_id (by omega) (by omega)]
  have e7 : (7 * (i : Int)).toNat = 7 * i := by omega
  unfold shl
  rw [e7, show min (7 * i) IntKind.u64.bits = 7 * i from by show min (7 * i) 64 = _; omega]
  obtain ⟨a, rfl⟩ := Int.eq_ofNat_of_zero_le h0
  obtain ⟨m, hm⟩ := Int.eq_ofNat_of_zero_le (show 0 ≤ c % 128 by omega)
  have hm128 : m < 128 := by omega
  rw [hm]
  have ha : a < 2 ^ (7 * i) := by exact_mod_cast h1
  have hml : m * 2 ^ (7 * i) < 2 ^ 64 := by
    have e64 : 2 ^ 64 = 2 ^ (64 - 7 * i) * 2 ^ (7 * i) := by rw [← Nat.pow_add]; congr 1; omega
    rw [e64]
    refine Nat.mul_lt_mul_of_pos_right ?_ (Nat.two_pow_pos _)
    rcases hs with hs | hs
    · have : 2 ^ 8 ≤ 2 ^ (64 - 7 * i) := Nat.pow_le_pow_right (by decide) (by omega)
      omega
    · have : 2 ^ 1 ≤ 2 ^ (64 - 7 * i) := Nat.pow_le_pow_right (by decide) (by omega)
      omega
  have hal : a < 2 ^ 64 := Nat.lt_of_lt_of_le ha (Nat.pow_le_pow_right (by decide) (by omega))
  have ew : IntKind.u64.wrap ((m : Int) * 2 ^ (7 * i)) = ((m * 2 ^ (7 * i) : Nat) : Int) := by
    rw [show ((m : Int) * 2 ^ (7 * i)) = ((m * 2 ^ (7 * i) : Nat) : Int) from by rw [Int.natCast_mul, Int.natCast_pow]; rfl]
    exact u64_id (Int.natCast_nonneg _) (Int.ofNat_lt.2 hml)
  rw [ew, bits_or_nat .u64 rfl (a := a) (b := m * 2 ^ (7 * i)) hal hml, Nat.or_comm, Nat.mul_comm m, ← Nat.two_pow_add_eq_or_of_lt ha m, Int.natCast_add, Int.natCast_mul, Int.natCast_pow, Int.mul_comm (m : Int)]
  exact Int.add_comm _ _

/-- The loop behind ten bytes. -/
theorem get_late (a : Int) (l : List Int) (hl : l.length ≤ 140737488355328) (d : Nat) : ∀ (k i : Nat) (acc : Int) (fine : Bool), 10 ≤ i → i ≤ l.length → l.length - i = d → d < k →
    varint_Get.l0 k a acc fine l (l.length : Int) (i : Int) = some (go a (l.drop i) i 0) := by
  induction d with
  | zero =>
    intro k i acc fine h10 hi hd hk
    obtain ⟨k, rfl⟩ : ∃ m, k = m + 1 := ⟨k - 1, by omega⟩
    have : i = l.length := by omega
    subst this
    simp only [varint_Get.l0]
    rw [if_neg (by omega), List.drop_length]
    rfl
  | succ d ih =>
    intro k i acc fine h10 hi hd hk
    obtain ⟨k, rfl⟩ : ∃ m, k = m + 1 := ⟨k - 1, by omega⟩
    simp only [varint_Get.l0]
    rw [if_pos (show (i : Int) < l.length by omega), if_pos (show (0 : Int) ≤ i by omega), if_pos (show (i : Int) < l.length by omega), if_neg (show ¬ (i : Int) < 10 by omega)]
    rw [drop_rd (show i < l.length by omega), go]
    have hw : wrap64 ((i : Int) + 1) = ((i + 1 : Nat) : Int) := by rw [w64_id (by omega) (by omega)]; push_cast; rfl
    have h9 : ¬ (i : Int) < 9 := by omega
    have h9e : ¬ (i : Int) = 9 := by omega
    by_cases hc : rd l i > 127
    · simp only [if_pos hc, if_neg h9, if_neg h9e, hw]
      have e := fun f => ih k (i + 1) acc f (by omega) (by omega) (by omega) (by omega)
      rw [(go_late a (l.drop (i + 1)) (i + 1) (0 + rd l i % 128 * 2 ^ (7 * i)) 0 (by omega)).1]
      cases fine
      · rw [if_neg (by decide)]; exact e false
      · rw [if_pos rfl]; exact e false
    · simp only [if_neg hc, if_neg h9, if_neg h9e]
      rw [if_pos (show i > 9 ∨ (i = 9 ∧ rd l i > 1) ∨ (i > 0 ∧ rd l i = 0) from .inl (by omega))]
      cases fine
      · rw [if_neg (by decide)]
      · rw [if_pos rfl]

theorem get_loop (a : Int) (ha0 : 0 ≤ a) (ha1 : a ≤ 140737488355328) (l : List Int) (hl : l.length ≤ 140737488355328) (hb : ∀ x ∈ l, 0 ≤ x ∧ x ≤ 255) (d : Nat) : ∀ (k i : Nat) (acc : Int), i ≤ 9 → i ≤ l.length → l.length - i = d → d < k →
    0 ≤ acc → acc < 2 ^ (7 * i) → varint_Get.l0 k a acc true l (l.length : Int) (i : Int) = some (go a (l.drop i) i acc) := by
  induction d with
  | zero =>
    intro k i acc h9 hi hd hk h0 h1
    obtain ⟨k, rfl⟩ : ∃ m, k = m + 1 := ⟨k - 1, by omega⟩
    have : i = l.length := by omega
    subst this
    simp only [varint_Get.l0]
    rw [if_neg (by omega), List.drop_length]
    rfl
  | succ d ih =>
    intro k i acc h9 hi hd hk h0 h1
    obtain ⟨k, rfl⟩ : ∃ m, k = m + 1 := ⟨k - 1, by omega⟩
    have hlt : i < l.length := by omega
    have hc := hb _ (List.getElem_mem hlt)
    rw [← rd_nat hlt] at hc
    have hw : wrap64 ((i : Int) + 1) = ((i + 1 : Nat) : Int) := by rw [w64_id (by omega) (by omega)]; push_cast; rfl
    have he : wrap64 (wrap64 (a + (i : Int)) + 1) = a + i + 1 := by rw [w64_id (n := a + i) (by omega) (by omega), w64_id (by omega) (by omega)]
    have h7 : 0 ≤ wrap64 (7 * (i : Int)) := by rw [w64_id (by omega) (by omega)]; omega
    simp only [varint_Get.l0]
    rw [if_pos (show (i : Int) < l.length by omega), if_pos (show (0 : Int) ≤ i by omega), if_pos (show (i : Int) < l.length by omega), if_pos (show (i : Int) < 10 by omega), if_pos h7, if_pos trivial]
    rw [drop_rd hlt, go]
    have a127 : bits .and .u8 (rd l i) 127 = rd l i % 128 := and127 hc.1 hc.2
    by_cases hgt : rd l i > 127
    · simp only [if_pos hgt]
      by_cases h8 : i < 9
      · rw [if_pos (show (i : Int) < 9 by omega), acc_step h9 h0 h1 hc.1 hc.2 (.inl (by omega)), hw]
        refine ih k (i + 1) _ (by omega) (by omega) (by omega) (by omega) ?_ ?_
        · have : (0 : Int) ≤ rd l i % 128 * 2 ^ (7 * i) := Int.mul_nonneg (by omega) (Int.pow_nonneg (by decide))
          omega
        · rw [show 7 * (i + 1) = 7 * i + 7 from by omega, Int.pow_add]
          have : rd l i % 128 * 2 ^ (7 * i) ≤ 127 * 2 ^ (7 * i) := Int.mul_le_mul_of_nonneg_right (by omega) (Int.pow_nonneg (by decide))
          have e : (2 : Int) ^ (7 * i) * 2 ^ 7 = 128 * 2 ^ (7 * i) := by rw [Int.mul_comm]; rfl
          rw [e]
          omega
      · have : i = 9 := by omega
        subst this
        rw [if_neg (show ¬ ((9 : Nat) : Int) < 9 by decide), if_pos (show ((9 : Nat) : Int) = 9 from rfl), hw]
        rw [(go_late a (l.drop 10) 10 (acc + rd l ((9 : Nat) : Int) % 128 * 2 ^ (7 * 9)) 0 (by omega)).1]
        exact get_late a l hl d k 10 _ _ (by omega) (by omega) (by omega) (by omega)
    · simp only [if_neg hgt]
      have hm : rd l i % 128 = rd l i := by omega
      by_cases h8 : i < 9
      · rw [if_pos (show (i : Int) < 9 by omega), acc_step h9 h0 h1 hc.1 hc.2 (.inl (by omega)), he, hm]
        by_cases hp : i > 0
        · rw [if_pos (show (i : Int) > 0 by omega)]
          by_cases hz : rd l i = 0
          · rw [if_pos hz, if_pos (.inr (.inr ⟨hp, hz⟩))]
          · rw [if_neg hz, if_neg (by omega)]
        · rw [if_neg (show ¬ (i : Int) > 0 by omega), if_neg (by omega)]
      · have : i = 9 := by omega
        subst this
        rw [if_neg (show ¬ ((9 : Nat) : Int) < 9 by decide), if_pos (show ((9 : Nat) : Int) = 9 from rfl)]
        by_cases h2 : rd l ((9 : Nat) : Int) < 2
        · rw [acc_step (by omega) h0 h1 hc.1 hc.2 (.inr (by omega)), he, a127, hm, if_pos h2, if_pos (show ((9 : Nat) : Int) > 0 by decide)]
          by_cases hz : rd l ((9 : Nat) : Int) = 0
          · rw [if_pos hz, if_pos (.inr (.inr ⟨by decide, hz⟩))]
          · rw [if_neg hz, if_neg (by omega)]
        · rw [a127, hm, if_neg h2, if_pos (.inr (.inl ⟨rfl, by omega⟩))]
theorem get_f {l : List Int} (hl : l.length ≤ 140737488355328) (hb : ∀ x ∈ l, 0 ≤ x ∧ x ≤ 255) (a : Int) {k : Nat} (hk : l.length < k) : varint_Get.f k l a = some (getI l a) := by
  unfold varint_Get.f getI
  by_cases h0 : a < 0
  · rw [if_pos h0, if_pos (.inl h0)]
  · rw [if_neg h0]
    by_cases h1 : a > l.length
    · rw [if_pos h1, if_pos (.inr h1)]
    · rw [if_neg h1, if_pos (by omega), if_pos (by omega), if_neg (by omega)]
      have := get_loop a (by omega) (by omega) (l.drop a.toNat) (by rw [List.length_drop]; omega) (fun x hx => hb x (List.mem_of_mem_drop hx)) (l.drop a.toNat).length k 0 0 (by omega) (by omega) (by omega) (by rw [List.length_drop]; omega) (by omega) (by simp)
      simpa using this

end Go.Proofs.Ytlhomdbkoniheaa.VGet
