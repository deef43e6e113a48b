/- What Put of chapter 1 comes to. -/
import Derived.Test.YtlhomdbkoniheaaPSvarintPut
import Derived.Test.YtlhomdbkoniheaaVPlain
namespace Go.Proofs.Ytlhomdbkoniheaa.VPut
open Go.RowKit Go.Proofs.Ytlhomdbkoniheaa.PS Go.Proofs.YtlhomdbkoniheaaW.PrintWords Go.Proofs.YtlhomdbkoniheaaW.PrintLast Go.Proofs.Ytlhomdbkoniheaa.Base Go.Proofs.Ytlhomdbkoniheaa.VPlain
theorem put_loop (f : Nat) : ∀ (k n : Nat) (l : List Int), n < 128 ^ (f + 1) → f < k → l.length + f + 1 ≤ 140737488355328 → varint_Put.l0 k (n : Int) l = some (l ++ vputF f n) := by
  induction f with
  | zero =>
    intro k n l hn hk hl
    obtain ⟨k, rfl⟩ : ∃ m, k = m + 1 := ⟨k - 1, by omega⟩
    simp only [varint_Put.l0, vputF]
    rw [if_neg (by omega), if_pos (by omega), Int.emod_eq_of_lt (by omega) (by omega)]
  | succ f ih =>
    intro k n l hn hk hl
    obtain ⟨k, rfl⟩ : ∃ m, k = m + 1 := ⟨k - 1, by omega⟩
    simp only [varint_Put.l0]
    unfold vputF
    by_cases h : n ≤ 127
    · rw [if_neg (by omega), if_pos (by omega), if_pos h, Int.emod_eq_of_lt (by omega) (by omega)]
    · rw [if_pos (by omega), if_pos (by omega), if_neg h, or128 (by omega) (by omega)]
      have := ih k (n / 128) (l ++ [((n : Int) % 256) % 128 + 128]) (by rw [Nat.pow_succ] at hn; omega) (by omega) (by simp; omega)
      rw [show ((n : Int) / 128) = ((n / 128 : Nat) : Int) from by omega, this, List.append_assoc]
      congr 3
      simp
theorem put_f {l : List Int} (hl : l.length + 10 ≤ 140737488355328) {n : Int} (h0 : 0 ≤ n) (h1 : n ≤ 18446744073709551615) {k : Nat} (hk : 10 ≤ k) : varint_Put.f k l n = some (l ++ vput n) := by
  unfold varint_Put.f
  simp only [Option.bind_some, List.length_nil, List.nil_append]
  rw [if_pos (by omega)]
  obtain ⟨m, rfl⟩ := Int.eq_ofNat_of_zero_le h0
  have := put_loop 9 k m l (by omega) (by omega) (by omega)
  simpa [vput] using this

end Go.Proofs.Ytlhomdbkoniheaa.VPut
