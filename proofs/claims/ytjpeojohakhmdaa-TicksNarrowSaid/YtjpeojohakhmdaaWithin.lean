/- A number brought into a span lies in it. -/
import Derived.Test.YtjpeojohakhmdaaPScolumbariumbookWithin
import Derived.Test.YtjpeojohakhmdaaBase
namespace Go.Proofs.Ytjpeojohakhmdaa.Within
open Go.RowKit Go.Proofs.Ytjpeojohakhmdaa.PS Go.Proofs.YtjpeojohakhmdaaW.PrintWords Go.Proofs.YtjpeojohakhmdaaW.PrintLast Go.Proofs.Ytjpeojohakhmdaa.Base
theorem within_f {n hi : Int} (h0 : 0 ≤ hi) (h1 : hi ≤ 4611686018427387904) : ∃ r, columbariumbook_Within.f n 0 hi = some r ∧ 0 ≤ r ∧ r ≤ hi := by
  unfold columbariumbook_Within.f
  have e1 : wrap64 (wrap64 (hi - 0) + 1) = hi + 1 := by rw [w64_id (n := hi - 0) (by omega) (by omega), w64_id (by omega) (by omega)]; omega
  have hm1 := Int.tmod_lt_of_pos n (show 0 < hi + 1 by omega)
  have hm2 : -(hi + 1) < Int.tmod n (hi + 1) := by
    have := Int.tmod_lt_of_pos (-n) (show 0 < hi + 1 by omega)
    rw [Int.neg_tmod] at this
    omega
  rw [e1, if_neg (by omega)]
  obtain ⟨m, hm⟩ : ∃ m, m = Int.tmod n (hi + 1) := ⟨_, rfl⟩
  rw [← hm] at hm1 hm2 ⊢
  by_cases h : m < 0
  · rw [if_pos h, w64_id (n := m + hi) (by omega) (by omega), w64_id (n := m + hi - 0) (by omega) (by omega), w64_id (n := m + hi - 0 + 1) (by omega) (by omega), w64_id (by omega) (by omega)]
    exact ⟨_, rfl, by omega, by omega⟩
  · rw [if_neg h, w64_id (by omega) (by omega)]
    exact ⟨_, rfl, by omega, by omega⟩
end Go.Proofs.Ytjpeojohakhmdaa.Within
