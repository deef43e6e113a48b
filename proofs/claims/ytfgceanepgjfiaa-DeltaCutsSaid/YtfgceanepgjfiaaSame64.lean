/- A list of numbers is the same as itself. -/
import Derived.Test.YtfgceanepgjfiaaPScolumbariumbookSameint64
import Derived.Test.YtfgceanepgjfiaaBase
namespace Go.Proofs.Ytfgceanepgjfiaa.Same64
open Go.RowKit Go.Proofs.Ytfgceanepgjfiaa.PS Go.Proofs.YtfgceanepgjfiaaW.PrintWords Go.Proofs.YtfgceanepgjfiaaW.PrintLast Go.Proofs.Ytfgceanepgjfiaa.Base
theorem same64_loop (l : List Int) (hl : l.length ≤ 140737488355328) (d : Nat) : ∀ (k i : Nat), i ≤ l.length → l.length - i = d → d < k → columbariumbook_Same_int64.l0 k l l (i : Int) = some true := by
  induction d with
  | zero =>
    intro k i hi hd hk
    obtain ⟨k, rfl⟩ : ∃ m, k = m + 1 := ⟨k - 1, by omega⟩
    rw [columbariumbook_Same_int64.l0, if_neg (by omega)]
  | succ d ih =>
    intro k i hi hd hk
    obtain ⟨k, rfl⟩ : ∃ m, k = m + 1 := ⟨k - 1, by omega⟩
    rw [columbariumbook_Same_int64.l0, if_pos (by omega), if_pos (by omega), if_pos (by omega), if_pos rfl, show wrap64 ((i : Int) + 1) = ((i + 1 : Nat) : Int) from by rw [w64_id (by omega) (by omega)]; push_cast; rfl]
    exact ih k (i + 1) (by omega) (by omega) (by omega)
theorem same64_f {l : List Int} (hl : l.length ≤ 140737488355328) {k : Nat} (hk : l.length < k) : columbariumbook_Same_int64.f k l l = some true := by
  unfold columbariumbook_Same_int64.f
  rw [if_pos rfl]
  exact same64_loop l hl l.length k 0 (by omega) (by omega) (by omega)
end Go.Proofs.Ytfgceanepgjfiaa.Same64
