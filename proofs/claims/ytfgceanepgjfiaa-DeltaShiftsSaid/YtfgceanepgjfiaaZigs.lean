/- What Zig and Zag come to. -/
import Derived.Test.YtfgceanepgjfiaaPSvarintZig
import Derived.Test.YtfgceanepgjfiaaPSvarintZag
import Derived.Test.YtfgceanepgjfiaaBase
namespace Go.Proofs.Ytfgceanepgjfiaa.Zigs
open Go.RowKit Go.Proofs.Ytfgceanepgjfiaa.PS Go.Proofs.YtfgceanepgjfiaaW.PrintWords Go.Proofs.YtfgceanepgjfiaaW.PrintLast Go.Proofs.Ytfgceanepgjfiaa.Base
def zigI (a : Int) : Int := if 0 ≤ a then 2 * a else -2 * a - 1
def zagI (n : Int) : Int := if n % 2 = 0 then n / 2 else -(n / 2) - 1

theorem zig_f {a : Int} (h0 : -9223372036854775808 ≤ a) (h1 : a ≤ 9223372036854775807) : varint_Zig.f a = some (zigI a) := by
  unfold varint_Zig.f zigI
  congr 1
  by_cases h : 0 ≤ a
  · rw [if_pos h, show a / 9223372036854775808 = 0 from by omega, show IntKind.u64.wrap 0 = 0 from rfl, u64_id h (by omega), u64_id (n := a * 2) (by omega) (by omega), xor_u64_zero (by omega) (by omega)]
    omega
  · rw [if_neg h, show a / 9223372036854775808 = -1 from by omega, show IntKind.u64.wrap (-1) = 18446744073709551615 from rfl, xor_u64_ones (by rw [u64_wrap]; omega) (by rw [u64_wrap]; omega), u64_wrap, u64_wrap]
    omega
theorem zag_f {n : Int} (h0 : 0 ≤ n) (h1 : n ≤ 18446744073709551615) : varint_Zag.f n = some (zagI n) := by
  unfold varint_Zag.f zagI
  congr 1
  rw [and1_u64 h0 (by omega), w64_id (n := n / 2) (by omega) (by omega), w64_id (n := n % 2) (by omega) (by omega)]
  by_cases h : n % 2 = 0
  · rw [if_pos h, h, show wrap64 (-0) = 0 from by unfold wrap64; omega, xor_i64_zero (by omega) (by omega)]
  · rw [if_neg h, show n % 2 = 1 from by omega, show wrap64 (-1) = -1 from by unfold wrap64; omega, xor_i64_neg (by omega) (by omega)]
theorem zig_range {a : Int} (h0 : -9223372036854775808 ≤ a) (h1 : a ≤ 9223372036854775807) : 0 ≤ zigI a ∧ zigI a ≤ 18446744073709551615 := by unfold zigI; split <;> omega
theorem zag_range {n : Int} (h0 : 0 ≤ n) (h1 : n ≤ 18446744073709551615) : -9223372036854775808 ≤ zagI n ∧ zagI n ≤ 9223372036854775807 := by unfold zagI; split <;> omega
theorem zag_zig (a : Int) : zagI (zigI a) = a := by unfold zagI zigI; split <;> split at * <;> omega
theorem zig_zag {n : Int} (h0 : 0 ≤ n) : zigI (zagI n) = n := by unfold zagI zigI; split <;> split at * <;> omega
end Go.Proofs.Ytfgceanepgjfiaa.Zigs
