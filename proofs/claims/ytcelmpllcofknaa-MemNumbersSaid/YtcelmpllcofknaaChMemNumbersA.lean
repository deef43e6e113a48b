/- MemNumbers: pieces of the reckoning, each a state in and a state out. -/
import Derived.Test.YtcelmpllcofknaaEngU
import Derived.Test.YtcelmpllcofknaaProg
import Derived.KernelRfl
namespace Go.Proofs.Ytcelmpllcofknaa.memNumbers
open Go Go.RowKit Go.Proofs Go.Proofs.Ytcelmpllcofknaa.Eng
set_option linter.unusedVariables false
theorem mix : Try.prog.follows .mixedOrders = true := by kernel_rfl
def st0 : St := ⟨⟨107, []⟩, [], 0⟩
def st1 : St := (St.mk (Tm.mk 107 [(10, (AV.s (i64 0))), (9, (AV.s (i64 6))), (8, (AV.s (i64 1))), (7, (AV.s (i64 3))), (6, (AV.s (i64 21))), (5, (AV.s (i64 0))), (4, (AV.s (i64 0))), (3, (AV.s (i64 21))), (2, (AV.s (i64 1))), (13, (AV.s (SV.bool Bool.false))), (1, (AV.s (SV.ptr 0 0))), (0, (AV.s (SV.bool Bool.true)))]) [(0, (Option.some (Blk.mk [SV.sl0] Bool.true)))] 199)
theorem ck1 : goT Try.prog 4000 (Try.f3.body.getD .skip) st0 [10, 9, 8, 7, 6, 5, 4, 3, 2, 13, 1, 0] [0] = some (Ex.ret, st1) := by kernel_rfl
theorem d1 {B : Nat} : CodeDoes Try.prog B (Try.f3.body.getD .skip) st0 Ex.ret st1 := goT_ok mix ck1
theorem whole {B : Nat} : CodeDoes Try.prog B (Try.f3.body.getD .skip) st0 Ex.ret st1 := d1
end Go.Proofs.Ytcelmpllcofknaa.memNumbers
