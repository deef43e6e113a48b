/- ModelNumbers: pieces of the reckoning, each a state in and a state out. -/
import Derived.Test.YtcadkapjbokohaaEngU
import Derived.Test.YtcadkapjbokohaaProg
import Derived.KernelRfl
namespace Go.Proofs.Ytcadkapjbokohaa.modelNumbers
open Go Go.RowKit Go.Proofs Go.Proofs.Ytcadkapjbokohaa.Eng
set_option linter.unusedVariables false
theorem mix : Try.prog.follows .mixedOrders = true := by kernel_rfl
def st0 : St := ⟨⟨137, []⟩, [], 0⟩
def st1 : St := (St.mk (Tm.mk 137 [(10, (AV.s (SV.ptr 147 0))), (9, (AV.s (SV.ptr 125 0))), (8, (AV.s (SV.ptr 114 0))), (7, (AV.s (SV.ptr 104 0))), (6, (AV.s (SV.ptr 94 0))), (5, (AV.s (SV.ptr 49 0))), (4, (AV.s (SV.ptr 21 0))), (3, (AV.s (SV.ptr 9 0))), (2, (AV.s (SV.ptr 4 0))), (13, (AV.s (SV.bool Bool.false))), (1, (AV.s (SV.ptr 0 0))), (0, (AV.s (SV.bool Bool.true)))]) [(133, (Option.some (Blk.mk [(SV.str (ByteArray.mk (Array.mk [(UInt8.ofNat 97)]))), (i64 1)] Bool.true))), (143, (Option.some (Blk.mk [(SV.str (ByteArray.mk (Array.mk [(UInt8.ofNat 97)]))), (i64 1), (i64 1), (SV.str (ByteArray.mk (Array.mk [])))] Bool.true))), (141, (Option.some (Blk.mk [(i64 0), (i64 0), (SV.sl 143 0 1 Option.none 4), (i64 0), (i64 1), SV.sl0] Bool.true))), (0, (Option.some (Blk.mk [(SV.sl 141 0 2 Option.none 3), (SV.sl 133 0 1 (Option.some 1) 2), (i64 2)] Bool.true))), (4, (Option.some (Blk.mk [(i64 4), (i64 0), SV.sl0] Bool.true))), (9, (Option.some (Blk.mk [(i64 4), (i64 0), SV.sl0] Bool.true))), (21, (Option.some (Blk.mk [(i64 1), (i64 1), SV.sl0] Bool.true))), (49, (Option.some (Blk.mk [(i64 0), (i64 1), SV.sl0] Bool.true))), (94, (Option.some (Blk.mk [(i64 22), (i64 2), SV.sl0] Bool.true))), (104, (Option.some (Blk.mk [(i64 1), (i64 0), SV.sl0] Bool.true))), (114, (Option.some (Blk.mk [(i64 1), (i64 0), SV.sl0] Bool.true))), (125, (Option.some (Blk.mk [(i64 1), (i64 0), SV.sl0] Bool.true))), (147, (Option.some (Blk.mk [(i64 0), (i64 1), SV.sl0] Bool.true)))] 266)
theorem ck1 : goT Try.prog 4000 (Try.f3.body.getD .skip) st0 [10, 9, 8, 7, 6, 5, 4, 3, 2, 13, 1, 0] [133, 143, 141, 0, 4, 9, 21, 49, 94, 104, 114, 125, 147] = some (Ex.ret, st1) := by kernel_rfl
theorem d1 {B : Nat} : CodeDoes Try.prog B (Try.f3.body.getD .skip) st0 Ex.ret st1 := goT_ok mix ck1
theorem whole {B : Nat} : CodeDoes Try.prog B (Try.f3.body.getD .skip) st0 Ex.ret st1 := d1
end Go.Proofs.Ytcadkapjbokohaa.modelNumbers
