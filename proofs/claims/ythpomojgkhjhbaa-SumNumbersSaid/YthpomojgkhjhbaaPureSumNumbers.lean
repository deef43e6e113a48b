/- Chapter 2's runs: a closed sentence, no condition. -/
import Derived.Test.YthpomojgkhjhbaaPSx4
namespace Go.Proofs.Ythpomojgkhjhbaa.Pure
open Go.RowKit Go.Proofs.Ythpomojgkhjhbaa.PS Go.Proofs.YthpomojgkhjhbaaW.PrintWords Go.Proofs.YthpomojgkhjhbaaW.PrintLast
theorem SumNumbers : columbariumlaw2_SumNumbers.Pure := ⟨200, by decide +kernel⟩
end Go.Proofs.Ythpomojgkhjhbaa.Pure
