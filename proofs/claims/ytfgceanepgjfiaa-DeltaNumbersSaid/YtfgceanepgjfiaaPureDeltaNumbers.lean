/- Chapter 4's runs, and one for each refusal: a closed sentence, no condition. -/
import Derived.Test.YtfgceanepgjfiaaPScolumbariumlaw4DeltaNumbers
namespace Go.Proofs.Ytfgceanepgjfiaa.Pure
open Go.RowKit Go.Proofs.Ytfgceanepgjfiaa.PS Go.Proofs.YtfgceanepgjfiaaW.PrintWords Go.Proofs.YtfgceanepgjfiaaW.PrintLast
theorem DeltaNumbers : columbariumlaw4_DeltaNumbers.Pure := ⟨200, by decide +kernel⟩
end Go.Proofs.Ytfgceanepgjfiaa.Pure
