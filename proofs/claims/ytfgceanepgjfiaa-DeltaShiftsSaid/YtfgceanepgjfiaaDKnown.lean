/- Some of chapter 4's runs. -/
import Derived.Test.YtfgceanepgjfiaaPScolumbariumlaw4known
namespace Go.Proofs.Ytfgceanepgjfiaa.DKnown
open Go.RowKit Go.Proofs.Ytfgceanepgjfiaa.PS Go.Proofs.YtfgceanepgjfiaaW.PrintWords Go.Proofs.YtfgceanepgjfiaaW.PrintLast
theorem known_f {k : Nat} (hk : 100 ≤ k) : columbariumlaw4_known.f k = some true :=
  at_rounds columbariumlaw4_known.mono hk (by decide +kernel)
end Go.Proofs.Ytfgceanepgjfiaa.DKnown
