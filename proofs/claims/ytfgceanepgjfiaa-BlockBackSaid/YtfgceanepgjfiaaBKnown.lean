/- Some of chapter 6's runs. -/
import Derived.Test.YtfgceanepgjfiaaPScolumbariumlaw6known
namespace Go.Proofs.Ytfgceanepgjfiaa.BKnown
open Go.RowKit Go.Proofs.Ytfgceanepgjfiaa.PS Go.Proofs.YtfgceanepgjfiaaW.PrintWords Go.Proofs.YtfgceanepgjfiaaW.PrintLast
theorem known_f {k : Nat} (hk : 200 ≤ k) : columbariumlaw6_known.f k = some true :=
  at_rounds columbariumlaw6_known.mono hk (by decide +kernel)
end Go.Proofs.Ytfgceanepgjfiaa.BKnown
