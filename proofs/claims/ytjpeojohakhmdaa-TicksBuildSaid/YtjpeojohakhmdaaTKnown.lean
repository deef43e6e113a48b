/- Some of chapter 10's runs. -/
import Derived.Test.YtjpeojohakhmdaaPScolumbariumlaw10known
namespace Go.Proofs.Ytjpeojohakhmdaa.TKnown
open Go.RowKit Go.Proofs.Ytjpeojohakhmdaa.PS Go.Proofs.YtjpeojohakhmdaaW.PrintWords Go.Proofs.YtjpeojohakhmdaaW.PrintLast
theorem known_f {k : Nat} (hk : 100 ≤ k) : columbariumlaw10_known.f k = some true :=
  at_rounds columbariumlaw10_known.mono hk (by decide +kernel)
end Go.Proofs.Ytjpeojohakhmdaa.TKnown
