/- Chapter 10's runs, and each bound of a span: no argument. -/
import Derived.Test.YtjpeojohakhmdaaPScolumbariumlaw10TicksNumbers
namespace Go.Proofs.Ytjpeojohakhmdaa.Pure
open Go.RowKit Go.Proofs.Ytjpeojohakhmdaa.PS Go.Proofs.YtjpeojohakhmdaaW.PrintWords Go.Proofs.YtjpeojohakhmdaaW.PrintLast
theorem TicksNumbers : columbariumlaw10_TicksNumbers.Pure := ⟨6000, by decide +kernel⟩
end Go.Proofs.Ytjpeojohakhmdaa.Pure
