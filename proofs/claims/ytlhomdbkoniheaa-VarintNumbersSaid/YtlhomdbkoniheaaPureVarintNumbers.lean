/- Chapter 1's runs, and one for each refusal: no argument. -/
import Derived.Test.YtlhomdbkoniheaaPScolumbariumlaw1VarintNumbers
namespace Go.Proofs.Ytlhomdbkoniheaa.Pure
open Go.RowKit Go.Proofs.Ytlhomdbkoniheaa.PS Go.Proofs.YtlhomdbkoniheaaW.PrintWords Go.Proofs.YtlhomdbkoniheaaW.PrintLast
theorem VarintNumbers : columbariumlaw1_VarintNumbers.Pure := ⟨200, by decide +kernel⟩
end Go.Proofs.Ytlhomdbkoniheaa.Pure
