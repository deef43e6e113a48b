/- Some of chapter 1's runs. -/
import Derived.Test.YtlhomdbkoniheaaPScolumbariumlaw1known
namespace Go.Proofs.Ytlhomdbkoniheaa.VKnown
open Go.RowKit Go.Proofs.Ytlhomdbkoniheaa.PS Go.Proofs.YtlhomdbkoniheaaW.PrintWords Go.Proofs.YtlhomdbkoniheaaW.PrintLast
theorem known_f {k : Nat} (hk : 30 ≤ k) : columbariumlaw1_known.f k = some true :=
  at_rounds columbariumlaw1_known.mono hk (by decide +kernel)
end Go.Proofs.Ytlhomdbkoniheaa.VKnown
