-- Words of the print, without those that this claim does not use; Lean checks it.
import Derived.Test.YtjpeojohakhmdaaWTab
/-! ### 56. Four, five, six operations that may come up next, in any order -/
namespace Go.Proofs.YtjpeojohakhmdaaW.PrintLast
section
variable {P : Program} {ops : Array Oper} {Q : Exit → Act → World → Prop} {md : Region.Mode} {S : World → Prop} {ds : List Nat} {T : Bool × List (List Nat × List Nat)}
end
end Go.Proofs.YtjpeojohakhmdaaW.PrintLast
