-- Words of the print, without those that this claim does not use; Lean checks it.
import Derived.Test.YtjpeojohakhmdaaWInv
import Derived.Test.YtjpeojohakhmdaaWFootNe
namespace Go.Proofs.YtjpeojohakhmdaaW.PrintWords
open Go.RowKit
end Go.Proofs.YtjpeojohakhmdaaW.PrintWords
namespace Go.Proofs.YtjpeojohakhmdaaW.PrintLast
section
variable {ops : Array Oper} {a : Act} {o og : Oper} {g : Nat} {t : Tmp} {u : Bool}
end
end Go.Proofs.YtjpeojohakhmdaaW.PrintLast
