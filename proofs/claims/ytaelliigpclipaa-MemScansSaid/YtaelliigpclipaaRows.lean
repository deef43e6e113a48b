/-
  NARROWER THAN 'FOR EVERY INPUT', by the rows' own cells (each row's printed sentence says how): MemScans: loops · MemOrder: loops.
  DERIVED. THE GIVEN ROWS OF THIS SEAT. 5 by the template 'for every input the law returns true; each argument reads behind the call as it read before'; 0 by the template 'total and deterministic' (their statements: YtaelliigpclipaaTotals.lean).
  GIVEN WITH THE SEED: the statements are not yours to turn. If you find one false, say at which input.
  Laid BY PROGRAM, IN A SANDBOX (cutbox-rows.mjs): the forced cells as the released guide's own fill.sh prints them over the translation 7f042a3cddb3ea33… (all of the seat's roots in one cut). By AI agents, Wed Nov 11 2026. No macro, syntax, notation, axiom, sorry.
-/
import Derived.Test.YtaelliigpclipaaChecked
import GoSem.Claim
import GoSem.ClaimJoined
import GoSem.ClaimMapViews
import Derived.JoinedTies
import Derived.KernelRfl
namespace Go.Proofs.Ytaelliigpclipaa
/- THE CELL 'sum', in the pinned program and in every row, IS THE sha256 OF THE DUMP (.gsa) THAT YtaelliigpclipaaProg.lean LOADS. Nothing in Lean hashes anything: it is a label: what it is worth is what the hold of that sum in a sandbox is worth. -/
noncomputable def Try.pinned : Pinned := { name := "ytaelliigpclipaa", sum := "7f042a3cddb3ea33b3659f435a3b20e96445c74a1d71b3b5feaeda602c195799", checked := Try.checked }
namespace Rows
def none {H : Type} : Left H := { results := [], args := [] }

/-- 'columbariumlaw12.RowSorts': WHATEVER THE INPUT: true; the input reads as it did. -/
def rowSortsSpec : ChangeSpec := { name := "rowSorts", fn := fun _ => fun
  | [d] => { results := [.lit (.bool true)], args := [d] }
  | _ => none }
def rowSortsRow : OpenClaim := { program := "ytaelliigpclipaa", sum := "7f042a3cddb3ea33b3659f435a3b20e96445c74a1d71b3b5feaeda602c195799", func := "columbarium/columbariumlaw12.RowSorts", spec := "rowSorts", inPlace := ["slices.overlaps[columbarium/api.Col]"], unfollowed := true, recurses := true, apart := false }
def RowSortsSaid : Prop := rowSortsRow.holds Try.pinned (OpenSpec.ofChange rowSortsSpec)

/-- ITS FALSE NEIGHBOUR: 'it returns false'. Refute it at one input. -/
def rowSortsWrong : ChangeSpec := { name := "rowSorts", fn := fun _ => fun
  | [d] => { results := [.lit (.bool false)], args := [d] }
  | _ => none }
def RowSortsWrongFalsely : Prop := rowSortsRow.holds Try.pinned (OpenSpec.ofChange rowSortsWrong)

/-- 'columbariumlaw20.MemKept': WHATEVER THE INPUT: true; the input reads as it did. -/
def memKeptSpec : ChangeSpec := { name := "memKept", fn := fun _ => fun
  | [d] => { results := [.lit (.bool true)], args := [d] }
  | _ => none }
def memKeptRow : OpenClaim := { program := "ytaelliigpclipaa", sum := "7f042a3cddb3ea33b3659f435a3b20e96445c74a1d71b3b5feaeda602c195799", func := "columbarium/columbariumlaw20.MemKept", spec := "memKept", unfollowed := true, recurses := true, apart := false }
def MemKeptSaid : Prop := memKeptRow.holds Try.pinned (OpenSpec.ofChange memKeptSpec)

/-- ITS FALSE NEIGHBOUR: 'it returns false'. Refute it at one input. -/
def memKeptWrong : ChangeSpec := { name := "memKept", fn := fun _ => fun
  | [d] => { results := [.lit (.bool false)], args := [d] }
  | _ => none }
def MemKeptWrongFalsely : Prop := memKeptRow.holds Try.pinned (OpenSpec.ofChange memKeptWrong)

/-- 'columbariumlaw20.MemNumbersApart': WHATEVER THE INPUT: true; the input reads as it did. -/
def memNumbersApartSpec : ChangeSpec := { name := "memNumbersApart", fn := fun _ => fun
  | [d1, d2] => { results := [.lit (.bool true)], args := [d1, d2] }
  | _ => none }
def memNumbersApartRow : OpenClaim := { program := "ytaelliigpclipaa", sum := "7f042a3cddb3ea33b3659f435a3b20e96445c74a1d71b3b5feaeda602c195799", func := "columbarium/columbariumlaw20.MemNumbersApart", spec := "memNumbersApart", unfollowed := true, recurses := true, apart := false }
def MemNumbersApartSaid : Prop := memNumbersApartRow.holds Try.pinned (OpenSpec.ofChange memNumbersApartSpec)

/-- ITS FALSE NEIGHBOUR: 'it returns false'. Refute it at one input. -/
def memNumbersApartWrong : ChangeSpec := { name := "memNumbersApart", fn := fun _ => fun
  | [d1, d2] => { results := [.lit (.bool false)], args := [d1, d2] }
  | _ => none }
def MemNumbersApartWrongFalsely : Prop := memNumbersApartRow.holds Try.pinned (OpenSpec.ofChange memNumbersApartWrong)

/-- 'columbariumlaw20.MemScans': WHATEVER THE INPUT: true; the input reads as it did. -/
def memScansSpec : ChangeSpec := { name := "memScans", fn := fun _ => fun
  | [d1, d2] => { results := [.lit (.bool true)], args := [d1, d2] }
  | _ => none }
def memScansRow : OpenClaim := { program := "ytaelliigpclipaa", sum := "7f042a3cddb3ea33b3659f435a3b20e96445c74a1d71b3b5feaeda602c195799", func := "columbarium/columbariumlaw20.MemScans", spec := "memScans", unfollowed := true, recurses := true, loops := true, apart := false }
def MemScansSaid : Prop := memScansRow.holds Try.pinned (OpenSpec.ofChange memScansSpec)

/-- ITS FALSE NEIGHBOUR: 'it returns false'. Refute it at one input. -/
def memScansWrong : ChangeSpec := { name := "memScans", fn := fun _ => fun
  | [d1, d2] => { results := [.lit (.bool false)], args := [d1, d2] }
  | _ => none }
def MemScansWrongFalsely : Prop := memScansRow.holds Try.pinned (OpenSpec.ofChange memScansWrong)

/-- 'columbariumlaw20.MemOrder': WHATEVER THE INPUT: true; the input reads as it did. -/
def memOrderSpec : ChangeSpec := { name := "memOrder", fn := fun _ => fun
  | [d1, d2] => { results := [.lit (.bool true)], args := [d1, d2] }
  | _ => none }
def memOrderRow : OpenClaim := { program := "ytaelliigpclipaa", sum := "7f042a3cddb3ea33b3659f435a3b20e96445c74a1d71b3b5feaeda602c195799", func := "columbarium/columbariumlaw20.MemOrder", spec := "memOrder", unfollowed := true, recurses := true, loops := true, apart := false }
def MemOrderSaid : Prop := memOrderRow.holds Try.pinned (OpenSpec.ofChange memOrderSpec)

/-- ITS FALSE NEIGHBOUR: 'it returns false'. Refute it at one input. -/
def memOrderWrong : ChangeSpec := { name := "memOrder", fn := fun _ => fun
  | [d1, d2] => { results := [.lit (.bool false)], args := [d1, d2] }
  | _ => none }
def MemOrderWrongFalsely : Prop := memOrderRow.holds Try.pinned (OpenSpec.ofChange memOrderWrong)

/- THE SECOND FORM. 'bulk': how many values and letters a reading holds, each counted each time it is reached (what is shared counts as often as it is met; a slice's spare places count too). A statement '..UptoSaid' is the law's where the arguments, and the package variables that the reading takes, are together of bulk at most 1048576: NARROWER than '..Said'. Prove '..Said' where nothing that the law and all that it calls make is longer than what came in: it says more and counts as full. Else prove '..UptoSaid'. A law counts once. -/
mutual
def uptoBulk {H : Type} : DataW H → Nat
  | .lit (.string bytes) => bytes.length + 1
  | .lit _ => 1
  | .nil => 1
  | .ptr d => uptoBulk d + 1
  | .slice elems spare => uptoBulkAll elems + uptoBulkAll spare + 1
  | .agg parts => uptoBulkAll parts + 1
  | .iface _ d => uptoBulk d + 1
  | .map entries => uptoBulkEntries entries + 1
  | .held _ => 1
def uptoBulkAll {H : Type} : List (DataW H) → Nat
  | [] => 0
  | d :: r => uptoBulk d + uptoBulkAll r
def uptoBulkEntries {H : Type} : List (Lit × DataW H) → Nat
  | [] => 0
  | x :: r => uptoBulkEntry x + uptoBulkEntries r
def uptoBulkEntry {H : Type} : Lit × DataW H → Nat
  | (.string bytes, d) => bytes.length + uptoBulk d + 1
  | (_, d) => uptoBulk d + 1
 end
def uptoSmall : (H : Type) → List (DataW H) → Bool := fun _ ds => decide (uptoBulkAll ds ≤ 1048576)
def OpenSpec.upto (s : _root_.Go.ChangeSpec) : _root_.Go.OpenSpec := { _root_.Go.OpenSpec.ofChange s with cond := some uptoSmall }

/-- 'columbariumlaw12.RowSorts', WHERE WHAT IT READS IS OF BULK AT MOST 1048576: true; the input reads as it did. -/
def rowSortsUptoRow : OpenClaim := { program := "ytaelliigpclipaa", sum := "7f042a3cddb3ea33b3659f435a3b20e96445c74a1d71b3b5feaeda602c195799", func := "columbarium/columbariumlaw12.RowSorts", spec := "rowSorts", inPlace := ["slices.overlaps[columbarium/api.Col]"], unfollowed := true, recurses := true, apart := false, narrowed := true }
def RowSortsUptoSaid : Prop := rowSortsUptoRow.holds Try.pinned (OpenSpec.upto rowSortsSpec)

/-- 'columbariumlaw20.MemKept', WHERE WHAT IT READS IS OF BULK AT MOST 1048576: true; the input reads as it did. -/
def memKeptUptoRow : OpenClaim := { program := "ytaelliigpclipaa", sum := "7f042a3cddb3ea33b3659f435a3b20e96445c74a1d71b3b5feaeda602c195799", func := "columbarium/columbariumlaw20.MemKept", spec := "memKept", unfollowed := true, recurses := true, apart := false, narrowed := true }
def MemKeptUptoSaid : Prop := memKeptUptoRow.holds Try.pinned (OpenSpec.upto memKeptSpec)

/-- 'columbariumlaw20.MemNumbersApart', WHERE WHAT IT READS IS OF BULK AT MOST 1048576: true; the input reads as it did. -/
def memNumbersApartUptoRow : OpenClaim := { program := "ytaelliigpclipaa", sum := "7f042a3cddb3ea33b3659f435a3b20e96445c74a1d71b3b5feaeda602c195799", func := "columbarium/columbariumlaw20.MemNumbersApart", spec := "memNumbersApart", unfollowed := true, recurses := true, apart := false, narrowed := true }
def MemNumbersApartUptoSaid : Prop := memNumbersApartUptoRow.holds Try.pinned (OpenSpec.upto memNumbersApartSpec)

/-- 'columbariumlaw20.MemScans', WHERE WHAT IT READS IS OF BULK AT MOST 1048576: true; the input reads as it did. -/
def memScansUptoRow : OpenClaim := { program := "ytaelliigpclipaa", sum := "7f042a3cddb3ea33b3659f435a3b20e96445c74a1d71b3b5feaeda602c195799", func := "columbarium/columbariumlaw20.MemScans", spec := "memScans", unfollowed := true, recurses := true, loops := true, apart := false, narrowed := true }
def MemScansUptoSaid : Prop := memScansUptoRow.holds Try.pinned (OpenSpec.upto memScansSpec)

/-- 'columbariumlaw20.MemOrder', WHERE WHAT IT READS IS OF BULK AT MOST 1048576: true; the input reads as it did. -/
def memOrderUptoRow : OpenClaim := { program := "ytaelliigpclipaa", sum := "7f042a3cddb3ea33b3659f435a3b20e96445c74a1d71b3b5feaeda602c195799", func := "columbarium/columbariumlaw20.MemOrder", spec := "memOrder", unfollowed := true, recurses := true, loops := true, apart := false, narrowed := true }
def MemOrderUptoSaid : Prop := memOrderUptoRow.holds Try.pinned (OpenSpec.upto memOrderSpec)

end Rows
end Go.Proofs.Ytaelliigpclipaa
