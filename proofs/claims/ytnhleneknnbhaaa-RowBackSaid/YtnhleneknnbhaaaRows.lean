/-
  No cell of these rows narrows 'for every input' (looked for: loops, veiled, ifaces, maps, wideKeys, modest, calm, conditions, laid).
  DERIVED. THE GIVEN ROWS OF THIS SEAT. 5 by the template 'for every input the law returns true; each argument reads behind the call as it read before'; 0 by the template 'total and deterministic' (their statements: YtnhleneknnbhaaaTotals.lean).
  GIVEN WITH THE SEED: the statements are not yours to turn. If you find one false, say at which input.
  Laid BY PROGRAM, IN A SANDBOX (cutbox-rows.mjs): the forced cells as the released guide's own fill.sh prints them over the translation 61ae40031307a56f… (all of the seat's roots in one cut). By AI agents, Wed Nov 11 2026. No macro, syntax, notation, axiom, sorry.
-/
import Derived.Test.YtnhleneknnbhaaaChecked
import GoSem.Claim
import GoSem.ClaimJoined
import GoSem.ClaimMapViews
import Derived.JoinedTies
import Derived.KernelRfl
namespace Go.Proofs.Ytnhleneknnbhaaa
/- THE CELL 'sum', in the pinned program and in every row, IS THE sha256 OF THE DUMP (.gsa) THAT YtnhleneknnbhaaaProg.lean LOADS. Nothing in Lean hashes anything: it is a label: what it is worth is what the hold of that sum in a sandbox is worth. -/
noncomputable def Try.pinned : Pinned := { name := "ytnhleneknnbhaaa", sum := "61ae40031307a56f9623264fc904ca09ee7754f03e0ba42ef2bd0bc3116ebd1a", checked := Try.checked }
namespace Rows
def none {H : Type} : Left H := { results := [], args := [] }

/-- 'columbariumlaw12.RowGrows': WHATEVER THE INPUT: true; the input reads as it did. -/
def rowGrowsSpec : ChangeSpec := { name := "rowGrows", fn := fun _ => fun
  | [d1, d2, d3] => { results := [.lit (.bool true)], args := [d1, d2, d3] }
  | _ => none }
def rowGrowsRow : OpenClaim := { program := "ytnhleneknnbhaaa", sum := "61ae40031307a56f9623264fc904ca09ee7754f03e0ba42ef2bd0bc3116ebd1a", func := "columbarium/columbariumlaw12.RowGrows", spec := "rowGrows", inPlace := ["slices.overlaps[columbarium/api.Col]"], unfollowed := true, recurses := true, apart := false }
def RowGrowsSaid : Prop := rowGrowsRow.holds Try.pinned (OpenSpec.ofChange rowGrowsSpec)

/-- ITS FALSE NEIGHBOUR: 'it returns false'. Refute it at one input. -/
def rowGrowsWrong : ChangeSpec := { name := "rowGrows", fn := fun _ => fun
  | [d1, d2, d3] => { results := [.lit (.bool false)], args := [d1, d2, d3] }
  | _ => none }
def RowGrowsWrongFalsely : Prop := rowGrowsRow.holds Try.pinned (OpenSpec.ofChange rowGrowsWrong)

/-- 'columbariumlaw12.RowCells': WHATEVER THE INPUT: true; the input reads as it did. -/
def rowCellsSpec : ChangeSpec := { name := "rowCells", fn := fun _ => fun
  | [d1, d2, d3] => { results := [.lit (.bool true)], args := [d1, d2, d3] }
  | _ => none }
def rowCellsRow : OpenClaim := { program := "ytnhleneknnbhaaa", sum := "61ae40031307a56f9623264fc904ca09ee7754f03e0ba42ef2bd0bc3116ebd1a", func := "columbarium/columbariumlaw12.RowCells", spec := "rowCells", inPlace := ["slices.overlaps[columbarium/api.Col]"], unfollowed := true, recurses := true, apart := false }
def RowCellsSaid : Prop := rowCellsRow.holds Try.pinned (OpenSpec.ofChange rowCellsSpec)

/-- ITS FALSE NEIGHBOUR: 'it returns false'. Refute it at one input. -/
def rowCellsWrong : ChangeSpec := { name := "rowCells", fn := fun _ => fun
  | [d1, d2, d3] => { results := [.lit (.bool false)], args := [d1, d2, d3] }
  | _ => none }
def RowCellsWrongFalsely : Prop := rowCellsRow.holds Try.pinned (OpenSpec.ofChange rowCellsWrong)

/-- 'columbariumlaw12.RowBack': WHATEVER THE INPUT: true; the input reads as it did. -/
def rowBackSpec : ChangeSpec := { name := "rowBack", fn := fun _ => fun
  | [d1, d2, d3, d4] => { results := [.lit (.bool true)], args := [d1, d2, d3, d4] }
  | _ => none }
def rowBackRow : OpenClaim := { program := "ytnhleneknnbhaaa", sum := "61ae40031307a56f9623264fc904ca09ee7754f03e0ba42ef2bd0bc3116ebd1a", func := "columbarium/columbariumlaw12.RowBack", spec := "rowBack", inPlace := ["slices.overlaps[columbarium/api.Col]"], unfollowed := true, recurses := true, apart := false }
def RowBackSaid : Prop := rowBackRow.holds Try.pinned (OpenSpec.ofChange rowBackSpec)

/-- ITS FALSE NEIGHBOUR: 'it returns false'. Refute it at one input. -/
def rowBackWrong : ChangeSpec := { name := "rowBack", fn := fun _ => fun
  | [d1, d2, d3, d4] => { results := [.lit (.bool false)], args := [d1, d2, d3, d4] }
  | _ => none }
def RowBackWrongFalsely : Prop := rowBackRow.holds Try.pinned (OpenSpec.ofChange rowBackWrong)

/-- 'columbariumlaw12.RowSorts': WHATEVER THE INPUT: true; the input reads as it did. -/
def rowSortsSpec : ChangeSpec := { name := "rowSorts", fn := fun _ => fun
  | [d] => { results := [.lit (.bool true)], args := [d] }
  | _ => none }
def rowSortsRow : OpenClaim := { program := "ytnhleneknnbhaaa", sum := "61ae40031307a56f9623264fc904ca09ee7754f03e0ba42ef2bd0bc3116ebd1a", func := "columbarium/columbariumlaw12.RowSorts", spec := "rowSorts", inPlace := ["slices.overlaps[columbarium/api.Col]"], unfollowed := true, recurses := true, apart := false }
def RowSortsSaid : Prop := rowSortsRow.holds Try.pinned (OpenSpec.ofChange rowSortsSpec)

/-- ITS FALSE NEIGHBOUR: 'it returns false'. Refute it at one input. -/
def rowSortsWrong : ChangeSpec := { name := "rowSorts", fn := fun _ => fun
  | [d] => { results := [.lit (.bool false)], args := [d] }
  | _ => none }
def RowSortsWrongFalsely : Prop := rowSortsRow.holds Try.pinned (OpenSpec.ofChange rowSortsWrong)

/-- 'columbariumlaw12.RowTells': WHATEVER THE INPUT: true; the input reads as it did. -/
def rowTellsSpec : ChangeSpec := { name := "rowTells", fn := fun _ => fun
  | [d1, d2, d3, d4, d5] => { results := [.lit (.bool true)], args := [d1, d2, d3, d4, d5] }
  | _ => none }
def rowTellsRow : OpenClaim := { program := "ytnhleneknnbhaaa", sum := "61ae40031307a56f9623264fc904ca09ee7754f03e0ba42ef2bd0bc3116ebd1a", func := "columbarium/columbariumlaw12.RowTells", spec := "rowTells", inPlace := ["slices.overlaps[columbarium/api.Col]"], unfollowed := true, recurses := true, apart := false }
def RowTellsSaid : Prop := rowTellsRow.holds Try.pinned (OpenSpec.ofChange rowTellsSpec)

/-- ITS FALSE NEIGHBOUR: 'it returns false'. Refute it at one input. -/
def rowTellsWrong : ChangeSpec := { name := "rowTells", fn := fun _ => fun
  | [d1, d2, d3, d4, d5] => { results := [.lit (.bool false)], args := [d1, d2, d3, d4, d5] }
  | _ => none }
def RowTellsWrongFalsely : Prop := rowTellsRow.holds Try.pinned (OpenSpec.ofChange rowTellsWrong)

/- THE SECOND FORM. 'bulk': how many values and letters a reading holds, each counted each time it is reached (what is shared counts as often as it is met; a slice's spare places count too). A statement '..UptoSaid' is the law's where the arguments, and the package variables that the reading takes, are together of bulk at most 1048576: NARROWER than '..Said'. Prove '..Said' where nothing that the law and all that it calls make is longer than what came in: it says more and counts as full. Else prove '..UptoSaid'. A law counts once. -/
mutual
def uptoBulk {H : Type} : DataW H → Nat
  | .lit (.string bytes) => bytes.length + 1
  | .lit _ => 1
  | .nil => 1
  | .ptr d => uptoBulk d + 1
  | .slice elems spare => uptoBulkAll elems + uptoBulkAll spare + 1
  | .agg parts => uptoBulkAll parts + 1
  | .iface _ d => uptoBulk d + 1
  | .map entries => uptoBulkEntries entries + 1
  | .held _ => 1
def uptoBulkAll {H : Type} : List (DataW H) → Nat
  | [] => 0
  | d :: r => uptoBulk d + uptoBulkAll r
def uptoBulkEntries {H : Type} : List (Lit × DataW H) → Nat
  | [] => 0
  | x :: r => uptoBulkEntry x + uptoBulkEntries r
def uptoBulkEntry {H : Type} : Lit × DataW H → Nat
  | (.string bytes, d) => bytes.length + uptoBulk d + 1
  | (_, d) => uptoBulk d + 1
 end
def uptoSmall : (H : Type) → List (DataW H) → Bool := fun _ ds => decide (uptoBulkAll ds ≤ 1048576)
def OpenSpec.upto (s : _root_.Go.ChangeSpec) : _root_.Go.OpenSpec := { _root_.Go.OpenSpec.ofChange s with cond := some uptoSmall }

/-- 'columbariumlaw12.RowGrows', WHERE WHAT IT READS IS OF BULK AT MOST 1048576: true; the input reads as it did. -/
def rowGrowsUptoRow : OpenClaim := { program := "ytnhleneknnbhaaa", sum := "61ae40031307a56f9623264fc904ca09ee7754f03e0ba42ef2bd0bc3116ebd1a", func := "columbarium/columbariumlaw12.RowGrows", spec := "rowGrows", inPlace := ["slices.overlaps[columbarium/api.Col]"], unfollowed := true, recurses := true, apart := false, narrowed := true }
def RowGrowsUptoSaid : Prop := rowGrowsUptoRow.holds Try.pinned (OpenSpec.upto rowGrowsSpec)

/-- 'columbariumlaw12.RowCells', WHERE WHAT IT READS IS OF BULK AT MOST 1048576: true; the input reads as it did. -/
def rowCellsUptoRow : OpenClaim := { program := "ytnhleneknnbhaaa", sum := "61ae40031307a56f9623264fc904ca09ee7754f03e0ba42ef2bd0bc3116ebd1a", func := "columbarium/columbariumlaw12.RowCells", spec := "rowCells", inPlace := ["slices.overlaps[columbarium/api.Col]"], unfollowed := true, recurses := true, apart := false, narrowed := true }
def RowCellsUptoSaid : Prop := rowCellsUptoRow.holds Try.pinned (OpenSpec.upto rowCellsSpec)

/-- 'columbariumlaw12.RowBack', WHERE WHAT IT READS IS OF BULK AT MOST 1048576: true; the input reads as it did. -/
def rowBackUptoRow : OpenClaim := { program := "ytnhleneknnbhaaa", sum := "61ae40031307a56f9623264fc904ca09ee7754f03e0ba42ef2bd0bc3116ebd1a", func := "columbarium/columbariumlaw12.RowBack", spec := "rowBack", inPlace := ["slices.overlaps[columbarium/api.Col]"], unfollowed := true, recurses := true, apart := false, narrowed := true }
def RowBackUptoSaid : Prop := rowBackUptoRow.holds Try.pinned (OpenSpec.upto rowBackSpec)

/-- 'columbariumlaw12.RowSorts', WHERE WHAT IT READS IS OF BULK AT MOST 1048576: true; the input reads as it did. -/
def rowSortsUptoRow : OpenClaim := { program := "ytnhleneknnbhaaa", sum := "61ae40031307a56f9623264fc904ca09ee7754f03e0ba42ef2bd0bc3116ebd1a", func := "columbarium/columbariumlaw12.RowSorts", spec := "rowSorts", inPlace := ["slices.overlaps[columbarium/api.Col]"], unfollowed := true, recurses := true, apart := false, narrowed := true }
def RowSortsUptoSaid : Prop := rowSortsUptoRow.holds Try.pinned (OpenSpec.upto rowSortsSpec)

/-- 'columbariumlaw12.RowTells', WHERE WHAT IT READS IS OF BULK AT MOST 1048576: true; the input reads as it did. -/
def rowTellsUptoRow : OpenClaim := { program := "ytnhleneknnbhaaa", sum := "61ae40031307a56f9623264fc904ca09ee7754f03e0ba42ef2bd0bc3116ebd1a", func := "columbarium/columbariumlaw12.RowTells", spec := "rowTells", inPlace := ["slices.overlaps[columbarium/api.Col]"], unfollowed := true, recurses := true, apart := false, narrowed := true }
def RowTellsUptoSaid : Prop := rowTellsUptoRow.holds Try.pinned (OpenSpec.upto rowTellsSpec)

end Rows
end Go.Proofs.Ytnhleneknnbhaaa
