/-
  No cell of these rows narrows 'for every input' (looked for: loops, veiled, ifaces, maps, wideKeys, modest, calm, conditions, laid).
  DERIVED. THE GIVEN ROWS OF THIS SEAT. 12 by the template 'for every input the law returns true; each argument reads behind the call as it read before'; 0 by the template 'total and deterministic' (their statements: YtfgceanepgjfiaaTotals.lean).
  GIVEN WITH THE SEED: the statements are not yours to turn. If you find one false, say at which input.
  Laid BY PROGRAM, IN A SANDBOX (cutbox-rows.mjs): the forced cells as the released guide's own fill.sh prints them over the translation 9222d6f6c1d0f6a7… (all of the seat's roots in one cut). By AI agents, Wed Nov 11 2026. No macro, syntax, notation, axiom, sorry.
-/
import Derived.Test.YtfgceanepgjfiaaChecked
import GoSem.Claim
import GoSem.ClaimJoined
import GoSem.ClaimMapViews
import Derived.JoinedTies
import Derived.KernelRfl
namespace Go.Proofs.Ytfgceanepgjfiaa
/- THE CELL 'sum', in the pinned program and in every row, IS THE sha256 OF THE DUMP (.gsa) THAT YtfgceanepgjfiaaProg.lean LOADS. Nothing in Lean hashes anything: it is a label: what it is worth is what the hold of that sum in a sandbox is worth. -/
noncomputable def Try.pinned : Pinned := { name := "ytfgceanepgjfiaa", sum := "9222d6f6c1d0f6a761939b443c2da337accba16ab450e04ee9cad7461e819810", checked := Try.checked }
namespace Rows
def none {H : Type} : Left H := { results := [], args := [] }

/-- 'columbariumlaw4.DeltaEven': WHATEVER THE INPUT: true; the input reads as it did. -/
def deltaEvenSpec : ChangeSpec := { name := "deltaEven", fn := fun _ => fun
  | [d1, d2, d3] => { results := [.lit (.bool true)], args := [d1, d2, d3] }
  | _ => none }
def deltaEvenRow : OpenClaim := { program := "ytfgceanepgjfiaa", sum := "9222d6f6c1d0f6a761939b443c2da337accba16ab450e04ee9cad7461e819810", func := "columbarium/columbariumlaw4.DeltaEven", spec := "deltaEven", apart := false }
def DeltaEvenSaid : Prop := deltaEvenRow.holds Try.pinned (OpenSpec.ofChange deltaEvenSpec)

/-- ITS FALSE NEIGHBOUR: 'it returns false'. Refute it at one input. -/
def deltaEvenWrong : ChangeSpec := { name := "deltaEven", fn := fun _ => fun
  | [d1, d2, d3] => { results := [.lit (.bool false)], args := [d1, d2, d3] }
  | _ => none }
def DeltaEvenWrongFalsely : Prop := deltaEvenRow.holds Try.pinned (OpenSpec.ofChange deltaEvenWrong)

/-- 'columbariumlaw4.DeltaShifts': WHATEVER THE INPUT: true; the input reads as it did. -/
def deltaShiftsSpec : ChangeSpec := { name := "deltaShifts", fn := fun _ => fun
  | [d1, d2] => { results := [.lit (.bool true)], args := [d1, d2] }
  | _ => none }
def deltaShiftsRow : OpenClaim := { program := "ytfgceanepgjfiaa", sum := "9222d6f6c1d0f6a761939b443c2da337accba16ab450e04ee9cad7461e819810", func := "columbarium/columbariumlaw4.DeltaShifts", spec := "deltaShifts", apart := false }
def DeltaShiftsSaid : Prop := deltaShiftsRow.holds Try.pinned (OpenSpec.ofChange deltaShiftsSpec)

/-- ITS FALSE NEIGHBOUR: 'it returns false'. Refute it at one input. -/
def deltaShiftsWrong : ChangeSpec := { name := "deltaShifts", fn := fun _ => fun
  | [d1, d2] => { results := [.lit (.bool false)], args := [d1, d2] }
  | _ => none }
def DeltaShiftsWrongFalsely : Prop := deltaShiftsRow.holds Try.pinned (OpenSpec.ofChange deltaShiftsWrong)

/-- 'columbariumlaw4.DeltaNumbers': WHATEVER THE INPUT: true; the input reads as it did. -/
def deltaNumbersSpec : ChangeSpec := { name := "deltaNumbers", fn := fun _ => fun
  | [] => { results := [.lit (.bool true)], args := [] }
  | _ => none }
def deltaNumbersRow : OpenClaim := { program := "ytfgceanepgjfiaa", sum := "9222d6f6c1d0f6a761939b443c2da337accba16ab450e04ee9cad7461e819810", func := "columbarium/columbariumlaw4.DeltaNumbers", spec := "deltaNumbers", apart := false }
def DeltaNumbersSaid : Prop := deltaNumbersRow.holds Try.pinned (OpenSpec.ofChange deltaNumbersSpec)

/-- ITS FALSE NEIGHBOUR: 'it returns false'. Refute it at one input. -/
def deltaNumbersWrong : ChangeSpec := { name := "deltaNumbers", fn := fun _ => fun
  | [] => { results := [.lit (.bool false)], args := [] }
  | _ => none }
def DeltaNumbersWrongFalsely : Prop := deltaNumbersRow.holds Try.pinned (OpenSpec.ofChange deltaNumbersWrong)

/-- 'columbariumlaw4.DeltaTells': WHATEVER THE INPUT: true; the input reads as it did. -/
def deltaTellsSpec : ChangeSpec := { name := "deltaTells", fn := fun _ => fun
  | [d1, d2, d3, d4] => { results := [.lit (.bool true)], args := [d1, d2, d3, d4] }
  | _ => none }
def deltaTellsRow : OpenClaim := { program := "ytfgceanepgjfiaa", sum := "9222d6f6c1d0f6a761939b443c2da337accba16ab450e04ee9cad7461e819810", func := "columbarium/columbariumlaw4.DeltaTells", spec := "deltaTells", apart := false }
def DeltaTellsSaid : Prop := deltaTellsRow.holds Try.pinned (OpenSpec.ofChange deltaTellsSpec)

/-- ITS FALSE NEIGHBOUR: 'it returns false'. Refute it at one input. -/
def deltaTellsWrong : ChangeSpec := { name := "deltaTells", fn := fun _ => fun
  | [d1, d2, d3, d4] => { results := [.lit (.bool false)], args := [d1, d2, d3, d4] }
  | _ => none }
def DeltaTellsWrongFalsely : Prop := deltaTellsRow.holds Try.pinned (OpenSpec.ofChange deltaTellsWrong)

/-- 'columbariumlaw4.DeltaBack': WHATEVER THE INPUT: true; the input reads as it did. -/
def deltaBackSpec : ChangeSpec := { name := "deltaBack", fn := fun _ => fun
  | [d1, d2] => { results := [.lit (.bool true)], args := [d1, d2] }
  | _ => none }
def deltaBackRow : OpenClaim := { program := "ytfgceanepgjfiaa", sum := "9222d6f6c1d0f6a761939b443c2da337accba16ab450e04ee9cad7461e819810", func := "columbarium/columbariumlaw4.DeltaBack", spec := "deltaBack", apart := false }
def DeltaBackSaid : Prop := deltaBackRow.holds Try.pinned (OpenSpec.ofChange deltaBackSpec)

/-- ITS FALSE NEIGHBOUR: 'it returns false'. Refute it at one input. -/
def deltaBackWrong : ChangeSpec := { name := "deltaBack", fn := fun _ => fun
  | [d1, d2] => { results := [.lit (.bool false)], args := [d1, d2] }
  | _ => none }
def DeltaBackWrongFalsely : Prop := deltaBackRow.holds Try.pinned (OpenSpec.ofChange deltaBackWrong)

/-- 'columbariumlaw4.DeltaCuts': WHATEVER THE INPUT: true; the input reads as it did. -/
def deltaCutsSpec : ChangeSpec := { name := "deltaCuts", fn := fun _ => fun
  | [d1, d2, d3] => { results := [.lit (.bool true)], args := [d1, d2, d3] }
  | _ => none }
def deltaCutsRow : OpenClaim := { program := "ytfgceanepgjfiaa", sum := "9222d6f6c1d0f6a761939b443c2da337accba16ab450e04ee9cad7461e819810", func := "columbarium/columbariumlaw4.DeltaCuts", spec := "deltaCuts", apart := false }
def DeltaCutsSaid : Prop := deltaCutsRow.holds Try.pinned (OpenSpec.ofChange deltaCutsSpec)

/-- ITS FALSE NEIGHBOUR: 'it returns false'. Refute it at one input. -/
def deltaCutsWrong : ChangeSpec := { name := "deltaCuts", fn := fun _ => fun
  | [d1, d2, d3] => { results := [.lit (.bool false)], args := [d1, d2, d3] }
  | _ => none }
def DeltaCutsWrongFalsely : Prop := deltaCutsRow.holds Try.pinned (OpenSpec.ofChange deltaCutsWrong)

/-- 'columbariumlaw6.BlockSizes': WHATEVER THE INPUT: true; the input reads as it did. -/
def blockSizesSpec : ChangeSpec := { name := "blockSizes", fn := fun _ => fun
  | [d1, d2] => { results := [.lit (.bool true)], args := [d1, d2] }
  | _ => none }
def blockSizesRow : OpenClaim := { program := "ytfgceanepgjfiaa", sum := "9222d6f6c1d0f6a761939b443c2da337accba16ab450e04ee9cad7461e819810", func := "columbarium/columbariumlaw6.BlockSizes", spec := "blockSizes", apart := false }
def BlockSizesSaid : Prop := blockSizesRow.holds Try.pinned (OpenSpec.ofChange blockSizesSpec)

/-- ITS FALSE NEIGHBOUR: 'it returns false'. Refute it at one input. -/
def blockSizesWrong : ChangeSpec := { name := "blockSizes", fn := fun _ => fun
  | [d1, d2] => { results := [.lit (.bool false)], args := [d1, d2] }
  | _ => none }
def BlockSizesWrongFalsely : Prop := blockSizesRow.holds Try.pinned (OpenSpec.ofChange blockSizesWrong)

/-- 'columbariumlaw6.BlockNumbers': WHATEVER THE INPUT: true; the input reads as it did. -/
def blockNumbersSpec : ChangeSpec := { name := "blockNumbers", fn := fun _ => fun
  | [] => { results := [.lit (.bool true)], args := [] }
  | _ => none }
def blockNumbersRow : OpenClaim := { program := "ytfgceanepgjfiaa", sum := "9222d6f6c1d0f6a761939b443c2da337accba16ab450e04ee9cad7461e819810", func := "columbarium/columbariumlaw6.BlockNumbers", spec := "blockNumbers", apart := false }
def BlockNumbersSaid : Prop := blockNumbersRow.holds Try.pinned (OpenSpec.ofChange blockNumbersSpec)

/-- ITS FALSE NEIGHBOUR: 'it returns false'. Refute it at one input. -/
def blockNumbersWrong : ChangeSpec := { name := "blockNumbers", fn := fun _ => fun
  | [] => { results := [.lit (.bool false)], args := [] }
  | _ => none }
def BlockNumbersWrongFalsely : Prop := blockNumbersRow.holds Try.pinned (OpenSpec.ofChange blockNumbersWrong)

/-- 'columbariumlaw6.BlockTells': WHATEVER THE INPUT: true; the input reads as it did. -/
def blockTellsSpec : ChangeSpec := { name := "blockTells", fn := fun _ => fun
  | [d1, d2, d3, d4, d5, d6] => { results := [.lit (.bool true)], args := [d1, d2, d3, d4, d5, d6] }
  | _ => none }
def blockTellsRow : OpenClaim := { program := "ytfgceanepgjfiaa", sum := "9222d6f6c1d0f6a761939b443c2da337accba16ab450e04ee9cad7461e819810", func := "columbarium/columbariumlaw6.BlockTells", spec := "blockTells", apart := false }
def BlockTellsSaid : Prop := blockTellsRow.holds Try.pinned (OpenSpec.ofChange blockTellsSpec)

/-- ITS FALSE NEIGHBOUR: 'it returns false'. Refute it at one input. -/
def blockTellsWrong : ChangeSpec := { name := "blockTells", fn := fun _ => fun
  | [d1, d2, d3, d4, d5, d6] => { results := [.lit (.bool false)], args := [d1, d2, d3, d4, d5, d6] }
  | _ => none }
def BlockTellsWrongFalsely : Prop := blockTellsRow.holds Try.pinned (OpenSpec.ofChange blockTellsWrong)

/-- 'columbariumlaw6.BlockBack': WHATEVER THE INPUT: true; the input reads as it did. -/
def blockBackSpec : ChangeSpec := { name := "blockBack", fn := fun _ => fun
  | [d1, d2, d3] => { results := [.lit (.bool true)], args := [d1, d2, d3] }
  | _ => none }
def blockBackRow : OpenClaim := { program := "ytfgceanepgjfiaa", sum := "9222d6f6c1d0f6a761939b443c2da337accba16ab450e04ee9cad7461e819810", func := "columbarium/columbariumlaw6.BlockBack", spec := "blockBack", apart := false }
def BlockBackSaid : Prop := blockBackRow.holds Try.pinned (OpenSpec.ofChange blockBackSpec)

/-- ITS FALSE NEIGHBOUR: 'it returns false'. Refute it at one input. -/
def blockBackWrong : ChangeSpec := { name := "blockBack", fn := fun _ => fun
  | [d1, d2, d3] => { results := [.lit (.bool false)], args := [d1, d2, d3] }
  | _ => none }
def BlockBackWrongFalsely : Prop := blockBackRow.holds Try.pinned (OpenSpec.ofChange blockBackWrong)

/-- 'columbariumlaw6.BlockCuts': WHATEVER THE INPUT: true; the input reads as it did. -/
def blockCutsSpec : ChangeSpec := { name := "blockCuts", fn := fun _ => fun
  | [d1, d2] => { results := [.lit (.bool true)], args := [d1, d2] }
  | _ => none }
def blockCutsRow : OpenClaim := { program := "ytfgceanepgjfiaa", sum := "9222d6f6c1d0f6a761939b443c2da337accba16ab450e04ee9cad7461e819810", func := "columbarium/columbariumlaw6.BlockCuts", spec := "blockCuts", apart := false }
def BlockCutsSaid : Prop := blockCutsRow.holds Try.pinned (OpenSpec.ofChange blockCutsSpec)

/-- ITS FALSE NEIGHBOUR: 'it returns false'. Refute it at one input. -/
def blockCutsWrong : ChangeSpec := { name := "blockCuts", fn := fun _ => fun
  | [d1, d2] => { results := [.lit (.bool false)], args := [d1, d2] }
  | _ => none }
def BlockCutsWrongFalsely : Prop := blockCutsRow.holds Try.pinned (OpenSpec.ofChange blockCutsWrong)

/-- 'columbariumlaw6.BlockJoins': WHATEVER THE INPUT: true; the input reads as it did. -/
def blockJoinsSpec : ChangeSpec := { name := "blockJoins", fn := fun _ => fun
  | [d1, d2, d3] => { results := [.lit (.bool true)], args := [d1, d2, d3] }
  | _ => none }
def blockJoinsRow : OpenClaim := { program := "ytfgceanepgjfiaa", sum := "9222d6f6c1d0f6a761939b443c2da337accba16ab450e04ee9cad7461e819810", func := "columbarium/columbariumlaw6.BlockJoins", spec := "blockJoins", apart := false }
def BlockJoinsSaid : Prop := blockJoinsRow.holds Try.pinned (OpenSpec.ofChange blockJoinsSpec)

/-- ITS FALSE NEIGHBOUR: 'it returns false'. Refute it at one input. -/
def blockJoinsWrong : ChangeSpec := { name := "blockJoins", fn := fun _ => fun
  | [d1, d2, d3] => { results := [.lit (.bool false)], args := [d1, d2, d3] }
  | _ => none }
def BlockJoinsWrongFalsely : Prop := blockJoinsRow.holds Try.pinned (OpenSpec.ofChange blockJoinsWrong)

/- THE SECOND FORM. 'bulk': how many values and letters a reading holds, each counted each time it is reached (what is shared counts as often as it is met; a slice's spare places count too). A statement '..UptoSaid' is the law's where the arguments, and the package variables that the reading takes, are together of bulk at most 1048576: NARROWER than '..Said'. Prove '..Said' where nothing that the law and all that it calls make is longer than what came in: it says more and counts as full. Else prove '..UptoSaid'. A law counts once. -/
mutual
def uptoBulk {H : Type} : DataW H → Nat
  | .lit (.string bytes) => bytes.length + 1
  | .lit _ => 1
  | .nil => 1
  | .ptr d => uptoBulk d + 1
  | .slice elems spare => uptoBulkAll elems + uptoBulkAll spare + 1
  | .agg parts => uptoBulkAll parts + 1
  | .iface _ d => uptoBulk d + 1
  | .map entries => uptoBulkEntries entries + 1
  | .held _ => 1
def uptoBulkAll {H : Type} : List (DataW H) → Nat
  | [] => 0
  | d :: r => uptoBulk d + uptoBulkAll r
def uptoBulkEntries {H : Type} : List (Lit × DataW H) → Nat
  | [] => 0
  | x :: r => uptoBulkEntry x + uptoBulkEntries r
def uptoBulkEntry {H : Type} : Lit × DataW H → Nat
  | (.string bytes, d) => bytes.length + uptoBulk d + 1
  | (_, d) => uptoBulk d + 1
 end
def uptoSmall : (H : Type) → List (DataW H) → Bool := fun _ ds => decide (uptoBulkAll ds ≤ 1048576)
def OpenSpec.upto (s : _root_.Go.ChangeSpec) : _root_.Go.OpenSpec := { _root_.Go.OpenSpec.ofChange s with cond := some uptoSmall }

/-- 'columbariumlaw4.DeltaEven', WHERE WHAT IT READS IS OF BULK AT MOST 1048576: true; the input reads as it did. -/
def deltaEvenUptoRow : OpenClaim := { program := "ytfgceanepgjfiaa", sum := "9222d6f6c1d0f6a761939b443c2da337accba16ab450e04ee9cad7461e819810", func := "columbarium/columbariumlaw4.DeltaEven", spec := "deltaEven", apart := false, narrowed := true }
def DeltaEvenUptoSaid : Prop := deltaEvenUptoRow.holds Try.pinned (OpenSpec.upto deltaEvenSpec)

/-- 'columbariumlaw4.DeltaShifts', WHERE WHAT IT READS IS OF BULK AT MOST 1048576: true; the input reads as it did. -/
def deltaShiftsUptoRow : OpenClaim := { program := "ytfgceanepgjfiaa", sum := "9222d6f6c1d0f6a761939b443c2da337accba16ab450e04ee9cad7461e819810", func := "columbarium/columbariumlaw4.DeltaShifts", spec := "deltaShifts", apart := false, narrowed := true }
def DeltaShiftsUptoSaid : Prop := deltaShiftsUptoRow.holds Try.pinned (OpenSpec.upto deltaShiftsSpec)

/-- 'columbariumlaw4.DeltaNumbers', WHERE WHAT IT READS IS OF BULK AT MOST 1048576: true; the input reads as it did. -/
def deltaNumbersUptoRow : OpenClaim := { program := "ytfgceanepgjfiaa", sum := "9222d6f6c1d0f6a761939b443c2da337accba16ab450e04ee9cad7461e819810", func := "columbarium/columbariumlaw4.DeltaNumbers", spec := "deltaNumbers", apart := false, narrowed := true }
def DeltaNumbersUptoSaid : Prop := deltaNumbersUptoRow.holds Try.pinned (OpenSpec.upto deltaNumbersSpec)

/-- 'columbariumlaw4.DeltaTells', WHERE WHAT IT READS IS OF BULK AT MOST 1048576: true; the input reads as it did. -/
def deltaTellsUptoRow : OpenClaim := { program := "ytfgceanepgjfiaa", sum := "9222d6f6c1d0f6a761939b443c2da337accba16ab450e04ee9cad7461e819810", func := "columbarium/columbariumlaw4.DeltaTells", spec := "deltaTells", apart := false, narrowed := true }
def DeltaTellsUptoSaid : Prop := deltaTellsUptoRow.holds Try.pinned (OpenSpec.upto deltaTellsSpec)

/-- 'columbariumlaw4.DeltaBack', WHERE WHAT IT READS IS OF BULK AT MOST 1048576: true; the input reads as it did. -/
def deltaBackUptoRow : OpenClaim := { program := "ytfgceanepgjfiaa", sum := "9222d6f6c1d0f6a761939b443c2da337accba16ab450e04ee9cad7461e819810", func := "columbarium/columbariumlaw4.DeltaBack", spec := "deltaBack", apart := false, narrowed := true }
def DeltaBackUptoSaid : Prop := deltaBackUptoRow.holds Try.pinned (OpenSpec.upto deltaBackSpec)

/-- 'columbariumlaw4.DeltaCuts', WHERE WHAT IT READS IS OF BULK AT MOST 1048576: true; the input reads as it did. -/
def deltaCutsUptoRow : OpenClaim := { program := "ytfgceanepgjfiaa", sum := "9222d6f6c1d0f6a761939b443c2da337accba16ab450e04ee9cad7461e819810", func := "columbarium/columbariumlaw4.DeltaCuts", spec := "deltaCuts", apart := false, narrowed := true }
def DeltaCutsUptoSaid : Prop := deltaCutsUptoRow.holds Try.pinned (OpenSpec.upto deltaCutsSpec)

/-- 'columbariumlaw6.BlockSizes', WHERE WHAT IT READS IS OF BULK AT MOST 1048576: true; the input reads as it did. -/
def blockSizesUptoRow : OpenClaim := { program := "ytfgceanepgjfiaa", sum := "9222d6f6c1d0f6a761939b443c2da337accba16ab450e04ee9cad7461e819810", func := "columbarium/columbariumlaw6.BlockSizes", spec := "blockSizes", apart := false, narrowed := true }
def BlockSizesUptoSaid : Prop := blockSizesUptoRow.holds Try.pinned (OpenSpec.upto blockSizesSpec)

/-- 'columbariumlaw6.BlockNumbers', WHERE WHAT IT READS IS OF BULK AT MOST 1048576: true; the input reads as it did. -/
def blockNumbersUptoRow : OpenClaim := { program := "ytfgceanepgjfiaa", sum := "9222d6f6c1d0f6a761939b443c2da337accba16ab450e04ee9cad7461e819810", func := "columbarium/columbariumlaw6.BlockNumbers", spec := "blockNumbers", apart := false, narrowed := true }
def BlockNumbersUptoSaid : Prop := blockNumbersUptoRow.holds Try.pinned (OpenSpec.upto blockNumbersSpec)

/-- 'columbariumlaw6.BlockTells', WHERE WHAT IT READS IS OF BULK AT MOST 1048576: true; the input reads as it did. -/
def blockTellsUptoRow : OpenClaim := { program := "ytfgceanepgjfiaa", sum := "9222d6f6c1d0f6a761939b443c2da337accba16ab450e04ee9cad7461e819810", func := "columbarium/columbariumlaw6.BlockTells", spec := "blockTells", apart := false, narrowed := true }
def BlockTellsUptoSaid : Prop := blockTellsUptoRow.holds Try.pinned (OpenSpec.upto blockTellsSpec)

/-- 'columbariumlaw6.BlockBack', WHERE WHAT IT READS IS OF BULK AT MOST 1048576: true; the input reads as it did. -/
def blockBackUptoRow : OpenClaim := { program := "ytfgceanepgjfiaa", sum := "9222d6f6c1d0f6a761939b443c2da337accba16ab450e04ee9cad7461e819810", func := "columbarium/columbariumlaw6.BlockBack", spec := "blockBack", apart := false, narrowed := true }
def BlockBackUptoSaid : Prop := blockBackUptoRow.holds Try.pinned (OpenSpec.upto blockBackSpec)

/-- 'columbariumlaw6.BlockCuts', WHERE WHAT IT READS IS OF BULK AT MOST 1048576: true; the input reads as it did. -/
def blockCutsUptoRow : OpenClaim := { program := "ytfgceanepgjfiaa", sum := "9222d6f6c1d0f6a761939b443c2da337accba16ab450e04ee9cad7461e819810", func := "columbarium/columbariumlaw6.BlockCuts", spec := "blockCuts", apart := false, narrowed := true }
def BlockCutsUptoSaid : Prop := blockCutsUptoRow.holds Try.pinned (OpenSpec.upto blockCutsSpec)

/-- 'columbariumlaw6.BlockJoins', WHERE WHAT IT READS IS OF BULK AT MOST 1048576: true; the input reads as it did. -/
def blockJoinsUptoRow : OpenClaim := { program := "ytfgceanepgjfiaa", sum := "9222d6f6c1d0f6a761939b443c2da337accba16ab450e04ee9cad7461e819810", func := "columbarium/columbariumlaw6.BlockJoins", spec := "blockJoins", apart := false, narrowed := true }
def BlockJoinsUptoSaid : Prop := blockJoinsUptoRow.holds Try.pinned (OpenSpec.upto blockJoinsSpec)

end Rows
end Go.Proofs.Ytfgceanepgjfiaa
