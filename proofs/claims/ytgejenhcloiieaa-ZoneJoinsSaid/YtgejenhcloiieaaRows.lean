/-
  No cell of these rows narrows 'for every input' (looked for: loops, veiled, ifaces, maps, wideKeys, modest, calm, conditions, laid).
  DERIVED. THE GIVEN ROWS OF THIS SEAT. 6 by the template 'for every input the law returns true; each argument reads behind the call as it read before'; 0 by the template 'total and deterministic' (their statements: YtgejenhcloiieaaTotals.lean).
  GIVEN WITH THE SEED: the statements are not yours to turn. If you find one false, say at which input.
  Laid BY PROGRAM, IN A SANDBOX (cutbox-rows.mjs): the forced cells as the released guide's own fill.sh prints them over the translation 0f2669699a45a28f… (all of the seat's roots in one cut). By AI agents, Wed Nov 11 2026. No macro, syntax, notation, axiom, sorry.
-/
import Derived.Test.YtgejenhcloiieaaChecked
import GoSem.Claim
import GoSem.ClaimJoined
import GoSem.ClaimMapViews
import Derived.JoinedTies
import Derived.KernelRfl
namespace Go.Proofs.Ytgejenhcloiieaa
/- THE CELL 'sum', in the pinned program and in every row, IS THE sha256 OF THE DUMP (.gsa) THAT YtgejenhcloiieaaProg.lean LOADS. Nothing in Lean hashes anything: it is a label: what it is worth is what the hold of that sum in a sandbox is worth. -/
noncomputable def Try.pinned : Pinned := { name := "ytgejenhcloiieaa", sum := "0f2669699a45a28f1cb8f11bf62b8860b9ca67bed8f7f741d238683f2c3f080b", checked := Try.checked }
namespace Rows
def none {H : Type} : Left H := { results := [], args := [] }

/-- 'columbariumlaw8.ZoneGrows': WHATEVER THE INPUT: true; the input reads as it did. -/
def zoneGrowsSpec : ChangeSpec := { name := "zoneGrows", fn := fun _ => fun
  | [d1, d2, d3] => { results := [.lit (.bool true)], args := [d1, d2, d3] }
  | _ => none }
def zoneGrowsRow : OpenClaim := { program := "ytgejenhcloiieaa", sum := "0f2669699a45a28f1cb8f11bf62b8860b9ca67bed8f7f741d238683f2c3f080b", func := "columbarium/columbariumlaw8.ZoneGrows", spec := "zoneGrows", apart := false }
def ZoneGrowsSaid : Prop := zoneGrowsRow.holds Try.pinned (OpenSpec.ofChange zoneGrowsSpec)

/-- ITS FALSE NEIGHBOUR: 'it returns false'. Refute it at one input. -/
def zoneGrowsWrong : ChangeSpec := { name := "zoneGrows", fn := fun _ => fun
  | [d1, d2, d3] => { results := [.lit (.bool false)], args := [d1, d2, d3] }
  | _ => none }
def ZoneGrowsWrongFalsely : Prop := zoneGrowsRow.holds Try.pinned (OpenSpec.ofChange zoneGrowsWrong)

/-- 'columbariumlaw8.ZoneOrder': WHATEVER THE INPUT: true; the input reads as it did. -/
def zoneOrderSpec : ChangeSpec := { name := "zoneOrder", fn := fun _ => fun
  | [d1, d2, d3] => { results := [.lit (.bool true)], args := [d1, d2, d3] }
  | _ => none }
def zoneOrderRow : OpenClaim := { program := "ytgejenhcloiieaa", sum := "0f2669699a45a28f1cb8f11bf62b8860b9ca67bed8f7f741d238683f2c3f080b", func := "columbarium/columbariumlaw8.ZoneOrder", spec := "zoneOrder", apart := false }
def ZoneOrderSaid : Prop := zoneOrderRow.holds Try.pinned (OpenSpec.ofChange zoneOrderSpec)

/-- ITS FALSE NEIGHBOUR: 'it returns false'. Refute it at one input. -/
def zoneOrderWrong : ChangeSpec := { name := "zoneOrder", fn := fun _ => fun
  | [d1, d2, d3] => { results := [.lit (.bool false)], args := [d1, d2, d3] }
  | _ => none }
def ZoneOrderWrongFalsely : Prop := zoneOrderRow.holds Try.pinned (OpenSpec.ofChange zoneOrderWrong)

/-- 'columbariumlaw8.ZoneJoins': WHATEVER THE INPUT: true; the input reads as it did. -/
def zoneJoinsSpec : ChangeSpec := { name := "zoneJoins", fn := fun _ => fun
  | [d1, d2, d3, d4] => { results := [.lit (.bool true)], args := [d1, d2, d3, d4] }
  | _ => none }
def zoneJoinsRow : OpenClaim := { program := "ytgejenhcloiieaa", sum := "0f2669699a45a28f1cb8f11bf62b8860b9ca67bed8f7f741d238683f2c3f080b", func := "columbarium/columbariumlaw8.ZoneJoins", spec := "zoneJoins", apart := false }
def ZoneJoinsSaid : Prop := zoneJoinsRow.holds Try.pinned (OpenSpec.ofChange zoneJoinsSpec)

/-- ITS FALSE NEIGHBOUR: 'it returns false'. Refute it at one input. -/
def zoneJoinsWrong : ChangeSpec := { name := "zoneJoins", fn := fun _ => fun
  | [d1, d2, d3, d4] => { results := [.lit (.bool false)], args := [d1, d2, d3, d4] }
  | _ => none }
def ZoneJoinsWrongFalsely : Prop := zoneJoinsRow.holds Try.pinned (OpenSpec.ofChange zoneJoinsWrong)

/-- 'columbariumlaw8.ZoneBack': WHATEVER THE INPUT: true; the input reads as it did. -/
def zoneBackSpec : ChangeSpec := { name := "zoneBack", fn := fun _ => fun
  | [d1, d2, d3, d4] => { results := [.lit (.bool true)], args := [d1, d2, d3, d4] }
  | _ => none }
def zoneBackRow : OpenClaim := { program := "ytgejenhcloiieaa", sum := "0f2669699a45a28f1cb8f11bf62b8860b9ca67bed8f7f741d238683f2c3f080b", func := "columbarium/columbariumlaw8.ZoneBack", spec := "zoneBack", apart := false }
def ZoneBackSaid : Prop := zoneBackRow.holds Try.pinned (OpenSpec.ofChange zoneBackSpec)

/-- ITS FALSE NEIGHBOUR: 'it returns false'. Refute it at one input. -/
def zoneBackWrong : ChangeSpec := { name := "zoneBack", fn := fun _ => fun
  | [d1, d2, d3, d4] => { results := [.lit (.bool false)], args := [d1, d2, d3, d4] }
  | _ => none }
def ZoneBackWrongFalsely : Prop := zoneBackRow.holds Try.pinned (OpenSpec.ofChange zoneBackWrong)

/-- 'columbariumlaw8.ZoneNumbers': WHATEVER THE INPUT: true; the input reads as it did. -/
def zoneNumbersSpec : ChangeSpec := { name := "zoneNumbers", fn := fun _ => fun
  | [] => { results := [.lit (.bool true)], args := [] }
  | _ => none }
def zoneNumbersRow : OpenClaim := { program := "ytgejenhcloiieaa", sum := "0f2669699a45a28f1cb8f11bf62b8860b9ca67bed8f7f741d238683f2c3f080b", func := "columbarium/columbariumlaw8.ZoneNumbers", spec := "zoneNumbers", apart := false }
def ZoneNumbersSaid : Prop := zoneNumbersRow.holds Try.pinned (OpenSpec.ofChange zoneNumbersSpec)

/-- ITS FALSE NEIGHBOUR: 'it returns false'. Refute it at one input. -/
def zoneNumbersWrong : ChangeSpec := { name := "zoneNumbers", fn := fun _ => fun
  | [] => { results := [.lit (.bool false)], args := [] }
  | _ => none }
def ZoneNumbersWrongFalsely : Prop := zoneNumbersRow.holds Try.pinned (OpenSpec.ofChange zoneNumbersWrong)

/-- 'columbariumlaw8.ZoneTells': WHATEVER THE INPUT: true; the input reads as it did. -/
def zoneTellsSpec : ChangeSpec := { name := "zoneTells", fn := fun _ => fun
  | [d1, d2, d3, d4, d5, d6] => { results := [.lit (.bool true)], args := [d1, d2, d3, d4, d5, d6] }
  | _ => none }
def zoneTellsRow : OpenClaim := { program := "ytgejenhcloiieaa", sum := "0f2669699a45a28f1cb8f11bf62b8860b9ca67bed8f7f741d238683f2c3f080b", func := "columbarium/columbariumlaw8.ZoneTells", spec := "zoneTells", apart := false }
def ZoneTellsSaid : Prop := zoneTellsRow.holds Try.pinned (OpenSpec.ofChange zoneTellsSpec)

/-- ITS FALSE NEIGHBOUR: 'it returns false'. Refute it at one input. -/
def zoneTellsWrong : ChangeSpec := { name := "zoneTells", fn := fun _ => fun
  | [d1, d2, d3, d4, d5, d6] => { results := [.lit (.bool false)], args := [d1, d2, d3, d4, d5, d6] }
  | _ => none }
def ZoneTellsWrongFalsely : Prop := zoneTellsRow.holds Try.pinned (OpenSpec.ofChange zoneTellsWrong)

/- THE SECOND FORM. 'bulk': how many values and letters a reading holds, each counted each time it is reached (what is shared counts as often as it is met; a slice's spare places count too). A statement '..UptoSaid' is the law's where the arguments, and the package variables that the reading takes, are together of bulk at most 1048576: NARROWER than '..Said'. Prove '..Said' where nothing that the law and all that it calls make is longer than what came in: it says more and counts as full. Else prove '..UptoSaid'. A law counts once. -/
mutual
def uptoBulk {H : Type} : DataW H → Nat
  | .lit (.string bytes) => bytes.length + 1
  | .lit _ => 1
  | .nil => 1
  | .ptr d => uptoBulk d + 1
  | .slice elems spare => uptoBulkAll elems + uptoBulkAll spare + 1
  | .agg parts => uptoBulkAll parts + 1
  | .iface _ d => uptoBulk d + 1
  | .map entries => uptoBulkEntries entries + 1
  | .held _ => 1
def uptoBulkAll {H : Type} : List (DataW H) → Nat
  | [] => 0
  | d :: r => uptoBulk d + uptoBulkAll r
def uptoBulkEntries {H : Type} : List (Lit × DataW H) → Nat
  | [] => 0
  | x :: r => uptoBulkEntry x + uptoBulkEntries r
def uptoBulkEntry {H : Type} : Lit × DataW H → Nat
  | (.string bytes, d) => bytes.length + uptoBulk d + 1
  | (_, d) => uptoBulk d + 1
 end
def uptoSmall : (H : Type) → List (DataW H) → Bool := fun _ ds => decide (uptoBulkAll ds ≤ 1048576)
def OpenSpec.upto (s : _root_.Go.ChangeSpec) : _root_.Go.OpenSpec := { _root_.Go.OpenSpec.ofChange s with cond := some uptoSmall }

/-- 'columbariumlaw8.ZoneGrows', WHERE WHAT IT READS IS OF BULK AT MOST 1048576: true; the input reads as it did. -/
def zoneGrowsUptoRow : OpenClaim := { program := "ytgejenhcloiieaa", sum := "0f2669699a45a28f1cb8f11bf62b8860b9ca67bed8f7f741d238683f2c3f080b", func := "columbarium/columbariumlaw8.ZoneGrows", spec := "zoneGrows", apart := false, narrowed := true }
def ZoneGrowsUptoSaid : Prop := zoneGrowsUptoRow.holds Try.pinned (OpenSpec.upto zoneGrowsSpec)

/-- 'columbariumlaw8.ZoneOrder', WHERE WHAT IT READS IS OF BULK AT MOST 1048576: true; the input reads as it did. -/
def zoneOrderUptoRow : OpenClaim := { program := "ytgejenhcloiieaa", sum := "0f2669699a45a28f1cb8f11bf62b8860b9ca67bed8f7f741d238683f2c3f080b", func := "columbarium/columbariumlaw8.ZoneOrder", spec := "zoneOrder", apart := false, narrowed := true }
def ZoneOrderUptoSaid : Prop := zoneOrderUptoRow.holds Try.pinned (OpenSpec.upto zoneOrderSpec)

/-- 'columbariumlaw8.ZoneJoins', WHERE WHAT IT READS IS OF BULK AT MOST 1048576: true; the input reads as it did. -/
def zoneJoinsUptoRow : OpenClaim := { program := "ytgejenhcloiieaa", sum := "0f2669699a45a28f1cb8f11bf62b8860b9ca67bed8f7f741d238683f2c3f080b", func := "columbarium/columbariumlaw8.ZoneJoins", spec := "zoneJoins", apart := false, narrowed := true }
def ZoneJoinsUptoSaid : Prop := zoneJoinsUptoRow.holds Try.pinned (OpenSpec.upto zoneJoinsSpec)

/-- 'columbariumlaw8.ZoneBack', WHERE WHAT IT READS IS OF BULK AT MOST 1048576: true; the input reads as it did. -/
def zoneBackUptoRow : OpenClaim := { program := "ytgejenhcloiieaa", sum := "0f2669699a45a28f1cb8f11bf62b8860b9ca67bed8f7f741d238683f2c3f080b", func := "columbarium/columbariumlaw8.ZoneBack", spec := "zoneBack", apart := false, narrowed := true }
def ZoneBackUptoSaid : Prop := zoneBackUptoRow.holds Try.pinned (OpenSpec.upto zoneBackSpec)

/-- 'columbariumlaw8.ZoneNumbers', WHERE WHAT IT READS IS OF BULK AT MOST 1048576: true; the input reads as it did. -/
def zoneNumbersUptoRow : OpenClaim := { program := "ytgejenhcloiieaa", sum := "0f2669699a45a28f1cb8f11bf62b8860b9ca67bed8f7f741d238683f2c3f080b", func := "columbarium/columbariumlaw8.ZoneNumbers", spec := "zoneNumbers", apart := false, narrowed := true }
def ZoneNumbersUptoSaid : Prop := zoneNumbersUptoRow.holds Try.pinned (OpenSpec.upto zoneNumbersSpec)

/-- 'columbariumlaw8.ZoneTells', WHERE WHAT IT READS IS OF BULK AT MOST 1048576: true; the input reads as it did. -/
def zoneTellsUptoRow : OpenClaim := { program := "ytgejenhcloiieaa", sum := "0f2669699a45a28f1cb8f11bf62b8860b9ca67bed8f7f741d238683f2c3f080b", func := "columbarium/columbariumlaw8.ZoneTells", spec := "zoneTells", apart := false, narrowed := true }
def ZoneTellsUptoSaid : Prop := zoneTellsUptoRow.holds Try.pinned (OpenSpec.upto zoneTellsSpec)

end Rows
end Go.Proofs.Ytgejenhcloiieaa
