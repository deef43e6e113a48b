/-
  No cell of these rows narrows 'for every input' (looked for: loops, veiled, ifaces, maps, wideKeys, modest, calm, conditions, laid).
  DERIVED. THE GIVEN ROWS OF THIS SEAT. 3 by the template 'for every input the law returns true; each argument reads behind the call as it read before'; 0 by the template 'total and deterministic' (their statements: YtiodonkmapaebaaTotals.lean).
  GIVEN WITH THE SEED: the statements are not yours to turn. If you find one false, say at which input.
  Laid BY PROGRAM, IN A SANDBOX (cutbox-rows.mjs): the forced cells as the released guide's own fill.sh prints them over the translation 5b9d853f11f7ac6d… (all of the seat's roots in one cut). By AI agents, Wed Nov 11 2026. No macro, syntax, notation, axiom, sorry.
-/
import Derived.Test.YtiodonkmapaebaaChecked
import GoSem.Claim
import GoSem.ClaimJoined
import GoSem.ClaimMapViews
import Derived.JoinedTies
import Derived.KernelRfl
namespace Go.Proofs.Ytiodonkmapaebaa
/- THE CELL 'sum', in the pinned program and in every row, IS THE sha256 OF THE DUMP (.gsa) THAT YtiodonkmapaebaaProg.lean LOADS. Nothing in Lean hashes anything: it is a label: what it is worth is what the hold of that sum in a sandbox is worth. -/
noncomputable def Try.pinned : Pinned := { name := "ytiodonkmapaebaa", sum := "5b9d853f11f7ac6d1546ae6fcc81d8791904ef74978b30e42d632d2bbc605bda", checked := Try.checked }
namespace Rows
def none {H : Type} : Left H := { results := [], args := [] }

/-- 'columbariumlaw22.MergePicks': WHATEVER THE INPUT: true; the input reads as it did. -/
def mergePicksSpec : ChangeSpec := { name := "mergePicks", fn := fun _ => fun
  | [d] => { results := [.lit (.bool true)], args := [d] }
  | _ => none }
def mergePicksRow : OpenClaim := { program := "ytiodonkmapaebaa", sum := "5b9d853f11f7ac6d1546ae6fcc81d8791904ef74978b30e42d632d2bbc605bda", func := "columbarium/columbariumlaw22.MergePicks", spec := "mergePicks", unfollowed := true, recurses := true, apart := false }
def MergePicksSaid : Prop := mergePicksRow.holds Try.pinned (OpenSpec.ofChange mergePicksSpec)

/-- ITS FALSE NEIGHBOUR: 'it returns false'. Refute it at one input. -/
def mergePicksWrong : ChangeSpec := { name := "mergePicks", fn := fun _ => fun
  | [d] => { results := [.lit (.bool false)], args := [d] }
  | _ => none }
def MergePicksWrongFalsely : Prop := mergePicksRow.holds Try.pinned (OpenSpec.ofChange mergePicksWrong)

/-- 'columbariumlaw22.MergeSettles': WHATEVER THE INPUT: true; the input reads as it did. -/
def mergeSettlesSpec : ChangeSpec := { name := "mergeSettles", fn := fun _ => fun
  | [d1, d2] => { results := [.lit (.bool true)], args := [d1, d2] }
  | _ => none }
def mergeSettlesRow : OpenClaim := { program := "ytiodonkmapaebaa", sum := "5b9d853f11f7ac6d1546ae6fcc81d8791904ef74978b30e42d632d2bbc605bda", func := "columbarium/columbariumlaw22.MergeSettles", spec := "mergeSettles", unfollowed := true, recurses := true, apart := false }
def MergeSettlesSaid : Prop := mergeSettlesRow.holds Try.pinned (OpenSpec.ofChange mergeSettlesSpec)

/-- ITS FALSE NEIGHBOUR: 'it returns false'. Refute it at one input. -/
def mergeSettlesWrong : ChangeSpec := { name := "mergeSettles", fn := fun _ => fun
  | [d1, d2] => { results := [.lit (.bool false)], args := [d1, d2] }
  | _ => none }
def MergeSettlesWrongFalsely : Prop := mergeSettlesRow.holds Try.pinned (OpenSpec.ofChange mergeSettlesWrong)

/-- 'columbariumlaw22.MergeNumbers': WHATEVER THE INPUT: true; the input reads as it did. -/
def mergeNumbersSpec : ChangeSpec := { name := "mergeNumbers", fn := fun _ => fun
  | [] => { results := [.lit (.bool true)], args := [] }
  | _ => none }
def mergeNumbersRow : OpenClaim := { program := "ytiodonkmapaebaa", sum := "5b9d853f11f7ac6d1546ae6fcc81d8791904ef74978b30e42d632d2bbc605bda", func := "columbarium/columbariumlaw22.MergeNumbers", spec := "mergeNumbers", unfollowed := true, recurses := true, apart := false }
def MergeNumbersSaid : Prop := mergeNumbersRow.holds Try.pinned (OpenSpec.ofChange mergeNumbersSpec)

/-- ITS FALSE NEIGHBOUR: 'it returns false'. Refute it at one input. -/
def mergeNumbersWrong : ChangeSpec := { name := "mergeNumbers", fn := fun _ => fun
  | [] => { results := [.lit (.bool false)], args := [] }
  | _ => none }
def MergeNumbersWrongFalsely : Prop := mergeNumbersRow.holds Try.pinned (OpenSpec.ofChange mergeNumbersWrong)

/- THE SECOND FORM. 'bulk': how many values and letters a reading holds, each counted each time it is reached (what is shared counts as often as it is met; a slice's spare places count too). A statement '..UptoSaid' is the law's where the arguments, and the package variables that the reading takes, are together of bulk at most 1048576: NARROWER than '..Said'. Prove '..Said' where nothing that the law and all that it calls make is longer than what came in: it says more and counts as full. Else prove '..UptoSaid'. A law counts once. -/
mutual
def uptoBulk {H : Type} : DataW H → Nat
  | .lit (.string bytes) => bytes.length + 1
  | .lit _ => 1
  | .nil => 1
  | .ptr d => uptoBulk d + 1
  | .slice elems spare => uptoBulkAll elems + uptoBulkAll spare + 1
  | .agg parts => uptoBulkAll parts + 1
  | .iface _ d => uptoBulk d + 1
  | .map entries => uptoBulkEntries entries + 1
  | .held _ => 1
def uptoBulkAll {H : Type} : List (DataW H) → Nat
  | [] => 0
  | d :: r => uptoBulk d + uptoBulkAll r
def uptoBulkEntries {H : Type} : List (Lit × DataW H) → Nat
  | [] => 0
  | x :: r => uptoBulkEntry x + uptoBulkEntries r
def uptoBulkEntry {H : Type} : Lit × DataW H → Nat
  | (.string bytes, d) => bytes.length + uptoBulk d + 1
  | (_, d) => uptoBulk d + 1
 end
def uptoSmall : (H : Type) → List (DataW H) → Bool := fun _ ds => decide (uptoBulkAll ds ≤ 1048576)
def OpenSpec.upto (s : _root_.Go.ChangeSpec) : _root_.Go.OpenSpec := { _root_.Go.OpenSpec.ofChange s with cond := some uptoSmall }

/-- 'columbariumlaw22.MergePicks', WHERE WHAT IT READS IS OF BULK AT MOST 1048576: true; the input reads as it did. -/
def mergePicksUptoRow : OpenClaim := { program := "ytiodonkmapaebaa", sum := "5b9d853f11f7ac6d1546ae6fcc81d8791904ef74978b30e42d632d2bbc605bda", func := "columbarium/columbariumlaw22.MergePicks", spec := "mergePicks", unfollowed := true, recurses := true, apart := false, narrowed := true }
def MergePicksUptoSaid : Prop := mergePicksUptoRow.holds Try.pinned (OpenSpec.upto mergePicksSpec)

/-- 'columbariumlaw22.MergeSettles', WHERE WHAT IT READS IS OF BULK AT MOST 1048576: true; the input reads as it did. -/
def mergeSettlesUptoRow : OpenClaim := { program := "ytiodonkmapaebaa", sum := "5b9d853f11f7ac6d1546ae6fcc81d8791904ef74978b30e42d632d2bbc605bda", func := "columbarium/columbariumlaw22.MergeSettles", spec := "mergeSettles", unfollowed := true, recurses := true, apart := false, narrowed := true }
def MergeSettlesUptoSaid : Prop := mergeSettlesUptoRow.holds Try.pinned (OpenSpec.upto mergeSettlesSpec)

/-- 'columbariumlaw22.MergeNumbers', WHERE WHAT IT READS IS OF BULK AT MOST 1048576: true; the input reads as it did. -/
def mergeNumbersUptoRow : OpenClaim := { program := "ytiodonkmapaebaa", sum := "5b9d853f11f7ac6d1546ae6fcc81d8791904ef74978b30e42d632d2bbc605bda", func := "columbarium/columbariumlaw22.MergeNumbers", spec := "mergeNumbers", unfollowed := true, recurses := true, apart := false, narrowed := true }
def MergeNumbersUptoSaid : Prop := mergeNumbersUptoRow.holds Try.pinned (OpenSpec.upto mergeNumbersSpec)

end Rows
end Go.Proofs.Ytiodonkmapaebaa
