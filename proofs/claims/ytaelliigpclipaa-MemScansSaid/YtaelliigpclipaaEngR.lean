/- The reckoner,for a row: arguments out of a world,as the reckoner names them. -/
import Derived.Test.YtaelliigpclipaaEngZ
import Derived.WalkKit
import Derived.ProofKit
import Derived.OpenShut
import Derived.ShutString
import Derived.ChangeOld
import Derived.Below
import Derived.SizedLaws
namespace Go.Proofs.Ytaelliigpclipaa.Eng
set_option linter.unusedVariables false
set_option linter.unusedSimpArgs false
open Go Go.RowKit Go.ChangeShapes Go.WideShapes Go.ChangeAt
section
variable {H:Type} {enc:TypeId × Value→H} {P:Program} {W:World} {base:Nat}
end
def plainV:SV→Option Value
 | .bool b=>some (.bool b)
 | .int k n=>some (.int k n)
 | .str s=>some (.string s)
 | _=>none
structure Reads (w:World) (a:Addr) (cs:List SV):Prop where
 spot:a.spot=none
 block:a.block < w.heap.size
 cell:∀ (i:Nat) v,cs[i]?=some v→∃ c,plainV v=some c∧w.cell? (a.add i)=some c
def fzOf (w:World):Nat→Nat→Option Value:=fun b o=>if b < w.heap.size then w.cell? ⟨b,o,none⟩ else none
theorem fzOf_in {w:World} {b o:Nat} {v:Value} (h:fzOf w b o=some v):b < w.heap.size∧w.cell? ⟨b,o,none⟩=some v:=by
 unfold fzOf at h
 split at h
 ·exact ⟨by assumption,h⟩
 ·cases h
def rhoOf (w:World) (rows:Nat→Option (Addr × List SV)):Rho:=⟨fun n=>(rows n).map fun r=>⟨r.1.block,r.1.off,r.2.length⟩,fzOf w⟩
def AllR (ρ:Rho):List AV→List Value→Prop
 | [],[]=>True
 | x :: xs,v :: vs=>VR ρ x v∧AllR ρ xs vs
 | _,_=>False
theorem AllR.args {ρ:Rho}:∀ {l:List AV} {l':List Value},AllR ρ l l'→l.length=l'.length∧∀ (i:Nat) x y,l[i]?=some x→l'[i]?=some y→VR ρ x y
 | [],[],_=>⟨rfl,fun i x y h=>by simp at h⟩
 | x :: xs,v :: vs,h=>by
  obtain ⟨h1,h2⟩:=h
  obtain ⟨e1,e2⟩:=AllR.args h2
  refine ⟨by simp [e1],fun i y z hy hz=>?_⟩
  cases i with
  | zero =>
   obtain rfl:x=y:=by simpa using hy
   obtain rfl:v=z:=by simpa using hz
   exact h1
  | succ j=>exact e2 j y z (by simpa using hy) (by simpa using hz)
 | [],_ :: _,h=>h.elim
 | _ :: _,[],h=>h.elim
section
variable {H:Type} {enc:TypeId × Value→H} {P:Program} {W:World} {base:Nat}
end
end Go.Proofs.Ytaelliigpclipaa.Eng
