/- The reckoner,for a row: arguments that are structs,and rows of structs,of numbers,truths and texts. -/
import Derived.Test.YtaelliigpclipaaEngR
import Derived.Test.YtaelliigpclipaaEngAD
import Derived.DataReads
namespace Go.Proofs.Ytaelliigpclipaa.Eng
set_option linter.unusedVariables false
set_option linter.unusedSimpArgs false
open Go Go.RowKit Go.ChangeShapes Go.WideShapes Go.ChangeAt
section
variable {H:Type} (enc:TypeId × Value→H) (P:Program) (W:World) (base:Nat) (spare:Nat→Bool) (held:Bool) {α β:Type}
variable {enc P W base spare held}
theorem choose_rows {Q:Nat→α→Prop} (n:Nat) (h:∀ i,i < n→∃ v,Q i v):∃ vs:List α,vs.length=n∧∀ i v,vs[i]?=some v→Q i v:=by
 induction n with
 | zero=>exact ⟨[],rfl,by simp⟩
 | succ n ih =>
  obtain ⟨vs,hl,hv⟩:=ih (fun i hi=>h i (by omega))
  obtain ⟨v,hq⟩:=h n (by omega)
  refine ⟨vs++[v],by simp [hl],fun i u hu=>?_⟩
  rcases Nat.lt_or_ge i n with c|c
  ·rw [List.getElem?_append_left (by omega)] at hu
   exact hv i u hu
  ·have hi:i < (vs++[v]).length:=(List.getElem?_eq_some_iff.1 hu).1
   rw [List.length_append,List.length_singleton,hl] at hi
   obtain rfl:i=n:=by omega
   rw [List.getElem?_append_right (by omega),hl,Nat.sub_self] at hu
   simp at hu
   subst hu
   exact hq
end
end Go.Proofs.Ytaelliigpclipaa.Eng
