/- The reckoner,step by step: a rule for each operation;values as they were put. -/
import Derived.Test.YtaelliigpclipaaEngY
namespace Go.Proofs.Ytaelliigpclipaa.Eng
set_option linter.unusedVariables false
set_option linter.unusedSimpArgs false
open Go Go.RowKit
variable {P:Program} {call:CallF} {t:Nat→AV} {m:Mem} {c n:Nat} {l:List (Nat × AV)} {ty:TypeId}
structure Rf {α:Sort _} (a b:α):Prop where
 eq:a=b
structure Tell (a b:AV):Prop where
 eq:a=b
inductive Has:List (Nat × AV)→Nat→AV→Prop where
 | here {d:Nat} {v:AV} {r:List (Nat × AV)}:Has ((d,v) :: r) d v
 | there {k d:Nat} {x v:AV} {r:List (Nat × AV)} (h1:Rf (k == d) false) (h2:Has r d v):Has ((k,x) :: r) d v
theorem rnA_id (x:AV):rnA id x=x:=by
 have hV:∀ v,rnV id v=v:=by intro v;cases v<;>simp [rnV]
 have hf:rnV id=id:=funext hV
 cases x<;>simp [rnA,hV,hf]
theorem PureDoes.here {B:Nat} {f:FuncId} {args:List AV} {m:Mem} {c:Nat} {v:AV} (h:PureDoes P f args m c v) (hb:bareA v=true) (hlt:∀ x∈args,ltA c x)
  (hm:∀ n b,get m n=some b→n < c∧b.own=false∧∀ v∈b.cells,ltV c v):CallDoes P B f args m c v m c:=by
 have hV:∀ v,rnV id v=v:=by intro v;cases v<;>simp [rnV]
 have hf:rnV id=id:=funext hV
 refine h.call hb id c ?_ hlt (fun n b hn=>?_)
 ·have:rnA id=id:=funext rnA_id
  rw [this,List.map_id]
 ·obtain ⟨h1,h2,h3⟩:=hm n b hn
  exact ⟨h1,h2,h3,b,hn,by rw [hf,List.map_id]⟩
end Go.Proofs.Ytaelliigpclipaa.Eng
