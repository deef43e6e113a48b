/- The reckoner,piece by piece: a state in,a state out,each laid out. -/
import Derived.Test.YtaelliigpclipaaEngVC
import Derived.Test.YtaelliigpclipaaEngY
namespace Go.Proofs.Ytaelliigpclipaa.Eng
set_option linter.unusedVariables false
set_option linter.unusedSimpArgs false
open Go Go.RowKit
variable {P:Program}
noncomputable def slotsK {β:Type}:List (Nat × AV)→Tr AV→(Tr AV→Option β)→Option β
 | [],S,k=>k S
 | e :: r,S,k=>slotsK r S fun S=>tp 64 S e.1 e.2 k
theorem slotsK_ok {β:Type}:∀ (l:List (Nat × AV)) (k:Tr AV→Option β) (y:β),slotsK l .e k=some y→∃ S',k S'=some y∧∀ d,sg S' d=lk l d
 | [],k,y,h=>⟨.e,h,fun _=>rfl⟩
 | e :: r,k,y,h=>by
  simp only [slotsK] at h
  obtain ⟨S1,h1,h2⟩:=slotsK_ok r _ y h
  obtain ⟨S2,h3,h4⟩:=tp_ok _ _ _ _ _ _ h1
  refine ⟨S2,h3,fun d=>?_⟩
  obtain ⟨q,v⟩:=e
  simp only [lk,sg] at h2 ⊢
  rw [h4 d]
  by_cases hq:d=q
  ·subst hq;simp
  ·rw [if_neg hq,if_neg (fun e=>hq e.symm)]
   exact h2 d
theorem lk_map (g:Nat→AV) (d:Nat):∀ (l:List Nat),lk (l.map fun d=>(d,g d)) d=if d∈l then g d else .any
 | []=>by simp [lk]
 | x :: r=>by
  simp only [List.map_cons,lk]
  rw [lk_map g d r]
  by_cases h:x=d
  ·subst h;simp
  ·have:d≠x:=fun e=>h e.symm
   simp [h,this]
theorem get_map (g:Nat→Option Blk) (d:Nat):∀ (l:List Nat),get (l.map fun d=>(d,g d)) d=if d∈l then g d else none
 | []=>by simp [get]
 | x :: r=>by
  simp only [List.map_cons,get]
  rw [get_map g d r]
  by_cases h:x=d
  ·subst h;simp
  ·have:d≠x:=fun e=>h e.symm
   simp [h,this]
abbrev i64 (n:Nat):SV:=.int .i64 (.ofNat n)
abbrev u8 (n:Nat):SV:=.int .u8 (.ofNat n)
section
variable {B:Nat} {C:Code} {s s1 s':St} {e:Ex}
theorem CodeDoes.loopAt (hC:C=.loop (Lf C)) (h:LoopDoes P B (Lf C) s e s'):CodeDoes P B C s e s':=by
 have:CodeDoes P B (.loop (Lf C)) s e s':=h.code
 rwa [← hC] at this
end
end Go.Proofs.Ytaelliigpclipaa.Eng
