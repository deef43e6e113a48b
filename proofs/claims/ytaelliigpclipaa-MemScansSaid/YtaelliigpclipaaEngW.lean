/- The reckoner: only what is known,or new,is touched. -/
import Derived.Test.YtaelliigpclipaaEngM
namespace Go.Proofs.Ytaelliigpclipaa.Eng
set_option linter.unusedVariables false
set_option linter.unusedSimpArgs false
open Go Go.RowKit
variable {P:Program}
def TouchOk (call:CallF):Prop:=∀ f args m c v m' c',call f args m c=some (v,m',c')→Ahead m m' c c'
def TouchCode (rec:Code→St→Option (Ex × St)):Prop:=∀ code s e s',rec code s=some (e,s')→Ahead s.m s'.m s.c s'.c
theorem get_app (x m:Mem) (n:Nat) {b:Blk} (h:get (x++m) n=some b):(∃ e∈x,e.1=n)∨get m n=some b:=by
 induction x with
 | nil=>exact .inr h
 | cons e r ih =>
  obtain ⟨k,y⟩:=e
  simp only [List.cons_append,get] at h
  split at h
  ·rename_i hk;exact .inl ⟨_,List.mem_cons_self ..,hk⟩
  ·rcases ih h with ⟨e,he,hn⟩|h
   ·exact .inl ⟨e,List.mem_cons_of_mem _ he,hn⟩
   ·exact .inr h
theorem Ahead.trans {m m1 m2:Mem} {c c1 c2:Nat} (h:Ahead m m1 c c1) (k:Ahead m1 m2 c1 c2):Ahead m m2 c c2:=by
 obtain ⟨h1,δ1,rfl,h3⟩:=h
 obtain ⟨k1,δ2,rfl,k3⟩:=k
 refine ⟨by omega,δ2++δ1,by rw [List.append_assoc],fun e he=>?_⟩
 rcases List.mem_append.1 he with he|he
 ·rcases k3 e he with ⟨b,hb⟩|hb
  ·rcases get_app _ _ _ hb with ⟨e',he',hn⟩|hb
   ·rcases h3 e' he' with ⟨b',hb'⟩|h
    ·rw [hn] at hb';exact .inl ⟨b',hb'⟩
    ·rw [hn] at h;exact .inr ⟨h.1,by omega⟩
   ·exact .inl ⟨b,hb⟩
  ·exact .inr ⟨by omega,hb.2⟩
 ·rcases h3 e he with h|h
  ·exact .inl h
  ·exact .inr ⟨h.1,by omega⟩
theorem op_touch {call:CallF} (hcall:TouchOk call) {o:Op} {ty:TypeId} {t:Nat→AV} {m m':Mem} {c c':Nat} {v:AV} (h:evOp P call o ty t m c=some (v,m',c')):Ahead m m' c c':=by
 have same:∀ {α:Type} {x:Option α} {g:α→AV},(x.map fun y=>(g y,m,c))=some (v,m',c')→Ahead m m' c c':=by
  intro α x g hx
  cases x with
  | none=>cases hx
  | some y =>
   simp only [Option.map_some,Option.some.injEq,Prod.mk.injEq] at hx
   obtain ⟨_,rfl,rfl⟩:=hx
   exact Ahead.refl _ _
 cases o with
 | move x=>exact same (x:=some x) (g:=evO t) h
 | assign x=>exact same (x:=some x) (g:=evO t) h
 | pick x a b =>
  simp only [evOp] at h
  split at h
  ·exact same (x:=some ()) (g:=fun _=>_) h
  ·cases h
 | alloc e =>
  simp only [evOp] at h
  cases hz:tzero P e with
  | none=>simp [hz] at h
  | some z =>
   simp only [hz,Option.map_some,Option.some.injEq,Prod.mk.injEq] at h
   obtain ⟨_,rfl,rfl⟩:=h
   exact Ahead.one _ _ _
 | box e x =>
  simp only [evOp] at h
  cases hz:(evO t x).cells with
  | none=>simp [hz] at h
  | some z =>
   simp only [hz,Option.map_some,Option.some.injEq,Prod.mk.injEq] at h
   obtain ⟨_,rfl,rfl⟩:=h
   exact Ahead.one _ _ _
 | build bt parts=>exact same h
 | buildSlice bt len parts=>exact ahead_build h
 | load lt x=>exact same h
 | store lt x y =>
  simp only [evOp] at h
  cases hb:evStore P lt (evO t x) (evO t y) m with
  | none=>simp [hb] at h
  | some m0 =>
   simp only [hb,Option.map_some,Option.some.injEq,Prod.mk.injEq] at h
   obtain ⟨_,rfl,rfl⟩:=h
   exact ahead_store hb _
 | nilCheck x =>
  simp only [evOp] at h
  split at h
  ·exact same (x:=some ()) (g:=fun _=>_) h
  ·exact same (x:=some ()) (g:=fun _=>_) h
  ·exact same (x:=some ()) (g:=fun _=>_) h
  ·cases h
 | binOp op xt x y yt=>exact same h
 | unOp op xt x=>exact same h
 | convert a b x=>exact ahead_conv h
 | makeFunc fn first caps =>
  cases fn with
  | func f =>
   simp only [evOp] at h
   split at h
   ·exact same h
   ·cases h
  | _=>simp [evOp] at h
 | makeSlice mt l cp=>exact ahead_make h
 | slice st x lo hi mx=>exact same h
 | fieldAddr s x f=>exact same h
 | field s x f=>exact same h
 | indexAddr it x i=>exact same h
 | index it x i=>exact same h
 | extract x i =>
  simp only [evOp] at h
  split at h
  ·exact same h
  ·cases h
 | call cl =>
  obtain ⟨callee,args,argTypes⟩:=cl
  cases callee with
  | invoke r n=>simp [evOp] at h
  | value f =>
   simp only [evOp] at h
   split at h
   ·exact hcall _ _ _ _ _ _ _ h
   ·cases h
  | builtin b =>
   cases b with
   | append =>
    simp only [evOp] at h
    split at h
    ·exact ahead_append h
    ·cases h
   | copy =>
    simp only [evOp] at h
    split at h
    ·rename_i s x ts tx _ _
     cases hb:evCopy P ts tx (evO t s) (evO t x) m with
     | none=>simp [hb] at h
     | some r =>
      simp only [hb,Option.map_some,Option.some.injEq,Prod.mk.injEq] at h
      obtain ⟨_,rfl,rfl⟩:=h
      exact ahead_copy hb _
    ·cases h
   | clear =>
    simp only [evOp] at h
    split at h
    ·rename_i x tx _ _
     cases hb:evClear P tx (evO t x) m with
     | none=>simp [hb] at h
     | some r =>
      simp only [hb,Option.map_some,Option.some.injEq,Prod.mk.injEq] at h
      obtain ⟨_,rfl,rfl⟩:=h
      exact ahead_clear hb _
    ·cases h
   | len =>
    simp only [evOp] at h
    split at h
    ·exact same h
    ·cases h
   | cap =>
    simp only [evOp] at h
    split at h
    ·exact same h
    ·cases h
   | min =>
    simp only [evOp] at h
    split at h
    ·exact same h
    ·cases h
   | max =>
    simp only [evOp] at h
    split at h
    ·exact same h
    ·cases h
   | _=>simp [evOp] at h
 | _=>simp [evOp] at h
theorem ops_touch {call:CallF} (hcall:TouchOk call) (ops:Array Oper):∀ (l:List Oper) (t:Tm) (m:Mem) (c:Nat) (t':Tm) (m':Mem) (c':Nat),evOps P call ops l t m c=some (t',m',c')→Ahead m m' c c'
 | [],t,m,c,t',m',c',h=>by
  simp only [evOps,Option.some.injEq,Prod.mk.injEq] at h
  obtain ⟨_,rfl,rfl⟩:=h
  exact Ahead.refl _ _
 | o :: r,t,m,c,t',m',c',h=>by
  simp only [evOps] at h
  split at h
  ·split at h
   ·rename_i hop
    exact (op_touch hcall hop).trans (ops_touch hcall ops r _ _ _ _ _ _ h)
   ·cases h
  ·exact ops_touch hcall ops r _ _ _ _ _ _ h
  ·cases h
theorem memOf_dom {bs:List Nat}:∀ (ds:List Mem) (k:Nat) (m:Mem) (n:Nat) (b:Blk),get (memOf bs ds k m) n=some b→(∃ δ∈ds,∃ e∈δ,e.1=n)∨∃ b,get m n=some b
 | [],_,_,_,b,h=>.inr ⟨b,h⟩
 | x :: r,k,m,n,b,h=>by
  simp only [memOf,join_eq] at h
  rcases memOf_dom r _ _ n b h with ⟨δ,h1,h2⟩|⟨b',h⟩
  ·exact .inl ⟨δ,List.mem_cons_of_mem _ h1,h2⟩
  ·split at h
   ·rcases get_app _ _ _ h with ⟨e,he,hn⟩|h
    ·exact .inl ⟨x,List.mem_cons_self ..,e,he,hn⟩
    ·exact .inr ⟨b',h⟩
   ·exact .inr ⟨b',h⟩
theorem evD_touch {call:CallF} (hcall:TouchOk call) {ops:Array Oper} {bss:List (List Nat)} {hid:List Mem} {m0:Mem} (hhid:∀ h∈hid,∀ e∈h,e.2=none) {c0:Nat}:∀ (l:List Oper) (j:Nat) (t:Tm) (ds:List Mem) (c:Nat) (t':Tm) (ds':List Mem) (c':Nat),
  evD P call ops bss hid m0 l j t ds c=some (t',ds',c')→c0≤c→(∀ δ∈ds,Touches m0 c0 c δ)→c≤c'∧∀ δ∈ds',Touches m0 c0 c' δ
 | [],j,t,ds,c,t',ds',c',h,hc,hd=>by
  simp only [evD,Option.some.injEq,Prod.mk.injEq] at h
  obtain ⟨_,rfl,rfl⟩:=h
  exact ⟨Nat.le_refl _,hd⟩
 | o :: r,j,t,ds,c,t',ds',c',h,hc,hd=>by
  simp only [evD] at h
  split at h
  ·split at h
   ·rename_i v m1 c1 hop
    obtain ⟨h1,δ,h2,h3⟩:=op_touch hcall hop
    have e:m1.take (m1.length - (roomOf bss hid m0 ds j).length)=δ:=by rw [h2];simp
    rw [e] at h
    have hδ:Touches m0 c0 c1 δ:=by
     intro e he
     rcases h3 e he with ⟨b,hb⟩|hb
     ·have hb2:get (memOf (bss.getD j []) ds 0 m0) e.1=some b:=by
       unfold roomOf at hb
       have:∀ (h:Mem),(∀ e∈h,e.2=none)→get (h++memOf (bss.getD j []) ds 0 m0) e.1=some b→get (memOf (bss.getD j []) ds 0 m0) e.1=some b:=by
        intro h
        induction h with
        | nil=>intro _ h;exact h
        | cons q r ih2 =>
         intro hn hg
         obtain ⟨k,x⟩:=q
         simp only [List.cons_append,get] at hg
         split at hg
         ·have:=hn (k,x) (by simp)
          simp only at this
          rw [this] at hg
          cases hg
         ·exact ih2 (fun e he=>hn e (by simp [he])) hg
       refine this _ (fun e he=>?_) hb
       rw [List.getD_eq_getElem?_getD] at he
       cases hh:hid[j]? with
       | none=>rw [hh] at he;simp at he
       | some x=>rw [hh] at he;exact hhid x (List.mem_of_getElem? hh) e he
      rcases memOf_dom _ _ _ _ _ hb2 with ⟨δ',hδ',e',he',hn⟩|hb3
      ·rcases hd δ' hδ' e' he' with h|h
       ·rw [hn] at h;exact .inl h
       ·rw [hn] at h;exact .inr ⟨h.1,by omega⟩
      ·exact .inl hb3
     ·exact .inr ⟨by omega,hb.2⟩
    obtain ⟨k1,k2⟩:=evD_touch (c0:=c0) hcall hhid r (j+1) _ _ _ _ _ _ h (by omega) (fun δ' hδ'=>by
     rcases List.mem_append.1 hδ' with h4|h4
     ·exact fun e he=>by
       rcases hd δ' h4 e he with h|h
       ·exact .inl h
       ·exact .inr ⟨h.1,by omega⟩
     ·obtain rfl:δ'=δ:=by simpa using h4
      exact hδ)
    exact ⟨by omega,k2⟩
   ·cases h
  ·refine evD_touch (c0:=c0) hcall hhid r (j+1) _ _ _ _ _ _ h hc (fun δ' hδ'=>?_)
   rcases List.mem_append.1 hδ' with h4|h4
   ·exact hd δ' h4
   ·obtain rfl:δ'=[]:=by simpa using h4
    exact fun e he=>by cases he
  ·cases h
theorem allOf_mem:∀ (ds:List Mem) (m:Mem) (e:Nat × Option Blk),e∈allOf ds m→(∃ δ∈ds,e∈δ)∨e∈m
 | [],_,_,h=>.inr h
 | x :: r,m,e,h=>by
  simp only [allOf] at h
  rcases allOf_mem r _ e h with ⟨δ,h1,h2⟩|h
  ·exact .inl ⟨δ,List.mem_cons_of_mem _ h1,h2⟩
  ·rcases List.mem_append.1 h with h|h
   ·exact .inl ⟨x,List.mem_cons_self ..,h⟩
   ·exact .inr h
theorem touch_all {m:Mem} {c c':Nat} {ds:List Mem} (hc:c≤c') (h:∀ δ∈ds,Touches m c c' δ):Ahead m (allOf ds m) c c' :=
 ⟨hc,allOf ds [],allOf_eq ds m,fun e he=>by
  rcases allOf_mem ds [] e he with ⟨δ,h1,h2⟩|h2
  ·exact h δ h1 e h2
  ·cases h2⟩
theorem reg_touch {call:CallF} (hcall:TouchOk call) {ops:Array Oper} {draw:Bool} {t t':Tm} {m m':Mem} {c c':Nat} (h:regAll P call ops draw t m c=some (t',m',c')):Ahead m m' c c':=by
 unfold regAll at h
 cases draw with
 | false=>exact ops_touch hcall ops _ _ _ _ _ _ _ h
 | true =>
  simp only [if_true] at h
  unfold evDrawn at h
  split at h
  ·split at h
   ·rename_i t1 ds c1 hrun
    split at h
    ·rename_i hdy
     simp only [Option.some.injEq,Prod.mk.injEq] at h
     obtain ⟨_,rfl,rfl⟩:=h
     obtain ⟨k1,k2⟩:=evD_touch hcall (by simp) _ _ _ _ _ _ _ _ hrun (Nat.le_refl c) (by simp)
     exact touch_all k1 k2
    ·split at h
     ·rename_i t2 ds2 c2 hrun2
      split at h
      ·rename_i hdy2
       simp only [Option.some.injEq,Prod.mk.injEq] at h
       obtain ⟨_,rfl,rfl⟩:=h
       obtain ⟨k1,k2⟩:=evD_touch hcall (fun h hh e he=>by
        have hd:=(Bool.and_eq_true _ _ ▸ hdy2).1
        simp only [List.all_eq_true] at hd
        simpa using hd h hh e he) _ _ _ _ _ _ _ _ hrun2 (Nat.le_refl c) (by simp)
       exact touch_all k1 k2
      ·cases h
     ·cases h
   ·cases h
  ·cases h
theorem step_touch {call:CallF} (hcall:TouchOk call) {rec:Code→St→Option (Ex × St)} (hrec:TouchCode rec):TouchCode (evStep (regAll P) call rec):=by
 intro code s e s' h
 cases code with
 | skip=>simp only [evStep,Option.some.injEq,Prod.mk.injEq] at h;obtain ⟨_,rfl⟩:=h;exact Ahead.refl _ _
 | label l=>simp only [evStep,Option.some.injEq,Prod.mk.injEq] at h;obtain ⟨_,rfl⟩:=h;exact Ahead.refl _ _
 | exit id=>simp only [evStep,Option.some.injEq,Prod.mk.injEq] at h;obtain ⟨_,rfl⟩:=h;exact Ahead.refl _ _
 | ret=>simp only [evStep,Option.some.injEq,Prod.mk.injEq] at h;obtain ⟨_,rfl⟩:=h;exact Ahead.refl _ _
 | region id ops draw =>
  simp only [evStep] at h
  cases hr:regAll P call ops draw s.t s.m s.c with
  | none=>simp [hr] at h
  | some p =>
   obtain ⟨t',m',c'⟩:=p
   simp only [hr,Option.map_some,Option.some.injEq,Prod.mk.injEq] at h
   obtain ⟨_,rfl⟩:=h
   exact reg_touch hcall hr
 | seq x y =>
  simp only [evStep] at h
  split at h
  ·rename_i h1;exact (hrec _ _ _ _ h1).trans (hrec _ _ _ _ h)
  ·exact hrec _ _ _ _ h
 | cond x y z =>
  simp only [evStep] at h
  split at h
  ·exact hrec _ _ _ _ h
  ·cases h
 | block id body =>
  simp only [evStep] at h
  split at h
  ·rename_i h1
   split at h
   ·simp only [Option.some.injEq,Prod.mk.injEq] at h;obtain ⟨_,rfl⟩:=h;exact hrec _ _ _ _ h1
   ·simp only [Option.some.injEq,Prod.mk.injEq] at h;obtain ⟨_,rfl⟩:=h;exact hrec _ _ _ _ h1
  ·exact hrec _ _ _ _ h
 | loop body =>
  simp only [evStep] at h
  split at h
  ·rename_i h1;exact (hrec _ _ _ _ h1).trans (hrec _ _ _ _ h)
  ·exact hrec _ _ _ _ h
 | _=>simp [evStep] at h
end Go.Proofs.Ytaelliigpclipaa.Eng
