/- The reckoner,by hand: what a piece of code,a loop,a call does,as facts that are put together. -/
import Derived.Test.YtaelliigpclipaaEngS
import Derived.Test.YtaelliigpclipaaEngW
namespace Go.Proofs.Ytaelliigpclipaa.Eng
set_option linter.unusedVariables false
set_option linter.unusedSimpArgs false
open Go Go.RowKit
variable {P:Program}
structure Steps (s s':St) (δ:Mem):Prop where
 ag:∀ M,Agree s.m M→Agree s'.m (upd δ M)
 old:Touches s.m s.c s'.c δ
theorem Steps.known {s s':St} {δ:Mem} (h:Steps s s' δ) {n:Nat} {b:Blk} (hb:get s'.m n=some b):(∃ b,get s.m n=some b)∨(s.c≤n∧n < s'.c):=by
 have h1:=h.ag (get s.m) (fun _ _ h=>h) n b hb
 unfold upd at h1
 split at h1
 ·rename_i e he
  have h2:=List.find?_some he
  have h3:=h.old e (List.mem_of_find?_eq_some he)
  rw [beq_iff_eq.1 h2] at h3
  exact h3
 ·exact .inl ⟨b,h1⟩
theorem Steps.trans {s s1 s':St} {δ1 δ2:Mem} (h:Steps s s1 δ1) (k:Steps s1 s' δ2) (h1:s.c≤s1.c) (h2:s1.c≤s'.c):Steps s s' (δ2++δ1):=by
 refine ⟨fun M hM=>by rw [upd_append];exact k.ag _ (h.ag M hM),fun e he=>?_⟩
 rcases List.mem_append.1 he with he|he
 ·rcases k.old e he with ⟨b,hb⟩|hb
  ·rcases h.known hb with h3|h3
   ·exact .inl h3
   ·exact .inr (by omega)
  ·exact .inr (by omega)
 ·rcases h.old e he with hb|hb
  ·exact .inl hb
  ·exact .inr (by omega)
theorem Steps.of_ahead {s s':St} {δ:Mem} (h:s'.m=δ++s.m) (ht:Touches s.m s.c s'.c δ):Steps s s' δ:=⟨fun M hM=>by rw [h];exact upd_here hM δ,ht⟩
theorem Steps.nil (s:St):Steps s s []:=⟨fun M hM=>hM,fun e he=>by cases he⟩
def CodeDoes (P:Program) (B:Nat) (code:Code) (s:St) (e:Ex) (s':St):Prop:=s.c≤s'.c∧∃ δ,Steps s s' δ ∧
 ∀ ρ M (a:Act) w,a.defers=[]→TR ρ s.t a.tmps→Agree s.m M→Fresh ρ s.c s'.c→Sat B ρ M w →
  ∀ Q:Exit→Act→World→Prop,(∀ ρ' (a':Act) w',a'.defers=[]→TR ρ' s'.t a'.tmps→Ext ρ ρ' s.c s'.c→Sat B ρ' (upd δ M) w'→Below B w w'→Q e.to a' w')→code.wp P Q a w
def LoopDoes (P:Program) (B:Nat) (body:Code) (s:St) (e:Ex) (s':St):Prop:=s.c≤s'.c∧∃ δ,Steps s s' δ∧∃ k,
 ∀ ρ M (a:Act) w,a.defers=[]→TR ρ s.t a.tmps→Agree s.m M→Fresh ρ s.c s'.c→Sat B ρ M w →
  ∀ Q:Exit→Act→World→Prop,(∀ ρ' (a':Act) w',a'.defers=[]→TR ρ' s'.t a'.tmps→Ext ρ ρ' s.c s'.c→Sat B ρ' (upd δ M) w'→Below B w w'→Q e.to a' w')→Code.rounds P body Q k a w
structure Less (s s':St):Prop where
 n:s.t.n=s'.t.n
 t:∀ d,look s.t d=.any∨look s.t d=look s'.t d
 m:∀ n b,get s.m n=some b→get s'.m n=some b
 c:s.c=s'.c
theorem Less.tr {ρ:Rho} {s s':St} (h:Less s s') {tmps:Array Value} (k:TR ρ s'.t tmps):TR ρ s.t tmps:=⟨h.n.trans k.1,fun d=>by
 rcases h.t d with e|e
 ·rw [e];trivial
 ·rw [e];exact k.2 d⟩
theorem Less.agree {s s':St} (h:Less s s') {M:MemF} (k:Agree s'.m M):Agree s.m M:=fun n b hb=>k n b (h.m n b hb)
theorem Less.steps {s s1 s':St} {δ:Mem} (hl:Less s1 s) (h:Steps s1 s' δ):Steps s s' δ:=⟨fun M hM=>h.ag M (hl.agree hM),fun e he=>by
 rcases h.old e he with ⟨b,hb⟩|hb
 ·exact .inl ⟨b,hl.m _ _ hb⟩
 ·exact .inr (by rw [← hl.c];exact hb)⟩
theorem Steps.less {s s1 s':St} {δ:Mem} (h:Steps s s1 δ) (hl:Less s' s1):Steps s s' δ:=⟨fun M hM=>hl.agree (h.ag M hM),fun e he=>by
 rcases h.old e he with hb|hb
 ·exact .inl hb
 ·exact .inr (by rw [hl.c];exact hb)⟩
theorem CodeDoes.before {B:Nat} {code:Code} {s s1:St} {e:Ex} {s':St} (h:CodeDoes P B code s1 e s') (hl:Less s1 s):CodeDoes P B code s e s':=by
 obtain ⟨a1,δ,a2,a3⟩:=h
 exact ⟨by rw [← hl.c];exact a1,δ,hl.steps a2,fun ρ M a w hd ht hm hfr hs Q hQ=>a3 ρ M a w hd (hl.tr ht) (hl.agree hm) (by rw [hl.c];exact hfr) hs Q (fun ρ' a' w' x1 x2 x3 x4 x5=>hQ ρ' a' w' x1 x2 (by rw [← hl.c];exact x3) x4 x5)⟩
theorem CodeDoes.after {B:Nat} {code:Code} {s s' s1:St} {e:Ex} (h:CodeDoes P B code s e s1) (hl:Less s' s1):CodeDoes P B code s e s':=by
 obtain ⟨a1,δ,a2,a3⟩:=h
 exact ⟨by rw [hl.c];exact a1,δ,a2.less hl,fun ρ M a w hd ht hm hfr hs Q hQ=>a3 ρ M a w hd ht hm (by rw [← hl.c];exact hfr) hs Q (fun ρ' a' w' x1 x2 x3 x4 x5=>hQ ρ' a' w' x1 (hl.tr x2) (by rw [hl.c];exact x3) x4 x5)⟩
theorem CodeOk.does {B:Nat} {rec:Code→St→Option (Ex × St)} (h:CodeOk P B rec) (ht:TouchCode rec) {code:Code} {s s':St} {e:Ex} (hr:rec code s=some (e,s')):CodeDoes P B code s e s':=by
 obtain ⟨a1,δ,a2,a3⟩:=h _ _ _ _ hr
 obtain ⟨_,δ',b2,b3⟩:=ht _ _ _ _ hr
 have:δ=δ':=List.append_cancel_right (a2.symm.trans b2)
 subst this
 exact ⟨a1,δ,Steps.of_ahead a2 b3,a3⟩
theorem CodeDoes.seq {B:Nat} {x y:Code} {s s1 s':St} {e:Ex} (h:CodeDoes P B x s .normal s1) (k:CodeDoes P B y s1 e s'):CodeDoes P B (.seq x y) s e s':=by
 obtain ⟨a1,δ1,a2,a3⟩:=h
 obtain ⟨b1,δ2,b2,b3⟩:=k
 refine ⟨by omega,δ2++δ1,a2.trans b2 a1 b1,fun ρ M a w hd ht hm hfr hs Q hQ=>wp_seq ?_⟩
 refine a3 ρ M a w hd ht hm (hfr.first b1) hs _ (fun ρ' a' w' x1 x2 x3 x4 x5=>?_)
 show y.wp P Q a' w'
 exact b3 ρ' (upd δ1 M) a' w' x1 x2 (a2.ag M hm) (hfr.rest x3 a1) x4 Q (fun ρ'' a'' w'' y1 y2 y3 y4 y5=>hQ ρ'' a'' w'' y1 y2 (x3.trans y3 a1 b1) (by rw [upd_append];exact y4) (x5.trans y5))
theorem CodeDoes.seq_out {B:Nat} {x y:Code} {s s':St} {e:Ex} (h:CodeDoes P B x s e s') (he:e≠.normal):CodeDoes P B (.seq x y) s e s':=by
 obtain ⟨a1,δ1,a2,a3⟩:=h
 refine ⟨a1,δ1,a2,fun ρ M a w hd ht hm hfr hs Q hQ=>wp_seq ?_⟩
 refine a3 ρ M a w hd ht hm hfr hs _ (fun ρ' a' w' x1 x2 x3 x4 x5=>?_)
 cases e with
 | normal=>exact absurd rfl he
 | exit id=>exact hQ ρ' a' w' x1 x2 x3 x4 x5
 | ret=>exact hQ ρ' a' w' x1 x2 x3 x4 x5
theorem CodeDoes.cond {B:Nat} {x:Operand} {y z:Code} {s s':St} {e:Ex} {q:Bool} (hq:evO (look s.t) x=.s (.bool q)) (h:CodeDoes P B (if q then y else z) s e s'):CodeDoes P B (.cond x y z) s e s':=by
 obtain ⟨a1,δ1,a2,a3⟩:=h
 refine ⟨a1,δ1,a2,fun ρ M a w hd ht hm hfr hs Q hQ=>?_⟩
 have hx:=evO_ok ht.2 x
 rw [hq] at hx
 exact wp_cond (t:=q) hx (a3 ρ M a w hd ht hm hfr hs Q hQ)
theorem CodeDoes.block {B:Nat} {id:Nat} {body:Code} {s s':St} {e:Ex} (h:CodeDoes P B body s e s') (he:∀ i,e≠.exit i):CodeDoes P B (.block id body) s e s':=by
 obtain ⟨a1,δ1,a2,a3⟩:=h
 refine ⟨a1,δ1,a2,fun ρ M a w hd ht hm hfr hs Q hQ=>wp_block ?_⟩
 refine a3 ρ M a w hd ht hm hfr hs _ (fun ρ' a' w' x1 x2 x3 x4 x5=>?_)
 cases e with
 | normal=>exact hQ ρ' a' w' x1 x2 x3 x4 x5
 | exit id'=>exact absurd rfl (he id')
 | ret=>exact hQ ρ' a' w' x1 x2 x3 x4 x5
theorem CodeDoes.block_exit {B:Nat} {id:Nat} {body:Code} {s s':St} (h:CodeDoes P B body s (.exit id) s'):CodeDoes P B (.block id body) s .normal s':=by
 obtain ⟨a1,δ1,a2,a3⟩:=h
 refine ⟨a1,δ1,a2,fun ρ M a w hd ht hm hfr hs Q hQ=>wp_block ?_⟩
 refine a3 ρ M a w hd ht hm hfr hs _ (fun ρ' a' w' x1 x2 x3 x4 x5=>?_)
 show Exit.inBlock id Q (.exit id) a' w'
 simp only [Exit.inBlock,if_true]
 exact hQ ρ' a' w' x1 x2 x3 x4 x5
theorem CodeDoes.block_out {B:Nat} {id id':Nat} {body:Code} {s s':St} (h:CodeDoes P B body s (.exit id') s') (hne:id'≠id):CodeDoes P B (.block id body) s (.exit id') s':=by
 obtain ⟨a1,δ1,a2,a3⟩:=h
 refine ⟨a1,δ1,a2,fun ρ M a w hd ht hm hfr hs Q hQ=>wp_block ?_⟩
 refine a3 ρ M a w hd ht hm hfr hs _ (fun ρ' a' w' x1 x2 x3 x4 x5=>?_)
 show Exit.inBlock id Q (.exit id') a' w'
 simp only [Exit.inBlock,hne,if_false]
 exact hQ ρ' a' w' x1 x2 x3 x4 x5
theorem LoopDoes.more {B:Nat} {body:Code} {s s1 s':St} {e:Ex} (h:CodeDoes P B body s .normal s1) (k:LoopDoes P B body s1 e s'):LoopDoes P B body s e s':=by
 obtain ⟨a1,δ1,a2,a3⟩:=h
 obtain ⟨b1,δ2,b2,k,b3⟩:=k
 refine ⟨by omega,δ2++δ1,a2.trans b2 a1 b1,k+1,fun ρ M a w hd ht hm hfr hs Q hQ=>?_⟩
 rw [rounds_succ]
 refine a3 ρ M a w hd ht hm (hfr.first b1) hs _ (fun ρ' a' w' x1 x2 x3 x4 x5=>?_)
 show Code.rounds P body Q k a' w'
 exact b3 ρ' (upd δ1 M) a' w' x1 x2 (a2.ag M hm) (hfr.rest x3 a1) x4 Q (fun ρ'' a'' w'' y1 y2 y3 y4 y5=>hQ ρ'' a'' w'' y1 y2 (x3.trans y3 a1 b1) (by rw [upd_append];exact y4) (x5.trans y5))
theorem LoopDoes.last {B:Nat} {body:Code} {s s':St} {e:Ex} (h:CodeDoes P B body s e s') (he:e≠.normal):LoopDoes P B body s e s':=by
 obtain ⟨a1,δ1,a2,a3⟩:=h
 refine ⟨a1,δ1,a2,1,fun ρ M a w hd ht hm hfr hs Q hQ=>?_⟩
 rw [rounds_succ]
 refine a3 ρ M a w hd ht hm hfr hs _ (fun ρ' a' w' x1 x2 x3 x4 x5=>?_)
 cases e with
 | normal=>exact absurd rfl he
 | exit id=>exact hQ ρ' a' w' x1 x2 x3 x4 x5
 | ret=>exact hQ ρ' a' w' x1 x2 x3 x4 x5
theorem LoopDoes.code {B:Nat} {body:Code} {s s':St} {e:Ex} (h:LoopDoes P B body s e s'):CodeDoes P B (.loop body) s e s':=by
 obtain ⟨a1,δ1,a2,k,a3⟩:=h
 exact ⟨a1,δ1,a2,fun ρ M a w hd ht hm hfr hs Q hQ=>wp_loop_rounds k (a3 ρ M a w hd ht hm hfr hs Q hQ)⟩
def CallDoes (P:Program) (B:Nat) (f:FuncId) (args:List AV) (m:Mem) (c:Nat) (v:AV) (m':Mem) (c':Nat):Prop:=Enters P f∧c≤c'∧∃ δ,m'=δ++m∧Touches m c c' δ ∧
 ∀ ρ M args' w,ArgsR ρ args args'→Agree m M→Fresh ρ c c'→Sat B ρ M w→Calls P f args' w fun e w'=>∃ v',e=.returned v'∧Post B ρ M c c' w v δ v' w'
theorem CallDoes.ok {B:Nat} {f:FuncId} {args:List AV} {m m':Mem} {c c':Nat} {v:AV} (h:CallDoes P B f args m c v m' c'):Enters P f∧c≤c'∧∃ δ,m'=δ++m ∧
 ∀ ρ M args' w,ArgsR ρ args args'→Agree m M→Fresh ρ c c'→Sat B ρ M w→Calls P f args' w fun e w'=>∃ v',e=.returned v'∧Post B ρ M c c' w v δ v' w':=by
 obtain ⟨h1,h2,δ,h3,_,h4⟩:=h
 exact ⟨h1,h2,δ,h3,h4⟩
theorem CallDoes.ahead {B:Nat} {f:FuncId} {args:List AV} {m m':Mem} {c c':Nat} {v:AV} (h:CallDoes P B f args m c v m' c'):Ahead m m' c c':=by
 obtain ⟨h1,h2,δ,h3,h5,h4⟩:=h
 exact ⟨h2,δ,h3,h5⟩
def evC (P:Program) (call:CallF):Nat→Code→St→Option (Ex × St)
 | 0=>fun _ _=>none
 | n+1=>evStep (regAll P) call (evC P call n)
theorem evC_ok {B:Nat} (hmix:P.follows .mixedOrders=true) {call:CallF} (hcall:CallOk P B call):∀ n,CodeOk P B (evC P call n)∧LoopOk P B (evC P call n)
 | 0=>⟨fun _ _ _ _ h=>by simp [evC] at h,fun _ _ _ _ h=>by simp [evC] at h⟩
 | n+1=>by
  obtain ⟨h1,h2⟩:=evC_ok hmix hcall n
  exact step_ok (reg_ok hmix) hcall h1 h2
theorem evC_touch {call:CallF} (hcall:TouchOk call):∀ n,TouchCode (evC P call n)
 | 0=>fun _ _ _ _ h=>by simp [evC] at h
 | n+1=>step_touch hcall (evC_touch hcall n)
def evS (P:Program) (call:CallF):Code→St→Option (Ex × St)
 | .skip,s=>some (.normal,s)
 | .label _,s=>some (.normal,s)
 | .region _ ops draw,s=>match regAll P call ops draw s.t s.m s.c with
  | some (t,m,c)=>some (.normal,⟨t,m,c⟩)
  | none=>none
 | .seq a b,s=>match evS P call a s with
  | some (.normal,s')=>evS P call b s'
  | r=>r
 | .cond x a b,s=>match evO (look s.t) x with
  | .s (.bool true)=>evS P call a s
  | .s (.bool false)=>evS P call b s
  | _=>none
 | .block id body,s=>match evS P call body s with
  | some (.exit id',s')=>if id'=id then some (.normal,s') else some (.exit id',s')
  | r=>r
 | .exit id,s=>some (.exit id,s)
 | .ret,s=>some (.ret,s)
 | _,_=>none
theorem evS_does {B:Nat} (hmix:P.follows .mixedOrders=true) {call:CallF} (hcall:CallOk P B call) (htouch:TouchOk call):∀ {code:Code} {s s':St} {e:Ex},evS P call code s=some (e,s')→CodeDoes P B code s e s'
 | .skip,s,s',e,h=>by
  simp only [evS,Option.some.injEq,Prod.mk.injEq] at h
  obtain ⟨rfl,rfl⟩:=h
  exact CodeOk.does (evC_ok hmix hcall 1).1 (evC_touch htouch 1) rfl
 | .label l,s,s',e,h=>by
  simp only [evS,Option.some.injEq,Prod.mk.injEq] at h
  obtain ⟨rfl,rfl⟩:=h
  exact CodeOk.does (evC_ok hmix hcall 1).1 (evC_touch htouch 1) rfl
 | .exit i,s,s',e,h=>by
  simp only [evS,Option.some.injEq,Prod.mk.injEq] at h
  obtain ⟨rfl,rfl⟩:=h
  exact CodeOk.does (evC_ok hmix hcall 1).1 (evC_touch htouch 1) rfl
 | .ret,s,s',e,h=>by
  simp only [evS,Option.some.injEq,Prod.mk.injEq] at h
  obtain ⟨rfl,rfl⟩:=h
  exact CodeOk.does (evC_ok hmix hcall 1).1 (evC_touch htouch 1) rfl
 | .region id ops draw,s,s',e,h=>by
  refine CodeOk.does (evC_ok hmix hcall 1).1 (evC_touch htouch 1) ?_
  simp only [evS] at h
  simp only [evC,evStep]
  generalize regAll P call ops draw s.t s.m s.c=y at h
  rcases y with _|⟨t,m,c⟩
  ·cases h
  ·simpa using h
 | .seq a b,s,s',e,h=>by
  simp only [evS] at h
  cases ha:evS P call a s with
  | none=>rw [ha] at h;cases h
  | some p =>
   obtain ⟨e1,s1⟩:=p
   rw [ha] at h
   cases e1 with
   | normal=>exact (evS_does hmix hcall htouch ha).seq (evS_does hmix hcall htouch h)
   | exit i =>
    simp only [Option.some.injEq,Prod.mk.injEq] at h
    obtain ⟨rfl,rfl⟩:=h
    exact (evS_does hmix hcall htouch ha).seq_out (by simp)
   | ret =>
    simp only [Option.some.injEq,Prod.mk.injEq] at h
    obtain ⟨rfl,rfl⟩:=h
    exact (evS_does hmix hcall htouch ha).seq_out (by simp)
 | .cond x a b,s,s',e,h=>by
  simp only [evS] at h
  split at h
  ·rename_i hq;exact CodeDoes.cond hq (evS_does hmix hcall htouch h)
  ·rename_i hq;exact CodeDoes.cond hq (evS_does hmix hcall htouch h)
  ·cases h
 | .block id body,s,s',e,h=>by
  simp only [evS] at h
  cases ha:evS P call body s with
  | none=>rw [ha] at h;cases h
  | some p =>
   obtain ⟨e1,s1⟩:=p
   rw [ha] at h
   cases e1 with
   | normal =>
    simp only [Option.some.injEq,Prod.mk.injEq] at h
    obtain ⟨rfl,rfl⟩:=h
    exact (evS_does hmix hcall htouch ha).block (by simp)
   | exit i =>
    simp only at h
    split at h
    ·rename_i hi
     subst hi
     simp only [Option.some.injEq,Prod.mk.injEq] at h
     obtain ⟨rfl,rfl⟩:=h
     exact (evS_does hmix hcall htouch ha).block_exit
    ·rename_i hi
     simp only [Option.some.injEq,Prod.mk.injEq] at h
     obtain ⟨rfl,rfl⟩:=h
     exact (evS_does hmix hcall htouch ha).block_out hi
   | ret =>
    simp only [Option.some.injEq,Prod.mk.injEq] at h
    obtain ⟨rfl,rfl⟩:=h
    exact (evS_does hmix hcall htouch ha).block (by simp)
 | .loop b,_,_,_,h=>by simp [evS] at h
 | .rangeFunc ..,_,_,_,h=>by simp [evS] at h
 | .scope _,_,_,_,h=>by simp [evS] at h
 | .goto _,_,_,_,h=>by simp [evS] at h
 | .refuse _,_,_,_,h=>by simp [evS] at h
def Lf:Code→Code
 | .seq a _=>a
 | .block _ b=>b
 | .loop b=>b
 | .cond _ a _=>a
 | c=>c
def Rt:Code→Code
 | .seq _ b=>b
 | .cond _ _ b=>b
 | c=>c
section
variable {call:CallF} {ops:Array Oper} {r:List Oper} {n:Nat} {l:List (Nat × AV)} {m m1:Mem} {c c1:Nat} {R:Option (Tm × Mem × Nat)} {v:AV} {d:Nat} {op:Op} {ty:TypeId} {pos:String} {af:Array Edge} {g:Option (Nat × Bool)}
end
theorem CallDoes.of_body {B : Nat} {f : FuncId} {fn : Func} {body : Code} {args : List AV} {m m' : Mem} {c : Nat} {e : Ex} {s' : St} {v : AV} (hf : P.funcs[f]? = some fn) (hb : fn.body = some body) (hname : (fn.name == "runtime.NumGoroutine") = false)
  (h:CodeDoes P B body ⟨⟨args.length+(fn.ntmps - args.length),enum 0 args⟩,m,c⟩ e s') (he:e=.normal∨e=.ret) (hr:evResults P fn s'=some v) (δ:Mem) (hm':m'=δ++m) (hto:Touches m c s'.c δ)
  (hδ:∀ (ρ:Rho) (M:MemF),Agree m M→(∀ n,c≤n→n < s'.c→M n=none)→∀ n b,upd δ M n=some b→∀ δ0,Steps ⟨⟨args.length+(fn.ntmps - args.length),enum 0 args⟩,m,c⟩ s' δ0→upd δ0 M n=some b):CallDoes P B f args m c v m' s'.c:=by
 obtain ⟨h1,δ0,h2,h3⟩:=h
 refine ⟨⟨fn,hf,hname,by rw [hb];rfl⟩,h1,δ,hm',hto,fun ρ M args' w ha hm hfr hs=>?_⟩
 refine calls_of_wp hf hb (h3 ρ M _ w rfl ?_ hm hfr hs _ ?_)
 ·refine ⟨by simp [ha.1],fun d=>?_⟩
  show VR ρ (lk (enum 0 args) d) ((args'++Array.replicate (fn.ntmps - args'.size) undef).getD d undef)
  rw [lk_enum,if_pos (Nat.zero_le _),Nat.sub_zero]
  cases hx:args[d]? with
  | none=>trivial
  | some x =>
   have hlt:d < args'.size:=by rw [← ha.1];exact (List.getElem?_eq_some_iff.1 hx).1
   have:(args'++Array.replicate (fn.ntmps - args'.size) undef).getD d undef=args'[d]:=by
    rw [Array.getD_eq_getD_getElem?,Array.getElem?_append,if_pos hlt,Array.getElem?_eq_getElem hlt]
    rfl
   rw [this]
   exact ha.2 d x _ hx (Array.getElem?_eq_getElem hlt)
 ·intro ρ' a' w' hd ht he' hs' hbel
  obtain ⟨v',r1,r2⟩:=results_ok hr ht (h2.ag M hm) hs'
  have hs2:Sat B ρ' (upd δ M) w':=hs'.sub (fun n b hn=>hδ ρ M hm (fun k p q=>hs.gone (hfr k p q)) n b hn δ0 h2)
  have:a'.defers=[]∧∃ v,(results fn a'.tmps).run P w'=.ok v w'∧∃ v',(Ending.returned v)=.returned v'∧Post B ρ M c s'.c w _ δ v' w':=⟨hd,v',r1,v',rfl,ρ',he',r2,hs2,hbel⟩
  rcases he with rfl|rfl
  ·exact this
  ·exact this
end Go.Proofs.Ytaelliigpclipaa.Eng
