/- The reckoner: an operation,whatever it is,comes to what is reckoned of it. -/
import Derived.Test.YtaelliigpclipaaEngG
namespace Go.Proofs.Ytaelliigpclipaa.Eng
set_option linter.unusedVariables false
set_option linter.unusedSimpArgs false
open Go Go.RowKit
variable {P:Program}
def ArgsR (ρ:Rho) (args:List AV) (args':Array Value):Prop:=args.length=args'.size∧∀ (i:Nat) x y,args[i]?=some x→args'[i]?=some y→VR ρ x y
def Enters (P : Program) (f : FuncId) : Prop := ∃ fn, P.funcs[f]? = some fn ∧ (fn.name == "runtime.NumGoroutine") = false ∧ fn.body.isNone = false
def CallOk (P:Program) (B:Nat) (call:CallF):Prop:=∀ f args m c v m' c',call f args m c=some (v,m',c')→Enters P f∧c≤c'∧∃ δ,m'=δ++m ∧
 ∀ ρ M args' w,ArgsR ρ args args'→Agree m M→Fresh ρ c c'→Sat B ρ M w→Calls P f args' w fun e w'=>∃ v',e=.returned v'∧Post B ρ M c c' w v δ v' w'
def OpDoes (P:Program) (o:Oper) (a:Act) (w:World) (R:Value→World→Prop):Prop:=∀ K Q,(∀ v' w',R v' w'→K (a.put o.dst v') w')→o.wp P a w K Q
theorem OpDoes.value {o:Oper} {a:Act} {w w':World} {R:Value→World→Prop} {v':Value} (h:(execOp a.eval o).run P w=.ok (.value v') w') (hr:R v' w'):OpDoes P o a w R:=by
 intro K Q hk
 unfold Oper.wp
 rw [h]
 exact hk v' w' hr
theorem OpDoes.skip {o:Oper} {a:Act} {w w':World} {R:Value→World→Prop} (h:(execOp a.eval o).run P w=.ok .skip w') (hr:R undef w'):OpDoes P o a w R:=by
 intro K Q hk
 unfold Oper.wp
 rw [h]
 exact hk undef w' hr
theorem evO_ok {ρ:Rho} {t:Nat→AV} {a:Act} (ht:∀ d,VR ρ (t d) (a.tmps.getD d undef)) (x:Operand):VR ρ (evO t x) (a.eval x):=by
 cases x with
 | tmp d=>exact ht d
 | const v=>exact ofVal_ok v
 | global g=>trivial
 | func f=>exact ⟨#[],rfl,rfl,fun i p c h=>by simp at h⟩
theorem map_parts {ρ:Rho} {t:Nat→AV} {a:Act} (parts:Array (Nat × Operand)) (h:∀ p∈parts.toList,VR ρ (evO t p.2) (a.eval p.2)) :
  (parts.toList.map fun p=>(p.1,evO t p.2)).map (·.1)=(parts.map fun (i,x)=>(i,a.eval x)).toList.map (·.1) ∧
  ∀ (i:Nat) x y,(parts.toList.map fun p=>(p.1,evO t p.2))[i]?=some x→(parts.map fun (i,x)=>(i,a.eval x)).toList[i]?=some y→VR ρ x.2 y.2:=by
 refine ⟨by simp,fun i x y p q=>?_⟩
 simp only [Array.toList_map,List.getElem?_map] at p q
 cases hp:parts.toList[i]? with
 | none=>simp [hp] at p
 | some z =>
  rw [hp] at p q
  obtain rfl:=(Option.some.inj p)
  obtain rfl:=(Option.some.inj q)
  exact h z (List.mem_of_getElem? hp)
theorem mmAll_ok {ρ:Rho} {w:World} {mx:Bool}:∀ {r:List AV} {r':List Value} {x v:AV} {x':Value},mmAll mx x r=some v→VR ρ x x'→r.length=r'.length→(∀ (i:Nat) a b,r[i]?=some a→r'[i]?=some b→VR ρ a b) →
  ∃ v',(r'.foldlM (if mx then Builtin.max2 else Builtin.min2) x').run P w=.ok v' w∧VR ρ v v'
 | [],r',x,v,x',h,hx,hl,_=>by
  obtain rfl:r'=[]:=List.eq_nil_of_length_eq_zero hl.symm
  obtain rfl:x=v:=by simpa [mmAll] using h
  exact ⟨x',by simp,hx⟩
 | y :: r,r',x,v,x',h,hx,hl,hr=>by
  cases r' with
  | nil=>simp at hl
  | cons y' r' =>
   simp only [mmAll] at h
   cases hm:mm mx x y with
   | none=>simp [hm] at h
   | some z =>
    simp only [hm,Option.bind_some] at h
    obtain ⟨z',h1,h2⟩:=mm_ok (P:=P) (w:=w) hm hx (hr 0 y y' rfl rfl)
    obtain ⟨v',h3,h4⟩:=mmAll_ok (w:=w) h h2 (by simpa using hl) (fun i a b p q=>hr (i+1) a b (by simpa using p) (by simpa using q))
    exact ⟨v',by simp only [List.foldlM_cons,Sem.run_bind,h1,Result.andThen_ok,h3],h4⟩
theorem asPtrs_ok {ρ:Rho}:∀ {l:List AV} {ps:List (Nat × Nat)} {us:List Value},asPtrs l=some ps→l.length=us.length→(∀ (i:Nat) a b,l[i]?=some a→us[i]?=some b→VR ρ a b) →
  ps.length=us.length∧∀ (i:Nat) p (c:Value),ps[i]?=some p→us[i]?=some c→PtrR ρ p c
 | [],ps,us,h,hl,_=>by
  obtain rfl:ps=[]:=by simpa [asPtrs] using h.symm
  exact ⟨hl,fun i p c h=>by simp at h⟩
 | x :: r,ps,us,h,hl,hr=>by
  unfold asPtrs at h
  split at h
  ·rename_i e;cases e
  ·rename_i n off r' e
   cases e
   cases hb:asPtrs r with
   | none=>simp [hb] at h
   | some l' =>
    rw [hb] at h
    obtain rfl:=(Option.some.inj h)
    cases us with
    | nil=>simp at hl
    | cons u us =>
     obtain ⟨h1,h2⟩:=asPtrs_ok hb (us:=us) (by simpa using hl) (fun i a b p q=>hr (i+1) a b (by simpa using p) (by simpa using q))
     refine ⟨by simp [h1],fun i p c hp hc=>?_⟩
     cases i with
     | zero =>
      obtain rfl:=(Option.some.inj hp)
      obtain rfl:=(Option.some.inj hc)
      exact hr 0 _ _ rfl rfl
     | succ i=>exact h2 i p c (by simpa using hp) (by simpa using hc)
  ·cases h
theorem map_ops {ρ:Rho} {t:Nat→AV} {a:Act} (xs:Array Operand) (h:∀ x∈xs.toList,VR ρ (evO t x) (a.eval x)):ArgsR ρ (xs.toList.map (evO t)) (xs.map a.eval):=by
 refine ⟨by simp,fun i x y p q=>?_⟩
 simp only [List.getElem?_map,Array.getElem?_map,Array.getElem?_toList] at p q
 cases hp:xs[i]? with
 | none=>simp [hp] at p
 | some z =>
  rw [hp] at p q
  obtain rfl:=(Option.some.inj p)
  obtain rfl:=(Option.some.inj q)
  exact h z (by simpa using Array.mem_of_getElem? hp)
theorem OR.map {ρ:Rho} {t:Nat→AV} {a:Act} (x:Option Operand) (h:∀ y,x=some y→VR ρ (evO t y) (a.eval y)):OR ρ (x.map (evO t)) (x.map a.eval):=by
 cases x with
 | none=>trivial
 | some y=>exact h y rfl
def Touches (m:Mem) (c c':Nat) (δ:Mem):Prop:=∀ e∈δ,(∃ b,get m e.1=some b)∨(c≤e.1∧e.1 < c')
def Ahead (m m':Mem) (c c':Nat):Prop:=c≤c'∧∃ δ,m'=δ++m∧Touches m c c' δ
theorem Ahead.refl (m:Mem) (c:Nat):Ahead m m c c:=⟨Nat.le_refl _,[],rfl,fun e h=>by cases h⟩
theorem Ahead.one (m:Mem) (c:Nat) (b:Option Blk):Ahead m ((c,b) :: m) c (c+1):=⟨by omega,[(c,b)],rfl,fun e h=>by
 obtain rfl:e=(c,b):=by simpa using h
 exact .inr ⟨Nat.le_refl _,Nat.lt_succ_self _⟩⟩
theorem Ahead.two {m:Mem} (c:Nat) (b:Option Blk) {n:Nat} {x:Blk} (y:Option Blk) (hx:get m n=some x):Ahead m ((c,b) :: (n,y) :: m) c (c+1):=⟨by omega,[(c,b),(n,y)],rfl,fun e h=>by
 simp only [List.mem_cons,List.not_mem_nil,or_false] at h
 rcases h with rfl|rfl
 ·exact .inr ⟨Nat.le_refl _,Nat.lt_succ_self _⟩
 ·exact .inl ⟨x,hx⟩⟩
theorem Ahead.still {m:Mem} (c:Nat) {n:Nat} {x:Blk} (y:Option Blk) (hx:get m n=some x):Ahead m ((n,y) :: m) c c:=⟨Nat.le_refl _,[(n,y)],rfl,fun e h=>by
 obtain rfl:e=(n,y):=by simpa using h
 exact .inl ⟨x,hx⟩⟩
theorem ahead_build {t:TypeId} {len:Nat} {parts:List (Nat × AV)} {m m':Mem} {c c':Nat} {v:AV} (h:evBuildSlice P t len parts m c=some (v,m',c')):Ahead m m' c c':=by
 simp only [evBuildSlice,Option.bind_eq_bind,Option.bind_eq_some_iff] at h
 obtain ⟨e,_,s,_,z,_,h⟩:=h
 split at h
 ·simp only [Option.bind_eq_some_iff,Option.some.injEq,Prod.mk.injEq] at h
  obtain ⟨cs,_,rfl,rfl,rfl⟩:=h
  exact Ahead.one _ _ _
 ·cases h
theorem ahead_make {t:TypeId} {l cp:AV} {m m':Mem} {c c':Nat} {v:AV} (h:evMake P t l cp m c=some (v,m',c')):Ahead m m' c c':=by
 simp only [evMake,Option.bind_eq_bind,Option.bind_eq_some_iff] at h
 obtain ⟨e,_,s,_,z,_,b,_,h⟩:=h
 split at h
 ·split at h
  ·simp only [Option.some.injEq,Prod.mk.injEq] at h
   obtain ⟨rfl,rfl,rfl⟩:=h
   exact Ahead.one _ _ _
  ·cases h
 ·cases h
theorem ahead_append1 {ts tx:TypeId} {s x:AV} {m m':Mem} {c c':Nat} {v:AV} (h:evAppend1 P ts tx s x m c=some (v,m',c')):Ahead m m' c c':=by
 simp only [evAppend1,Option.bind_eq_bind,Option.bind_eq_some_iff] at h
 obtain ⟨e,_,sz,_,b,_,z,_,⟨k,news⟩,_,h⟩:=h
 split at h
 ·split at h
  ·split at h
   ·simp only [Option.some.injEq,Prod.mk.injEq] at h
    obtain ⟨rfl,rfl,rfl⟩:=h
    exact Ahead.refl _ _
   ·split at h
    ·simp only [Option.some.injEq,Prod.mk.injEq] at h
     obtain ⟨rfl,rfl,rfl⟩:=h
     exact Ahead.one _ _ _
    ·cases h
  ·split at h
   ·simp only [Option.some.injEq,Prod.mk.injEq] at h
    obtain ⟨rfl,rfl,rfl⟩:=h
    exact Ahead.refl _ _
   ·cases h
  ·simp only [Option.bind_eq_some_iff] at h
   obtain ⟨b,hb,h⟩:=h
   split at h
   ·simp only [Option.some.injEq,Prod.mk.injEq] at h
    obtain ⟨rfl,rfl,rfl⟩:=h
    exact Ahead.refl _ _
   ·simp only [Option.bind_eq_some_iff] at h
    obtain ⟨olds,_,h⟩:=h
    split at h
    ·split at h
     ·split at h
      ·simp only [Option.some.injEq,Prod.mk.injEq] at h
       obtain ⟨rfl,rfl,rfl⟩:=h
       exact Ahead.one _ _ _
      ·cases h
     ·split at h
      ·simp only [Option.some.injEq,Prod.mk.injEq] at h
       obtain ⟨rfl,rfl,rfl⟩:=h
       exact Ahead.two _ _ _ hb
      ·cases h
    ·cases h
  ·split at h
   ·simp only [Option.some.injEq,Prod.mk.injEq] at h
    obtain ⟨rfl,rfl,rfl⟩:=h
    exact Ahead.refl _ _
   ·split at h
    ·split at h
     ·split at h
      ·simp only [Option.some.injEq,Prod.mk.injEq] at h
       obtain ⟨rfl,rfl,rfl⟩:=h
       exact Ahead.one _ _ _
      ·cases h
     ·cases h
    ·cases h
  ·cases h
 ·cases h
theorem ahead_append {ts tx:TypeId} {s x:AV} {m m':Mem} {c c':Nat} {v:AV} (h:evAppend P ts tx s x m c=some (v,m',c')):Ahead m m' c c':=by
 unfold evAppend at h
 split at h
 ·unfold evZeros at h
  split at h
  ·split at h
   ·split at h
    ·split at h
     ·simp only [Option.some.injEq,Prod.mk.injEq] at h
      obtain ⟨rfl,rfl,rfl⟩:=h
      exact Ahead.one _ _ _
     ·cases h
    ·cases h
   ·cases h
  ·cases h
 ·split at h
  ·rename_i r hr
   obtain rfl:=Option.some.inj h
   exact ahead_append1 hr
  ·unfold evRoom at h
   split at h
   ·split at h
    ·split at h
     ·split at h
      ·split at h
       ·rename_i hg
        split at h
        ·simp only [Option.some.injEq,Prod.mk.injEq] at h
         obtain ⟨rfl,rfl,rfl⟩:=h
         exact Ahead.still _ _ hg
        ·cases h
       ·cases h
      ·cases h
     ·cases h
    ·cases h
   ·cases h
theorem ahead_copy {ts tx:TypeId} {s x:AV} {m m':Mem} {v:AV} (h:evCopy P ts tx s x m=some (v,m')) (c:Nat):Ahead m m' c c:=by
 simp only [evCopy,Option.bind_eq_bind,Option.bind_eq_some_iff] at h
 obtain ⟨e,_,sz,_,⟨k,news⟩,_,h⟩:=h
 split at h
 ·simp only [Option.some.injEq,Prod.mk.injEq] at h
  obtain ⟨rfl,rfl⟩:=h
  exact Ahead.refl _ _
 ·simp only [Option.some.injEq,Prod.mk.injEq] at h
  obtain ⟨rfl,rfl⟩:=h
  exact Ahead.refl _ _
 ·simp only [Option.bind_eq_some_iff] at h
  obtain ⟨b,hb,h⟩:=h
  split at h
  ·simp only [Option.some.injEq,Prod.mk.injEq] at h
   obtain ⟨rfl,rfl⟩:=h
   exact Ahead.still _ _ hb
  ·cases h
 ·cases h
theorem ahead_clear {t:TypeId} {x:AV} {m m':Mem} (h:evClear P t x m=some m') (c:Nat):Ahead m m' c c:=by
 unfold evClear at h
 split at h
 ·obtain rfl:=Option.some.inj h
  exact Ahead.refl _ _
 ·obtain rfl:=Option.some.inj h
  exact Ahead.refl _ _
 ·split at h
  ·obtain rfl:=Option.some.inj h
   exact Ahead.refl _ _
  ·split at h
   ·rename_i hg
    split at h
    ·obtain rfl:=Option.some.inj h
     exact Ahead.still _ _ hg
    ·cases h
   ·cases h
 ·cases h
theorem ahead_store {t:TypeId} {a x:AV} {m m':Mem} (h:evStore P t a x m=some m') (c:Nat):Ahead m m' c c:=by
 unfold evStore at h
 split at h
 ·simp only [Option.bind_eq_bind,Option.bind_eq_some_iff] at h
  obtain ⟨b,hb,sz,_,cs,_,h⟩:=h
  split at h
  ·obtain rfl:=Option.some.inj h
   exact Ahead.still _ _ hb
  ·cases h
 ·cases h
theorem ahead_conv {src dst:TypeId} {x:AV} {m m':Mem} {c c':Nat} {v:AV} (h:evConv P src dst x m c=some (v,m',c')):Ahead m m' c c':=by
 unfold evConv at h
 split at h
 ·simp only [Option.some.injEq,Prod.mk.injEq] at h
  obtain ⟨rfl,rfl,rfl⟩:=h
  exact Ahead.refl _ _
 ·simp only [Option.some.injEq,Prod.mk.injEq] at h
  obtain ⟨rfl,rfl,rfl⟩:=h
  exact Ahead.refl _ _
 ·simp only [Option.some.injEq,Prod.mk.injEq] at h
  obtain ⟨rfl,rfl,rfl⟩:=h
  exact Ahead.refl _ _
 ·split at h
  ·split at h
   ·simp only [Option.some.injEq,Prod.mk.injEq] at h
    obtain ⟨rfl,rfl,rfl⟩:=h
    exact Ahead.one _ _ _
   ·cases h
  ·cases h
 ·split at h
  ·simp only [Option.bind_eq_bind,Option.bind_eq_some_iff,Option.some.injEq,Prod.mk.injEq] at h
   obtain ⟨b,_,cs,_,l,_,rfl,rfl,rfl⟩:=h
   exact Ahead.refl _ _
  ·cases h
 ·split at h
  ·split at h
   ·simp only [Option.map_eq_some_iff,Prod.mk.injEq] at h
    obtain ⟨l,_,rfl,rfl,rfl⟩:=h
    exact Ahead.refl _ _
   ·cases h
  ·cases h
 ·split at h
  ·simp only [Option.some.injEq,Prod.mk.injEq] at h
   obtain ⟨rfl,rfl,rfl⟩:=h
   exact Ahead.refl _ _
  ·cases h
 ·split at h
  ·simp only [Option.some.injEq,Prod.mk.injEq] at h
   obtain ⟨rfl,rfl,rfl⟩:=h
   exact Ahead.refl _ _
  ·cases h
 ·cases h
set_option maxHeartbeats 1000000 in
theorem op_ok {B:Nat} {call:CallF} (hcall:CallOk P B call) {o:Oper} {t:Nat→AV} {m m':Mem} {c c':Nat} {v:AV} (hev:evOp P call o.op o.type t m c=some (v,m',c')) :
  c≤c'∧∃ δ,m'=δ++m∧∀ ρ M (a:Act) w,(∀ x∈o.op.operands.toList,VR ρ (evO t x) (a.eval x))→Agree m M→Fresh ρ c c'→Sat B ρ M w→OpDoes P o a w (Post B ρ M c c' w v δ):=by
 -- an operation that only reckons
 have quiet:∀ {v:AV},(∀ ρ M (a:Act) w,(∀ x∈o.op.operands.toList,VR ρ (evO t x) (a.eval x))→Agree m M→Sat B ρ M w→∃ v',(execOp a.eval o).run P w=.ok (.value v') w∧VR ρ v v')→c'=c→m'=m →
   c≤c'∧∃ δ,m'=δ++m∧∀ ρ M (a:Act) w,(∀ x∈o.op.operands.toList,VR ρ (evO t x) (a.eval x))→Agree m M→Fresh ρ c c'→Sat B ρ M w→OpDoes P o a w (Post B ρ M c c' w v δ):=by
  rintro v h rfl rfl
  refine ⟨Nat.le_refl _,[],rfl,fun ρ M a w ha hm _ hs=>?_⟩
  obtain ⟨v',h1,h2⟩:=h ρ M a w ha hm hs
  exact OpDoes.value h1 (Post.pure hs h2)
 -- an operation that puts something ahead
 have does:Ahead m m' c c'→(∀ ρ M (a:Act) w,(∀ x∈o.op.operands.toList,VR ρ (evO t x) (a.eval x))→Agree m M→Fresh ρ c c'→Sat B ρ M w→∃ δ,m'=δ++m∧OpDoes P o a w (Post B ρ M c c' w v δ)) →
   c≤c'∧∃ δ,m'=δ++m∧∀ ρ M (a:Act) w,(∀ x∈o.op.operands.toList,VR ρ (evO t x) (a.eval x))→Agree m M→Fresh ρ c c'→Sat B ρ M w→OpDoes P o a w (Post B ρ M c c' w v δ):=by
  rintro ⟨h1,δ,rfl,_⟩ h
  refine ⟨h1,δ,rfl,fun ρ M a w ha hm hfr hs=>?_⟩
  obtain ⟨δ',h2,h3⟩:=h ρ M a w ha hm hfr hs
  rw [← List.append_cancel_right h2] at h3
  exact h3
 obtain ⟨dst,op,ty,pos,after,guard⟩:=o
 cases op with
 | move x =>
  simp only [evOp,Option.some.injEq,Prod.mk.injEq] at hev
  obtain ⟨rfl,rfl,rfl⟩:=hev
  exact quiet (fun ρ M a w ha _ _=>⟨a.eval x,by simp [execOp],ha x (by simp [Op.operands])⟩) rfl rfl
 | assign x =>
  simp only [evOp,Option.some.injEq,Prod.mk.injEq] at hev
  obtain ⟨rfl,rfl,rfl⟩:=hev
  exact quiet (fun ρ M a w ha _ _=>⟨a.eval x,by simp [execOp],ha x (by simp [Op.operands])⟩) rfl rfl
 | pick x y z =>
  simp only [evOp] at hev
  split at hev
  ·rename_i q hq
   simp only [Option.some.injEq,Prod.mk.injEq] at hev
   obtain ⟨rfl,rfl,rfl⟩:=hev
   refine quiet (fun ρ M a w ha _ _=>?_) rfl rfl
   have hx:=ha x (by simp [Op.operands])
   rw [hq] at hx
   have hx':a.eval x=.bool q:=hx
   refine ⟨if q then a.eval y else a.eval z,by simp [execOp,hx',asBool],?_⟩
   cases q
   ·exact ha z (by simp [Op.operands])
   ·exact ha y (by simp [Op.operands])
  ·cases hev
 | alloc e =>
  simp only [evOp] at hev
  cases hz:tzero P e with
  | none=>simp [hz] at hev
  | some z =>
   simp only [hz,Option.map_some,Option.some.injEq,Prod.mk.injEq] at hev
   obtain ⟨rfl,rfl,rfl⟩:=hev
   refine ⟨by omega,[(c,some ⟨z,true⟩)],rfl,fun ρ M a w _ _ hfr hs=>?_⟩
   obtain ⟨v',w',h1,h2⟩:=alloc_ok hz hs (hfr c (Nat.le_refl _) (by omega))
   exact OpDoes.value (by simp [execOp,h1]) h2
 | box e x =>
  simp only [evOp] at hev
  cases hz:(evO t x).cells with
  | none=>simp [hz] at hev
  | some z =>
   simp only [hz,Option.map_some,Option.some.injEq,Prod.mk.injEq] at hev
   obtain ⟨rfl,rfl,rfl⟩:=hev
   refine ⟨by omega,[(c,some ⟨z,true⟩)],rfl,fun ρ M a w ha _ hfr hs=>?_⟩
   obtain ⟨v',w',h1,h2⟩:=box_ok (P:=P) (e:=e) hz (ha x (by simp [Op.operands])) hs (hfr c (Nat.le_refl _) (by omega))
   exact OpDoes.value (by simp [execOp,h1]) h2
 | build bt parts =>
  simp only [evOp] at hev
  cases hb:evBuild P bt (parts.toList.map fun p=>(p.1,evO t p.2)) with
  | none=>simp [hb] at hev
  | some v0 =>
   simp only [hb,Option.map_some,Option.some.injEq,Prod.mk.injEq] at hev
   obtain ⟨rfl,rfl,rfl⟩:=hev
   refine quiet (fun ρ M a w ha _ _=>?_) rfl rfl
   obtain ⟨p1,p2⟩:=map_parts parts (fun p hp=>ha p.2 (by simp [Op.operands];exact ⟨p.1,by simpa using hp⟩))
   obtain ⟨v',h1,h2⟩:=build_ok (w:=w) hb p1 p2
   exact ⟨v',by simp only [execOp,Sem.run_bind,h1,Result.andThen_ok,Sem.run_pure],h2⟩
 | buildSlice bt len parts =>
  simp only [evOp] at hev
  refine does (ahead_build hev) fun ρ M a w ha hm hfr hs=>?_
  obtain ⟨p1,p2⟩:=map_parts parts (fun p hp=>ha p.2 (by simp [Op.operands];exact ⟨p.1,by simpa using hp⟩))
  obtain ⟨_,δ,v',w',h0,h1,h2⟩:=buildSlice_ok hev p1 p2 hs hfr
  exact ⟨δ,h0,OpDoes.value (by simp only [execOp,Sem.run_bind,h1,Result.andThen_ok,Sem.run_pure]) h2⟩
 | load lt x =>
  simp only [evOp] at hev
  cases hb:evLoad P lt (evO t x) m with
  | none=>simp [hb] at hev
  | some v0 =>
   simp only [hb,Option.map_some,Option.some.injEq,Prod.mk.injEq] at hev
   obtain ⟨rfl,rfl,rfl⟩:=hev
   refine quiet (fun ρ M a w ha hm hs=>?_) rfl rfl
   obtain ⟨v',h1,h2⟩:=load_ok hb (ha x (by simp [Op.operands])) hm hs
   exact ⟨v',by simp [execOp,h1],h2⟩
 | store lt x y =>
  simp only [evOp] at hev
  cases hb:evStore P lt (evO t x) (evO t y) m with
  | none=>simp [hb] at hev
  | some m0 =>
   simp only [hb,Option.map_some,Option.some.injEq,Prod.mk.injEq] at hev
   obtain ⟨rfl,rfl,rfl⟩:=hev
   refine does (ahead_store hb c) fun ρ M a w ha hm hfr hs=>?_
   obtain ⟨δ,w',h0,h1,h2,h3⟩:=store_ok hb (ha x (by simp [Op.operands])) (ha y (by simp [Op.operands])) hm hs
   exact ⟨δ,h0,OpDoes.skip (by simp only [execOp,Sem.run_bind,h1,Result.andThen_ok,Sem.run_pure]) ⟨ρ,Ext.refl _ _ _,trivial,h2,h3⟩⟩
 | nilCheck x =>
  simp only [evOp] at hev
  split at hev
  ·rename_i n off hq
   simp only [Option.some.injEq,Prod.mk.injEq] at hev
   obtain ⟨rfl,rfl,rfl⟩:=hev
   refine quiet (fun ρ M a w ha _ _=>?_) rfl rfl
   have hx:=ha x (by simp [Op.operands])
   rw [hq] at hx
   obtain ⟨l,h1,h2⟩:=hx
   exact ⟨_,by simp [execOp,h2],l,h1,rfl⟩
  ·rename_i f cs hq
   simp only [Option.some.injEq,Prod.mk.injEq] at hev
   obtain ⟨rfl,rfl,rfl⟩:=hev
   refine quiet (fun ρ M a w ha _ _=>?_) rfl rfl
   have hx:=ha x (by simp [Op.operands])
   rw [hq] at hx
   obtain ⟨l,h1,h2⟩:=hx
   exact ⟨_,by simp [execOp,h1],l,rfl,h2⟩
  ·rename_i cs hq
   simp only [Option.some.injEq,Prod.mk.injEq] at hev
   obtain ⟨rfl,rfl,rfl⟩:=hev
   refine quiet (fun ρ M a w ha _ _=>?_) rfl rfl
   have hx:=ha x (by simp [Op.operands])
   rw [hq] at hx
   obtain ⟨b,o,h1,h2⟩:=hx
   exact ⟨_,by simp [execOp,h1],b,o,rfl,h2⟩
  ·cases hev
 | binOp op xt x y yt =>
  simp only [evOp] at hev
  cases hb:evBin P op xt (evO t x) (evO t y) with
  | none=>simp [hb] at hev
  | some v0 =>
   simp only [hb,Option.map_some,Option.some.injEq,Prod.mk.injEq] at hev
   obtain ⟨rfl,rfl,rfl⟩:=hev
   refine quiet (fun ρ M a w ha hm hs=>?_) rfl rfl
   obtain ⟨v',h1,h2⟩:=bin_ok (w:=w) (ox:=x) (oy:=y) hb (ha x (by simp [Op.operands])) (ha y (by simp [Op.operands]))
   exact ⟨v',by simp only [execOp,Sem.run_bind,h1,Result.andThen_ok,Sem.run_pure],h2⟩
 | unOp op xt x =>
  simp only [evOp] at hev
  cases hb:evUn op (evO t x) with
  | none=>simp [hb] at hev
  | some v0 =>
   simp only [hb,Option.map_some,Option.some.injEq,Prod.mk.injEq] at hev
   obtain ⟨rfl,rfl,rfl⟩:=hev
   refine quiet (fun ρ M a w ha hm hs=>?_) rfl rfl
   obtain ⟨v',h1,h2⟩:=un_ok (P:=P) (w:=w) hb (ha x (by simp [Op.operands]))
   exact ⟨v',by simp only [execOp,Sem.run_bind,h1,Result.andThen_ok,Sem.run_pure],h2⟩
 | convert src dst x =>
  simp only [evOp] at hev
  refine does (ahead_conv hev) fun ρ M a w ha hm hfr hs=>?_
  obtain ⟨_,δ,v',w',h0,h1,h2⟩:=conv_ok hev (ha x (by simp [Op.operands])) hm hs hfr
  exact ⟨δ,h0,OpDoes.value (by simp only [execOp,Sem.run_bind,h1,Result.andThen_ok,Sem.run_pure]) h2⟩
 | fieldAddr s x f =>
  simp only [evOp] at hev
  cases hb:evFieldAddr P s (evO t x) f with
  | none=>simp [hb] at hev
  | some v0 =>
   simp only [hb,Option.map_some,Option.some.injEq,Prod.mk.injEq] at hev
   obtain ⟨rfl,rfl,rfl⟩:=hev
   refine quiet (fun ρ M a w ha hm hs=>?_) rfl rfl
   obtain ⟨v',h1,h2⟩:=fieldAddr_ok (w:=w) hb (ha x (by simp [Op.operands]))
   exact ⟨v',by simp only [execOp,Sem.run_bind,h1,Result.andThen_ok,Sem.run_pure],h2⟩
 | field s x f =>
  simp only [evOp] at hev
  cases hb:evField P s (evO t x) f with
  | none=>simp [hb] at hev
  | some v0 =>
   simp only [hb,Option.map_some,Option.some.injEq,Prod.mk.injEq] at hev
   obtain ⟨rfl,rfl,rfl⟩:=hev
   refine quiet (fun ρ M a w ha hm hs=>?_) rfl rfl
   obtain ⟨v',h1,h2⟩:=field_ok (w:=w) hb (ha x (by simp [Op.operands]))
   exact ⟨v',by simp only [execOp,Sem.run_bind,h1,Result.andThen_ok,Sem.run_pure],h2⟩
 | indexAddr it x i =>
  simp only [evOp] at hev
  cases hb:evIndexAddr P it (evO t x) (evO t i) with
  | none=>simp [hb] at hev
  | some v0 =>
   simp only [hb,Option.map_some,Option.some.injEq,Prod.mk.injEq] at hev
   obtain ⟨rfl,rfl,rfl⟩:=hev
   refine quiet (fun ρ M a w ha hm hs=>?_) rfl rfl
   obtain ⟨v',h1,h2⟩:=indexAddr_ok (w:=w) hb (ha x (by simp [Op.operands])) (ha i (by simp [Op.operands]))
   exact ⟨v',by simp only [execOp,Sem.run_bind,h1,Result.andThen_ok,Sem.run_pure],h2⟩
 | index it x i =>
  simp only [evOp] at hev
  cases hb:evIndex P it (evO t x) (evO t i) with
  | none=>simp [hb] at hev
  | some v0 =>
   simp only [hb,Option.map_some,Option.some.injEq,Prod.mk.injEq] at hev
   obtain ⟨rfl,rfl,rfl⟩:=hev
   refine quiet (fun ρ M a w ha hm hs=>?_) rfl rfl
   obtain ⟨v',h1,h2⟩:=index_ok (w:=w) hb (ha x (by simp [Op.operands])) (ha i (by simp [Op.operands]))
   exact ⟨v',by simp only [execOp,Sem.run_bind,h1,Result.andThen_ok,Sem.run_pure],h2⟩
 | slice st x lo hi mx =>
  simp only [evOp] at hev
  cases hb:evSliceM P st (evO t x) (lo.map (evO t)) (hi.map (evO t)) (mx.map (evO t)) m with
  | none=>simp [hb] at hev
  | some v0 =>
   simp only [hb,Option.map_some,Option.some.injEq,Prod.mk.injEq] at hev
   obtain ⟨rfl,rfl,rfl⟩:=hev
   refine quiet (fun ρ M a w ha hm hs=>?_) rfl rfl
   obtain ⟨v',h1,h2⟩:=sliceM_ok (w:=w) hb hm hs (ha x (by simp [Op.operands])) (OR.map lo fun y e=>ha y (by simp [Op.operands,e])) (OR.map hi fun y e=>ha y (by simp [Op.operands,e])) (OR.map mx fun y e=>ha y (by simp [Op.operands,e]))
   exact ⟨v',by simp only [execOp,Sem.run_bind,h1,Result.andThen_ok,Sem.run_pure],h2⟩
 | makeSlice mt l cp =>
  simp only [evOp] at hev
  refine does (ahead_make hev) fun ρ M a w ha hm hfr hs=>?_
  obtain ⟨_,δ,v',w',h0,h1,h2⟩:=make_ok hev (ha l (by simp [Op.operands])) (ha cp (by simp [Op.operands])) hs hfr
  exact ⟨δ,h0,OpDoes.value (by simp only [execOp,Sem.run_bind,h1,Result.andThen_ok,Sem.run_pure]) h2⟩
 | makeFunc fn first caps =>
  cases fn with
  | func f =>
   simp only [evOp] at hev
   split at hev
   ·rename_i h0
    cases hp:asPtrs (caps.toList.map (evO t)) with
    | none=>simp [hp] at hev
    | some l =>
     simp only [hp,Option.map_some,Option.some.injEq,Prod.mk.injEq] at hev
     obtain ⟨rfl,rfl,rfl⟩:=hev
     refine quiet (fun ρ M a w ha _ _=>?_) rfl rfl
     obtain ⟨a1,a2⟩:=map_ops caps (fun x hx=>ha x (by simp [Op.operands];right;simpa using hx))
     obtain ⟨b1,b2⟩:=asPtrs_ok (us:=(caps.map a.eval).toList) hp (by simp) (fun i x y p q=>a2 i x y p (by simpa using q))
     have hf:first=#[]:=Array.eq_empty_of_size_eq_zero h0
     subst hf
     exact ⟨.func (.func f) #[] (caps.map a.eval),by simp [execOp,Instr.makeFunc],caps.map a.eval,rfl,by simpa using b1,fun i p c x y=>b2 i p c x (by simpa using y)⟩
   ·cases hev
  | _=>simp [evOp] at hev
 | extract x i =>
  simp only [evOp] at hev
  split at hev
  ·rename_i vs hq
   cases hi:vs[i]? with
   | none=>simp [hi] at hev
   | some y =>
    cases hy:ofComp y with
    | none=>simp [hi,hy] at hev
    | some v0 =>
     simp only [hi,hy,Option.bind_some,Option.map_some,Option.some.injEq,Prod.mk.injEq] at hev
     obtain ⟨rfl,rfl,rfl⟩:=hev
     refine quiet (fun ρ M a w ha _ _=>?_) rfl rfl
     have hx:=ha x (by simp [Op.operands])
     rw [hq] at hx
     obtain ⟨cs,h1,h2,h3⟩:=hx
     have hlt:i < cs.size:=by rw [← h2];exact (List.getElem?_eq_some_iff.1 hi).1
     obtain ⟨v1,h4,h5⟩:=h3 i y cs[i] hi (Array.getElem?_eq_getElem hlt)
     rw [hy] at h4
     obtain rfl:=Option.some.inj h4
     exact ⟨cs[i],by simp [execOp,h1,Instr.extract,hlt],h5.toVR⟩
  ·cases hev
 | call cl =>
  obtain ⟨callee,args,argTypes⟩:=cl
  have two:∀ {α:Type} {xs:Array α} {l:List α},xs.toList=l→xs=l.toArray:=fun h=>by subst h;simp
  cases callee with
  | invoke r n=>simp [evOp] at hev
  | value f =>
   simp only [evOp] at hev
   split at hev
   ·rename_i g cs hq
    obtain ⟨⟨fn,hfn,hname,hbody⟩,h1,δ,h2,h3⟩:=hcall _ _ _ _ _ _ _ hev
    refine ⟨h1,δ,h2,fun ρ M a w ha hm hfr hs=>?_⟩
    intro K Q hk
    have hf:=ha f (by simp [Op.operands,Call.operands])
    rw [hq] at hf
    obtain ⟨us,e1,e2,e3⟩:=hf
    obtain ⟨a1,a2⟩:=map_ops (ρ:=ρ) (a:=a) args (fun x hx=>ha x (by simp [Op.operands,Call.operands];right;simpa using hx))
    have hargs:ArgsR ρ (args.toList.map (evO t)++cs.map fun p=>.s (.ptr p.1 p.2)) (args.map a.eval++us):=by
     refine ⟨by simp [e2],fun i x y p q=>?_⟩
     rw [List.getElem?_append] at p
     rw [Array.getElem?_append] at q
     rw [a1] at p
     split at p
     ·rename_i hi;rw [if_pos hi] at q;exact a2 i x y p q
     ·rename_i hi
      rw [if_neg hi] at q
      rw [List.getElem?_map] at p
      cases hc:cs[i - (args.map a.eval).size]? with
      | none=>rw [hc] at p;cases p
      | some z =>
       rw [hc] at p
       obtain rfl:=Option.some.inj p
       exact e3 _ z y hc q
    have hC:=h3 ρ M _ w hargs hm hfr hs
    unfold Oper.wp
    have hrun:(execOp a.eval ⟨dst,.call ⟨.value f,args,argTypes⟩,ty,pos,after,guard⟩).run P w=.ok (.enter g (args.map a.eval++us)) w:=by
     have hname' : ¬ fn.name = "runtime.NumGoroutine" := by simpa using hname
     have hbody':¬ fn.body=none:=by intro h;rw [h] at hbody;cases hbody
     simp [execOp,resolve,e1,Deferred.ofValue,invoke,callFunc,hfn,hname',hbody']
    rw [hrun,Oper.upon_enter]
    exact hC.mono fun e w' ⟨v',h5,h6⟩=>by subst h5;exact hk v' w' h6
   ·cases hev
  | builtin b =>
   cases b with
   | append =>
    simp only [evOp] at hev
    split at hev
    ·rename_i s x ts tx e1 e2
     obtain rfl:=two e1
     obtain rfl:=two e2
     refine does (ahead_append hev) fun ρ M a w ha hm hfr hs=>?_
     obtain ⟨_,δ,v',w',h0,h1,h2⟩:=append_ok (ty:=ty) hev (ha s (by simp [Op.operands,Call.operands])) (ha x (by simp [Op.operands,Call.operands])) hm hs hfr
     exact ⟨δ,h0,OpDoes.value (by simp [execOp,resolve,invoke,builtin,h1]) h2⟩
    ·cases hev
   | copy =>
    simp only [evOp] at hev
    split at hev
    ·rename_i s x ts tx e1 e2
     obtain rfl:=two e1
     obtain rfl:=two e2
     cases hb:evCopy P ts tx (evO t s) (evO t x) m with
     | none=>simp [hb] at hev
     | some r =>
      simp only [hb,Option.map_some,Option.some.injEq,Prod.mk.injEq] at hev
      obtain ⟨rfl,rfl,rfl⟩:=hev
      refine does (ahead_copy hb c) fun ρ M a w ha hm hfr hs=>?_
      obtain ⟨δ,v',w',h0,h1,h2,h3,h4⟩:=copy_ok (ty:=ty) hb (ha s (by simp [Op.operands,Call.operands])) (ha x (by simp [Op.operands,Call.operands])) hm hs
      exact ⟨δ,h0,OpDoes.value (by simp [execOp,resolve,invoke,builtin,h1]) ⟨ρ,Ext.refl _ _ _,h2,h3,h4⟩⟩
    ·cases hev
   | clear =>
    simp only [evOp] at hev
    split at hev
    ·rename_i x tx e1 e2
     obtain rfl:=two e1
     obtain rfl:=two e2
     cases hb:evClear P tx (evO t x) m with
     | none=>simp [hb] at hev
     | some r =>
      simp only [hb,Option.map_some,Option.some.injEq,Prod.mk.injEq] at hev
      obtain ⟨rfl,rfl,rfl⟩:=hev
      refine does (ahead_clear hb c) fun ρ M a w ha hm hfr hs=>?_
      obtain ⟨δ,w',h0,h1,h3,h4⟩:=clear_ok (ty:=ty) hb (ha x (by simp [Op.operands,Call.operands])) hm hs
      exact ⟨δ,h0,OpDoes.value (by simp [execOp,resolve,invoke,builtin,h1]) ⟨ρ,Ext.refl _ _ _,⟨#[],rfl,rfl,fun i x y hx=>by simp at hx⟩,h3,h4⟩⟩
    ·cases hev
   | len =>
    simp only [evOp] at hev
    split at hev
    ·rename_i x tx e1 e2
     obtain rfl:=two e1
     obtain rfl:=two e2
     cases hb:evLen P tx (evO t x) with
     | none=>simp [hb] at hev
     | some r =>
      simp only [hb,Option.map_some,Option.some.injEq,Prod.mk.injEq] at hev
      obtain ⟨rfl,rfl,rfl⟩:=hev
      refine quiet (fun ρ M a w ha hm hs=>?_) rfl rfl
      obtain ⟨v',h1,h2⟩:=len_ok (w:=w) (ty:=ty) hb (ha x (by simp [Op.operands,Call.operands]))
      exact ⟨v',by simp [execOp,resolve,invoke,builtin,h1],h2⟩
    ·cases hev
   | cap =>
    simp only [evOp] at hev
    split at hev
    ·rename_i x tx e1 e2
     obtain rfl:=two e1
     obtain rfl:=two e2
     cases hb:evCap P tx (evO t x) with
     | none=>simp [hb] at hev
     | some r =>
      simp only [hb,Option.map_some,Option.some.injEq,Prod.mk.injEq] at hev
      obtain ⟨rfl,rfl,rfl⟩:=hev
      refine quiet (fun ρ M a w ha hm hs=>?_) rfl rfl
      obtain ⟨v',h1,h2⟩:=cap_ok (w:=w) (ty:=ty) hb (ha x (by simp [Op.operands,Call.operands]))
      exact ⟨v',by simp [execOp,resolve,invoke,builtin,h1],h2⟩
    ·cases hev
   | min =>
    simp only [evOp] at hev
    split at hev
    ·rename_i x r e1
     cases hb:mmAll false x r with
     | none=>simp [hb] at hev
     | some v0 =>
      simp only [hb,Option.map_some,Option.some.injEq,Prod.mk.injEq] at hev
      obtain ⟨rfl,rfl,rfl⟩:=hev
      refine quiet (fun ρ M a w ha hm hs=>?_) rfl rfl
      obtain ⟨a1,a2⟩:=map_ops (ρ:=ρ) (a:=a) args (fun x hx=>ha x (by simp [Op.operands,Call.operands];simpa using hx))
      rw [e1] at a1 a2
      cases hl:(args.map a.eval).toList with
      | nil=>have:(args.map a.eval).size=0:=(by rw [← Array.length_toList,hl];rfl);rw [this] at a1;simp at a1
      | cons x' r' =>
       have hl':=two hl
       rw [hl'] at a1 a2
       obtain ⟨v',h1,h2⟩:=mmAll_ok (P:=P) (w:=w) (r':=r') hb (a2 0 x x' rfl rfl) (by simpa using a1) (fun i y z p q=>a2 (i+1) y z (by simpa using p) (by simpa using q))
       refine ⟨v',?_,h2⟩
       simp only [Bool.false_eq_true,if_false] at h1
       simp only [execOp,resolve,Sem.run_bind,Sem.run_pure,Result.andThen_ok,invoke,builtin,hl',Builtin.min_,h1]
    ·cases hev
   | max =>
    simp only [evOp] at hev
    split at hev
    ·rename_i x r e1
     cases hb:mmAll true x r with
     | none=>simp [hb] at hev
     | some v0 =>
      simp only [hb,Option.map_some,Option.some.injEq,Prod.mk.injEq] at hev
      obtain ⟨rfl,rfl,rfl⟩:=hev
      refine quiet (fun ρ M a w ha hm hs=>?_) rfl rfl
      obtain ⟨a1,a2⟩:=map_ops (ρ:=ρ) (a:=a) args (fun x hx=>ha x (by simp [Op.operands,Call.operands];simpa using hx))
      rw [e1] at a1 a2
      cases hl:(args.map a.eval).toList with
      | nil=>have:(args.map a.eval).size=0:=(by rw [← Array.length_toList,hl];rfl);rw [this] at a1;simp at a1
      | cons x' r' =>
       have hl':=two hl
       rw [hl'] at a1 a2
       obtain ⟨v',h1,h2⟩:=mmAll_ok (P:=P) (w:=w) (r':=r') hb (a2 0 x x' rfl rfl) (by simpa using a1) (fun i y z p q=>a2 (i+1) y z (by simpa using p) (by simpa using q))
       refine ⟨v',?_,h2⟩
       simp only [if_true] at h1
       simp only [execOp,resolve,Sem.run_bind,Sem.run_pure,Result.andThen_ok,invoke,builtin,hl',Builtin.max_,h1]
    ·cases hev
   | _=>simp [evOp] at hev
 | _=>simp [evOp] at hev
end Go.Proofs.Ytaelliigpclipaa.Eng
