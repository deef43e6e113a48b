/- The reckoner,told in small arms: what the kernel has to copy is small. It answers as the reckoner does. -/
import Derived.Test.YtaelliigpclipaaEngS
namespace Go.Proofs.Ytaelliigpclipaa.Eng
set_option linter.unusedVariables false
set_option linter.unusedSimpArgs false
open Go Go.RowKit
section
variable (P:Program)
abbrev Arm:=(Nat→AV)→Mem→Nat→Res
def aMove (x:Operand):Arm:=fun t m c=>some (evO t x,m,c)
def aPick (x a b:Operand):Arm:=fun t m c=>oPick (evO t x) (evO t a) (evO t b) m c
def aAlloc (P:Program) (e:TypeId):Arm:=fun _ m c=>oAlloc P e m c
def aBox (x:Operand):Arm:=fun t m c=>oBox (evO t x) m c
def aBuild (P:Program) (ty:TypeId) (parts:Array (Nat × Operand)):Arm:=fun t m c=>still (evBuild P ty (parts.toList.map fun p=>(p.1,evO t p.2))) m c
def aBuildSlice (P:Program) (ty:TypeId) (len:Nat) (parts:Array (Nat × Operand)):Arm:=fun t m c=>evBuildSlice P ty len (parts.toList.map fun p=>(p.1,evO t p.2)) m c
def aLoad (P:Program) (ty:TypeId) (a:Operand):Arm:=fun t m c=>still (evLoad P ty (evO t a) m) m c
def aStore (P:Program) (ty:TypeId) (a x:Operand):Arm:=fun t m c=>oStore (evStore P ty (evO t a) (evO t x) m) c
def aNil (x:Operand):Arm:=fun t m c=>oNil (evO t x) m c
def aBin (P:Program) (op:BinOp) (xt:TypeId) (x y:Operand):Arm:=fun t m c=>stillS (evBin P op xt (evO t x) (evO t y)) m c
def aUn (op:UnOp) (x:Operand):Arm:=fun t m c=>stillS (evUn op (evO t x)) m c
def aConv (P:Program) (a b:TypeId) (x:Operand):Arm:=fun t m c=>evConv P a b (evO t x) m c
def aFunc (fn:Fn) (first caps:Array Operand):Arm:=fun t m c=>oFunc fn first caps t m c
def aMake (P:Program) (ty:TypeId) (l cp:Operand):Arm:=fun t m c=>evMake P ty (evO t l) (evO t cp) m c
def aSlice (P:Program) (ty:TypeId) (x:Operand) (lo hi mx:Option Operand):Arm:=fun t m c=>still (evSliceM P ty (evO t x) (lo.map (evO t)) (hi.map (evO t)) (mx.map (evO t)) m) m c
def aFieldAddr (P:Program) (s:TypeId) (x:Operand) (f:Nat):Arm:=fun t m c=>still (evFieldAddr P s (evO t x) f) m c
def aField (P:Program) (s:TypeId) (x:Operand) (f:Nat):Arm:=fun t m c=>still (evField P s (evO t x) f) m c
def aIndexAddr (P:Program) (ty:TypeId) (x i:Operand):Arm:=fun t m c=>still (evIndexAddr P ty (evO t x) (evO t i)) m c
def aIndex (P:Program) (ty:TypeId) (x i:Operand):Arm:=fun t m c=>still (evIndex P ty (evO t x) (evO t i)) m c
def aExtract (x:Operand) (i:Nat):Arm:=fun t m c=>oExtract (evO t x) i m c
def aCall (P:Program) (call:CallF) (cl:Call):Arm:=fun t m c=>oCallee P call cl.callee cl.args cl.argTypes t m c
def aNone:Arm:=fun _ _ _=>none
def evOpQ (call:CallF) (o:Op):Arm:=match o with
 | .move x=>aMove x
 | .assign x=>aMove x
 | .pick x a b=>aPick x a b
 | .alloc e=>aAlloc P e
 | .box _ x=>aBox x
 | .build ty parts=>aBuild P ty parts
 | .buildSlice ty len parts=>aBuildSlice P ty len parts
 | .load ty a=>aLoad P ty a
 | .store ty a x=>aStore P ty a x
 | .nilCheck x=>aNil x
 | .binOp op xt x y _=>aBin P op xt x y
 | .unOp op _ x=>aUn op x
 | .convert a b x=>aConv P a b x
 | .makeFunc fn first caps=>aFunc fn first caps
 | .makeSlice ty l cp=>aMake P ty l cp
 | .slice ty x lo hi mx=>aSlice P ty x lo hi mx
 | .fieldAddr s x f=>aFieldAddr P s x f
 | .field s x f=>aField P s x f
 | .indexAddr ty x i=>aIndexAddr P ty x i
 | .index ty x i=>aIndex P ty x i
 | .extract x i=>aExtract x i
 | .call cl=>aCall P call cl
 | _=>aNone
theorem evOpQ_eq (call:CallF) (o:Op):evOpQ P call o=evOpF P call o:=by
 funext t m c
 cases o<;>rfl
abbrev Next3:=Tm→Mem→Nat→Option (Tm × Mem × Nat)
def goOn (k:Next3) (m:Mem) (c:Nat) (t:Tm):Option (Tm × Mem × Nat):=match t with|⟨n,l⟩=>k ⟨n,l⟩ m c
def res3 (dst:Option Tmp) (k:Next3) (t:Tm) (m:Mem) (v:AV) (c:Nat):Option (Tm × Mem × Nat):=goOn k m c (putT t dst v)
def res2 (dst:Option Tmp) (k:Next3) (t:Tm) (c:Nat) (v:AV) (m:Mem):Option (Tm × Mem × Nat):=fN c (res3 dst k t m v)
def res1 (dst:Option Tmp) (n:Nat) (k:Next3) (t:Tm) (m:Mem) (c:Nat) (v:AV):Option (Tm × Mem × Nat):=fM n m (res2 dst k t c v)
def res0 (dst:Option Tmp) (n:Nat) (k:Next3) (t:Tm) (r:Res):Option (Tm × Mem × Nat):=match r with
 | some (v,m,c)=>fA v (res1 dst n k t m c)
 | none=>none
def wantQ (call:CallF) (op:Op) (dst:Option Tmp) (k:Next3) (t:Tm) (m:Mem) (c:Nat) (w:Option Bool):Option (Tm × Mem × Nat):=match w with
 | some true=>res0 dst (newest op) k t (evOpQ P call op (look t) m c)
 | some false=>goOn k m c (putT t dst .no)
 | none=>none
def evOpsQ (call:CallF) (ops:Array Oper):List Oper→Tm→Mem→Nat→Option (Tm × Mem × Nat)
 | [],t,m,c=>some (t,m,c)
 | o :: r,t,m,c=>wantQ P call o.op o.dst (evOpsQ call ops r) t m c (want ops (look t) o)
theorem evOpsQ_eq (call:CallF) (ops:Array Oper):∀ (l:List Oper),evOpsQ P call ops l=evOpsF P call ops l
 | []=>rfl
 | o :: r=>by
  funext t m c
  have ih:=evOpsQ_eq call ops r
  simp only [evOpsQ,evOpsF,ih]
  unfold wantQ
  rw [evOpQ_eq]
  generalize want ops (look t) o=w
  rcases w with _|b
  ·rfl
  ·cases b
   ·rfl
   ·simp only
    generalize evOpF P call o.op (look t) m c=y
    rcases y with _|⟨v,m',c'⟩<;>rfl
def regQ:RegF:=fun call ops draw t m c=>match draw with
 | true=>evDrawnF P call ops t m c
 | false=>evOpsQ P call ops ops.toList t m c
theorem regQ_eq:regQ P=regAll P:=by
 rw [← regF_eq]
 funext call ops draw t m c
 cases draw
 ·exact congrFun (congrFun (congrFun (evOpsQ_eq P call ops ops.toList) t) m) c
 ·rfl
abbrev Rec:=Code→St→Option (Ex × St)
def sSeq (rec:Rec) (b:Code) (r:Option (Ex × St)):Option (Ex × St):=match r with
 | some (.normal,s')=>rec b s'
 | r=>r
def sCond (rec:Rec) (a b:Code) (s:St) (x:AV):Option (Ex × St):=match x with
 | .s (.bool true)=>rec a s
 | .s (.bool false)=>rec b s
 | _=>none
def sBlock (id:Nat) (r:Option (Ex × St)):Option (Ex × St):=match r with
 | some (.exit id',s')=>if id'=id then some (.normal,s') else some (.exit id',s')
 | r=>r
def sLoop (rec:Rec) (body:Code) (r:Option (Ex × St)):Option (Ex × St):=match r with
 | some (.normal,⟨t,m,c⟩)=>match cmp t with|⟨n,l⟩=>rec (.loop body) ⟨⟨n,l⟩,m,c⟩
 | r=>r
def sReg (r:Option (Tm × Mem × Nat)):Option (Ex × St):=match r with
 | some (t,m,c)=>some (.normal,⟨t,m,c⟩)
 | none=>none
def cRegion (P:Program) (call:CallF) (ops:Array Oper) (draw:Bool):St→Option (Ex × St):=fun s=>sReg (regQ P call ops draw s.t s.m s.c)
def cSeq (rec:Rec) (a b:Code):St→Option (Ex × St):=fun s=>sSeq rec b (rec a s)
def cCond (rec:Rec) (x:Operand) (a b:Code):St→Option (Ex × St):=fun s=>sCond rec a b s (evO (look s.t) x)
def cBlock (rec:Rec) (id:Nat) (body:Code):St→Option (Ex × St):=fun s=>sBlock id (rec body s)
def cLoop (rec:Rec) (body:Code):St→Option (Ex × St):=fun s=>sLoop rec body (rec body s)
def cEnd (e:Ex):St→Option (Ex × St):=fun s=>some (e,s)
def cNone:St→Option (Ex × St):=fun _=>none
def stepQ (call:CallF) (rec:Rec) (code:Code):St→Option (Ex × St):=match code with
 | .skip=>cEnd .normal
 | .label _=>cEnd .normal
 | .region _ ops draw=>cRegion P call ops draw
 | .seq a b=>cSeq rec a b
 | .cond x a b=>cCond rec x a b
 | .block id body=>cBlock rec id body
 | .loop body=>cLoop rec body
 | .exit id=>cEnd (.exit id)
 | .ret=>cEnd .ret
 | _=>cNone
theorem stepQ_eq (call:CallF) (rec:Rec):stepQ P call rec=stepF P call rec:=by
 funext code s
 cases code with
 | region id ops draw =>
  show sReg (regQ P call ops draw s.t s.m s.c)=(regF P call ops draw s.t s.m s.c).map fun r=>(.normal,⟨r.1,r.2.1,r.2.2⟩)
  rw [regQ_eq,regF_eq]
  generalize regAll P call ops draw s.t s.m s.c=y
  rcases y with _|⟨t,m,c⟩<;>rfl
 | seq a b =>
  show sSeq rec b (rec a s)=evStep (regF P) call rec (.seq a b) s
  simp only [evStep,sSeq]
  generalize rec a s=y
  rcases y with _|⟨e,s'⟩
  ·rfl
  ·cases e<;>rfl
 | cond x a b =>
  show sCond rec a b s (evO (look s.t) x)=evStep (regF P) call rec (.cond x a b) s
  simp only [evStep,sCond]
  generalize evO (look s.t) x=y
  rcases y with _|_|v|_|_<;>(try rfl)
  cases v with
  | bool q=>cases q<;>rfl
  | _=>rfl
 | block id body =>
  show sBlock id (rec body s)=evStep (regF P) call rec (.block id body) s
  simp only [evStep,sBlock]
  generalize rec body s=y
  rcases y with _|⟨e,s'⟩
  ·rfl
  ·cases e<;>rfl
 | loop body =>
  show sLoop rec body (rec body s)=stepF P call rec (.loop body) s
  simp only [stepF,sLoop]
  generalize rec body s=y
  rcases y with _|⟨e,⟨t,m,c⟩⟩
  ·rfl
  ·cases e<;>rfl
 | _=>rfl
def tidy3 (v:AV) (c:Nat) (m:Mem):Option (AV × Mem × Nat):=some (v,m,c)
def tidy2 (v:AV) (c c':Nat) (m δ:Mem):Option (AV × Mem × Nat):=fL (clean v δ c c'++m) (tidy3 v c')
def tidy1 (v:AV) (c:Nat) (m m':Mem) (c':Nat):Option (AV × Mem × Nat):=fL (m'.take (m'.length - m.length)) (tidy2 v c c' m)
def tidy0 (c:Nat) (m m':Mem) (c':Nat) (v:AV):Option (AV × Mem × Nat):=fN c' (tidy1 v c m m')
def tidy (c:Nat) (m:Mem) (r:Res):Option (AV × Mem × Nat):=match r with
 | some (v,m',c')=>fA v (tidy0 c m m' c')
 | none=>none
def outOf (P:Program) (fn:Func) (r:Option (Ex × St)):Res:=match r with
 | some (.normal,s')=>still (evResults P fn s') s'.m s'.c
 | some (.ret,s')=>still (evResults P fn s') s'.m s'.c
 | _=>none
def enter2 (P:Program) (rec:Rec) (fn:Func) (args:List AV) (m:Mem) (c:Nat) (b:Option Code):Res:=match b with
 | some body=>outOf P fn (rec body ⟨⟨args.length+(fn.ntmps - args.length),enum 0 args⟩,m,c⟩)
 | none=>none
def enter1 (P:Program) (rec:Rec) (fn:Func) (args:List AV) (m:Mem) (c:Nat) (b:Bool):Res:=match b with
 | true=>none
 | false=>enter2 P rec fn args m c fn.body
def enter0 (P:Program) (rec:Rec) (args:List AV) (m:Mem) (c:Nat) (f:Option Func):Res:=match f with
 | some fn => enter1 P rec fn args m c (fn.name == "runtime.NumGoroutine")
 | none=>none
def callQ (rec:Rec):CallF:=fun f args m c=>tidy c m (enter0 P rec args m c (P.funcs[f]?))
theorem callQ_eq (rec:Rec):callQ P rec=callF P rec:=by
 funext f args m c
 unfold callQ callF callEv
 generalize P.funcs[f]?=x
 rcases x with _|fn
 ·rfl
 ·simp only [enter0,enter1]
  cases hn : (fn.name == "runtime.NumGoroutine") with
  | true =>
   simp only [if_true]
   generalize fn.body=y
   rcases y with _|body<;>rfl
  | false =>
   simp only [enter2]
   generalize fn.body=y
   rcases y with _|body
   ·rfl
   ·simp only [Bool.false_eq_true,if_false]
    generalize rec body ⟨⟨args.length+(fn.ntmps - args.length),enum 0 args⟩,m,c⟩=z
    rcases z with _|⟨e,s'⟩
    ·rfl
    ·cases e with
     | normal=>simp only [outOf,still_eq];generalize evResults P fn s'=u;rcases u with _|v<;>rfl
     | exit i=>rfl
     | ret=>simp only [outOf,still_eq];generalize evResults P fn s'=u;rcases u with _|v<;>rfl
def evQ:Nat→Rec
 | 0=>fun _ _=>none
 | n+1=>stepQ P (callQ P (evQ n)) (evQ n)
theorem evQ_eq:∀ n,evQ P n=evF P n
 | 0=>rfl
 | n+1=>by
  simp only [evQ,evF]
  rw [stepQ_eq,callQ_eq,evQ_eq n]
end
variable {P:Program}
end Go.Proofs.Ytaelliigpclipaa.Eng
