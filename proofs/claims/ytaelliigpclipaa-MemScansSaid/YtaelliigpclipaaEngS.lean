/- The reckoner,told so that the kernel reckons it quickly: each value is laid out in full before it is handed on. It answers as the reckoner does. -/
import Derived.Test.YtaelliigpclipaaEngM
namespace Go.Proofs.Ytaelliigpclipaa.Eng
set_option linter.unusedVariables false
set_option linter.unusedSimpArgs false
open Go Go.RowKit
section
variable {α:Type}
def fN (n:Nat) (k:Nat→α):α:=match n with|0=>k 0|n+1=>k (n+1)
def fB (b:Bool) (k:Bool→α):α:=match b with|true=>k true|false=>k false
def fI (i:Int) (k:Int→α):α:=match i with|.ofNat n=>fN n fun n=>k (.ofNat n)|.negSucc n=>fN n fun n=>k (.negSucc n)
def fK (x:IntKind) (k:IntKind→α):α:=match x with
 | .i8=>k .i8|.i16=>k .i16|.i32=>k .i32|.i64=>k .i64|.u8=>k .u8|.u16=>k .u16|.u32=>k .u32|.u64=>k .u64
def fL {β:Type}:List β→(List β→α)→α
 | [],k=>k []
 | x :: r,k=>fL r fun r=>k (x :: r)
def fS (s:ByteArray) (k:ByteArray→α):α:=match s with|⟨⟨l⟩⟩=>fL l fun l=>k ⟨⟨l⟩⟩
def fO (o:Option Nat) (k:Option Nat→α):α:=match o with|none=>k none|some n=>fN n fun n=>k (some n)
def fV (v:SV) (k:SV→α):α:=match v with
 | .bool b=>fB b fun b=>k (.bool b)
 | .int kd n=>fK kd fun kd=>fI n fun n=>k (.int kd n)
 | .str s=>fS s fun s=>k (.str s)
 | .ptr0=>k .ptr0
 | .ptr n off=>fN n fun n=>fN off fun off=>k (.ptr n off)
 | .sl0=>k .sl0
 | .sl n off len cap sz=>fN n fun n=>fN off fun off=>fN len fun len=>fO cap fun cap=>fN sz fun sz=>k (.sl n off len cap sz)
 | .slE n=>fN n fun n=>k (.slE n)
 | .fnil=>k .fnil
 | .fn f cs=>fN f fun f=>fL cs fun cs=>k (.fn f cs)
 | .inil=>k .inil
 | .slv len cap sz cs=>k (.slv len cap sz cs)
 | .ptv cs=>k (.ptv cs)
def fVs:List SV→(List SV→α)→α
 | [],k=>k []
 | x :: r,k=>fV x fun x=>fVs r fun r=>k (x :: r)
def fCs:List (Bool × List SV)→(List (Bool × List SV)→α)→α
 | [],k=>k []
 | (b,l) :: r,k=>fB b fun b=>fVs l fun l=>fCs r fun r=>k ((b,l) :: r)
def fA (v:AV) (k:AV→α):α:=match v with
 | .any=>k .any
 | .no=>k .no
 | .s v=>fV v fun v=>k (.s v)
 | .agg l=>fVs l fun l=>k (.agg l)
 | .tup l=>fCs l fun l=>k (.tup l)
def fE (e:Nat × Option Blk) (k:Nat × Option Blk→α):α:=match e with
 | (n,none)=>fN n fun n=>k (n,none)
 | (n,some ⟨cs,b⟩)=>fN n fun n=>fVs cs fun cs=>fB b fun b=>k (n,some ⟨cs,b⟩)
def fM:Nat→Mem→(Mem→α)→α
 | 0,m,k=>k m
 | _+1,[],k=>k []
 | n+1,e :: r,k=>fE e fun e=>fM n r fun r=>k (e :: r)
theorem fN_eq (n:Nat) (k:Nat→α):fN n k=k n:=by cases n<;>rfl
theorem fB_eq (b:Bool) (k:Bool→α):fB b k=k b:=by cases b<;>rfl
theorem fI_eq (i:Int) (k:Int→α):fI i k=k i:=by cases i<;>simp [fI,fN_eq]
theorem fK_eq (x:IntKind) (k:IntKind→α):fK x k=k x:=by cases x<;>rfl
theorem fL_eq {β:Type}:∀ (l:List β) (k:List β→α),fL l k=k l
 | [],_=>rfl
 | x :: r,k=>by simp only [fL];rw [fL_eq r]
theorem fS_eq (s:ByteArray) (k:ByteArray→α):fS s k=k s:=by obtain ⟨⟨l⟩⟩:=s;simp [fS,fL_eq]
theorem fO_eq (o:Option Nat) (k:Option Nat→α):fO o k=k o:=by cases o<;>simp [fO,fN_eq]
theorem fV_eq (v:SV) (k:SV→α):fV v k=k v:=by cases v<;>simp [fV,fN_eq,fB_eq,fI_eq,fK_eq,fS_eq,fO_eq,fL_eq]
theorem fVs_eq:∀ (l:List SV) (k:List SV→α),fVs l k=k l
 | [],_=>rfl
 | x :: r,k=>by simp only [fVs,fV_eq];rw [fVs_eq r]
theorem fCs_eq:∀ (l:List (Bool × List SV)) (k:List (Bool × List SV)→α),fCs l k=k l
 | [],_=>rfl
 | (b,l) :: r,k=>by simp only [fCs,fB_eq,fVs_eq];rw [fCs_eq r]
theorem fA_eq (v:AV) (k:AV→α):fA v k=k v:=by cases v<;>simp [fA,fV_eq,fVs_eq,fCs_eq]
theorem fE_eq (e:Nat × Option Blk) (k:Nat × Option Blk→α):fE e k=k e:=by
 obtain ⟨n,b⟩:=e
 cases b with
 | none=>simp [fE,fN_eq]
 | some b=>obtain ⟨cs,b⟩:=b;simp [fE,fN_eq,fB_eq,fVs_eq]
theorem fM_eq:∀ (n:Nat) (m:Mem) (k:Mem→α),fM n m k=k m
 | 0,_,_=>rfl
 | _+1,[],_=>rfl
 | n+1,e :: r,k=>by simp only [fM,fE_eq];rw [fM_eq n r]
end
section
variable (P:Program)
abbrev Res:=Option (AV × Mem × Nat)
def one (v:AV) (m:Mem) (c:Nat):Res:=some (v,m,c)
def oPick (x a b:AV) (m:Mem) (c:Nat):Res:=match x with
 | .s (.bool q)=>some (if q then a else b,m,c)
 | _=>none
def oAlloc (e:TypeId) (m:Mem) (c:Nat):Res:=match tzero P e with
 | some z=>some (.s (.ptr c 0),newBlk z m c,c+1)
 | none=>none
def oBox (x:AV) (m:Mem) (c:Nat):Res:=match x.cells with
 | some z=>some (.s (.ptr c 0),newBlk z m c,c+1)
 | none=>none
def still (v:Option AV) (m:Mem) (c:Nat):Res:=match v with
 | some v=>some (v,m,c)
 | none=>none
def stillS (v:Option SV) (m:Mem) (c:Nat):Res:=match v with
 | some v=>some (.s v,m,c)
 | none=>none
def oStore (m':Option Mem) (c:Nat):Res:=match m' with
 | some m'=>some (.any,m',c)
 | none=>none
def oNil (x:AV) (m:Mem) (c:Nat):Res:=match x with
 | .s (.ptr n off)=>some (.s (.ptr n off),m,c)
 | .s (.fn f cs)=>some (.s (.fn f cs),m,c)
 | .s (.ptv cs)=>some (.s (.ptv cs),m,c)
 | _=>none
def oFunc (fn:Fn) (first caps:Array Operand) (t:Nat→AV) (m:Mem) (c:Nat):Res:=match fn with
 | .func f=>if first.size=0 then stillS ((asPtrs (caps.toList.map (evO t))).map fun l=>.fn f l) m c else none
 | _=>none
def oExtract (x:AV) (i:Nat) (m:Mem) (c:Nat):Res:=match x with
 | .tup vs=>still ((vs[i]?).bind ofComp) m c
 | _=>none
def oAppend (args:List Operand) (ts:List TypeId) (t:Nat→AV) (m:Mem) (c:Nat):Res:=match args,ts with
 | [s,x],[ts,tx]=>evAppend P ts tx (evO t s) (evO t x) m c
 | _,_=>none
def oCopy (args:List Operand) (ts:List TypeId) (t:Nat→AV) (m:Mem) (c:Nat):Res:=match args,ts with
 | [s,x],[ts,tx]=>match evCopy P ts tx (evO t s) (evO t x) m with
  | some (v,m')=>some (v,m',c)
  | none=>none
 | _,_=>none
def oClear (args:List Operand) (ts:List TypeId) (t:Nat→AV) (m:Mem) (c:Nat):Res:=match args,ts with
 | [x],[tx]=>match evClear P tx (evO t x) m with
  | some m'=>some (.tup [],m',c)
  | none=>none
 | _,_=>none
def oLen (args:List Operand) (ts:List TypeId) (t:Nat→AV) (m:Mem) (c:Nat):Res:=match args,ts with
 | [x],[tx]=>still (evLen P tx (evO t x)) m c
 | _,_=>none
def oCap (args:List Operand) (ts:List TypeId) (t:Nat→AV) (m:Mem) (c:Nat):Res:=match args,ts with
 | [x],[tx]=>still (evCap P tx (evO t x)) m c
 | _,_=>none
def oMm (mx:Bool) (args:List Operand) (t:Nat→AV) (m:Mem) (c:Nat):Res:=match args.map (evO t) with
 | x :: r=>still (mmAll mx x r) m c
 | _=>none
def oCall (call:CallF) (f:AV) (args:List AV) (m:Mem) (c:Nat):Res:=match f with
 | .s (.fn g cs)=>call g (args++cs.map fun p=>.s (.ptr p.1 p.2)) m c
 | _=>none
def oBuiltin (b:Builtin) (args:Array Operand) (ts:Array TypeId) (t:Nat→AV) (m:Mem) (c:Nat):Res:=match b with
 | .append=>oAppend P args.toList ts.toList t m c
 | .copy=>oCopy P args.toList ts.toList t m c
 | .clear=>oClear P args.toList ts.toList t m c
 | .len=>oLen P args.toList ts.toList t m c
 | .cap=>oCap P args.toList ts.toList t m c
 | .min=>oMm false args.toList t m c
 | .max=>oMm true args.toList t m c
 | _=>none
def oCallee (call:CallF) (x:Callee) (args:Array Operand) (ts:Array TypeId) (t:Nat→AV) (m:Mem) (c:Nat):Res:=match x with
 | .builtin b=>oBuiltin P b args ts t m c
 | .value f=>oCall call (evO t f) (args.toList.map (evO t)) m c
 | _=>none
def evOpF (call:CallF) (o:Op) (t:Nat→AV) (m:Mem) (c:Nat):Res:=match o with
 | .move x=>one (evO t x) m c
 | .assign x=>one (evO t x) m c
 | .pick x a b=>oPick (evO t x) (evO t a) (evO t b) m c
 | .alloc e=>oAlloc P e m c
 | .box _ x=>oBox (evO t x) m c
 | .build ty parts=>still (evBuild P ty (parts.toList.map fun p=>(p.1,evO t p.2))) m c
 | .buildSlice ty len parts=>evBuildSlice P ty len (parts.toList.map fun p=>(p.1,evO t p.2)) m c
 | .load ty a=>still (evLoad P ty (evO t a) m) m c
 | .store ty a x=>oStore (evStore P ty (evO t a) (evO t x) m) c
 | .nilCheck x=>oNil (evO t x) m c
 | .binOp op xt x y _=>stillS (evBin P op xt (evO t x) (evO t y)) m c
 | .unOp op _ x=>stillS (evUn op (evO t x)) m c
 | .convert a b x=>evConv P a b (evO t x) m c
 | .makeFunc fn first caps=>oFunc fn first caps t m c
 | .makeSlice ty l cp=>evMake P ty (evO t l) (evO t cp) m c
 | .slice ty x lo hi mx=>still (evSliceM P ty (evO t x) (lo.map (evO t)) (hi.map (evO t)) (mx.map (evO t)) m) m c
 | .fieldAddr s x f=>still (evFieldAddr P s (evO t x) f) m c
 | .field s x f=>still (evField P s (evO t x) f) m c
 | .indexAddr ty x i=>still (evIndexAddr P ty (evO t x) (evO t i)) m c
 | .index ty x i=>still (evIndex P ty (evO t x) (evO t i)) m c
 | .extract x i=>oExtract (evO t x) i m c
 | .call cl=>oCallee P call cl.callee cl.args cl.argTypes t m c
 | _=>none
end
theorem still_eq (v:Option AV) (m:Mem) (c:Nat):still v m c=v.map fun v=>(v,m,c):=by cases v<;>rfl
theorem stillS_eq (v:Option SV) (m:Mem) (c:Nat):stillS v m c=v.map fun v=>(.s v,m,c):=by cases v<;>rfl
theorem evOpF_eq (P:Program) (call:CallF) (o:Op) (ty:TypeId) (t:Nat→AV) (m:Mem) (c:Nat):evOpF P call o t m c=evOp P call o ty t m c:=by
 cases o with
 | pick x a b=>simp only [evOpF,evOp,oPick];generalize evO t x=y;rcases y with _|_|v|_|_<;>first|rfl|(cases v<;>rfl)
 | alloc e=>simp only [evOpF,evOp,oAlloc];cases tzero P e<;>rfl
 | box e x=>simp only [evOpF,evOp,oBox];cases (evO t x).cells<;>rfl
 | store ty a x=>simp only [evOpF,evOp,oStore];cases evStore P ty (evO t a) (evO t x) m<;>rfl
 | nilCheck x=>simp only [evOpF,evOp,oNil];generalize evO t x=y;rcases y with _|_|v|_|_<;>first|rfl|(cases v<;>rfl)
 | extract x i=>simp only [evOpF,evOp,oExtract,still_eq];generalize evO t x=y;rcases y with _|_|v|_|_<;>rfl
 | makeFunc fn first caps =>
  cases fn with
  | func f =>
   simp only [evOpF,evOp,oFunc,stillS_eq]
   split
   ·cases asPtrs (caps.toList.map (evO t))<;>rfl
   ·rfl
  | _=>rfl
 | call cl =>
  obtain ⟨callee,args,ts⟩:=cl
  cases callee with
  | value f=>simp only [evOpF,evOp,oCallee,oCall];generalize evO t f=y;rcases y with _|_|v|_|_<;>first|rfl|(cases v<;>rfl)
  | invoke r n=>rfl
  | builtin b =>
   cases b with
   | append =>
    simp only [evOpF,evOp,oCallee,oBuiltin,oAppend]
    generalize args.toList=as
    generalize ts.toList=us
    rcases as with _|⟨a,_|⟨b,_|⟨d,r⟩⟩⟩<;>(try rfl)
   | copy =>
    simp only [evOpF,evOp,oCallee,oBuiltin,oCopy]
    generalize args.toList=as
    generalize ts.toList=us
    rcases as with _|⟨a,_|⟨b,_|⟨d,r⟩⟩⟩<;>(try rfl)
    rcases us with _|⟨u,_|⟨v,_|⟨w,q⟩⟩⟩<;>(try rfl)
    generalize hy:evCopy P u v (evO t a) (evO t b) m=y
    simp only [hy]
    rcases y with _|⟨v,m'⟩<;>rfl
   | clear =>
    simp only [evOpF,evOp,oCallee,oBuiltin,oClear]
    generalize args.toList=as
    generalize ts.toList=us
    rcases as with _|⟨a,_|⟨b,r⟩⟩<;>(try rfl)
    rcases us with _|⟨u,_|⟨v,q⟩⟩<;>(try rfl)
    generalize hy:evClear P u (evO t a) m=y
    simp only [hy]
    rcases y with _|m'<;>rfl
   | len =>
    simp only [evOpF,evOp,oCallee,oBuiltin,oLen,still_eq]
    generalize args.toList=as
    generalize ts.toList=us
    rcases as with _|⟨a,_|⟨b,r⟩⟩<;>(try rfl)
   | cap =>
    simp only [evOpF,evOp,oCallee,oBuiltin,oCap,still_eq]
    generalize args.toList=as
    generalize ts.toList=us
    rcases as with _|⟨a,_|⟨b,r⟩⟩<;>(try rfl)
   | min=>simp only [evOpF,evOp,oCallee,oBuiltin,oMm,still_eq];generalize args.toList.map (evO t)=y;rcases y with _|⟨x,r⟩<;>rfl
   | max=>simp only [evOpF,evOp,oCallee,oBuiltin,oMm,still_eq];generalize args.toList.map (evO t)=y;rcases y with _|⟨x,r⟩<;>rfl
   | _=>rfl
 | _=>first|rfl|simp only [evOpF,evOp,still_eq,stillS_eq]
def newest:Op→Nat
 | .alloc _=>1
 | .box ..=>1
 | .buildSlice ..=>1
 | .store ..=>1
 | .makeSlice ..=>1
 | .convert ..=>1
 | .call cl=>match cl.callee with
  | .builtin _=>2
  | _=>0
 | _=>0
section
variable (P:Program)
def evOpsF (call:CallF) (ops:Array Oper):List Oper→Tm→Mem→Nat→Option (Tm × Mem × Nat)
 | [],t,m,c=>some (t,m,c)
 | o :: r,t,m,c=>match want ops (look t) o with
  | some true=>match evOpF P call o.op (look t) m c with
   | some (v,m',c')=>fA v fun v=>fM (newest o.op) m' fun m'=>fN c' fun c'=>match putT t o.dst v with
    | ⟨n,l⟩=>evOpsF call ops r ⟨n,l⟩ m' c'
   | none=>none
  | some false=>match putT t o.dst .no with
    | ⟨n,l⟩=>evOpsF call ops r ⟨n,l⟩ m c
  | none=>none
def evDF (call:CallF) (ops:Array Oper) (bss:List (List Nat)) (hid:List Mem) (m0:Mem):List Oper→Nat→Tm→List Mem→Nat→Option (Tm × List Mem × Nat)
 | [],_,t,ds,c=>some (t,ds,c)
 | o :: r,j,t,ds,c=>match want ops (look t) o with
  | some true=>fL (roomOf bss hid m0 ds j) fun room=>match evOpF P call o.op (look t) room c with
   | some (v,m',c')=>fA v fun v=>fN c' fun c'=>fL (m'.take (m'.length - room.length)) fun δ=>fM δ.length δ fun δ=>fL (ds++[δ]) fun ds=>match putT t o.dst v with
    | ⟨n,l⟩=>evDF call ops bss hid m0 r (j+1) ⟨n,l⟩ ds c'
   | none=>none
  | some false=>fL (ds++[[]]) fun ds=>match putT t o.dst .no with
   | ⟨n,l⟩=>evDF call ops bss hid m0 r (j+1) ⟨n,l⟩ ds c
  | none=>none
def evDrawnF (call:CallF) (ops:Array Oper) (t:Tm) (m:Mem) (c:Nat):Option (Tm × Mem × Nat) :=
 if static ops (befores ops.toList []) then
  match evDF P call ops (befores ops.toList []) [] m ops.toList 0 t [] c with
  | some (t',ds,c')=>if dyn ops (befores ops.toList []) [] m ds then fL (allOf ds m) fun m'=>some (t',m',c') else
   match evDF P call ops (befores ops.toList []) (hides ops (befores ops.toList []) ds) m ops.toList 0 t [] c with
   | some (t',ds',c')=>if dyn ops (befores ops.toList []) (hides ops (befores ops.toList []) ds) m ds' then fL (allOf ds' m) fun m'=>some (t',m',c') else none
   | none=>none
  | none=>none
 else none
def regF:RegF:=fun call ops draw t m c=>if draw then evDrawnF P call ops t m c else evOpsF P call ops ops.toList t m c
end
variable {P:Program}
theorem evOpsF_eq (call:CallF) (ops:Array Oper):∀ (l:List Oper) (t:Tm) (m:Mem) (c:Nat),evOpsF P call ops l t m c=evOps P call ops l t m c
 | [],_,_,_=>rfl
 | o :: r,t,m,c=>by
  have ih:=evOpsF_eq call ops r
  simp only [evOpsF,evOps,fA_eq,fM_eq,fN_eq,ih,evOpF_eq P call o.op o.type]
  generalize want ops (look t) o=x
  rcases x with _|b
  ·rfl
  ·cases b
   ·rfl
   ·generalize evOp P call o.op o.type (look t) m c=y
    rcases y with _|⟨v,m',c'⟩<;>rfl
theorem evDF_eq (call:CallF) (ops:Array Oper) (bss:List (List Nat)) (hid:List Mem) (m0:Mem):∀ (l:List Oper) (j:Nat) (t:Tm) (ds:List Mem) (c:Nat),evDF P call ops bss hid m0 l j t ds c=evD P call ops bss hid m0 l j t ds c
 | [],_,_,_,_=>rfl
 | o :: r,j,t,ds,c=>by
  have ih:=evDF_eq call ops bss hid m0 r
  simp only [evDF,evD,fA_eq,fM_eq,fN_eq,fL_eq,ih,evOpF_eq P call o.op o.type]
  generalize want ops (look t) o=x
  rcases x with _|b
  ·rfl
  ·cases b
   ·rfl
   ·generalize evOp P call o.op o.type (look t) (roomOf bss hid m0 ds j) c=y
    rcases y with _|⟨v,m',c'⟩<;>rfl
theorem regF_eq:regF P=regAll P:=by
 funext call ops draw t m c
 unfold regF regAll
 split
 ·unfold evDrawnF evDrawn
  simp only [evDF_eq,fL_eq]
  split
  ·rename_i hst
   generalize evD P call ops (befores ops.toList []) [] m ops.toList 0 t [] c=y
   rcases y with _|⟨t',ds,c'⟩
   ·rfl
   ·simp only
    split
    ·rfl
    ·generalize evD P call ops (befores ops.toList []) (hides ops (befores ops.toList []) ds) m ops.toList 0 t [] c=z
     rcases z with _|⟨t2,ds2,c2⟩<;>rfl
  ·rfl
 ·exact evOpsF_eq call ops _ t m c
def svNames:SV→List Nat
 | .ptr n _=>[n]
 | .sl n _ _ _ _=>[n]
 | .slE n=>[n]
 | .fn _ cs=>cs.map (·.1)
 | _=>[]
def avNames:AV→List Nat
 | .s v=>svNames v
 | .agg l=>l.flatMap svNames
 | .tup l=>l.flatMap fun p=>p.2.flatMap svNames
 | _=>[]
def firsts:Mem→List Nat→Mem
 | [],_=>[]
 | e :: r,seen=>if seen.contains e.1 then firsts r seen else e :: firsts r (e.1 :: seen)
def reach (δ:Mem) (c:Nat):Nat→List Nat→List Nat→List Nat
 | 0,_,acc=>acc
 | _+1,[],acc=>acc
 | f+1,x :: r,acc=>if x < c then reach δ c f r acc else if acc.contains x then reach δ c f r acc else match get δ x with
  | some b=>reach δ c f (b.cells.flatMap svNames++r) (x :: acc)
  | none=>reach δ c f r acc
def roots (c:Nat) (δ:Mem):List Nat:=δ.flatMap fun e=>if e.1 < c then (match e.2 with|some b=>b.cells.flatMap svNames|none=>[]) else []
def keepN (c c':Nat) (ns:List Nat) (n:Nat):Bool:=decide (n < c)||decide (c'≤n)||ns.contains n
def keepOf (δ:Mem) (c c':Nat) (ns:List Nat):Mem:=δ.filter fun e=>keepN c c' ns e.1
def clean (v:AV) (δ:Mem) (c c':Nat):Mem :=
 fL (firsts δ []) fun δ=>match avNames v++roots c δ with
  | []=>keepOf δ c c' []
  | rs=>keepOf δ c c' (reach δ c 10000 rs [])
theorem firsts_find (n:Nat):∀ (δ:Mem) (seen:List Nat),n∉seen→(firsts δ seen).find? (fun e=>e.1 == n)=δ.find? (fun e=>e.1 == n)
 | [],_,_=>rfl
 | e :: r,seen,h=>by
  simp only [firsts]
  by_cases hc:seen.contains e.1=true
  ·rw [if_pos hc,firsts_find n r seen h]
   have hne:¬ e.1=n:=by intro he;subst he;exact h (by simpa using hc)
   simp [hne]
  ·rw [if_neg hc]
   by_cases he:e.1=n
   ·simp [he]
   ·simp only [List.find?_cons]
    have:(e.1 == n)=false:=by simpa using he
    rw [this]
    exact firsts_find n r (e.1 :: seen) (by simp;exact ⟨fun h=>he h.symm,h⟩)
theorem upd_firsts (δ:Mem) (M:MemF):upd (firsts δ []) M=upd δ M:=by
 funext n
 unfold upd
 rw [firsts_find n δ [] (by simp)]
theorem upd_filter (p:Nat→Bool) (δ:Mem) (M:MemF) (n:Nat):upd (δ.filter fun e=>p e.1) M n=if p n then upd δ M n else M n:=by
 induction δ with
 | nil=>simp [upd]
 | cons e r ih =>
  obtain ⟨k,x⟩:=e
  rw [upd_cons,upd_one]
  by_cases hp:p k=true
  ·rw [List.filter_cons_of_pos (by simpa using hp),upd_cons,upd_one,ih]
   by_cases hk:k=n
   ·subst hk;simp [hp]
   ·simp [hk]
  ·rw [List.filter_cons_of_neg (by simpa using hp),ih]
   by_cases hk:k=n
   ·subst hk;simp [hp]
   ·simp [hk]
theorem Sat.sub {B:Nat} {ρ:Rho} {M M':MemF} {w:World} (h:Sat B ρ M w) (hs:∀ n b,M' n=some b→M n=some b):Sat B ρ M' w :=
 ⟨h.heap,fun n b hn=>h.here n b (hs n b hn),fun n n' b b' l l' a1 a2=>h.apart n n' b b' l l' (hs _ _ a1) (hs _ _ a2),h.frz,fun n b l a1=>h.fown n b l (hs _ _ a1)⟩
theorem clean_eq (v:AV) (δ:Mem) (c c':Nat):∃ ns:List Nat,clean v δ c c'=(firsts δ []).filter fun e=>keepN c c' ns e.1:=by
 unfold clean
 rw [fL_eq]
 split
 ·exact ⟨[],rfl⟩
 ·exact ⟨_,rfl⟩
theorem Post.clean {B:Nat} {ρ:Rho} {M:MemF} {c c':Nat} {w:World} {v:AV} {δ:Mem} {v':Value} {w':World} (h:Post B ρ M c c' w v δ v' w') (hf:∀ n,c≤n→n < c'→M n=none):Post B ρ M c c' w v (clean v δ c c') v' w':=by
 obtain ⟨ρ',e1,e2,e3,e4⟩:=h
 refine ⟨ρ',e1,e2,e3.sub (fun n b hb=>?_),e4⟩
 obtain ⟨ns,hcl⟩:=clean_eq v δ c c'
 rw [hcl,upd_filter (keepN c c' ns),upd_firsts] at hb
 split at hb
 ·exact hb
 ·rename_i hnk
  simp only [keepN,Bool.or_eq_true,decide_eq_true_eq,not_or] at hnk
  rw [hf n (by omega) (by omega)] at hb
  cases hb
def callF (P:Program) (rec:Code→St→Option (Ex × St)):CallF:=fun f args m c=>match callEv P rec f args m c with
 | some (v,m',c')=>fA v fun v=>fN c' fun c'=>fL (m'.take (m'.length - m.length)) fun δ=>fL (clean v δ c c'++m) fun m'=>some (v,m',c')
 | none=>none
theorem callF_ok {B:Nat} {rec:Code→St→Option (Ex × St)} (hrec:CodeOk P B rec):CallOk P B (callF P rec):=by
 intro f args m c v m' c' h
 unfold callF at h
 cases hc:callEv P rec f args m c with
 | none=>rw [hc] at h;cases h
 | some p =>
  obtain ⟨v0,m0,c0⟩:=p
  rw [hc] at h
  simp only [fA_eq,fN_eq,fL_eq,Option.some.injEq,Prod.mk.injEq] at h
  obtain ⟨rfl,rfl,rfl⟩:=h
  obtain ⟨h0,h1,δ,rfl,h3⟩:=call_ok hrec _ _ _ _ _ _ _ hc
  refine ⟨h0,h1,clean v0 δ c c0,by simp,fun ρ M args' w ha hm hfr hs=>(h3 ρ M args' w ha hm hfr hs).mono fun e w' ⟨v',a1,a2⟩=>⟨v',a1,a2.clean (fun n p q=>hs.gone (hfr n p q))⟩⟩
def ded:List (Nat × AV)→List (Nat × AV)
 | []=>[]
 | (k,v) :: r=>(k,v) :: (ded r).filter fun e=>!(e.1 == k)
theorem lk_filter {k d:Nat} (h:¬ k=d):∀ (l:List (Nat × AV)),lk (l.filter fun e=>!(e.1 == k)) d=lk l d
 | []=>rfl
 | (q,v) :: r=>by
  by_cases hq:q=k
  ·subst hq
   rw [List.filter_cons_of_neg (by simp),lk_filter h r]
   simp [lk,h]
  ·rw [List.filter_cons_of_pos (by simpa using hq)]
   simp only [lk,lk_filter h r]
theorem lk_ded:∀ (l:List (Nat × AV)) (d:Nat),lk (ded l) d=lk l d
 | [],_=>rfl
 | (k,v) :: r,d=>by
  simp only [ded,lk]
  by_cases h:k=d
  ·simp [h]
  ·rw [if_neg h,if_neg h,lk_filter h,lk_ded r]
def cmp (t:Tm):Tm:=if t.l.length≤4*t.n then t else fL (ded t.l) fun l=>⟨t.n,l⟩
theorem cmp_eq (t:Tm):(cmp t).n=t.n∧look (cmp t)=look t:=by
 unfold cmp
 split
 ·exact ⟨rfl,rfl⟩
 ·rw [fL_eq]
  exact ⟨rfl,funext fun d=>lk_ded t.l d⟩
def stepF (P:Program) (call:CallF) (rec:Code→St→Option (Ex × St)) (code:Code) (s:St):Option (Ex × St):=match code with
 | .loop body=>match rec body s with
  | some (.normal,s')=>rec (.loop body) ⟨cmp s'.t,s'.m,s'.c⟩
  | r=>r
 | code=>evStep (regF P) call rec code s
theorem stepF_ok {B:Nat} (hmix:P.follows .mixedOrders=true) {call:CallF} (hcall:CallOk P B call) {rec:Code→St→Option (Ex × St)} (hrec:CodeOk P B rec) (hloop:LoopOk P B rec) :
  CodeOk P B (stepF P call rec)∧LoopOk P B (stepF P call rec):=by
 have hreg:RegOk P B (regF P):=by rw [regF_eq];exact reg_ok hmix
 obtain ⟨s1,_⟩:=step_ok hreg hcall hrec hloop
 have loop:LoopOk P B (stepF P call rec):=by
  intro body s e s' h
  simp only [stepF] at h
  split at h
  ·rename_i s1 h1
   obtain ⟨a1,δ1,a2,a3⟩:=hrec _ _ _ _ h1
   obtain ⟨b1,δ2,b2,k,b3⟩:=hloop _ _ _ _ h
   obtain ⟨c1,c2⟩:=cmp_eq s1.t
   simp only at b1 b2
   refine ⟨by omega,δ2++δ1,by rw [b2,a2,List.append_assoc],k+1,fun ρ M a w hd ht hm hfr hs Q hQ=>?_⟩
   rw [rounds_succ]
   refine a3 ρ M a w hd ht hm (hfr.first b1) hs _ (fun ρ' a' w' x1 x2 x3 x4 x5=>?_)
   show Code.rounds P body Q k a' w'
   exact b3 ρ' (upd δ1 M) a' w' x1 (by unfold TR at x2 ⊢;simp only [c1,c2];exact x2) (by simp only [a2];exact upd_here hm δ1) (hfr.rest x3 a1) x4 Q (fun ρ'' a'' w'' y1 y2 y3 y4 y5=>hQ ρ'' a'' w'' y1 y2 (x3.trans y3 a1 b1) (by rw [upd_append];exact y4) (x5.trans y5))
  ·rename_i hne
   cases hr:rec body s with
   | none=>rw [hr] at h;cases h
   | some p =>
    obtain ⟨e1,s1⟩:=p
    rw [hr] at h
    simp only [Option.some.injEq,Prod.mk.injEq] at h
    obtain ⟨rfl,rfl⟩:=h
    obtain ⟨a1,δ1,a2,a3⟩:=hrec _ _ _ _ hr
    refine ⟨a1,δ1,a2,1,fun ρ M a w hd ht hm hfr hs Q hQ=>?_⟩
    rw [rounds_succ]
    refine a3 ρ M a w hd ht hm hfr hs _ (fun ρ' a' w' x1 x2 x3 x4 x5=>?_)
    cases e1 with
    | normal=>exact absurd hr (hne s1)
    | exit id=>exact hQ ρ' a' w' x1 x2 x3 x4 x5
    | ret=>exact hQ ρ' a' w' x1 x2 x3 x4 x5
 refine ⟨?_,loop⟩
 intro code s e s' h
 cases code with
 | loop body =>
  obtain ⟨a1,δ1,a2,k,a3⟩:=loop body s e s' h
  exact ⟨a1,δ1,a2,fun ρ M a w hd ht hm hfr hs Q hQ=>wp_loop_rounds k (a3 ρ M a w hd ht hm hfr hs Q hQ)⟩
 | _=>exact s1 _ s e s' h
def evF (P:Program):Nat→Code→St→Option (Ex × St)
 | 0=>fun _ _=>none
 | n+1=>stepF P (callF P (evF P n)) (evF P n)
theorem evF_ok {B:Nat} (hmix:P.follows .mixedOrders=true):∀ n,CodeOk P B (evF P n)∧LoopOk P B (evF P n)
 | 0=>⟨fun _ _ _ _ h=>by simp [evF] at h,fun _ _ _ _ h=>by simp [evF] at h⟩
 | n+1=>by
  obtain ⟨h1,h2⟩:=evF_ok hmix n
  exact stepF_ok hmix (callF_ok h1) h1 h2
end Go.Proofs.Ytaelliigpclipaa.Eng
