/- The reckoner: what a function of the translation does,reckoned over memory whose blocks have names;every slice that may have grown has an unknown capacity. Definitions only. -/
import Derived.WalkKit
import Derived.ProofKit
import Derived.Deep.MidRow
import Derived.Deep.AppendSrc
import Derived.Lib.ConvBytes
import Derived.Laws.BytesString
import Derived.Laws.MakeOwn
import Derived.Below
namespace Go.Proofs.Ytaelliigpclipaa.Eng
set_option linter.unusedVariables false
set_option linter.unusedSimpArgs false
open Go
inductive SV where
 | bool (b:Bool)
 | int (k:IntKind) (n:Int)
 | str (s:ByteArray)
 | ptr0
 | ptr (n off:Nat)
 | sl0
 | sl (n off len:Nat) (cap:Option Nat) (sz:Nat)
 | slE (n:Nat)
 | fnil
 | fn (f:FuncId) (caps:List (Nat × Nat))
 | inil
 | slv (len:Nat) (cap:Option Nat) (sz:Nat) (cs:List SV)
 | ptv (cs:List SV)
 deriving Inhabited
mutual
def SV.eqb:SV→SV→Bool
 | .bool a,.bool b=>a == b
 | .int k a,.int k' b=>decide (k=k')&&a == b
 | .str a,.str b=>decide (a=b)
 | .ptr0,.ptr0=>true
 | .ptr n o,.ptr n' o'=>n == n'&&o == o'
 | .sl0,.sl0=>true
 | .sl n o l c z,.sl n' o' l' c' z'=>n == n'&&o == o'&&l == l'&&c == c'&&z == z'
 | .slE n,.slE n'=>n == n'
 | .fnil,.fnil=>true
 | .fn f c,.fn f' c'=>decide (f=f')&&decide (c=c')
 | .inil,.inil=>true
 | .slv l c z cs,.slv l' c' z' cs'=>l == l'&&c == c'&&z == z'&&SV.eqL cs cs'
 | .ptv cs,.ptv cs'=>SV.eqL cs cs'
 | _,_=>false
def SV.eqL:List SV→List SV→Bool
 | [],[]=>true
 | x :: r,y :: s=>SV.eqb x y&&SV.eqL r s
 | _,_=>false
end
mutual
theorem SV.eqb_eq:∀ {a b:SV},SV.eqb a b=true→a=b
 | .bool a,b,h=>by cases b<;>simp_all [SV.eqb]
 | .int k a,b,h=>by cases b<;>simp_all [SV.eqb]
 | .str a,b,h=>by cases b<;>simp_all [SV.eqb]
 | .ptr0,b,h=>by cases b<;>simp_all [SV.eqb]
 | .ptr n o,b,h=>by cases b<;>simp_all [SV.eqb]
 | .sl0,b,h=>by cases b<;>simp_all [SV.eqb]
 | .sl n o l c z,b,h=>by cases b<;>simp_all [SV.eqb]
 | .slE n,b,h=>by cases b<;>simp_all [SV.eqb]
 | .fnil,b,h=>by cases b<;>simp_all [SV.eqb]
 | .fn f c,b,h=>by cases b<;>simp_all [SV.eqb]
 | .inil,b,h=>by cases b<;>simp_all [SV.eqb]
 | .slv l c z cs,b,h=>by
  cases b with
  | slv l' c' z' cs' =>
   simp only [SV.eqb,Bool.and_eq_true,beq_iff_eq] at h
   obtain ⟨⟨⟨rfl,rfl⟩,rfl⟩,h⟩:=h
   rw [SV.eqL_eq h]
  | _=>simp [SV.eqb] at h
 | .ptv cs,b,h=>by
  cases b with
  | ptv cs' =>
   simp only [SV.eqb] at h
   rw [SV.eqL_eq h]
  | _=>simp [SV.eqb] at h
theorem SV.eqL_eq:∀ {a b:List SV},SV.eqL a b=true→a=b
 | [],[],_=>rfl
 | x :: r,y :: s,h=>by
  simp only [SV.eqL,Bool.and_eq_true] at h
  rw [SV.eqb_eq h.1,SV.eqL_eq h.2]
 | [],y :: s,h=>by simp [SV.eqL] at h
 | x :: r,[],h=>by simp [SV.eqL] at h
end
mutual
theorem SV.eqb_refl:∀ (a:SV),SV.eqb a a=true
 | .bool a=>by simp [SV.eqb]
 | .int k a=>by simp [SV.eqb]
 | .str a=>by simp [SV.eqb]
 | .ptr0=>by simp [SV.eqb]
 | .ptr n o=>by simp [SV.eqb]
 | .sl0=>by simp [SV.eqb]
 | .sl n o l c z=>by simp [SV.eqb]
 | .slE n=>by simp [SV.eqb]
 | .fnil=>by simp [SV.eqb]
 | .fn f c=>by simp [SV.eqb]
 | .inil=>by simp [SV.eqb]
 | .slv l c z cs=>by simp [SV.eqb,SV.eqL_refl cs]
 | .ptv cs=>by simp [SV.eqb,SV.eqL_refl cs]
theorem SV.eqL_refl:∀ (a:List SV),SV.eqL a a=true
 | []=>by simp [SV.eqL]
 | x :: r=>by simp [SV.eqL,SV.eqb_refl x,SV.eqL_refl r]
end
instance:DecidableEq SV:=fun a b=>if h:SV.eqb a b=true then .isTrue (SV.eqb_eq h) else .isFalse fun e=>h (e ▸ SV.eqb_refl a)
inductive AV where
 | any
 | no
 | s (v:SV)
 | agg (cs:List SV)
 | tup (vs:List (Bool × List SV))
 deriving Inhabited,DecidableEq
structure Blk where
 cells:List SV
 own:Bool
 deriving Inhabited,DecidableEq
abbrev Mem:=List (Nat × Option Blk)
def get:Mem→Nat→Option Blk
 | [],_=>none
 | (k,b) :: m,n=>if k=n then b else get m n
structure Tm where
 n:Nat
 l:List (Nat × AV)
 deriving Inhabited
def lk:List (Nat × AV)→Nat→AV
 | [],_=>.any
 | (k,v) :: r,d=>if k=d then v else lk r d
def look (t:Tm) (d:Nat):AV:=lk t.l d
structure St where
 t:Tm
 m:Mem
 c:Nat
 deriving Inhabited
def AV.cells:AV→Option (List SV)
 | .s v=>some [v]
 | .agg cs=>some cs
 | _=>none
def comp:AV→Option (Bool × List SV)
 | .s v=>some (false,[v])
 | .agg cs=>some (true,cs)
 | _=>none
def ofComp:Bool × List SV→Option AV
 | (false,[v])=>some (.s v)
 | (true,cs)=>some (.agg cs)
 | _=>none
def ofCell:Value→Option SV
 | .bool b=>some (.bool b)
 | .int k n=>some (.int k n)
 | .string s=>some (.str s)
 | .pointer none=>some .ptr0
 | .slice none 0 0=>some .sl0
 | .nilFunc=>some .fnil
 | .nilIface=>some .inil
 | _=>none
def ofCells:List Value→Option (List SV)
 | []=>some []
 | v :: r=>match ofCell v,ofCells r with
  | some x,some l=>some (x :: l)
  | _,_=>none
def ofVal:Value→AV
 | .agg cs=>match ofCells cs.toList with
  | some l=>.agg l
  | none=>.any
 | v=>match ofCell v with
  | some x=>.s x
  | none=>.any
section
variable (P:Program)
def tsize (t:TypeId):Option Nat:=(P.info? t).map (·.size)
def tbytes (t:TypeId):Option Nat:=(P.info? t).map (·.bytes)
def tagg (t:TypeId):Option Bool:=(P.underlying t).map fun d=>match d with|.struct _|.array _ _=>true|_=>false
def tzero (t:TypeId):Option (List SV):=match P.info? t with
 | some i=>match i.zero with
  | some z=>ofCells z.cells.toList
  | none=>none
 | none=>none
def evO (t:Nat→AV):Operand→AV
 | .tmp i=>t i
 | .const v=>ofVal v
 | .func f=>.s (.fn f [])
 | .global _=>.any
def mk (agg:Bool) (cs:List SV):Option AV:=if agg then some (.agg cs) else match cs with|[v]=>some (.s v)|_=>none
def sub (l:List SV) (off n:Nat):Option (List SV):=if off+n≤l.length then some ((l.drop off).take n) else none
def over (l:List SV) (off:Nat) (cs:List SV):List SV:=l.take off++cs++l.drop (off+cs.length)
def evLoad (t:TypeId) (a:AV) (m:Mem):Option AV:=match a with
 | .s (.ptr n off)=>do
  let b ← get m n
  let sz ← tsize P t
  let ag ← tagg P t
  if ag then (sub b.cells off sz).map .agg else (b.cells[off]?).map .s
 | .s (.ptv cs)=>do
  let sz ← tsize P t
  let ag ← tagg P t
  if ag then (sub cs 0 sz).map .agg else (cs[0]?).map .s
 | _=>none
def evStore (t:TypeId) (a v:AV) (m:Mem):Option Mem:=match a with
 | .s (.ptr n off)=>do
  let b ← get m n
  let sz ← tsize P t
  let cs ← v.cells
  if b.own&&cs.length == sz&&decide (off+sz≤b.cells.length) then some ((n,some { b with cells:=over b.cells off cs }) :: m) else none
 | _=>none
def newBlk (cs:List SV) (m:Mem) (c:Nat):Mem:=(c,some ⟨cs,true⟩) :: m
def fillAll (place:Nat→Option (Nat × Nat)) (cells:List SV):List (Nat × AV)→Option (List SV)
 | []=>some cells
 | (i,v) :: rest=>match place i,v.cells with
  | some (off,size),some cs=>if cs.length=size∧off+cs.length≤cells.length then fillAll place (over cells off cs) rest else none
  | _,_=>none
def fieldsOf (t:TypeId):Option (Array Field):=match P.underlying t with|some (.struct fs)=>some fs|_=>none
def elemOf (t:TypeId):Option TypeId:=match P.underlying t with|some (.slice e)=>some e|_=>none
def arrOf (t:TypeId):Option (Nat × TypeId):=match P.underlying t with|some (.array n e)=>some (n,e)|_=>none
def evBuild (t:TypeId) (parts:List (Nat × AV)):Option AV:=do
 let z ← tzero P t
 match fieldsOf P t,arrOf P t with
 | some fs,_ =>
  if fs.all fun f=>(tsize P f.type).isSome then (fillAll (fun i=>(fs[i]?).bind fun f=>(tsize P f.type).map fun s=>(f.offset,s)) z parts).map .agg else none
 | none,some (_,e)=>do
  let s ← tsize P e
  (fillAll (fun i=>some (i*s,s)) z parts).map .agg
 | _,_=>none
def repeated (z:List SV):Nat→List SV
 | 0=>[]
 | n+1=>z++repeated z n
def evBuildSlice (t:TypeId) (len:Nat) (parts:List (Nat × AV)) (m:Mem) (c:Nat):Option (AV × Mem × Nat):=do
 let e ← elemOf P t
 let s ← tsize P e
 let z ← tzero P e
 if len*s≤16777216∧z.length=s∧0 < s∧len≤maxLen then do
  let cs ← fillAll (fun i=>some (i*s,s)) (repeated z len) parts
  some (.s (.sl c 0 len none s),newBlk cs m c,c+1)
 else none
def evMake (t:TypeId) (l cp:AV) (m:Mem) (c:Nat):Option (AV × Mem × Nat):=do
 let e ← elemOf P t
 let s ← tsize P e
 let z ← tzero P e
 let by_ ← tbytes P e
 match l,cp with
 | .s (.int _ n),.s (.int _ n') =>
  if n=n'∧0≤n∧by_*n≤140737488355328∧z.length=s∧0 < s∧n≤9223372036854775807 then
   some (.s (.sl c 0 n.toNat none s),newBlk (repeated z n.toNat) m c,c+1)
  else none
 | _,_=>none
def evField (t:TypeId) (x:AV) (f:Nat):Option AV:=do
 let fs ← fieldsOf P t
 let fd ← fs[f]?
 let s ← tsize P fd.type
 let ag ← tagg P fd.type
 match x with
 | .agg cs=>if ag then (sub cs fd.offset s).map .agg else (cs[fd.offset]?).map .s
 | _=>none
def evFieldAddr (t:TypeId) (x:AV) (f:Nat):Option AV:=do
 let fs ← fieldsOf P t
 let fd ← fs[f]?
 let s ← tsize P fd.type
 match x with
 | .s (.ptr n off)=>if s=0 then none else some (.s (.ptr n (off+fd.offset)))
 | .s (.ptv cs)=>if s=0 then none else (sub cs fd.offset s).map fun l=>.s (.ptv l)
 | _=>none
def evIndexAddr (t:TypeId) (x i:AV):Option AV:=match i with
 | .s (.int _ i)=>match x with
  | .s (.sl n off len _ _)=>do
   let e ← elemOf P t
   let s ← tsize P e
   if 0≤i∧i < len then some (.s (.ptr n (off+i.toNat*s))) else none
  | .s (.slv len _ _ cs)=>do
   let e ← elemOf P t
   let s ← tsize P e
   if 0≤i∧i < len then (sub cs (i.toNat*s) s).map fun l=>.s (.ptv l) else none
  | .s (.ptr n off)=>do
   let (len,e) ← arrOf P t
   let s ← tsize P e
   if 0≤i∧i < len then some (.s (.ptr n (off+i.toNat*s))) else none
  | _=>none
 | _=>none
def evIndex (t:TypeId) (x i:AV):Option AV:=match i with
 | .s (.int _ i)=>match x with
  | .s (.str s)=>match P.underlying t with
   | some .string=>if 0≤i then (s[i.toNat]?).map fun b=>.s (.int .u8 b.toNat) else none
   | _=>none
  | .agg cs=>do
   let (len,e) ← arrOf P t
   let s ← tsize P e
   let ag ← tagg P e
   if 0≤i∧i < len then (if ag then (sub cs (i.toNat*s) s).map .agg else (cs[i.toNat*s]?).map .s) else none
  | _=>none
 | _=>none
def bnd (x:Option AV) (d y:Nat):Option Nat:=match x with
 | none=>some d
 | some (.s (.int _ i))=>if 0≤i∧i≤y then some i.toNat else none
 | _=>none
def evSlice (t:TypeId) (x:AV) (lo hi mx:Option AV):Option AV:=match x with
 | .s (.str s)=>match P.underlying t,mx with
  | some .string,none=>do
   let h ← bnd hi s.size s.size
   let l ← bnd lo 0 h
   some (.s (.str (s.extract l h)))
  | _,_=>none
 | .s (.sl n off len cap sz)=>do
  let e ← elemOf P t
  let s ← tsize P e
  if s=sz∧0 < s then
   match mx with
   | none=>do
    let h ← bnd hi len len
    let l ← bnd lo 0 h
    if l=0 then some (.s (.sl n off h cap sz))
    else match cap with
     | none=>if l < len then some (.s (.sl n (off+l*sz) (h - l) none sz)) else some (.s (.slE n))
     | some k=>if l < k then some (.s (.sl n (off+l*sz) (h - l) (some (k - l)) sz)) else some (.s (.slE n))
   | some mx=>do
    let q ← bnd (some mx) 0 len
    let h ← bnd hi len q
    let l ← bnd lo 0 h
    if hi=none then none else
    if q=l then some (.s (.sl n off 0 (some 0) sz)) else some (.s (.sl n (off+l*sz) (h - l) (some (q - l)) sz))
  else none
 | .s .sl0=>do
  let _ ← elemOf P t
  let _ ← (elemOf P t).bind (tsize P)
  match mx with
  | none=>do
   let h ← bnd hi 0 0
   let _ ← bnd lo 0 h
   some (.s .sl0)
  | some mx=>do
   let q ← bnd (some mx) 0 0
   let h ← bnd hi 0 q
   let _ ← bnd lo 0 h
   if hi=none then none else some (.s .sl0)
 | .s (.slv len cap sz cs)=>do
  let e ← elemOf P t
  let s ← tsize P e
  if s=sz∧0 < s then
   match mx with
   | none=>do
    let h ← bnd hi len len
    let l ← bnd lo 0 h
    (sub cs (l*sz) ((h - l)*sz)).map fun r=>.s (.slv (h - l) (cap.map (· - l)) sz r)
   | some mx=>do
    let q ← bnd (some mx) 0 len
    let h ← bnd hi len q
    let l ← bnd lo 0 h
    if hi=none then none else (sub cs (l*sz) ((h - l)*sz)).map fun r=>.s (.slv (h - l) (some (q - l)) sz r)
  else none
 | .s (.slE n)=>do
  let _ ← (elemOf P t).bind (tsize P)
  match mx with
  | none=>do
   let h ← bnd hi 0 0
   let _ ← bnd lo 0 h
   some (.s (.slE n))
  | _=>none
 | .s (.ptr n off)=>do
  let (k,e) ← arrOf P t
  let s ← tsize P e
  match mx with
  | none=>do
   let h ← bnd hi k k
   let l ← bnd lo 0 h
   if 0 < s∧k≤maxLen∧l < k then some (.s (.sl n (off+l*s) (h - l) (some (k - l)) s)) else none
  | _=>none
 | _=>none
def evFar (t:TypeId) (x:AV) (lo hi mx:Option AV) (m:Mem):Option AV:=match x,mx with
 | .s (.sl n off len none sz),none=>match elemOf P t with
  | some e=>match tsize P e,get m n with
   | some s,some b=>if s=sz∧0 < s then match bnd hi len ((b.cells.length - off) / sz) with
    | some h=>match bnd lo 0 h with
     | some l=>if off≤b.cells.length∧len≤(b.cells.length - off) / sz∧l < h then some (.s (.sl n (off+l*sz) (h - l) none sz)) else none
     | none=>none
    | none=>none
    else none
   | _,_=>none
  | none=>none
 | _,_=>none
def evSliceM (t:TypeId) (x:AV) (lo hi mx:Option AV) (m:Mem):Option AV:=match evSlice P t x lo hi mx with
 | some v=>some v
 | none=>evFar P t x lo hi mx m
def strCells (s:ByteArray):List SV:=s.data.toList.map fun b=>.int .u8 b.toNat
def evSrc (sz:Nat) (tx:TypeId) (x:AV) (m:Mem):Option (Nat × List SV):=match x with
 | .s .sl0=>(elemOf P tx).map fun _=>(0,[])
 | .s (.slE _)=>(elemOf P tx).map fun _=>(0,[])
 | .s (.sl n off len _ _)=>do
  let _ ← elemOf P tx
  let b ← get m n
  let cs ← sub b.cells off (len*sz)
  some (len,cs)
 | .s (.slv len _ sz' cs)=>do
  let _ ← elemOf P tx
  if sz'=sz then some (len,cs) else none
 | .s (.str s)=>match P.underlying tx with
  | some .string=>if sz=1 then some (s.size,strCells s) else none
  | _=>none
 | _=>none
def evAppend1 (ts tx:TypeId) (s x:AV) (m:Mem) (c:Nat):Option (AV × Mem × Nat):=do
 let e ← elemOf P ts
 let sz ← tsize P e
 let by_ ← tbytes P e
 let z ← tzero P e
 let (k,news) ← evSrc P sz tx x m
 if 0 < sz∧z.length=sz then
  match s with
  | .s .sl0=>if k=0 then some (.s .sl0,m,c) else
   if k≤maxLen∧k*by_≤140737488355328 then some (.s (.sl c 0 k none sz),newBlk news m c,c+1) else none
  | .s (.slE n)=>if k=0 then some (.s (.slE n),m,c) else none
  | .s (.sl n off len cap sz')=>do
   let b ← get m n
   if k=0∧¬ (cap=none∧b.own=true∧off+len*sz=b.cells.length∧len≤maxLen∧len*by_≤140737488355328∧sz'=sz) then some (.s (.sl n off len cap sz'),m,c) else do
   let olds ← sub b.cells off (len*sz)
   if len+k≤maxLen∧(len+k)*by_≤140737488355328∧sz'=sz then
    match cap with
    | some q=>if q < len+k then some (.s (.sl c 0 (len+k) none sz),newBlk (olds++news) m c,c+1) else none
    | none=>if b.own∧off+len*sz=b.cells.length then some (.s (.sl c 0 (len+k) none sz),newBlk (olds++news) ((n,none) :: m) c,c+1) else none
   else none
  | .s (.slv len cap sz' olds) =>
   if k=0 then some (.s (.slv len cap sz' olds),m,c) else
   if len+k≤maxLen∧(len+k)*by_≤140737488355328∧sz'=sz then
    match cap with
    | some q=>if q < len+k then some (.s (.sl c 0 (len+k) none sz),newBlk (olds++news) m c,c+1) else none
    | none=>none
   else none
  | _=>none
 else none
def evRoom (ts tx:TypeId) (s x:AV) (m:Mem) (c:Nat):Option (AV × Mem × Nat):=match s with
 | .s (.sl n off len none sz')=>match elemOf P ts with
  | some e=>match tsize P e with
   | some sz=>match evSrc P sz tx x m with
    | some (k,news)=>match get m n with
     | some ⟨cells,true⟩=>if 0 < sz∧sz'=sz∧off+(len+k)*sz≤cells.length then some (.s (.sl n off (len+k) none sz),(n,some ⟨over cells (off+len*sz) news,true⟩) :: m,c) else none
     | _=>none
    | none=>none
   | none=>none
  | none=>none
 | _=>none
def evZeros (ts tx:TypeId) (s x:AV) (m:Mem) (c:Nat):Option (AV × Mem × Nat):=match s,x with
 | .s .sl0,.s (.int k n)=>match elemOf P ts,P.underlying tx with
  | some e,some (.int _)=>match tsize P e,tzero P e,tbytes P e with
   | some sz,some z,some by_=>if 0 < n∧z.length=sz∧0 < sz∧n≤9223372036854775807∧by_*n≤140737488355328 then some (.s (.sl c 0 n.toNat none sz),newBlk (repeated z n.toNat) m c,c+1) else none
   | _,_,_=>none
  | _,_=>none
 | _,_=>none
def evAppend (ts tx:TypeId) (s x:AV) (m:Mem) (c:Nat):Option (AV × Mem × Nat):=match x with
 | .s (.int _ _)=>evZeros P ts tx s x m c
 | _=>match evAppend1 P ts tx s x m c with
  | some r=>some r
  | none=>evRoom P ts tx s x m c
def evCopy (td tx:TypeId) (d x:AV) (m:Mem):Option (AV × Mem):=do
 let e ← elemOf P td
 let sz ← tsize P e
 let (k,news) ← evSrc P sz tx x m
 match d with
 | .s .sl0=>some (.s (.int .i64 0),m)
 | .s (.slE _)=>some (.s (.int .i64 0),m)
 | .s (.sl n off len _ _)=>do
  let b ← get m n
  let q:=min k len
  let cs:=news.take (q*sz)
  if b.own∧off+q*sz≤b.cells.length∧0 < sz then some (.s (.int .i64 q),(n,some { b with cells:=over b.cells off cs }) :: m) else none
 | _=>none
def evClear (t:TypeId) (x:AV) (m:Mem):Option Mem:=match P.underlying t,x with
 | some (.slice _),.s .sl0=>some m
 | some (.slice _),.s (.slE _)=>some m
 | some (.slice e),.s (.sl n off len _ _)=>match len with
  | 0=>some m
  | len+1=>match tsize P e,tzero P e,get m n with
   | some sz,some z,some ⟨cells,true⟩=>if z.length=sz∧0 < sz∧off+(len+1)*sz≤cells.length then some ((n,some ⟨over cells off (repeated z (len+1)),true⟩) :: m) else none
   | _,_,_=>none
 | _,_=>none
def evCap (t:TypeId) (x:AV):Option AV:=match P.underlying t,x with
 | some (.slice _),.s (.sl _ _ _ (some k) _)=>some (.s (.int .i64 k))
 | some (.slice _),.s (.slv _ (some k) _ _)=>some (.s (.int .i64 k))
 | some (.slice _),.s .sl0=>some (.s (.int .i64 0))
 | _,_=>none
def evLen (t:TypeId) (x:AV):Option AV:=match P.underlying t,x with
 | some .string,.s (.str s)=>some (.s (.int .i64 s.size))
 | some (.slice _),.s (.sl _ _ n _ _)=>some (.s (.int .i64 n))
 | some (.slice _),.s (.slv n _ _ _)=>some (.s (.int .i64 n))
 | some (.slice _),.s .sl0=>some (.s (.int .i64 0))
 | some (.slice _),.s (.slE _)=>some (.s (.int .i64 0))
 | some (.array n _),.s _=>some (.s (.int .i64 n))
 | some (.array n _),.agg _=>some (.s (.int .i64 n))
 | _,_=>none
def cmpI (op:BinOp) (x y:Int):Option SV:=match op with
 | .eql=>some (.bool (x == y))
 | .neq=>some (.bool (x != y))
 | .lss=>some (.bool (decide (x < y)))
 | .leq=>some (.bool (decide (x≤y)))
 | .gtr=>some (.bool (decide (x > y)))
 | .geq=>some (.bool (decide (x≥y)))
 | _=>none
def binI (op:BinOp) (k:IntKind) (x y:Int):Option SV:=match op with
 | .add=>some (.int k (k.wrap (x+y)))
 | .sub=>some (.int k (k.wrap (x - y)))
 | .mul=>some (.int k (k.wrap (x*y)))
 | .quo=>if y=0 then none else some (.int k (k.wrap (x.tdiv y)))
 | .rem=>if y=0 then none else some (.int k (x.tmod y))
 | .and=>some (.int k (k.wrap (BitVec.ofInt k.bits x &&& BitVec.ofInt k.bits y).toNat))
 | .or=>some (.int k (k.wrap (BitVec.ofInt k.bits x ||| BitVec.ofInt k.bits y).toNat))
 | .xor=>some (.int k (k.wrap (BitVec.ofInt k.bits x ^^^ BitVec.ofInt k.bits y).toNat))
 | .andNot=>some (.int k (k.wrap (BitVec.ofInt k.bits x &&& ~~~BitVec.ofInt k.bits y).toNat))
 | op=>cmpI op x y
def shI (op:BinOp) (k:IntKind) (x y:Int):Option SV:=if y < 0 then none else match op with
 | .shl=>some (.int k (k.wrap (x*2 ^ (min y.toNat k.bits))))
 | .shr=>some (.int k (x.fdiv (2 ^ (min y.toNat k.bits))))
 | _=>none
def isSh:BinOp→Bool
 | .shl|.shr=>true
 | _=>false
def binS (op:BinOp) (x y:ByteArray):Option SV :=
 let eq:=x.data.toList == y.data.toList
 let lt:=Op.bytesLess x.data.toList y.data.toList
 match op with
 | .add=>if ((x.size+y.size:Nat):Int) > IntKind.i64.max then none else some (.str (x++y))
 | .eql=>some (.bool eq)
 | .neq=>some (.bool !eq)
 | .lss=>some (.bool lt)
 | .leq=>some (.bool (lt||eq))
 | .gtr=>some (.bool !(lt||eq))
 | .geq=>some (.bool !lt)
 | _=>none
def eqOf (op:BinOp) (b:Bool):Option SV:=match op with
 | .eql=>some (.bool b)
 | .neq=>some (.bool !b)
 | _=>none
def eqCell (t:TypeId) (x y:SV):Option Bool:=match P.underlying t,x,y with
 | some .bool,.bool a,.bool b=>some (a == b)
 | some (.int _),.int k a,.int k' b=>if k=k' then some (a == b) else none
 | some .string,.str a,.str b=>some (a.data.toList == b.data.toList)
 | _,_,_=>none
def eqFields:List Field→List SV→List SV→Option Bool
 | [],_,_=>some true
 | f :: r, xs, ys => if f.name = "_" then none else
  match tagg P f.type,xs[f.offset]?,ys[f.offset]? with
  | some false,some x,some y=>match eqCell P f.type x y with
   | some true=>eqFields r xs ys
   | some false=>some false
   | none=>none
  | _,_,_=>none
def evBin (op:BinOp) (t:TypeId) (x y:AV):Option SV:=match x,y with
 | .s (.int k a),.s (.int k' b)=>if isSh op then shI op k a b else if k=k' then binI op k a b else none
 | .s (.str a),.s (.str b)=>binS op a b
 | .s (.bool a),.s (.bool b)=>match P.underlying t with|some .bool=>eqOf op (a == b)|_=>none
 | .s .ptr0,.s .ptr0=>match P.underlying t with|some (.pointer _)=>eqOf op true|_=>none
 | .s (.ptr _ _),.s .ptr0=>match P.underlying t with|some (.pointer _)=>eqOf op false|_=>none
 | .s .ptr0,.s (.ptr _ _)=>match P.underlying t with|some (.pointer _)=>eqOf op false|_=>none
 | .s (.ptv _),.s .ptr0=>match P.underlying t with|some (.pointer _)=>eqOf op false|_=>none
 | .s .sl0,.s .sl0=>match P.underlying t with|some (.slice _)=>eqOf op true|_=>none
 | .s (.sl ..),.s .sl0=>match P.underlying t with|some (.slice _)=>eqOf op false|_=>none
 | .s (.slv len _ _ _),.s .sl0=>match P.underlying t with|some (.slice _)=>if 0 < len then eqOf op false else none|_=>none
 | .s (.slE _),.s .sl0=>match P.underlying t with|some (.slice _)=>eqOf op false|_=>none
 | .s .fnil,.s .fnil=>match P.underlying t with|some (.func ..)=>eqOf op true|_=>none
 | .s (.fn ..),.s .fnil=>match P.underlying t with|some (.func ..)=>eqOf op false|_=>none
 | .agg xs,.agg ys=>match fieldsOf P t with
  | some fs=>if P.eqGuardType P.depth t||P.stoodInHeld t then none else (eqFields P fs.toList xs ys).bind (eqOf op)
  | none=>none
 | _,_=>none
def bytesIn:List SV→Option (List UInt8)
 | []=>some []
 | .int .u8 n :: r=>(bytesIn r).map (UInt8.ofNat n.toNat :: ·)
 | _=>none
def evConv (src dst:TypeId) (x:AV) (m:Mem) (c:Nat):Option (AV × Mem × Nat):=match P.underlying src,P.underlying dst,x with
 | some _,some (.int k),.s (.int _ n)=>some (.s (.int k (k.wrap n)),m,c)
 | some _,some .string,.s (.str s)=>some (.s (.str s),m,c)
 | some (.int _),some .string,.s (.int _ n)=>some (.s (.str (Utf8.encode n)),m,c)
 | some .string,some (.slice e),.s (.str s)=>match P.underlying e with
  | some (.int .u8)=>if s.size≤maxLen then some (.s (.sl c 0 s.size none 1),newBlk (strCells s) m c,c+1) else none
  | _=>none
 | some (.slice e),some .string,.s (.sl n off len _ _)=>match P.underlying e with
  | some (.int .u8)=>do
   let b ← get m n
   let cs ← sub b.cells off len
   let l ← bytesIn cs
   some (.s (.str ⟨l.toArray⟩),m,c)
  | _=>none
 | some (.slice e),some .string,.s (.slv len _ sz cs)=>match P.underlying e with
  | some (.int .u8)=>if sz=1 then (bytesIn cs).map fun l=>(.s (.str ⟨l.toArray⟩),m,c) else none
  | _=>none
 | some (.slice e),some .string,.s .sl0=>match P.underlying e with
  | some (.int .u8)=>some (.s (.str .empty),m,c)
  | _=>none
 | some (.slice e),some .string,.s (.slE _)=>match P.underlying e with
  | some (.int .u8)=>some (.s (.str .empty),m,c)
  | _=>none
 | _,_,_=>none
def evUn (op:UnOp) (x:AV):Option SV:=match op,x with
 | .neg,.s (.int k n)=>binI .sub k 0 n
 | .xor,.s (.int k n)=>binI .xor k (if k.signed then -1 else k.max) n
 | .not,.s (.bool b)=>some (.bool !b)
 | _,_=>none
def mm (mx:Bool) (x y:AV):Option AV:=match x,y with
 | .s (.int k a),.s (.int _ b)=>some (.s (.int k (if mx then (if b > a then b else a) else (if b < a then b else a))))
 | .s (.str a),.s (.str b) =>
  some (.s (.str (if mx then (if !Op.bytesLess a.data.toList b.data.toList then a else b) else (if Op.bytesLess a.data.toList b.data.toList||a.data.toList == b.data.toList then a else b))))
 | _,_=>none
def mmAll (mx:Bool):AV→List AV→Option AV
 | x,[]=>some x
 | x,y :: r=>(mm mx x y).bind fun z=>mmAll mx z r
abbrev CallF:=FuncId→List AV→Mem→Nat→Option (AV × Mem × Nat)
def asPtrs:List AV→Option (List (Nat × Nat))
 | []=>some []
 | .s (.ptr n off) :: r=>(asPtrs r).map ((n,off) :: ·)
 | _=>none
def evOp (call:CallF) (o:Op) (ty:TypeId) (t:Nat→AV) (m:Mem) (c:Nat):Option (AV × Mem × Nat):=match o with
 | .move x|.assign x=>some (evO t x,m,c)
 | .pick x a b=>match evO t x with
  | .s (.bool q)=>some (if q then evO t a else evO t b,m,c)
  | _=>none
 | .alloc e=>(tzero P e).map fun z=>(.s (.ptr c 0),newBlk z m c,c+1)
 | .box _ x=>(evO t x).cells.map fun z=>(.s (.ptr c 0),newBlk z m c,c+1)
 | .build ty parts=>(evBuild P ty (parts.toList.map fun p=>(p.1,evO t p.2))).map fun v=>(v,m,c)
 | .buildSlice ty len parts=>evBuildSlice P ty len (parts.toList.map fun p=>(p.1,evO t p.2)) m c
 | .load ty a=>(evLoad P ty (evO t a) m).map fun v=>(v,m,c)
 | .store ty a x=>(evStore P ty (evO t a) (evO t x) m).map fun m'=>(.any,m',c)
 | .nilCheck x=>match evO t x with
  | .s (.ptr n off)=>some (.s (.ptr n off),m,c)
  | .s (.fn f cs)=>some (.s (.fn f cs),m,c)
  | .s (.ptv cs)=>some (.s (.ptv cs),m,c)
  | _=>none
 | .binOp op xt x y _=>(evBin P op xt (evO t x) (evO t y)).map fun v=>(.s v,m,c)
 | .unOp op _ x=>(evUn op (evO t x)).map fun v=>(.s v,m,c)
 | .convert a b x=>evConv P a b (evO t x) m c
 | .makeFunc (.func f) first caps=>if first.size=0 then (asPtrs (caps.toList.map (evO t))).map fun l=>(.s (.fn f l),m,c) else none
 | .makeSlice ty l cp=>evMake P ty (evO t l) (evO t cp) m c
 | .slice ty x lo hi mx=>(evSliceM P ty (evO t x) (lo.map (evO t)) (hi.map (evO t)) (mx.map (evO t)) m).map fun v=>(v,m,c)
 | .fieldAddr s x f=>(evFieldAddr P s (evO t x) f).map fun v=>(v,m,c)
 | .field s x f=>(evField P s (evO t x) f).map fun v=>(v,m,c)
 | .indexAddr ty x i=>(evIndexAddr P ty (evO t x) (evO t i)).map fun v=>(v,m,c)
 | .index ty x i=>(evIndex P ty (evO t x) (evO t i)).map fun v=>(v,m,c)
 | .extract x i=>match evO t x with
  | .tup vs=>((vs[i]?).bind ofComp).map fun v=>(v,m,c)
  | _=>none
 | .call { callee:=.builtin .append,args,argTypes }=>match args.toList,argTypes.toList with
  | [s,x],[ts,tx]=>evAppend P ts tx (evO t s) (evO t x) m c
  | _,_=>none
 | .call { callee:=.builtin .copy,args,argTypes }=>match args.toList,argTypes.toList with
  | [s,x],[ts,tx]=>(evCopy P ts tx (evO t s) (evO t x) m).map fun r=>(r.1,r.2,c)
  | _,_=>none
 | .call { callee:=.builtin .len,args,argTypes }=>match args.toList,argTypes.toList with
  | [x],[tx]=>(evLen P tx (evO t x)).map fun v=>(v,m,c)
  | _,_=>none
 | .call { callee:=.builtin .clear,args,argTypes }=>match args.toList,argTypes.toList with
  | [x],[tx]=>(evClear P tx (evO t x) m).map fun m'=>(.tup [],m',c)
  | _,_=>none
 | .call { callee:=.builtin .cap,args,argTypes }=>match args.toList,argTypes.toList with
  | [x],[tx]=>(evCap P tx (evO t x)).map fun v=>(v,m,c)
  | _,_=>none
 | .call { callee:=.builtin .min,args,.. }=>match args.toList.map (evO t) with
  | x :: r=>(mmAll false x r).map fun v=>(v,m,c)
  | _=>none
 | .call { callee:=.builtin .max,args,.. }=>match args.toList.map (evO t) with
  | x :: r=>(mmAll true x r).map fun v=>(v,m,c)
  | _=>none
 | .call { callee:=.value f,args,.. }=>match evO t f with
  | .s (.fn g cs)=>call g (args.toList.map (evO t)++cs.map fun p=>.s (.ptr p.1 p.2)) m c
  | _=>none
 | _=>none
def putT (t:Tm):Option Tmp→AV→Tm
 | some d,v=>if d < t.n then ⟨t.n,(d,v) :: t.l⟩ else t
 | none,_=>t
def want (ops:Array Oper) (t:Nat→AV) (o:Oper):Option Bool:=match o.guard with
 | none=>some true
 | some (j,b)=>match (ops[j]?).bind (·.dst) with
  | some d=>match t d with
   | .s (.bool q)=>some (q == b)
   | .no=>some false
   | _=>none
  | none=>none
def evOps (call:CallF) (ops:Array Oper):List Oper→Tm→Mem→Nat→Option (Tm × Mem × Nat)
 | [],t,m,c=>some (t,m,c)
 | o :: r,t,m,c=>match want ops (look t) o with
  | some true=>match evOp P call o.op o.type (look t) m c with
   | some (v,m',c')=>evOps call ops r (putT t o.dst v) m' c'
   | none=>none
  | some false=>evOps call ops r (putT t o.dst .no) m c
  | none=>none
end
end Go.Proofs.Ytaelliigpclipaa.Eng
