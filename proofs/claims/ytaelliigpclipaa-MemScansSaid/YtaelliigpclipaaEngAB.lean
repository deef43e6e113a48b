/- The reckoner with answers: regions,code. -/
import Derived.Test.YtaelliigpclipaaEngAA
namespace Go.Proofs.Ytaelliigpclipaa.Eng
set_option linter.unusedVariables false
set_option linter.unusedSimpArgs false
open Go Go.RowKit
inductive Ans where
 | val (v:AV)
 | mem (v:AV) (δ:Mem) (c':Nat)
 | call (nl:List Nat) (v:AV) (δ:Mem) (c':Nat)
 | loop (dl nl:List Nat) (e:Ex) (s1:St)
 | rounds (k:Nat)
def All:List Prop→Prop
 | []=>True
 | p :: r=>p∧All r
theorem All.append:∀ {l r:List Prop},All (l++r)→All l∧All r
 | [],_,h=>⟨trivial,h⟩
 | p :: l,r,h=>by
  obtain ⟨h1,h2⟩:=h
  obtain ⟨h3,h4⟩:=All.append h2
  exact ⟨⟨h1,h3⟩,h4⟩
section
variable (P:Program)
def noCall:CallG:=fun _ _ _=>none
def builtinU (b:Builtin) (args:Array Operand) (ts:Array TypeId) (t:Nat→AV) (g:Nat→Option Blk) (c:Nat):Res:=match b with
 | .append=>match args.toList,ts.toList with
  | [s,x],[ts,tx]=>less (two g (evO t s) (evO t x)).length (evAppend P ts tx (evO t s) (evO t x) (two g (evO t s) (evO t x)) c)
  | _,_=>none
 | .len=>oLen P args.toList ts.toList t [] c
 | .cap=>oCap P args.toList ts.toList t [] c
 | .min=>oMm false args.toList t [] c
 | .max=>oMm true args.toList t [] c
 | _=>none
def evOpU (o:Op) (t:Nat→AV) (g:Nat→Option Blk) (c:Nat):Res:=match o with
 | .convert a b x=>less (peek g (evO t x)).length (evConv P a b (evO t x) (peek g (evO t x)) c)
 | .call cl=>match cl.callee with
  | .builtin b=>builtinU P b cl.args cl.argTypes t g c
  | _=>none
 | o=>evOpG P noCall o t g c
def valOf (o:Op) (t:Nat→AV) (g:Nat→Option Blk):Option AV:=match o with
 | .move x=>some (evO t x)
 | .assign x=>some (evO t x)
 | .extract x i=>match evO t x with
  | .tup vs=>(vs[i]?).bind ofComp
  | _=>none
 | .binOp op xt x y _=>(evBin P op xt (evO t x) (evO t y)).map .s
 | .unOp op _ x=>(evUn op (evO t x)).map .s
 | .load ty a=>match evO t a with
  | .s (.ptr n off)=>loadG P ty (.s (.ptr n off)) (fun _=>g n)
  | .s (.ptv cs)=>loadG P ty (.s (.ptv cs)) (fun _=>none)
  | _=>none
 | .slice ty x lo hi mx=>evSlice P ty (evO t x) (lo.map (evO t)) (hi.map (evO t)) (mx.map (evO t))
 | .field s x f=>evField P s (evO t x) f
 | .fieldAddr s x f=>evFieldAddr P s (evO t x) f
 | .indexAddr ty x i=>evIndexAddr P ty (evO t x) (evO t i)
 | .index ty x i=>evIndex P ty (evO t x) (evO t i)
 | .build ty parts=>evBuild P ty (parts.toList.map fun p=>(p.1,evO t p.2))
 | .call ⟨.builtin .len,args,ts⟩=>match args.toList,ts.toList with
  | [x],[tx]=>evLen P tx (evO t x)
  | _,_=>none
 | .call ⟨.builtin .min,args,_⟩=>match args.toList.map (evO t) with
  | x :: r=>mmAll false x r
  | _=>none
 | .call ⟨.builtin .max,args,_⟩=>match args.toList.map (evO t) with
  | x :: r=>mmAll true x r
  | _=>none
 | _=>none
def copyU (k:Nat) (r:Option (AV × Mem)) (c:Nat):Res:=match r with
 | some (v,m')=>some (v,m'.take (m'.length - k),c)
 | none=>none
def clearU (k:Nat) (r:Option Mem) (c:Nat):Res:=match r with
 | some m'=>some (.tup [],m'.take (m'.length - k),c)
 | none=>none
def memOfA (o:Op) (t:Nat→AV) (g:Nat→Option Blk) (c:Nat):Res:=match o with
 | .store ty a x=>match evO t a with
  | .s (.ptr n off)=>storeR (storeG P ty (.s (.ptr n off)) (evO t x) (fun _=>g n)) c
  | _=>none
 | .convert a b x=>less (peek g (evO t x)).length (evConv P a b (evO t x) (peek g (evO t x)) c)
 | .makeSlice ty l cp=>evMake P ty (evO t l) (evO t cp) [] c
 | .buildSlice ty len parts=>evBuildSlice P ty len (parts.toList.map fun p=>(p.1,evO t p.2)) [] c
 | .call ⟨.builtin .append,args,ts⟩=>match args.toList,ts.toList with
  | [s,x],[ts,tx]=>less (two g (evO t s) (evO t x)).length (evAppend P ts tx (evO t s) (evO t x) (two g (evO t s) (evO t x)) c)
  | _,_=>none
 | .call ⟨.builtin .copy,args,ts⟩=>match args.toList,ts.toList with
  | [s,x],[ts,tx]=>copyU (two g (evO t s) (evO t x)).length (evCopy P ts tx (evO t s) (evO t x) (two g (evO t s) (evO t x))) c
  | _,_=>none
 | .call ⟨.builtin .clear,args,ts⟩=>match args.toList,ts.toList with
  | [x],[tx]=>clearU (peek g (evO t x)).length (evClear P tx (evO t x) (peek g (evO t x))) c
  | _,_=>none
 | _=>none
def argsOf (x:Operand) (args:Array Operand) (t:Nat→AV):Option (FuncId × List AV):=match evO t x with
 | .s (.fn g cs)=>some (g,args.toList.map (evO t)++cs.map fun p=>.s (.ptr p.1 p.2))
 | _=>none
noncomputable def stepA (B:Nat) (o:Op) (t:Nat→AV) (g:Nat→Option Blk) (c k:Nat) (tape:List (Nat × Ans)):Option (AV × Mem × Nat × List Prop × List (Nat × Ans)):=match tape with
 | (q,a) :: r=>match Nat.beq q k with
  | true=>match a with
   | .val v=>some (v,[],c,[valOf P o t g=some v],r)
   | .mem v δ c'=>some (v,δ,c',[memOfA P o t g c=some (v,δ,c')],r)
   | .call nl v δ c'=>match o with
    | .call ⟨.value x,args,_⟩=>match argsOf x args t with
     | some (f,as)=>some (v,δ,c',[CallDoes P B f as (nl.map fun n=>(n,g n)) c v (δ++nl.map fun n=>(n,g n)) c'],r)
     | none=>none
    | _=>none
   | .loop ..=>none
   | .rounds _=>none
  | false=>match evOpU P o t g c with
   | some (v,δ,c')=>some (v,δ,c',[],tape)
   | none=>none
 | []=>match evOpU P o t g c with
  | some (v,δ,c')=>some (v,δ,c',[],tape)
  | none=>none
structure FA where
 n:Nat
 S:Tr AV
 T:TM
 c:Nat
 k:Nat
 tape:List (Nat × Ans)
 cl:List Prop
noncomputable def putsU {β:Type}:Mem→TM→(TM→Option β)→Option β
 | [],T,k=>k T
 | e :: r,T,k=>putsU r T fun T=>tp 64 T e.1 e.2 k
noncomputable def opsA (B:Nat) (ops:Array Oper):List Oper→Nat→Tr AV→TM→Nat→Nat→List (Nat × Ans)→List Prop→Option FA
 | [],n,S,T,c,k,tape,cl=>some ⟨n,S,T,c,k,tape,cl⟩
 | o :: r,n,S,T,c,k,tape,cl=>match want ops (sg S) o with
  | some true=>match stepA P B o.op (sg S) (mg T) c k tape with
   | some (v,δ,c',cs,tape')=>putsU δ T fun T=>putSK n S o.dst v fun S=>opsA B ops r n S T c' (k+1) tape' (cs++cl)
   | none=>none
  | some false=>putSK n S o.dst .no fun S=>opsA B ops r n S T c k tape cl
  | none=>none
noncomputable def drawA (B:Nat) (ops:Array Oper) (bss:List (List Nat)) (hid:List Mem) (T0:TM):List Oper→Nat→Nat→Tr AV→List Mem→Nat→Nat→List (Nat × Ans)→List Prop→Option (Tr AV × List Mem × Nat × Nat × List (Nat × Ans) × List Prop)
 | [],_,n,S,ds,c,k,tape,cl=>some (S,ds,c,k,tape,cl)
 | o :: r,j,n,S,ds,c,k,tape,cl=>match want ops (sg S) o with
  | some true=>putsU (preOf bss hid ds j) T0 fun T=>match stepA P B o.op (sg S) (mg T) c k tape with
   | some (v,δ,c',cs,tape')=>putSK n S o.dst v fun S=>drawA B ops bss hid T0 r (j+1) n S (ds++[δ]) c' (k+1) tape' (cs++cl)
   | none=>none
  | some false=>putSK n S o.dst .no fun S=>drawA B ops bss hid T0 r (j+1) n S (ds++[[]]) c k tape cl
  | none=>none
noncomputable def regA (B:Nat) (ops:Array Oper) (draw:Bool) (s:FA):Option FA:=match draw with
 | false=>opsA P B ops ops.toList s.n s.S s.T s.c s.k s.tape s.cl
 | true=>match static ops (befores ops.toList []) with
  | true=>match drawA P B ops (befores ops.toList []) [] s.T ops.toList 0 s.n s.S [] s.c s.k s.tape s.cl with
   | some (S',ds,c',k',tape',cl')=>match dynT ops (befores ops.toList []) [] s.T ds with
    | true=>putsU (allOf ds []) s.T fun T=>some ⟨s.n,S',T,c',k',tape',cl'⟩
    | false=>match drawA P B ops (befores ops.toList []) (hides ops (befores ops.toList []) ds) s.T ops.toList 0 s.n s.S [] s.c s.k s.tape s.cl with
     | some (S',ds',c',k',tape',cl')=>match dynT ops (befores ops.toList []) (hides ops (befores ops.toList []) ds) s.T ds' with
      | true=>putsU (allOf ds' []) s.T fun T=>some ⟨s.n,S',T,c',k',tape',cl'⟩
      | false=>none
     | none=>none
   | none=>none
  | false=>none
noncomputable def pickA (dl nl:List Nat) (s:FA):St:=⟨⟨s.n,dl.map fun d=>(d,sg s.S d)⟩,nl.map fun n=>(n,mg s.T n),s.c⟩
noncomputable def roundsA (run:FA→Option (Ex × FA)) (k:Nat):FA→Option (Ex × FA) :=
 Nat.rec (motive:=fun _=>FA→Option (Ex × FA)) (fun _=>none) (fun _ ih s=>match run s with
  | some (.normal,s')=>ih s'
  | r=>r) k
noncomputable def loopA (B:Nat) (body:Code) (run:FA→Option (Ex × FA)) (s:FA):Option (Ex × FA):=match s.tape with
 | (q,.rounds k) :: r=>match Nat.beq q s.k with
  | true=>roundsA run k ⟨s.n,s.S,s.T,s.c,s.k+1,r,s.cl⟩
  | false=>none
 | (q,.loop dl nl e s1) :: r=>match Nat.beq q s.k with
  | true=>slotsK s1.t.l .e fun S=>putsU s1.m .e fun T=>some (e,⟨s1.t.n,S,T,s1.c,s.k+1,r,CodeDoes P B (.loop body) (pickA dl nl s) e s1 :: s.cl⟩)
  | false=>none
 | _=>none
noncomputable def codeA (B:Nat):Code→FA→Option (Ex × FA)
 | .skip,s=>some (.normal,s)
 | .label _,s=>some (.normal,s)
 | .region _ ops draw,s=>match regA P B ops draw s with
  | some s'=>some (.normal,s')
  | none=>none
 | .seq a b,s=>match codeA B a s with
  | some (.normal,s')=>codeA B b s'
  | r=>r
 | .cond x a b,s=>match evO (sg s.S) x with
  | .s (.bool true)=>codeA B a s
  | .s (.bool false)=>codeA B b s
  | _=>none
 | .block id body,s=>match codeA B body s with
  | some (.exit id',s')=>match Nat.beq id' id with
   | true=>some (.normal,s')
   | false=>some (.exit id',s')
  | r=>r
 | .loop body,s=>loopA P B body (codeA B body) s
 | .exit id,s=>some (.exit id,s)
 | .ret,s=>some (.ret,s)
 | _,_=>none
noncomputable def goA (B:Nat) (code:Code) (s:St) (tape:List (Nat × Ans)) (dl nl:List Nat):Option (Ex × St × List Prop) :=
 slotsK s.t.l .e fun S=>putsU s.m .e fun T=>match codeA P B code ⟨s.t.n,S,T,s.c,0,tape,[]⟩ with
  | some (e,s')=>some (e,pickA dl nl s',s'.cl)
  | none=>none
end
variable {P:Program}
theorem valOf_ok {o:Op} {t:Nat→AV} {g:Nat→Option Blk} {v:AV} (h:valOf P o t g=some v) (c:Nat):evOpG P noCall o t g c=some (v,[],c):=by
 unfold valOf at h
 split at h
 ·obtain rfl:=Option.some.inj h;rfl
 ·obtain rfl:=Option.some.inj h;rfl
 ·rename_i x i
  split at h
  ·rename_i vs hx
   simp only [evOpG,oExtract,hx,h,still]
  ·cases h
 ·rename_i op xt x y yt
  simp only [evOpG]
  cases hb:evBin P op xt (evO t x) (evO t y) with
  | none=>rw [hb] at h;cases h
  | some z=>rw [hb] at h;obtain rfl:=Option.some.inj h;rfl
 ·rename_i op xt x
  simp only [evOpG]
  cases hb:evUn op (evO t x) with
  | none=>rw [hb] at h;cases h
  | some z=>rw [hb] at h;obtain rfl:=Option.some.inj h;rfl
 ·rename_i ty a
  simp only [evOpG]
  split at h
  ·rename_i n off ha
   rw [ha]
   have:loadG P ty (.s (.ptr n off)) g=some v:=by
    unfold loadG at h ⊢
    exact h
   rw [this]
   rfl
  ·rename_i cs ha
   rw [ha]
   have:loadG P ty (.s (.ptv cs)) g=some v:=by
    unfold loadG at h ⊢
    exact h
   rw [this]
   rfl
  ·cases h
 ·simp only [evOpG,evSliceM,h,stillG]
 ·simp only [evOpG,h,stillG]
 ·simp only [evOpG,h,stillG]
 ·simp only [evOpG,h,stillG]
 ·simp only [evOpG,h,stillG]
 ·simp only [evOpG,h,stillG]
 ·simp only [evOpG,calleeG,builtinG,oLen]
  split at h
  ·rename_i x tx e1 e2
   simp only [e1,e2,h,still]
  ·cases h
 ·simp only [evOpG,calleeG,builtinG,oMm]
  split at h
  ·rename_i x r e1
   simp only [e1,h,still]
  ·cases h
 ·simp only [evOpG,calleeG,builtinG,oMm]
  split at h
  ·rename_i x r e1
   simp only [e1,h,still]
  ·cases h
 ·cases h
theorem memOfA_ok {o:Op} {t:Nat→AV} {g:Nat→Option Blk} {c:Nat} {r:AV × Mem × Nat} (h:memOfA P o t g c=some r):evOpG P noCall o t g c=some r:=by
 unfold memOfA at h
 split at h
 ·rename_i ty a x
  simp only [evOpG]
  split at h
  ·rename_i n off ha
   rw [ha]
   have:storeG P ty (.s (.ptr n off)) (evO t x) g=storeG P ty (.s (.ptr n off)) (evO t x) (fun _=>g n):=by
    unfold storeG
    rfl
   rw [this]
   exact h
  ·cases h
 ·simp only [evOpG,convG,fA_eq,fL_eq];exact h
 ·exact h
 ·exact h
 ·simp only [evOpG,calleeG,builtinG,appendG]
  split at h
  ·rename_i s x ts tx e1 e2
   simp only [e1,e2,fA_eq,fL_eq]
   exact h
  ·cases h
 ·simp only [evOpG,calleeG,builtinG,copyG]
  split at h
  ·rename_i s x ts tx e1 e2
   simp only [e1,e2,fA_eq,fL_eq]
   exact h
  ·cases h
 ·simp only [evOpG,calleeG,builtinG,clearG]
  split at h
  ·rename_i x tx e1 e2
   simp only [e1,e2,fA_eq,fL_eq]
   exact h
  ·cases h
 ·cases h
theorem evOpU_ok {o:Op} {t:Nat→AV} {g:Nat→Option Blk} {c:Nat} {r:AV × Mem × Nat} (h:evOpU P o t g c=some r):evOpG P noCall o t g c=some r:=by
 unfold evOpU at h
 split at h
 ·simp only [evOpG,convG,fA_eq,fL_eq];exact h
 ·rename_i cl
  obtain ⟨callee,args,ts⟩:=cl
  simp only [evOpG,calleeG]
  split at h
  ·rename_i b hb
   simp only at hb
   subst hb
   simp only at h ⊢
   unfold builtinU at h
   unfold builtinG
   split at h
   ·simp only [appendG]
    split at h
    ·rename_i s x ts tx e1 e2
     simp only [e1,e2,fA_eq,fL_eq]
     exact h
    ·cases h
   ·exact h
   ·exact h
   ·exact h
   ·exact h
   ·cases h
  ·cases h
 ·exact h
theorem OpSem.of_ev {B:Nat} {call:CallF} (hcall:CallOk P B call) (htouch:TouchOk call) {o:Oper} {t:Nat→AV} {m δ:Mem} {c c':Nat} {v:AV} (hev:evOp P call o.op o.type t m c=some (v,δ++m,c')):OpSem P B o t m c v δ c':=by
 obtain ⟨h1,δ',h2,h3⟩:=op_ok hcall hev
 have:δ=δ':=List.append_cancel_right h2
 subst this
 obtain ⟨_,δ',h4,h5⟩:=op_touch htouch hev
 have:δ=δ':=List.append_cancel_right h4
 subst this
 exact ⟨h1,h5,h3⟩
theorem noCall_touch:TouchOk (fun _ _ _ _=>none):=fun _ _ _ _ _ _ _ h=>by cases h
theorem noCall_ok {B:Nat}:CallOk P B (fun _ _ _ _=>none):=fun _ _ _ _ _ _ _ h=>by cases h
theorem OpSem.of_g {B:Nat} {o:Oper} {t:Nat→AV} {m δ:Mem} {c c':Nat} {v:AV} (h:evOpG P noCall o.op t (get m) c=some (v,δ,c')):OpSem P B o t m c v δ c':=by
 have h1:=evOpG_ok (call:=fun _ _ _ _=>none) (m:=m) (fun f args v δ c' hq=>by cases hq) h
 rw [evOpF_eq P _ o.op o.type] at h1
 exact OpSem.of_ev noCall_ok noCall_touch h1
theorem CallDoes.sub {B:Nat} {f:FuncId} {args:List AV} {m0 m δ:Mem} {c c':Nat} {v:AV} (h:CallDoes P B f args m0 c v (δ++m0) c') (hs:∀ n b,get m0 n=some b→get m n=some b):CallDoes P B f args m c v (δ++m) c':=by
 obtain ⟨h1,h2,δ',h3,h5,h4⟩:=h
 have:δ=δ':=List.append_cancel_right h3
 subst this
 refine ⟨h1,h2,δ,rfl,fun e he=>?_,fun ρ M args' w ha hm hfr hsat=>h4 ρ M args' w ha (fun n b hb=>hm n b (hs n b hb)) hfr hsat⟩
 rcases h5 e he with ⟨b,hb⟩|hb
 ·exact .inl ⟨b,hs _ _ hb⟩
 ·exact .inr hb
theorem OpSem.of_call {B:Nat} {o:Oper} {t:Nat→AV} {m δ:Mem} {c c':Nat} {v:AV} {x:Operand} {args:Array Operand} {ts:Array TypeId} {f:FuncId} {as:List AV} (he:o.op=.call ⟨.value x,args,ts⟩) (ha:argsOf x args t=some (f,as))
  (hc:CallDoes P B f as m c v (δ++m) c'):OpSem P B o t m c v δ c':=by
 have hl:∀ x∈[(f,as,m,c,v,δ++m,c')],CallDoes P B x.1 x.2.1 x.2.2.1 x.2.2.2.1 x.2.2.2.2.1 x.2.2.2.2.2.1 x.2.2.2.2.2.2:=fun y hy=>by
  obtain rfl:y=(f,as,m,c,v,δ++m,c'):=by simpa using hy
  exact hc
 refine OpSem.of_ev (call:=exactly [(f,as,m,c,v,δ++m,c')]) (exactly_ok hl) (exactly_touch hl) ?_
 ·rw [he]
  unfold argsOf at ha
  split at ha
  ·rename_i g cs' hx
   simp only [Option.some.injEq,Prod.mk.injEq] at ha
   obtain ⟨rfl,rfl⟩:=ha
   simp [evOp,hx,exactly]
  ·cases ha
theorem stepA_ok {B:Nat} {o:Oper} {t:Nat→AV} {m:Mem} {c k:Nat} {tape tape':List (Nat × Ans)} {v:AV} {δ:Mem} {c':Nat} {cs:List Prop} (h:stepA P B o.op t (get m) c k tape=some (v,δ,c',cs,tape')) (hcs:All cs):OpSem P B o t m c v δ c':=by
 have plain:∀ {tp:List (Nat × Ans)},(match evOpU P o.op t (get m) c with|some (v,δ,c')=>some (v,δ,c',([]:List Prop),tp)|none=>none)=some (v,δ,c',cs,tape')→OpSem P B o t m c v δ c':=by
  intro tp h
  split at h
  ·rename_i v0 δ0 c0 hu
   simp only [Option.some.injEq,Prod.mk.injEq] at h
   obtain ⟨rfl,rfl,rfl,_,_⟩:=h
   exact OpSem.of_g (evOpU_ok hu)
  ·cases h
 unfold stepA at h
 split at h
 ·split at h
  ·split at h
   ·simp only [Option.some.injEq,Prod.mk.injEq] at h
    obtain ⟨rfl,rfl,rfl,rfl,_⟩:=h
    exact OpSem.of_g (valOf_ok hcs.1 c)
   ·simp only [Option.some.injEq,Prod.mk.injEq] at h
    obtain ⟨rfl,rfl,rfl,rfl,_⟩:=h
    exact OpSem.of_g (memOfA_ok hcs.1)
   ·split at h
    ·rename_i x args ts he
     split at h
     ·rename_i f as ha
      simp only [Option.some.injEq,Prod.mk.injEq] at h
      obtain ⟨rfl,rfl,rfl,rfl,_⟩:=h
      have hc:=CallDoes.sub (m:=m) hcs.1 (fun n b hb=>by
       rw [get_map] at hb
       split at hb
       ·exact hb
       ·cases hb)
      exact OpSem.of_call he ha hc
     ·cases h
    ·cases h
   ·cases h
   ·cases h
  ·exact plain h
 ·exact plain h
theorem putsU_ok {β:Type}:∀ (δ:Mem) (T:TM) (k:TM→Option β) (y:β),putsU δ T k=some y→∃ T',k T'=some y∧∀ m,RelM T m→RelM T' (δ++m)
 | [],T,k,y,h=>⟨T,h,fun m hm=>hm⟩
 | e :: r,T,k,y,h=>by
  simp only [putsU] at h
  obtain ⟨T1,h1,h2⟩:=putsU_ok r T _ y h
  obtain ⟨T2,h3,h4⟩:=tp_ok _ _ _ _ _ _ h1
  refine ⟨T2,h3,fun m hm=>funext fun n=>?_⟩
  have h5:=congrFun (h2 m hm) n
  obtain ⟨q,b⟩:=e
  show mg T2 n=get ((q,b) :: (r++m)) n
  simp only [get,mg] at h5 ⊢
  rw [h4 n]
  by_cases hq:n=q
  ·subst hq;simp
  ·rw [if_neg hq,if_neg (fun e=>hq e.symm)]
   exact h5
theorem putSK_all {β:Type} {n:Nat} {S:Tr AV} {d:Option Tmp} {v:AV} {k:Tr AV→Option β} {y:β} (h:putSK n S d v k=some y):∃ S',k S'=some y∧∀ t,RelS n S t→RelS n S' (putT t d v):=by
 unfold putSK at h
 cases d with
 | none=>exact ⟨S,h,fun t ht=>ht⟩
 | some d =>
  simp only at h
  split at h
  ·rename_i hlt
   obtain ⟨S1,h4,h5⟩:=tp_ok _ _ _ _ _ _ h
   refine ⟨S1,h4,fun t ht=>?_⟩
   obtain ⟨h6,h7⟩:=ht
   obtain ⟨l1,l2⟩:=look_put t (some d) v
   refine ⟨by rw [l2];exact h6,?_⟩
   rw [l1]
   rw [Nat.blt_eq] at hlt
   funext i
   simp only [setF,h6,hlt,if_true]
   have:=congrFun h7 i
   simp only [sg] at this ⊢
   rw [h5 i]
   by_cases hi:i=d
   ·subst hi;simp
   ·rw [if_neg hi,if_neg (fun e=>hi e.symm)]
    exact this
  ·rename_i hlt
   have hlt:¬ d < n:=by
    intro hh
    rw [← Nat.blt_eq,hlt] at hh
    cases hh
   refine ⟨S,h,fun t ht=>?_⟩
   obtain ⟨h6,h7⟩:=ht
   obtain ⟨l1,l2⟩:=look_put t (some d) v
   refine ⟨by rw [l2];exact h6,?_⟩
   rw [l1]
   simp only [setF,h6,hlt,if_false]
   exact h7
theorem opsA_ok {B:Nat} (ops:Array Oper):∀ (l:List Oper) (n:Nat) (S:Tr AV) (T:TM) (c k:Nat) (tape:List (Nat × Ans)) (cl:List Prop) (s':FA),opsA P B ops l n S T c k tape cl=some s' →
  ∃ L,s'.cl=L++cl∧(All L→∀ t m,RelS n S t→RelM T m→∃ t' m',RunS P B ops l t m c t' m' s'.c∧RelS s'.n s'.S t'∧RelM s'.T m')
 | [],n,S,T,c,k,tape,cl,s',h=>by
  obtain rfl:=Option.some.inj h
  exact ⟨[],rfl,fun _ t m ht hm=>⟨t,m,.nil,ht,hm⟩⟩
 | o :: r,n,S,T,c,k,tape,cl,s',h=>by
  simp only [opsA] at h
  split at h
  ·rename_i hw
   split at h
   ·rename_i v δ c' cs tape' hop
    obtain ⟨T1,h2,h3⟩:=putsU_ok _ _ _ _ h
    obtain ⟨S1,h4,h5⟩:=putSK_all h2
    obtain ⟨L,a1,a2⟩:=opsA_ok ops r _ _ _ _ _ _ _ _ h4
    refine ⟨L++cs,by rw [a1,List.append_assoc],fun hL t m ht hm=>?_⟩
    obtain ⟨q1,q2⟩:=All.append hL
    obtain ⟨t',m',b1,b2,b3⟩:=a2 q1 _ _ (h5 t ht) (h3 m hm)
    rw [ht.2,show mg T=get m from hm] at hop
    exact ⟨t',m',.go (by rw [← ht.2];exact hw) (stepA_ok hop q2) b1,b2,b3⟩
   ·cases h
  ·rename_i hw
   obtain ⟨S1,h4,h5⟩:=putSK_all h
   obtain ⟨L,a1,a2⟩:=opsA_ok ops r _ _ _ _ _ _ _ _ h4
   refine ⟨L,a1,fun hL t m ht hm=>?_⟩
   obtain ⟨t',m',b1,b2,b3⟩:=a2 hL _ _ (h5 t ht) hm
   exact ⟨t',m',.pass (by rw [← ht.2];exact hw) b1,b2,b3⟩
  ·cases h
theorem drawA_ok {B:Nat} (ops:Array Oper) (bss:List (List Nat)) (hid:List Mem) {T0:TM} {m0:Mem} (h0:RelM T0 m0):∀ (l:List Oper) (j n:Nat) (S:Tr AV) (ds:List Mem) (c k:Nat) (tape:List (Nat × Ans)) (cl:List Prop) (S':Tr AV) (ds':List Mem) (c' k':Nat) (tape':List (Nat × Ans)) (cl':List Prop),
  drawA P B ops bss hid T0 l j n S ds c k tape cl=some (S',ds',c',k',tape',cl')→ops.toList.drop j=l→ds.length=j→j≤ops.size →
  ∃ L,cl'=L++cl∧(All L→∀ t,RelS n S t→∃ t',DSpecS P B ops bss hid m0 j t ds c t' ds' c'∧RelS n S' t')
 | [],j,n,S,ds,c,k,tape,cl,S',ds',c',k',tape',cl',h,hl,hlen,hj=>by
  simp only [drawA,Option.some.injEq,Prod.mk.injEq] at h
  obtain ⟨rfl,rfl,rfl,rfl,rfl,rfl⟩:=h
  have hj2:j=ops.size:=by
   rw [List.drop_eq_nil_iff] at hl
   simp at hl
   omega
  subst hj2
  exact ⟨[],rfl,fun _ t ht=>⟨t,dspec_nil hlen,ht⟩⟩
 | o :: r,j,n,S,ds,c,k,tape,cl,S',ds',c',k',tape',cl',h,hl,hlen,hj=>by
  have hlt:j < ops.size:=by
   rcases Nat.lt_or_ge j ops.size with h1|h1
   ·exact h1
   ·rw [List.drop_eq_nil_of_le (by simpa using h1)] at hl;cases hl
  have hko:ops[j]?=some o:=by
   have:(ops.toList.drop j)[0]?=some o:=by rw [hl];rfl
   rw [List.getElem?_drop] at this
   simpa using this
  have hk2:ops.toList.drop (j+1)=r:=by rw [← List.drop_drop,hl];rfl
  simp only [drawA] at h
  split at h
  ·rename_i hw
   obtain ⟨T1,h2,h3⟩:=putsU_ok _ _ _ _ h
   have h3:=h3 m0 h0
   rw [← room_pre] at h3
   split at h2
   ·rename_i v δ c1 cs tape1 hop
    obtain ⟨S1,h4,h5⟩:=putSK_all h2
    obtain ⟨L,a1,a2⟩:=drawA_ok ops bss hid h0 r _ _ _ _ _ _ _ _ _ _ _ _ _ _ h4 hk2 (by simp [hlen]) hlt
    refine ⟨L++cs,by rw [a1,List.append_assoc],fun hL t ht=>?_⟩
    obtain ⟨q1,q2⟩:=All.append hL
    obtain ⟨t',b1,b2⟩:=a2 q1 _ (h5 t ht)
    rw [ht.2,show mg T1=get _ from h3] at hop
    have hsem:=stepA_ok hop q2
    exact ⟨t',dspec_step hlt hko hlen (by rw [← ht.2];exact hw) b1 hsem.1 (fun _=>hsem) (fun h=>by cases h),b2⟩
   ·cases h2
  ·rename_i hw
   obtain ⟨S1,h4,h5⟩:=putSK_all h
   obtain ⟨L,a1,a2⟩:=drawA_ok ops bss hid h0 r _ _ _ _ _ _ _ _ _ _ _ _ _ _ h4 hk2 (by simp [hlen]) hlt
   refine ⟨L,a1,fun hL t ht=>?_⟩
   obtain ⟨t',b1,b2⟩:=a2 hL _ (h5 t ht)
   exact ⟨t',dspec_step hlt hko hlen (by rw [← ht.2];exact hw) b1 (Nat.le_refl _) (fun h=>by cases h) (fun _=>⟨rfl,rfl,rfl⟩),b2⟩
  ·cases h
theorem drawA_cl {B:Nat} {ops:Array Oper} {bss:List (List Nat)} {hid:List Mem} {T0:TM}:∀ {l:List Oper} {j n:Nat} {S:Tr AV} {ds:List Mem} {c k:Nat} {tape:List (Nat × Ans)} {cl:List Prop} {S':Tr AV} {ds':List Mem} {c' k':Nat} {tape':List (Nat × Ans)} {cl':List Prop},
  drawA P B ops bss hid T0 l j n S ds c k tape cl=some (S',ds',c',k',tape',cl')→∃ L,cl'=L++cl
 | [],j,n,S,ds,c,k,tape,cl,S',ds',c',k',tape',cl',h=>by
  simp only [drawA,Option.some.injEq,Prod.mk.injEq] at h
  obtain ⟨_,_,_,_,_,rfl⟩:=h
  exact ⟨[],rfl⟩
 | o :: r,j,n,S,ds,c,k,tape,cl,S',ds',c',k',tape',cl',h=>by
  simp only [drawA] at h
  split at h
  ·obtain ⟨T1,h2,_⟩:=putsU_ok _ _ _ _ h
   split at h2
   ·rename_i v δ c1 cs tape1 hop
    obtain ⟨S1,h4,_⟩:=putSK_all h2
    obtain ⟨L,a1⟩:=drawA_cl h4
    exact ⟨L++cs,by rw [a1,List.append_assoc]⟩
   ·cases h2
  ·obtain ⟨S1,h4,_⟩:=putSK_all h
   exact drawA_cl h4
  ·cases h
theorem CodeDoes.of_run {B:Nat} {id:Nat} {ops:Array Oper} {t t':Tm} {m m':Mem} {c c':Nat} (h:RunS P B ops ops.toList t m c t' m' c'):CodeDoes P B (.region id ops false) ⟨t,m,c⟩ .normal ⟨t',m',c'⟩:=by
 obtain ⟨h1,δ,h2,hT,h3⟩:=runS_ok ops ops.toList 0 t m c t' m' c' h rfl
 exact ⟨h1,δ,Steps.of_ahead h2 hT,fun ρ M a w hd ht hm hfr hs Q hQ=>wp_region (h3 ρ M a w hd ht hm hfr hs Q hQ)⟩
theorem CodeDoes.of_draw {B:Nat} (hmix:P.follows .mixedOrders=true) {id:Nat} {ops:Array Oper} {bss:List (List Nat)} {hid:List Mem} {m0:Mem} {t0 t':Tm} {ds:List Mem} {c c':Nat}
  (hst:static ops bss=true) (hrun:DSpecS P B ops bss hid m0 0 t0 [] c t' ds c') (hdy:dyn ops bss hid m0 ds=true):CodeDoes P B (.region id ops true) ⟨t0,m0,c⟩ .normal ⟨t',allOf ds m0,c'⟩:=by
 obtain ⟨h1,δ,h2,hT,h3⟩:=run_okS (id:=id) hmix hst hrun hdy
 exact ⟨h1,δ,Steps.of_ahead h2 hT,h3⟩
def SemA (P:Program) (B:Nat) (code:Code) (s:FA) (e:Ex) (s':FA):Prop :=
 ∃ L,s'.cl=L++s.cl∧(All L→∀ t m,RelS s.n s.S t→RelM s.T m→∃ t' m',CodeDoes P B code ⟨t,m,s.c⟩ e ⟨t',m',s'.c⟩∧RelS s'.n s'.S t'∧RelM s'.T m')
theorem regA_ok {B:Nat} (hmix:P.follows .mixedOrders=true) {id:Nat} {ops:Array Oper} {draw:Bool} {s s':FA} (h:regA P B ops draw s=some s'):SemA P B (.region id ops draw) s .normal s':=by
 unfold regA at h
 cases draw with
 | false =>
  obtain ⟨L,h1,h2⟩:=opsA_ok ops _ _ _ _ _ _ _ _ _ h
  refine ⟨L,h1,fun hL t m ht hm=>?_⟩
  obtain ⟨t',m',a1,a2,a3⟩:=h2 hL t m ht hm
  exact ⟨t',m',CodeDoes.of_run a1,a2,a3⟩
 | true =>
  simp only at h
  split at h
  ·rename_i hst
   split at h
   ·rename_i S1 ds c1 k1 tape1 cl1 hr
    split at h
    ·rename_i hdy
     obtain ⟨T2,b1,b2⟩:=putsU_ok _ _ _ _ h
     obtain rfl:=Option.some.inj b1
     obtain ⟨L,hL1⟩:=drawA_cl hr
     refine ⟨L,hL1,fun hL t m ht hm=>?_⟩
     obtain ⟨L',a1,a2⟩:=drawA_ok ops (befores ops.toList []) [] hm _ _ _ _ _ _ _ _ _ _ _ _ _ _ _ hr rfl rfl (Nat.zero_le _)
     have:L'=L:=List.append_cancel_right (a1.symm.trans hL1)
     subst this
     obtain ⟨t',a3,a4⟩:=a2 hL t ht
     rw [dynT_eq hm] at hdy
     exact ⟨t',_,CodeDoes.of_draw hmix hst a3 hdy,a4,by rw [allOf_eq];exact b2 m hm⟩
    ·split at h
     ·rename_i S2 ds2 c2 k2 tape2 cl2 hr2
      split at h
      ·rename_i hdy
       obtain ⟨T2,b1,b2⟩:=putsU_ok _ _ _ _ h
       obtain rfl:=Option.some.inj b1
       obtain ⟨L,hL1⟩:=drawA_cl hr2
       refine ⟨L,hL1,fun hL t m ht hm=>?_⟩
       obtain ⟨L',a1,a2⟩:=drawA_ok ops (befores ops.toList []) (hides ops (befores ops.toList []) ds) hm _ _ _ _ _ _ _ _ _ _ _ _ _ _ _ hr2 rfl rfl (Nat.zero_le _)
       have:L'=L:=List.append_cancel_right (a1.symm.trans hL1)
       subst this
       obtain ⟨t',a3,a4⟩:=a2 hL t ht
       rw [dynT_eq hm] at hdy
       exact ⟨t',_,CodeDoes.of_draw hmix hst a3 hdy,a4,by rw [allOf_eq];exact b2 m hm⟩
      ·cases h
     ·cases h
   ·cases h
  ·cases h
end Go.Proofs.Ytaelliigpclipaa.Eng
