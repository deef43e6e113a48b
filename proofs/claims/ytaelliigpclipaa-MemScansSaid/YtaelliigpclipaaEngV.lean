/- The reckoner over tries: slots and memory are looked up by their names' digits;an operation tells what it changes. Definitions,and that an operation answers as before. -/
import Derived.Test.YtaelliigpclipaaEngS
namespace Go.Proofs.Ytaelliigpclipaa.Eng
set_option linter.unusedVariables false
set_option linter.unusedSimpArgs false
open Go Go.RowKit
inductive Tr (α:Type) where
 | e
 | n (l:Tr α) (v:Option α) (r:Tr α)
noncomputable def tg {α:Type} (t:Tr α):Nat→Option α :=
 Tr.rec (motive:=fun _=>Nat→Option α) (fun _=>none)
  (fun _ v _ gl gr i=>Nat.casesOn (motive:=fun _=>Option α) i v (fun j=>cond (Nat.beq (Nat.mod j 2) 0) (gl (Nat.div j 2)) (gr (Nat.div j 2)))) t
noncomputable def tp {α β:Type} (f:Nat):Tr α→Nat→α→(Tr α→Option β)→Option β :=
 Nat.rec (motive:=fun _=>Tr α→Nat→α→(Tr α→Option β)→Option β) (fun _ _ _ _=>none)
  (fun _ ih t i x k=>Tr.casesOn (motive:=fun _=>Option β) t
   (Nat.casesOn (motive:=fun _=>Option β) i (k (.n .e (some x) .e)) (fun j=>cond (Nat.beq (Nat.mod j 2) 0) (ih .e (Nat.div j 2) x fun l=>k (.n l none .e)) (ih .e (Nat.div j 2) x fun r=>k (.n .e none r))))
   (fun l v r=>Nat.casesOn (motive:=fun _=>Option β) i (k (.n l (some x) r)) (fun j=>cond (Nat.beq (Nat.mod j 2) 0) (ih l (Nat.div j 2) x fun l'=>k (.n l' v r)) (ih r (Nat.div j 2) x fun r'=>k (.n l v r'))))) f
theorem tg_0 {α:Type} (l r:Tr α) (v:Option α):tg (.n l v r) 0=v:=rfl
theorem tg_s {α:Type} (l r:Tr α) (v:Option α) (j:Nat):tg (.n l v r) (j+1)=if j % 2=0 then tg l (j / 2) else tg r (j / 2):=by
 show cond (Nat.beq (j % 2) 0) (tg l (j / 2)) (tg r (j / 2))=_
 by_cases h:j % 2=0
 ·rw [h,if_pos rfl];rfl
 ·rw [if_neg h]
  have:Nat.beq (j % 2) 0=false:=by
   cases hb:Nat.beq (j % 2) 0 with
   | false=>rfl
   | true=>exact absurd (Nat.eq_of_beq_eq_true hb) h
  rw [this];rfl
theorem tp_ok {α β:Type}:∀ (f:Nat) (t:Tr α) (i:Nat) (x:α) (k:Tr α→Option β) (y:β),tp f t i x k=some y→∃ t',k t'=some y∧∀ j,tg t' j=if j=i then some x else tg t j
 | 0,_,_,_,_,_,h=>by cases h
 | f+1,t,i,x,k,y,h=>by
  have key:∀ (l r:Tr α) (v:Option α),(∀ j,tg t j=tg (.n l v r) j)→Nat.casesOn (motive:=fun _=>Option β) i (k (.n l (some x) r)) (fun j=>cond (Nat.beq (Nat.mod j 2) 0) (tp f l (Nat.div j 2) x fun l'=>k (.n l' v r)) (tp f r (Nat.div j 2) x fun r'=>k (.n l v r')))=some y →
    ∃ t',k t'=some y∧∀ j,tg t' j=if j=i then some x else tg t j:=by
   intro l r v ht h
   cases i with
   | zero =>
    refine ⟨_,h,fun j=>?_⟩
    cases j with
    | zero=>rw [if_pos rfl,tg_0]
    | succ j=>rw [if_neg (by omega),ht,tg_s,tg_s]
   | succ i =>
    have h:cond (Nat.beq (i % 2) 0) (tp f l (i / 2) x fun l'=>k (.n l' v r)) (tp f r (i / 2) x fun r'=>k (.n l v r'))=some y:=h
    by_cases hp:i % 2=0
    ·rw [hp] at h
     obtain ⟨l',h1,h2⟩:=tp_ok f l (i / 2) x _ y h
     refine ⟨_,h1,fun j=>?_⟩
     rw [ht]
     cases j with
     | zero=>rw [if_neg (by omega),tg_0,tg_0]
     | succ j =>
      rw [tg_s,tg_s]
      by_cases hj:j % 2=0
      ·rw [if_pos hj,if_pos hj,h2]
       by_cases he:j=i
       ·subst he;rw [if_pos rfl,if_pos rfl]
       ·rw [if_neg (by omega),if_neg (by omega)]
      ·rw [if_neg hj,if_neg hj,if_neg (by omega)]
    ·have hb:Nat.beq (i % 2) 0=false:=by
      cases hb:Nat.beq (i % 2) 0 with
      | false=>rfl
      | true=>exact absurd (Nat.eq_of_beq_eq_true hb) hp
     rw [hb] at h
     obtain ⟨r',h1,h2⟩:=tp_ok f r (i / 2) x _ y h
     refine ⟨_,h1,fun j=>?_⟩
     rw [ht]
     cases j with
     | zero=>rw [if_neg (by omega),tg_0,tg_0]
     | succ j =>
      rw [tg_s,tg_s]
      by_cases hj:j % 2=0
      ·rw [if_pos hj,if_pos hj,if_neg (by omega)]
      ·rw [if_neg hj,if_neg hj,h2]
       by_cases he:j=i
       ·subst he;rw [if_pos rfl,if_pos rfl]
       ·rw [if_neg (by omega),if_neg (by omega)]
  cases t with
  | e=>exact key .e .e none (fun j=>by cases j with|zero=>rfl|succ j=>rw [tg_s];split<;>rfl) h
  | n l v r=>exact key l r v (fun _=>rfl) h
abbrev TM:=Tr (Option Blk)
noncomputable def sg (S:Tr AV) (d:Nat):AV:=match tg S d with|some v=>v|none=>.any
noncomputable def mg (T:TM) (n:Nat):Option Blk:=match tg T n with|some b=>b|none=>none
abbrev CallG:=FuncId→List AV→Nat→Res
section
variable (P:Program)
def loadG (t:TypeId) (a:AV) (g:Nat→Option Blk):Option AV:=match a with
 | .s (.ptr n off)=>match g n with
  | some b=>match tsize P t,tagg P t with
   | some sz,some ag=>if ag then (match sub b.cells off sz with|some cs=>some (.agg cs)|none=>none) else (match b.cells[off]? with|some v=>some (.s v)|none=>none)
   | _,_=>none
  | none=>none
 | .s (.ptv cs)=>match tsize P t,tagg P t with
  | some sz,some ag=>if ag then (match sub cs 0 sz with|some cs=>some (.agg cs)|none=>none) else (match cs[0]? with|some v=>some (.s v)|none=>none)
  | _,_=>none
 | _=>none
def storeG (t:TypeId) (a v:AV) (g:Nat→Option Blk):Option Mem:=match a with
 | .s (.ptr n off)=>match g n with
  | some ⟨cells,true⟩=>match tsize P t,v.cells with
   | some sz,some cs=>if cs.length == sz&&decide (off+sz≤cells.length) then some [(n,some ⟨over cells off cs,true⟩)] else none
   | _,_=>none
  | _=>none
 | _=>none
def stillG (v:Option AV) (c:Nat):Res:=match v with
 | some v=>some (v,[],c)
 | none=>none
def peek (g:Nat→Option Blk):AV→Mem
 | .s (.sl n _ _ _ _)=>[(n,g n)]
 | _=>[]
def two (g:Nat→Option Blk) (x y:AV):Mem:=peek g x++peek g y
def less (k:Nat) (r:Res):Res:=match r with
 | some (v,m,c)=>some (v,m.take (m.length - k),c)
 | none=>none
def appendG (args:List Operand) (ts:List TypeId) (t:Nat→AV) (g:Nat→Option Blk) (c:Nat):Res:=match args,ts with
 | [s,x],[ts,tx]=>fA (evO t s) fun s=>fA (evO t x) fun x=>fL (two g s x) fun m=>less m.length (evAppend P ts tx s x m c)
 | _,_=>none
def copyG (args:List Operand) (ts:List TypeId) (t:Nat→AV) (g:Nat→Option Blk) (c:Nat):Res:=match args,ts with
 | [s,x],[ts,tx]=>fA (evO t s) fun s=>fA (evO t x) fun x=>fL (two g s x) fun m=>match evCopy P ts tx s x m with
  | some (v,m')=>some (v,m'.take (m'.length - m.length),c)
  | none=>none
 | _,_=>none
def convG (a b:TypeId) (x:AV) (g:Nat→Option Blk) (c:Nat):Res:=fA x fun x=>fL (peek g x) fun m=>less m.length (evConv P a b x m c)
def clearG (args:List Operand) (ts:List TypeId) (t:Nat→AV) (g:Nat→Option Blk) (c:Nat):Res:=match args,ts with
 | [x],[tx]=>fA (evO t x) fun x=>fL (peek g x) fun m=>match evClear P tx x m with
  | some m'=>some (.tup [],m'.take (m'.length - m.length),c)
  | none=>none
 | _,_=>none
def builtinG (b:Builtin) (args:Array Operand) (ts:Array TypeId) (t:Nat→AV) (g:Nat→Option Blk) (c:Nat):Res:=match b with
 | .append=>appendG P args.toList ts.toList t g c
 | .copy=>copyG P args.toList ts.toList t g c
 | .clear=>clearG P args.toList ts.toList t g c
 | .len=>oLen P args.toList ts.toList t [] c
 | .cap=>oCap P args.toList ts.toList t [] c
 | .min=>oMm false args.toList t [] c
 | .max=>oMm true args.toList t [] c
 | _=>none
def fnG (call:CallG) (f:AV) (args:List AV) (c:Nat):Res:=match f with
 | .s (.fn g cs)=>call g (args++cs.map fun p=>.s (.ptr p.1 p.2)) c
 | _=>none
def calleeG (call:CallG) (x:Callee) (args:Array Operand) (ts:Array TypeId) (t:Nat→AV) (g:Nat→Option Blk) (c:Nat):Res:=match x with
 | .builtin b=>builtinG P b args ts t g c
 | .value f=>fnG call (evO t f) (args.toList.map (evO t)) c
 | _=>none
def storeR (m':Option Mem) (c:Nat):Res:=match m' with
 | some m'=>some (.any,m',c)
 | none=>none
def evOpG (call:CallG) (o:Op) (t:Nat→AV) (g:Nat→Option Blk) (c:Nat):Res:=match o with
 | .move x=>one (evO t x) [] c
 | .assign x=>one (evO t x) [] c
 | .pick x a b=>oPick (evO t x) (evO t a) (evO t b) [] c
 | .alloc e=>oAlloc P e [] c
 | .box _ x=>oBox (evO t x) [] c
 | .build ty parts=>stillG (evBuild P ty (parts.toList.map fun p=>(p.1,evO t p.2))) c
 | .buildSlice ty len parts=>evBuildSlice P ty len (parts.toList.map fun p=>(p.1,evO t p.2)) [] c
 | .load ty a=>stillG (loadG P ty (evO t a) g) c
 | .store ty a x=>storeR (storeG P ty (evO t a) (evO t x) g) c
 | .nilCheck x=>oNil (evO t x) [] c
 | .binOp op xt x y _=>stillS (evBin P op xt (evO t x) (evO t y)) [] c
 | .unOp op _ x=>stillS (evUn op (evO t x)) [] c
 | .convert a b x=>convG P a b (evO t x) g c
 | .makeFunc fn first caps=>oFunc fn first caps t [] c
 | .makeSlice ty l cp=>evMake P ty (evO t l) (evO t cp) [] c
 | .slice ty x lo hi mx=>stillG (evSliceM P ty (evO t x) (lo.map (evO t)) (hi.map (evO t)) (mx.map (evO t)) (peek g (evO t x))) c
 | .fieldAddr s x f=>stillG (evFieldAddr P s (evO t x) f) c
 | .field s x f=>stillG (evField P s (evO t x) f) c
 | .indexAddr ty x i=>stillG (evIndexAddr P ty (evO t x) (evO t i)) c
 | .index ty x i=>stillG (evIndex P ty (evO t x) (evO t i)) c
 | .extract x i=>oExtract (evO t x) i [] c
 | .call cl=>calleeG P call cl.callee cl.args cl.argTypes t g c
 | _=>none
end
variable {P:Program}
theorem loadG_ok {t:TypeId} {a v:AV} {m:Mem} (h:loadG P t a (get m)=some v):evLoad P t a m=some v:=by
 unfold loadG at h
 unfold evLoad
 split at h
 ·split at h
  ·rename_i b hb
   split at h
   ·rename_i sz ag h1 h2
    simp only [hb,h1,h2,Option.bind_eq_bind,Option.bind_some]
    split at h
    ·rename_i hag;rw [if_pos hag]
     split at h
     ·rename_i cs hcs;rw [hcs];simpa using h
     ·cases h
    ·rename_i hag;rw [if_neg hag]
     split at h
     ·rename_i v hv;rw [hv];simpa using h
     ·cases h
   ·cases h
  ·cases h
 ·split at h
  ·rename_i sz ag h1 h2
   simp only [h1,h2,Option.bind_eq_bind,Option.bind_some]
   split at h
   ·rename_i hag;rw [if_pos hag]
    split at h
    ·rename_i cs hcs;rw [hcs];simpa using h
    ·cases h
   ·rename_i hag;rw [if_neg hag]
    split at h
    ·rename_i v hv;rw [hv];simpa using h
    ·cases h
  ·cases h
 ·cases h
theorem storeG_ok {t:TypeId} {a v:AV} {m δ:Mem} (h:storeG P t a v (get m)=some δ):evStore P t a v m=some (δ++m):=by
 unfold storeG at h
 unfold evStore
 split at h
 ·split at h
  ·rename_i cells hb
   split at h
   ·rename_i sz cs h1 h2
    simp only [hb,h1,h2,Option.bind_eq_bind,Option.bind_some,Bool.true_and]
    split at h
    ·rename_i hc
     rw [if_pos hc]
     obtain rfl:=Option.some.inj h
     rfl
    ·cases h
   ·cases h
  ·cases h
 ·cases h
theorem stillG_ok {v:Option AV} {c c':Nat} {u:AV} {δ m:Mem} (h:stillG v c=some (u,δ,c')):still v m c=some (u,δ++m,c'):=by
 cases v with
 | none=>cases h
 | some v =>
  simp only [stillG,Option.some.injEq,Prod.mk.injEq] at h
  obtain ⟨rfl,rfl,rfl⟩:=h
  rfl
theorem stillS_ok {v:Option SV} {c c':Nat} {u:AV} {δ m:Mem} (h:stillS v [] c=some (u,δ,c')):stillS v m c=some (u,δ++m,c'):=by
 cases v with
 | none=>cases h
 | some v =>
  simp only [stillS,Option.some.injEq,Prod.mk.injEq] at h
  obtain ⟨rfl,rfl,rfl⟩:=h
  rfl
theorem still_ok {v:Option AV} {c c':Nat} {u:AV} {δ m:Mem} (h:still v [] c=some (u,δ,c')):still v m c=some (u,δ++m,c'):=by
 cases v with
 | none=>cases h
 | some v =>
  simp only [still,Option.some.injEq,Prod.mk.injEq] at h
  obtain ⟨rfl,rfl,rfl⟩:=h
  rfl
def Sub (x:AV) (m0 m:Mem):Prop:=∀ n off len cap sz,x=.s (.sl n off len cap sz)→∀ b,get m0 n=some b→get m n=some b
theorem src_sub {sz:Nat} {tx:TypeId} {x:AV} {m0 m:Mem} {r:Nat × List SV} (hs:Sub x m0 m) (h:evSrc P sz tx x m0=some r):evSrc P sz tx x m=some r:=by
 unfold evSrc at h ⊢
 split at h
 ·exact h
 ·exact h
 ·simp only [Option.bind_eq_bind,Option.bind_eq_some_iff] at h ⊢
  obtain ⟨e,he,b,hb,cs,hcs,h⟩:=h
  exact ⟨e,he,b,hs _ _ _ _ _ rfl _ hb,cs,hcs,h⟩
 ·exact h
 ·exact h
 ·cases h
theorem append1_sub {ts tx:TypeId} {s x v:AV} {m0 m m1:Mem} {c c':Nat} (hs:Sub s m0 m) (hx:Sub x m0 m) (h:evAppend1 P ts tx s x m0 c=some (v,m1,c')):∃ δ,m1=δ++m0∧evAppend1 P ts tx s x m c=some (v,δ++m,c'):=by
 unfold evAppend1 at h ⊢
 simp only [Option.bind_eq_bind,Option.bind_eq_some_iff] at h
 obtain ⟨e,he,sz,hz,by_,hb,z,hzz,⟨k,news⟩,hsr,h⟩:=h
 simp only [he,hz,hb,hzz,src_sub hx hsr,Option.bind_eq_bind,Option.bind_some]
 split at h
 ·rename_i h0
  rw [if_pos h0]
  split at h
  ·split at h
   ·rename_i hk
    simp only [Option.some.injEq,Prod.mk.injEq] at h
    obtain ⟨rfl,rfl,rfl⟩:=h
    exact ⟨[],rfl,by rw [if_pos hk];rfl⟩
   ·rename_i hk
    split at h
    ·rename_i hk2
     simp only [Option.some.injEq,Prod.mk.injEq] at h
     obtain ⟨rfl,rfl,rfl⟩:=h
     exact ⟨[_],rfl,by rw [if_neg hk,if_pos hk2];rfl⟩
    ·cases h
  ·split at h
   ·rename_i hk
    simp only [Option.some.injEq,Prod.mk.injEq] at h
    obtain ⟨rfl,rfl,rfl⟩:=h
    exact ⟨[],rfl,by rw [if_pos hk];rfl⟩
   ·cases h
  ·simp only [Option.bind_eq_some_iff] at h
   obtain ⟨b,hg,h⟩:=h
   simp only [hs _ _ _ _ _ rfl _ hg,Option.bind_some]
   split at h
   ·rename_i hk
    simp only [Option.some.injEq,Prod.mk.injEq] at h
    obtain ⟨rfl,rfl,rfl⟩:=h
    exact ⟨[],rfl,by rw [if_pos hk];rfl⟩
   ·rename_i hk
    rw [if_neg hk]
    simp only [Option.bind_eq_some_iff] at h
    obtain ⟨olds,ho,h⟩:=h
    simp only [ho,Option.bind_some]
    split at h
    ·rename_i hk2
     rw [if_pos hk2]
     split at h
     ·split at h
      ·rename_i hq
       simp only [Option.some.injEq,Prod.mk.injEq] at h
       obtain ⟨rfl,rfl,rfl⟩:=h
       exact ⟨[_],rfl,by rw [if_pos hq];rfl⟩
      ·cases h
     ·split at h
      ·rename_i hq
       simp only [Option.some.injEq,Prod.mk.injEq] at h
       obtain ⟨rfl,rfl,rfl⟩:=h
       exact ⟨[_,_],rfl,by rw [if_pos hq];rfl⟩
      ·cases h
    ·cases h
  ·split at h
   ·rename_i hk
    simp only [Option.some.injEq,Prod.mk.injEq] at h
    obtain ⟨rfl,rfl,rfl⟩:=h
    exact ⟨[],rfl,by rw [if_pos hk];rfl⟩
   ·rename_i hk
    rw [if_neg hk]
    split at h
    ·rename_i hk2
     rw [if_pos hk2]
     split at h
     ·split at h
      ·rename_i hq
       simp only [Option.some.injEq,Prod.mk.injEq] at h
       obtain ⟨rfl,rfl,rfl⟩:=h
       exact ⟨[_],rfl,by rw [if_pos hq];rfl⟩
      ·cases h
     ·cases h
    ·cases h
  ·cases h
 ·cases h
theorem room_sub {ts tx:TypeId} {s x v:AV} {m0 m m1:Mem} {c c':Nat} (hs:Sub s m0 m) (hx:Sub x m0 m) (h:evRoom P ts tx s x m0 c=some (v,m1,c')):∃ δ,m1=δ++m0∧evRoom P ts tx s x m c=some (v,δ++m,c'):=by
 unfold evRoom at h ⊢
 split at h
 ·split at h
  ·rename_i e he
   split at h
   ·rename_i sz hz
    split at h
    ·rename_i k news hsr
     split at h
     ·rename_i cells hg
      split at h
      ·rename_i hb
       simp only [Option.some.injEq,Prod.mk.injEq] at h
       obtain ⟨rfl,rfl,rfl⟩:=h
       exact ⟨[_],rfl,by simp only [he,hz,src_sub hx hsr,hs _ _ _ _ _ rfl _ hg,hb,and_self,if_true];rfl⟩
      ·cases h
     ·cases h
    ·cases h
   ·cases h
  ·cases h
 ·cases h
theorem append_sub {ts tx:TypeId} {s x v:AV} {m0 m m1:Mem} {c c':Nat} (hs:Sub s m0 m) (hx:Sub x m0 m) (hs':Sub s m m0) (hx':Sub x m m0) (h:evAppend P ts tx s x m0 c=some (v,m1,c')):∃ δ,m1=δ++m0∧evAppend P ts tx s x m c=some (v,δ++m,c'):=by
 unfold evAppend at h ⊢
 split at h
 ·unfold evZeros at h ⊢
  split at h
  ·split at h
   ·rename_i h1 h2
    split at h
    ·rename_i h3 h4 h5
     split at h
     ·rename_i hb
      simp only [Option.some.injEq,Prod.mk.injEq] at h
      obtain ⟨rfl,rfl,rfl⟩:=h
      refine ⟨[_],rfl,?_⟩
      rw [if_pos hb]
      rfl
     ·cases h
    ·cases h
   ·cases h
  ·cases h
 ·split at h
  ·rename_i r hr
   obtain rfl:=Option.some.inj h
   obtain ⟨δ,h1,h2⟩:=append1_sub hs hx hr
   exact ⟨δ,h1,by rw [h2]⟩
  ·rename_i hr
   have:evAppend1 P ts tx s x m c=none:=by
    cases hq:evAppend1 P ts tx s x m c with
    | none=>rfl
    | some r =>
     obtain ⟨a,b,d⟩:=r
     obtain ⟨δ,_,h2⟩:=append1_sub hs' hx' hq
     rw [h2] at hr
     cases hr
   rw [this]
   exact room_sub hs hx h
theorem copy_sub {ts tx:TypeId} {s x v:AV} {m0 m m1:Mem} (hs:Sub s m0 m) (hx:Sub x m0 m) (h:evCopy P ts tx s x m0=some (v,m1)):∃ δ,m1=δ++m0∧evCopy P ts tx s x m=some (v,δ++m):=by
 unfold evCopy at h ⊢
 simp only [Option.bind_eq_bind,Option.bind_eq_some_iff] at h
 obtain ⟨e,he,sz,hz,⟨k,news⟩,hsr,h⟩:=h
 simp only [he,hz,src_sub hx hsr,Option.bind_eq_bind,Option.bind_some]
 split at h
 ·simp only [Option.some.injEq,Prod.mk.injEq] at h
  obtain ⟨rfl,rfl⟩:=h
  exact ⟨[],rfl,rfl⟩
 ·simp only [Option.some.injEq,Prod.mk.injEq] at h
  obtain ⟨rfl,rfl⟩:=h
  exact ⟨[],rfl,rfl⟩
 ·simp only [Option.bind_eq_some_iff] at h
  obtain ⟨b,hg,h⟩:=h
  simp only [hs _ _ _ _ _ rfl _ hg,Option.bind_some]
  split at h
  ·rename_i hq
   simp only [Option.some.injEq,Prod.mk.injEq] at h
   obtain ⟨rfl,rfl⟩:=h
   exact ⟨[_],rfl,by rw [if_pos hq];rfl⟩
  ·cases h
 ·cases h
theorem conv_sub {a b:TypeId} {x v:AV} {m0 m m1:Mem} {c c':Nat} (hx:Sub x m0 m) (h:evConv P a b x m0 c=some (v,m1,c')):∃ δ,m1=δ++m0∧evConv P a b x m c=some (v,δ++m,c'):=by
 unfold evConv at h ⊢
 split at h
 ·simp only [Option.some.injEq,Prod.mk.injEq] at h
  obtain ⟨rfl,rfl,rfl⟩:=h
  exact ⟨[],rfl,rfl⟩
 ·simp only [Option.some.injEq,Prod.mk.injEq] at h
  obtain ⟨rfl,rfl,rfl⟩:=h
  exact ⟨[],rfl,rfl⟩
 ·simp only [Option.some.injEq,Prod.mk.injEq] at h
  obtain ⟨rfl,rfl,rfl⟩:=h
  exact ⟨[],rfl,rfl⟩
 ·split at h
  ·split at h
   ·rename_i hq
    simp only [Option.some.injEq,Prod.mk.injEq] at h
    obtain ⟨rfl,rfl,rfl⟩:=h
    refine ⟨[_],rfl,?_⟩
    simp only [*,if_true]
    rfl
   ·cases h
  ·cases h
 ·split at h
  ·simp only [Option.bind_eq_bind,Option.bind_eq_some_iff] at h
   obtain ⟨b,hg,cs,h1,l,h2,h⟩:=h
   simp only [Option.some.injEq,Prod.mk.injEq] at h
   obtain ⟨rfl,rfl,rfl⟩:=h
   refine ⟨[],rfl,?_⟩
   simp only [*,hx _ _ _ _ _ rfl _ hg,Option.bind_eq_bind,Option.bind_some,List.nil_append]
  ·cases h
 ·split at h
  ·split at h
   ·simp only [Option.map_eq_some_iff,Prod.mk.injEq] at h
    obtain ⟨l,h2,rfl,rfl,rfl⟩:=h
    refine ⟨[],rfl,?_⟩
    simp only [*,if_true,Option.map_some,List.nil_append]
   ·cases h
  ·cases h
 ·split at h
  ·simp only [Option.some.injEq,Prod.mk.injEq] at h
   obtain ⟨rfl,rfl,rfl⟩:=h
   refine ⟨[],rfl,?_⟩
   simp only [*,List.nil_append]
  ·cases h
 ·split at h
  ·simp only [Option.some.injEq,Prod.mk.injEq] at h
   obtain ⟨rfl,rfl,rfl⟩:=h
   refine ⟨[],rfl,?_⟩
   simp only [*,List.nil_append]
  ·cases h
 ·cases h
theorem sub_peek {s x:AV} {m:Mem}:Sub s (two (get m) s x) m∧Sub x (two (get m) s x) m∧Sub s m (two (get m) s x)∧Sub x m (two (get m) s x):=by
 have key:∀ (z:AV) n b,get (peek (get m) z) n=some b→get m n=some b:=by
  intro z n b h
  unfold peek at h
  split at h
  ·rename_i k _ _ _ _
   simp only [get] at h
   split at h
   ·rename_i he;subst he;exact h
   ·cases h
  ·cases h
 have both:∀ n b,get (two (get m) s x) n=some b→get m n=some b:=by
  intro n b h
  unfold two at h
  rw [get_append] at h
  unfold upd at h
  split at h
  ·rename_i e he
   refine key s n b ?_
   have:get (peek (get m) s) n=upd (peek (get m) s) (fun _=>none) n:=by
    have:=get_append (peek (get m) s) []
    rw [List.append_nil] at this
    rw [this];rfl
   rw [this]
   unfold upd
   rw [he]
   exact h
  ·exact key x n b h
 refine ⟨fun n _ _ _ _ _ b h=>both n b h,fun n _ _ _ _ _ b h=>both n b h,fun n off len cap sz he b h=>?_,fun n off len cap sz he b h=>?_⟩
 ·subst he
  simp only [two,peek,List.cons_append,List.nil_append,get,if_true]
  exact h
 ·subst he
  unfold two
  rw [get_append]
  unfold upd
  split
  ·rename_i e he
   have h1:=List.find?_some he
   have h2:=List.mem_of_find?_eq_some he
   unfold peek at h2
   split at h2
   ·simp only [List.mem_cons,List.not_mem_nil,or_false] at h2
    subst h2
    obtain rfl:=(beq_iff_eq.1 h1)
    exact h
   ·cases h2
  ·simp only [peek,get,if_true]
   exact h
theorem sub_peek1 {x:AV} {m:Mem}:Sub x (peek (get m) x) m:=by
 intro n off len cap sz he b h
 subst he
 simp only [peek,get,if_true] at h
 exact h
theorem sliceM_sub {t:TypeId} {x v:AV} {lo hi mx:Option AV} {m0 m:Mem} (hx:Sub x m0 m) (h:evSliceM P t x lo hi mx m0=some v):evSliceM P t x lo hi mx m=some v:=by
 unfold evSliceM at h ⊢
 split at h
 ·exact h
 ·unfold evFar at h ⊢
  split at h
  ·split at h
   ·split at h
    ·rename_i h1 h2
     simp only [h1,hx _ _ _ _ _ rfl _ h2]
     exact h
    ·cases h
   ·cases h
  ·cases h
theorem take_ahead (δ m:Mem):(δ++m).take ((δ++m).length - m.length)=δ:=by simp
theorem appendG_ok {args:List Operand} {ts:List TypeId} {t:Nat→AV} {m δ:Mem} {c c':Nat} {v:AV} (h:appendG P args ts t (get m) c=some (v,δ,c')):oAppend P args ts t m c=some (v,δ++m,c'):=by
 unfold appendG at h
 split at h
 ·rename_i s x ts tx
  simp only [fA_eq,fL_eq] at h
  unfold less at h
  split at h
  ·rename_i v0 m1 c0 hr
   simp only [Option.some.injEq,Prod.mk.injEq] at h
   obtain ⟨rfl,h2,rfl⟩:=h
   obtain ⟨p1,p2,p3,p4⟩:=sub_peek (s:=evO t s) (x:=evO t x) (m:=m)
   obtain ⟨δ',rfl,h3⟩:=append_sub p1 p2 p3 p4 hr
   rw [take_ahead] at h2
   subst h2
   exact h3
  ·cases h
 ·cases h
theorem copyG_ok {args:List Operand} {ts:List TypeId} {t:Nat→AV} {m δ:Mem} {c c':Nat} {v:AV} (h:copyG P args ts t (get m) c=some (v,δ,c')):oCopy P args ts t m c=some (v,δ++m,c'):=by
 unfold copyG at h
 split at h
 ·rename_i s x ts tx
  simp only [fA_eq,fL_eq] at h
  split at h
  ·rename_i v0 m1 hr
   simp only [Option.some.injEq,Prod.mk.injEq] at h
   obtain ⟨rfl,h2,rfl⟩:=h
   obtain ⟨p1,p2,p3,p4⟩:=sub_peek (s:=evO t s) (x:=evO t x) (m:=m)
   obtain ⟨δ',rfl,h3⟩:=copy_sub p1 p2 hr
   rw [take_ahead] at h2
   subst h2
   simp only [oCopy,h3]
  ·cases h
 ·cases h
theorem clear_sub {t:TypeId} {x:AV} {m0 m m1:Mem} (hx:Sub x m0 m) (h:evClear P t x m0=some m1):∃ δ,m1=δ++m0∧evClear P t x m=some (δ++m):=by
 unfold evClear at h ⊢
 split at h
 ·obtain rfl:=Option.some.inj h
  exact ⟨[],rfl,rfl⟩
 ·obtain rfl:=Option.some.inj h
  exact ⟨[],rfl,rfl⟩
 ·split at h
  ·obtain rfl:=Option.some.inj h
   exact ⟨[],rfl,rfl⟩
  ·split at h
   ·rename_i h1 h2 h3
    simp only [h1,h2,hx _ _ _ _ _ rfl _ h3]
    split at h
    ·rename_i hb
     obtain rfl:=Option.some.inj h
     exact ⟨[_],rfl,by rw [if_pos hb];rfl⟩
    ·cases h
   ·cases h
 ·cases h
theorem clearG_ok {args:List Operand} {ts:List TypeId} {t:Nat→AV} {m δ:Mem} {c c':Nat} {v:AV} (h:clearG P args ts t (get m) c=some (v,δ,c')):oClear P args ts t m c=some (v,δ++m,c'):=by
 unfold clearG at h
 split at h
 ·rename_i x tx
  simp only [fA_eq,fL_eq] at h
  split at h
  ·rename_i m1 hr
   simp only [Option.some.injEq,Prod.mk.injEq] at h
   obtain ⟨rfl,h2,rfl⟩:=h
   obtain ⟨δ',rfl,h3⟩:=clear_sub sub_peek1 hr
   rw [take_ahead] at h2
   subst h2
   simp only [oClear,h3]
  ·cases h
 ·cases h
theorem convG_ok {a b:TypeId} {x:AV} {m δ:Mem} {c c':Nat} {v:AV} (h:convG P a b x (get m) c=some (v,δ,c')):evConv P a b x m c=some (v,δ++m,c'):=by
 unfold convG at h
 simp only [fA_eq,fL_eq] at h
 unfold less at h
 split at h
 ·rename_i v0 m1 c0 hr
  simp only [Option.some.injEq,Prod.mk.injEq] at h
  obtain ⟨rfl,h2,rfl⟩:=h
  obtain ⟨δ',rfl,h3⟩:=conv_sub sub_peek1 hr
  rw [take_ahead] at h2
  subst h2
  exact h3
 ·cases h
end Go.Proofs.Ytaelliigpclipaa.Eng
