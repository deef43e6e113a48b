/- The reckoner: how its memory reads the world's,and what a world's change does to that. -/
import Derived.Test.YtaelliigpclipaaEng
namespace Go.Proofs.Ytaelliigpclipaa.Eng
set_option linter.unusedVariables false
set_option linter.unusedSimpArgs false
open Go Go.RowKit
structure Loc where
 b:Nat
 o:Nat
 S:Nat
 deriving Inhabited
structure Rho where
 nm:Nat→Option Loc
 fz:Nat→Nat→Option Value
instance:CoeFun Rho (fun _=>Nat→Option Loc):=⟨Rho.nm⟩
structure Keep (ρ ρ':Rho):Prop where
 nm:∀ n l,ρ n=some l→ρ' n=some l
 fz:∀ b o v,ρ.fz b o=some v→ρ'.fz b o=some v
def Rho.none:Rho:=⟨fun _=>.none,fun _ _=>.none⟩
theorem Keep.refl (ρ:Rho):Keep ρ ρ:=⟨fun _ _ h=>h,fun _ _ _ h=>h⟩
theorem Keep.trans {a b d:Rho} (h:Keep a b) (k:Keep b d):Keep a d:=⟨fun n l x=>k.nm n l (h.nm n l x),fun n o l x=>k.fz n o l (h.fz n o l x)⟩
mutual
def FR (z:Nat→Nat→Option Value):SV→Value→Prop
 | .bool b,v=>v=.bool b
 | .int k n,v=>v=.int k n
 | .str s,v=>v=.string s
 | .ptr0,v=>v=.pointer none
 | .sl0,v=>v=.slice none 0 0
 | .fnil,v=>v=.nilFunc
 | .inil,v=>v=.nilIface
 | .slv len cap sz cs,v=>(v=.slice none 0 0∧len=0∧cs=[]∧∀ k,cap=some k→k=0)∨(∃ a cp,v=.slice (some a) 0 cp∧len=0∧cs=[]∧cp≤maxLen∧∀ k,cap=some k→cp=k) ∨
   ∃ b o cp,v=.slice (some ⟨b,o,none⟩) len cp∧len≤cp∧cp≤maxLen∧(∀ k,cap=some k→cp=k)∧cs.length=len*sz∧FRL z cs b o
 | .ptv cs,v=>∃ b o,v=.pointer (some ⟨b,o,none⟩)∧FRL z cs b o
 | .ptr _ _,_=>False
 | .sl ..,_=>False
 | .slE _,_=>False
 | .fn ..,_=>False
def FRL (z:Nat→Nat→Option Value):List SV→Nat→Nat→Prop
 | [],_,_=>True
 | x :: r,b,o=>(∃ c,z b o=some c∧FR z x c)∧FRL z r b (o+1)
end
mutual
theorem FR.ext {z z':Nat→Nat→Option Value} (h:∀ b o v,z b o=some v→z' b o=some v):∀ {v:SV} {c:Value},FR z v c→FR z' v c
 | .bool _,_,k=>k
 | .int _ _,_,k=>k
 | .str _,_,k=>k
 | .ptr0,_,k=>k
 | .sl0,_,k=>k
 | .fnil,_,k=>k
 | .inil,_,k=>k
 | .slv _ _ _ _,_,.inl k=>.inl k
 | .slv _ _ _ _,_,.inr (.inl k)=>.inr (.inl k)
 | .slv _ _ _ _,_,.inr (.inr ⟨b,o,cp,h1,h2,h3,h4,h5,h6⟩)=>.inr (.inr ⟨b,o,cp,h1,h2,h3,h4,h5,FRL.ext h h6⟩)
 | .ptv _,_,⟨b,o,h1,h2⟩=>⟨b,o,h1,FRL.ext h h2⟩
 | .ptr _ _,_,k=>k.elim
 | .sl ..,_,k=>k.elim
 | .slE _,_,k=>k.elim
 | .fn ..,_,k=>k.elim
theorem FRL.ext {z z':Nat→Nat→Option Value} (h:∀ b o v,z b o=some v→z' b o=some v):∀ {v:List SV} {b o:Nat},FRL z v b o→FRL z' v b o
 | [],_,_,_=>trivial
 | _ :: _,_,_,⟨⟨c,k1,k2⟩,k3⟩=>⟨⟨c,h _ _ _ k1,FR.ext h k2⟩,FRL.ext h k3⟩
end
theorem FRL.get {z:Nat→Nat→Option Value}:∀ {l:List SV} {b o:Nat},FRL z l b o→∀ (i:Nat) v,l[i]?=some v→∃ c,z b (o+i)=some c∧FR z v c
 | x :: r,b,o,h,0,v,hv=>by
  obtain rfl:x=v:=by simpa using hv
  exact h.1
 | x :: r,b,o,h,i+1,v,hv=>by
  have:=FRL.get h.2 i v (by simpa using hv)
  rwa [show o+1+i=o+(i+1) by omega] at this
theorem FRL.of_get {z:Nat→Nat→Option Value}:∀ {l:List SV} {b o:Nat},(∀ (i:Nat) v,l[i]?=some v→∃ c,z b (o+i)=some c∧FR z v c)→FRL z l b o
 | [],_,_,_=>trivial
 | x :: r,b,o,h=>⟨h 0 x rfl,FRL.of_get fun i v hv=>by
  have:=h (i+1) v (by simpa using hv)
  rwa [show o+(i+1)=o+1+i by omega] at this⟩
theorem FRL.sub {z:Nat→Nat→Option Value} {l:List SV} {b o:Nat} (h:FRL z l b o) {off n:Nat} {r:List SV} (hr:sub l off n=some r):FRL z r b (o+off)∧r.length=n:=by
 unfold Eng.sub at hr
 split at hr
 ·rename_i hle
  obtain rfl:=Option.some.inj hr
  refine ⟨FRL.of_get fun i v hv=>?_,by simp;omega⟩
  rw [List.getElem?_take] at hv
  split at hv
  ·rw [List.getElem?_drop] at hv
   have:=h.get _ _ hv
   rwa [← Nat.add_assoc] at this
  ·cases hv
 ·cases hr
def PtrR (ρ:Rho) (p:Nat × Nat) (v:Value):Prop:=∃ l,ρ p.1=some l∧v=.pointer (some ⟨l.b,l.o+p.2,none⟩)
def SR (ρ:Rho):SV→Value→Prop
 | .bool b,v=>v=.bool b
 | .int k n,v=>v=.int k n
 | .str s,v=>v=.string s
 | .ptr0,v=>v=.pointer none
 | .ptr n off,v=>∃ l,ρ n=some l∧v=.pointer (some ⟨l.b,l.o+off,none⟩)
 | .sl0,v=>v=.slice none 0 0
 | .sl n off len cap sz,v=>∃ l cp,ρ n=some l∧v=.slice (some ⟨l.b,l.o+off,none⟩) len cp∧len≤cp∧cp≤maxLen∧(∀ k,cap=some k→cp=k)∧(cap=none→off+cp*sz=l.S)
 | .slE _,v=>∃ a cp,v=.slice (some a) 0 cp∧cp≤maxLen
 | .fnil,v=>v=.nilFunc
 | .fn f caps,v=>∃ cs:Array Value,v=.func (.func f) #[] cs∧caps.length=cs.size∧∀ (i:Nat) p (c:Value),caps[i]?=some p→cs[i]?=some c→PtrR ρ p c
 | .inil,v=>v=.nilIface
 | .slv len cap sz cs,v=>FR ρ.fz (.slv len cap sz cs) v
 | .ptv cs,v=>FR ρ.fz (.ptv cs) v
def CR (ρ:Rho) (l:List SV) (cs:List Value):Prop:=l.length=cs.length∧∀ (i:Nat) v c,l[i]?=some v→cs[i]?=some c→SR ρ v c
def VR1 (ρ:Rho):AV→Value→Prop
 | .s v,c=>SR ρ v c
 | .agg l,c=>∃ cs,c=.agg cs∧CR ρ l cs.toList
 | _,_=>False
def VR (ρ:Rho):AV→Value→Prop
 | .any,_=>True
 | .no,v=>v=undef
 | .s v,c=>SR ρ v c
 | .agg l,c=>∃ cs,c=.agg cs∧CR ρ l cs.toList
 | .tup l,c=>∃ cs:Array Value,c=.tuple cs∧l.length=cs.size∧∀ (i:Nat) x y,l[i]?=some x→cs[i]?=some y→∃ v,ofComp x=some v∧VR1 ρ v y
abbrev MemF:=Nat→Option Blk
def upd (δ:Mem) (M:MemF):MemF:=fun n=>match δ.find? (fun e=>e.1 == n) with|some e=>e.2|none=>M n
def Agree (m:Mem) (M:MemF):Prop:=∀ n b,get m n=some b→M n=some b
def Holds (B:Nat) (ρ:Rho) (n:Nat) (b:Blk) (w:World):Prop :=
 ∃ l,ρ n=some l∧l.b < w.heap.size∧b.cells.length≤l.S∧(∀ (i:Nat) v,b.cells[i]?=some v→∃ c,w.cell? ⟨l.b,l.o+i,none⟩=some c∧SR ρ v c)∧(b.own=true→B≤l.b∧w.there l.b l.o l.S)
structure Sat (B:Nat) (ρ:Rho) (M:MemF) (w:World):Prop where
 heap:B≤w.heap.size
 here:∀ n b,M n=some b→Holds B ρ n b w
 apart:∀ n n' b b' l l',M n=some b→M n'=some b'→n≠n'→b.own=true→ρ n=some l→ρ n'=some l'→l.b≠l'.b
 frz:∀ b o v,ρ.fz b o=some v→b < w.heap.size∧w.cell? ⟨b,o,none⟩=some v
 fown:∀ n b l,M n=some b→b.own=true→ρ n=some l→∀ o,ρ.fz l.b o=none
structure Ext (ρ ρ':Rho) (c c':Nat):Prop where
 keep:Keep ρ ρ'
 out:∀ n,¬ (c≤n∧n < c')→ρ' n=ρ n
theorem Ext.refl (ρ:Rho) (c c':Nat):Ext ρ ρ c c':=⟨Keep.refl ρ,fun _ _=>rfl⟩
theorem Ext.trans {a b d:Rho} {c c' c'':Nat} (h:Ext a b c c') (k:Ext b d c' c'') (h1:c≤c') (h2:c'≤c''):Ext a d c c'' :=
 ⟨h.keep.trans k.keep,fun n x=>(k.out n (by omega)).trans (h.out n (by omega))⟩
theorem SR.ext {ρ ρ':Rho} (h:Keep ρ ρ') {v:SV} {c:Value} (k:SR ρ v c):SR ρ' v c:=by
 cases v with
 | ptr n off=>obtain ⟨l,a,b⟩:=k;exact ⟨l,h.nm _ _ a,b⟩
 | sl n off len cap sz=>obtain ⟨l,cp,a,b⟩:=k;exact ⟨l,cp,h.nm _ _ a,b⟩
 | fn f caps=>obtain ⟨cs,a,b,d⟩:=k;exact ⟨cs,a,b,fun i p c x y=>let ⟨l,e,f⟩:=d i p c x y;⟨l,h.nm _ _ e,f⟩⟩
 | slv len cap sz cs=>exact FR.ext h.fz k
 | ptv cs=>exact FR.ext h.fz k
 | _=>exact k
theorem CR.ext {ρ ρ':Rho} (h:Keep ρ ρ') {v:List SV} {c:List Value} (k:CR ρ v c):CR ρ' v c:=⟨k.1,fun i v c x y=>(k.2 i v c x y).ext h⟩
theorem VR1.ext {ρ ρ':Rho} (h:Keep ρ ρ') {v:AV} {c:Value} (k:VR1 ρ v c):VR1 ρ' v c:=by
 cases v with
 | any=>exact k
 | no=>exact k
 | s v=>exact SR.ext h k
 | agg l=>obtain ⟨cs,a,b⟩:=k;exact ⟨cs,a,b.ext h⟩
 | tup l=>exact k
theorem VR.ext {ρ ρ':Rho} (h:Keep ρ ρ') {v:AV} {c:Value} (k:VR ρ v c):VR ρ' v c:=by
 cases v with
 | any=>trivial
 | no=>exact k
 | s v=>exact SR.ext h k
 | agg l=>obtain ⟨cs,a,b⟩:=k;exact ⟨cs,a,b.ext h⟩
 | tup l=>obtain ⟨cs,a,b,d⟩:=k;exact ⟨cs,a,b,fun i x y p q=>let ⟨v,e,f⟩:=d i x y p q;⟨v,e,f.ext h⟩⟩
theorem SR.one {ρ:Rho} {v:SV} {c:Value} (k:SR ρ v c):c.oneCell'=true:=by
 cases v with
 | ptr n off=>obtain ⟨l,a,rfl⟩:=k;rfl
 | sl n off len cap sz=>obtain ⟨l,cp,a,rfl,_⟩:=k;rfl
 | slE n=>obtain ⟨a,cp,rfl,_⟩:=k;rfl
 | slv len cap sz cs=>rcases k with ⟨rfl,_⟩|⟨a,cp,rfl,_⟩|⟨b,o,cp,rfl,_⟩<;>rfl
 | ptv cs=>obtain ⟨b,o,rfl,_⟩:=k;rfl
 | fn f caps=>obtain ⟨cs,rfl,_⟩:=k;rfl
 | _=>(have h:c=_:=k);subst h;rfl
theorem VR1.toVR {ρ:Rho} {v:AV} {c:Value} (h:VR1 ρ v c):VR ρ v c:=by cases v<;>first|exact h|exact h.elim
theorem VR.cells {ρ:Rho} {v:AV} {c:Value} {cs:List SV} (h:VR ρ v c) (hc:v.cells=some cs):CR ρ cs c.cells.toList∧((∃ x,v=.s x)∨(∃ l,v=.agg l)):=by
 cases v with
 | any=>cases hc
 | no=>cases hc
 | s x =>
  have e:cs=[x]:=by simpa [AV.cells] using hc.symm
  subst e
  have h1:=SR.one h
  have hcc:c.cells=#[c]:=by cases c<;>first|rfl|simp [Value.oneCell'] at h1
  rw [hcc]
  refine ⟨⟨rfl,fun i v c' p q=>?_⟩,.inl ⟨x,rfl⟩⟩
  cases i with
  | zero =>
   have e1:x=v:=by simpa using p
   have e2:c=c':=by simpa using q
   subst e1 e2
   exact h
  | succ i=>simp at p
 | agg l =>
  have e:cs=l:=by simpa [AV.cells] using hc.symm
  subst e
  obtain ⟨a,rfl,k⟩:=h
  exact ⟨k,.inr ⟨_,rfl⟩⟩
 | tup l=>cases hc
theorem CR.one {ρ:Rho} {l:List SV} {cs:List Value} (h:CR ρ l cs):∀ u∈cs,u.oneCell'=true:=by
 intro u hu
 obtain ⟨i,hi,rfl⟩:=List.mem_iff_getElem.1 hu
 exact SR.one (h.2 i (l[i]'(by rw [h.1];exact hi)) cs[i] (List.getElem?_eq_getElem _) (List.getElem?_eq_getElem hi))
theorem CR.nil (ρ:Rho):CR ρ [] []:=⟨rfl,fun i v c p=>by simp at p⟩
theorem CR.append {ρ:Rho} {l l':List SV} {cs cs':List Value} (h:CR ρ l cs) (k:CR ρ l' cs'):CR ρ (l++l') (cs++cs'):=by
 refine ⟨by simp [h.1,k.1],fun i v c p q=>?_⟩
 rw [List.getElem?_append] at p q
 rw [h.1] at p
 split at p
 ·rename_i hi;rw [if_pos hi] at q;exact h.2 i v c p q
 ·rename_i hi;rw [if_neg hi] at q;exact k.2 _ v c p q
theorem CR.drop {ρ:Rho} {l:List SV} {cs:List Value} (h:CR ρ l cs) (n:Nat):CR ρ (l.drop n) (cs.drop n) :=
 ⟨by simp [h.1],fun i v c p q=>by rw [List.getElem?_drop] at p q;exact h.2 _ v c p q⟩
theorem CR.take {ρ:Rho} {l:List SV} {cs:List Value} (h:CR ρ l cs) (n:Nat):CR ρ (l.take n) (cs.take n) :=
 ⟨by simp [h.1],fun i v c p q=>by
  rw [List.getElem?_take] at p q
  split at p
  ·rename_i hi;rw [if_pos hi] at q;exact h.2 _ v c p q
  ·cases p⟩
theorem CR.get {ρ:Rho} {l:List SV} {cs:List Value} (h:CR ρ l cs) {i:Nat} {v:SV} (p:l[i]?=some v):∃ c,cs[i]?=some c∧SR ρ v c:=by
 have hi:i < l.length:=(List.getElem?_eq_some_iff.1 p).1
 exact ⟨cs[i]'(by rw [← h.1];exact hi),List.getElem?_eq_getElem _,h.2 i v _ p (List.getElem?_eq_getElem _)⟩
theorem Holds.range {B:Nat} {ρ:Rho} {n:Nat} {b:Blk} {w:World} (h:Holds B ρ n b w) {l:Loc} (hl:ρ n=some l):∃ cs,CR ρ b.cells cs∧w.rangeAt l.b l.o cs:=by
 obtain ⟨l',a,_,_,hc,_⟩:=h
 rw [hl] at a
 obtain rfl:l=l':=by simpa using a
 have:∀ l2:List SV,∀ k:Nat,(∀ (i:Nat) v,l2[i]?=some v→∃ c,w.cell? ⟨l.b,l.o+(k+i),none⟩=some c∧SR ρ v c)→∃ cs,CR ρ l2 cs∧w.rangeAt l.b (l.o+k) cs:=by
  intro l2
  induction l2 with
  | nil=>exact fun k _=>⟨[],CR.nil ρ,fun j v hv=>by simp at hv⟩
  | cons x r ih =>
   intro k hk
   obtain ⟨c,h1,h2⟩:=hk 0 x rfl
   obtain ⟨cs,h3,h4⟩:=ih (k+1) (fun i v hv=>by have:=hk (i+1) v (by simpa using hv);rwa [show k+(i+1)=k+1+i from by omega] at this)
   refine ⟨c :: cs,⟨by simp [h3.1],fun i v c' p q=>?_⟩,fun j v hv=>?_⟩
   ·cases i with
    | zero =>
     have e1:x=v:=by simpa using p
     have e2:c=c':=by simpa using q
     subst e1 e2;exact h2
    | succ i=>exact h3.2 i v c' (by simpa using p) (by simpa using q)
   ·cases j with
    | zero =>
     have e2:c=v:=by simpa using hv
     subst e2;exact h1
    | succ j=>have:=h4 j v (by simpa using hv);rwa [show l.o+(k+1)+j=l.o+k+(j+1) from by omega] at this
 obtain ⟨cs,h1,h2⟩:=this b.cells 0 (fun i v hv=>by rw [Nat.zero_add];exact hc i v hv)
 exact ⟨cs,h1,h2⟩
theorem FR.SR {ρ:Rho} {v:SV} {c:Value} (h:FR ρ.fz v c):SR ρ v c:=by
 cases v<;>first|exact h|exact h.elim
theorem FRL.range {B:Nat} {ρ:Rho} {M:MemF} {w:World} (hs:Sat B ρ M w):∀ {l:List SV} {b o:Nat},FRL ρ.fz l b o→∃ cs,CR ρ l cs∧w.rangeAt b o cs
 | [],_,_,_=>⟨[],CR.nil ρ,fun j v hv=>by simp at hv⟩
 | x :: r,b,o,⟨⟨c,k1,k2⟩,k3⟩=>by
  obtain ⟨cs,h3,h4⟩:=FRL.range hs k3
  refine ⟨c :: cs,⟨by simp [h3.1],fun i v c' p q=>?_⟩,fun j v hv=>?_⟩
  ·cases i with
   | zero =>
    have e1:x=v:=by simpa using p
    have e2:c=c':=by simpa using q
    subst e1 e2;exact k2.SR
   | succ i=>exact h3.2 i v c' (by simpa using p) (by simpa using q)
  ·cases j with
   | zero =>
    have e2:c=v:=by simpa using hv
    subst e2;exact (hs.frz _ _ _ k1).2
   | succ j=>have:=h4 j v (by simpa using hv);rwa [show o+1+j=o+(j+1) from by omega] at this
theorem rangeAt_sub {w:World} {b o:Nat} {cs:List Value} (h:w.rangeAt b o cs) (off n:Nat):w.rangeAt b (o+off) ((cs.drop off).take n):=by
 intro j v hv
 rw [List.getElem?_take] at hv
 split at hv
 ·rw [List.getElem?_drop] at hv
  have:=h (off+j) v hv
  rwa [← Nat.add_assoc] at this
 ·cases hv
theorem sizeCells (b:Nat):∀ (vs:List Value) (o:Nat) (w:World),(w.setCells b o vs).heap.size=w.heap.size
 | [],_,_=>rfl
 | v :: r,o,w=>by rw [World.setCells,sizeCells b r];simp
theorem setCells_other (b:Nat):∀ (vs:List Value) (o:Nat) (w:World) (k:Nat),k≠b→(w.setCells b o vs).heap[k]?=w.heap[k]?
 | [],_,_,_,_=>rfl
 | v :: r,o,w,k,h=>by
  rw [World.setCells,setCells_other b r _ _ k h,Below.heap_setCell _ _ _ _ h]
theorem World.setCells_streams (b:Nat):∀ (vs:List Value) (o:Nat) (w:World),(w.setCells b o vs).os=w.os∧(w.setCells b o vs).tape=w.tape∧(w.setCells b o vs).output=w.output
 | [],_,_=>⟨rfl,rfl,rfl⟩
 | v :: r,o,w=>by
  rw [World.setCells]
  exact World.setCells_streams b r (o+1) (w.setCell ⟨b,o,none⟩ v)
theorem Sat.keep {B:Nat} {ρ:Rho} {M:MemF} {w w':World} (h:Sat B ρ M w) (hs:w.heap.size≤w'.heap.size) (hc:∀ a,a.block < w.heap.size→w'.cell? a=w.cell? a) (hf:∀ b o,b < w.heap.size→w'.frozen? ⟨b,o,none⟩=w.frozen? ⟨b,o,none⟩):Sat B ρ M w':=by
 refine ⟨Nat.le_trans h.heap hs,fun n b hm=>?_,h.apart,fun b o v hz=>⟨Nat.lt_of_lt_of_le (h.frz b o v hz).1 hs,by rw [hc _ (h.frz b o v hz).1];exact (h.frz b o v hz).2⟩,h.fown⟩
 obtain ⟨l,h1,h2,h3,h4,h5⟩:=h.here n b hm
 refine ⟨l,h1,by omega,h3,fun i v hv=>?_,fun ho=>⟨(h5 ho).1,fun j hj=>?_⟩⟩
 ·rw [hc _ h2];exact h4 i v hv
 ·rw [hc _ h2,hf _ _ h2];exact (h5 ho).2 j hj
theorem Sat.drew {B:Nat} {ρ:Rho} {M:MemF} {w:World} (h:Sat B ρ M w):Sat B ρ M w.drew:=h.keep (Nat.le_refl _) (fun _ _=>by simp) (fun _ _ _=>by simp)
theorem Sat.ext {B:Nat} {ρ ρ':Rho} {M:MemF} {w:World} (h:Sat B ρ M w) (hk:Keep ρ ρ') (hz:ρ'.fz=ρ.fz):Sat B ρ' M w:=by
 refine ⟨h.heap,fun n b hm=>?_,fun n n' b b' l l' hm hm' hne ho hl hl'=>?_,fun b o v x=>h.frz b o v (by rw [← hz];exact x),fun n b l hm ho hl o=>?_⟩
 ·obtain ⟨l,h1,h2,h3,h4,h5⟩:=h.here n b hm
  exact ⟨l,hk.nm _ _ h1,h2,h3,fun i v hv=>let ⟨c,x,y⟩:=h4 i v hv;⟨c,x,y.ext hk⟩,h5⟩
 ·obtain ⟨l1,h1,_⟩:=h.here n b hm
  obtain ⟨l2,h2,_⟩:=h.here n' b' hm'
  have e1:=(hk.nm _ _ h1).symm.trans hl
  have e2:=(hk.nm _ _ h2).symm.trans hl'
  simp at e1 e2
  subst e1 e2
  exact h.apart n n' b b' l1 l2 hm hm' hne ho h1 h2
 ·obtain ⟨l1,h1,_⟩:=h.here n b hm
  have e1:=(hk.nm _ _ h1).symm.trans hl
  simp at e1
  subst e1
  rw [hz]
  exact h.fown n b l1 hm ho h1 o
def put (ρ:Rho) (c:Nat) (l:Loc):Rho:=⟨fun n=>if n=c then some l else ρ n,ρ.fz⟩
theorem put_nm {ρ:Rho} {c:Nat} {l:Loc} (h:ρ c=none):∀ n l',ρ n=some l'→put ρ c l n=some l':=by
 intro n l' hn
 unfold put
 show (if n=c then some l else ρ n)=some l'
 split
 ·rename_i e;subst e;rw [h] at hn;cases hn
 ·exact hn
theorem put_keep {ρ:Rho} {c:Nat} {l:Loc} (h:ρ c=none):Keep ρ (put ρ c l):=⟨put_nm h,fun _ _ _ x=>x⟩
theorem put_ext {ρ:Rho} {c:Nat} {l:Loc} (h:ρ c=none):Ext ρ (put ρ c l) c (c+1) :=
 ⟨put_keep h,fun n hn=>by show (if n=c then some l else ρ n)=ρ n;rw [if_neg (by omega)]⟩
theorem put_self (ρ:Rho) (c:Nat) (l:Loc):put ρ c l c=some l:=by simp [put]
theorem upd_nil (M:MemF):upd [] M=M:=rfl
theorem upd_one (n:Nat) (b:Option Blk) (M:MemF) (k:Nat):upd [(n,b)] M k=if n=k then b else M k:=by
 unfold upd
 by_cases h:n=k
 ·simp [h]
 ·simp [h]
theorem Sat.gone {B:Nat} {ρ:Rho} {M:MemF} {w:World} (h:Sat B ρ M w) {n:Nat} (hn:ρ n=none):M n=none:=by
 cases hm:M n with
 | none=>rfl
 | some b=>obtain ⟨l,h1,_⟩:=h.here n b hm;rw [hn] at h1;cases h1
theorem Sat.new {B:Nat} {ρ:Rho} {M:MemF} {w w':World} (h:Sat B ρ M w) {c:Nat} (hc:ρ c=none) (cs:List SV) (S:Nat) (hlen:cs.length≤S)
  (hs:w'.heap.size=w.heap.size+1) (hcell:∀ a,a.block < w.heap.size→w'.cell? a=w.cell? a) (hf:∀ b o,b < w.heap.size→w'.frozen? ⟨b,o,none⟩=w.frozen? ⟨b,o,none⟩)
  (hnew:∀ (i:Nat) v,cs[i]?=some v→∃ u,w'.cell? ⟨w.heap.size,i,none⟩=some u∧SR (put ρ c ⟨w.heap.size,0,S⟩) v u) (hth:w'.there w.heap.size 0 S) :
  Sat B (put ρ c ⟨w.heap.size,0,S⟩) (upd [(c,some ⟨cs,true⟩)] M) w':=by
 have h1:=(h.keep (w':=w') (by omega) hcell hf).ext (put_keep (l:=⟨w.heap.size,0,S⟩) hc) rfl
 have hMc:=h.gone hc
 refine ⟨h1.heap,fun n b hm=>?_,fun n n' b b' l l' hm hm' hne ho hl hl'=>?_,h1.frz,fun n b l hm ho hl o=>?_⟩
 ·rw [upd_one] at hm
  split at hm
  ·rename_i e
   subst e
   obtain rfl:⟨cs,true⟩=b:=by simpa using hm
   exact ⟨_,put_self _ _ _,by show w.heap.size < _;omega,hlen,fun i v hv=>by rw [Nat.zero_add];exact hnew i v hv,fun _=>⟨h.heap,hth⟩⟩
  ·exact h1.here n b hm
 ·have old:∀ n b l,M n=some b→put ρ c ⟨w.heap.size,0,S⟩ n=some l→l.b < w.heap.size:=by
   intro n b l hm hl
   obtain ⟨l2,a1,a2,_⟩:=h.here n b hm
   rw [put_nm hc _ _ a1] at hl
   obtain rfl:l2=l:=by simpa using hl
   exact a2
  rw [upd_one] at hm hm'
  split at hm
  ·rename_i e
   subst e
   rw [if_neg hne] at hm'
   rw [put_self] at hl
   obtain rfl:(⟨w.heap.size,0,S⟩:Loc)=l:=by simpa using hl
   have:=old n' b' l' hm' hl'
   show w.heap.size≠l'.b
   omega
  ·split at hm'
   ·rename_i e
    subst e
    rw [put_self] at hl'
    obtain rfl:(⟨w.heap.size,0,S⟩:Loc)=l':=by simpa using hl'
    have:=old n b l hm hl
    show l.b≠w.heap.size
    omega
   ·exact h1.apart n n' b b' l l' hm hm' hne ho hl hl'
 ·rw [upd_one] at hm
  split at hm
  ·rename_i e
   subst e
   rw [put_self] at hl
   obtain rfl:(⟨w.heap.size,0,S⟩:Loc)=l:=by simpa using hl
   show ρ.fz w.heap.size o=none
   cases hz:ρ.fz w.heap.size o with
   | none=>rfl
   | some v=>exact absurd (h.frz _ _ _ hz).1 (Nat.lt_irrefl _)
  ·exact h1.fown n b l hm ho hl o
theorem Sat.alloc {B:Nat} {ρ:Rho} {M:MemF} {w:World} (h:Sat B ρ M w) {c:Nat} (hc:ρ c=none) {cs:List SV} {us:List Value} (hcr:CR ρ cs us) (more:Array Value) (e:TypeId) :
  Sat B (put ρ c ⟨w.heap.size,0,us.length+more.size⟩) (upd [(c,some ⟨cs,true⟩)] M) (w.alloc (.cells (us.toArray++more) e)):=by
 have hn:(w.alloc (.cells (us.toArray++more) e)).heap[w.heap.size]?=some (.cells (us.toArray++more) e (0,0)):=by simp [World.alloc,-World.alloc_eq]
 refine h.new hc cs _ (by rw [hcr.1];omega) (by simp) (fun a ha=>World.cell?_alloc_lt _ _ _ ha) (fun b o hb=>World.frozen?_alloc_past _ _ _ hb) (fun i v hv=>?_) (fun j hj=>?_)
 ·obtain ⟨u,h1,h2⟩:=hcr.get hv
  refine ⟨u,?_,h2.ext (put_keep hc)⟩
  rw [cell_of_row _ _ _ _ _ _ hn]
  have hi:i < us.length:=(List.getElem?_eq_some_iff.1 h1).1
  simp [Array.getElem?_append,hi]
  have:=(List.getElem?_eq_some_iff.1 h1).2
  exact this
 ·constructor
  ·rw [cell_of_row _ _ _ _ _ _ hn]
   simp
   omega
  ·simp only [World.frozen?,hn]
   simp
theorem Sat.store {B:Nat} {ρ:Rho} {M:MemF} {w:World} (h:Sat B ρ M w) {n:Nat} {b:Blk} {l:Loc} (hm:M n=some b) (ho:b.own=true) (hl:ρ n=some l) (off:Nat) {cs:List SV} {us:List Value} (hcr:CR ρ cs us) (hfit:off+cs.length≤b.cells.length) :
  Sat B ρ (upd [(n,some ⟨over b.cells off cs,b.own⟩)] M) (w.setCells l.b (l.o+off) us):=by
 obtain ⟨l1,a1,a2,a3,a4,a5⟩:=h.here n b hm
 rw [hl] at a1
 obtain rfl:l=l1:=by simpa using a1
 obtain ⟨a6,a7⟩:=a5 ho
 have hsz:(w.setCells l.b (l.o+off) us).heap.size=w.heap.size:=sizeCells _ _ _ _
 have hlen:=hcr.1
 have hth:∀ b o n,w.there b o n→(w.setCells l.b (l.o+off) us).there b o n:=fun b o n ht=>World.there_setCells ht _ _ _
 have find:∀ k d,upd [(n,some ⟨over b.cells off cs,b.own⟩)] M k=some d→∃ d0,M k=some d0∧d0.own=d.own:=by
  intro k d hk
  rw [upd_one] at hk
  split at hk
  ·rename_i e
   subst e
   obtain rfl:(⟨over b.cells off cs,b.own⟩:Blk)=d:=by simpa using hk
   exact ⟨b,hm,rfl⟩
  ·exact ⟨d,hk,rfl⟩
 refine ⟨by rw [hsz];exact h.heap,fun k d hk=>?_,fun k k' d d' x x' hk hk' hne hown hx hx'=>?_,fun b' o v hz=>?_,fun k d x hk hown hx o=>?_⟩
 ·rw [upd_one] at hk
  split at hk
  ·rename_i e
   subst e
   obtain rfl:(⟨over b.cells off cs,b.own⟩:Blk)=d:=by simpa using hk
   have hol:(over b.cells off cs).length=b.cells.length:=by simp [over];omega
   refine ⟨l,hl,by rw [hsz];exact a2,by show (over b.cells off cs).length≤l.S;rw [hol];exact a3,fun i v hv=>?_,fun _=>⟨a6,hth _ _ _ a7⟩⟩
   have hv':(over b.cells off cs)[i]?=some v:=hv
   have htl:(b.cells.take off).length=off:=by rw [List.length_take];omega
   by_cases h1:i < off
   ·have:b.cells[i]?=some v:=by
     rw [over,List.append_assoc,List.getElem?_append_left (by omega),List.getElem?_take,if_pos h1] at hv'
     exact hv'
    obtain ⟨c,p,q⟩:=a4 i v this
    exact ⟨c,by rw [World.cell?_setCells_out _ _ _ _ _ (fun _ _=>.inl (by show l.o+i < _;omega))];exact p,q⟩
   ·by_cases h2:i < off+cs.length
    ·have hv2:cs[i - off]?=some v:=by
      rw [over,List.append_assoc,List.getElem?_append_right (by omega),htl,List.getElem?_append_left (by omega)] at hv'
      exact hv'
     obtain ⟨u,p,q⟩:=hcr.get hv2
     refine ⟨u,?_,q⟩
     have hj:i - off < us.length:=by omega
     have:=World.cell?_setCells_in l.b us (l.o+off) w (fun j hj=>by have:=(a7 (off+j) (by omega)).1;rwa [← Nat.add_assoc] at this) (i - off) hj
     rw [show l.o+off+(i - off)=l.o+i from by omega] at this
     rw [this,← p,List.getElem?_eq_getElem hj]
    ·have:b.cells[i]?=some v:=by
      rw [over,List.getElem?_append_right (by simp;omega),List.getElem?_drop] at hv'
      rw [← hv']
      congr 1
      simp
      omega
     obtain ⟨c,p,q⟩:=a4 i v this
     exact ⟨c,by rw [World.cell?_setCells_out _ _ _ _ _ (fun _ _=>.inr (by show _≤l.o+i;omega))];exact p,q⟩
  ·rename_i hne
   obtain ⟨x,h1,h2,h3,h4,h5⟩:=h.here k d hk
   have hb:l.b≠x.b:=h.apart n k b d l x hm hk hne ho hl h1
   exact ⟨x,h1,by rw [hsz];exact h2,h3,fun i v hv=>let ⟨c,p,q⟩:=h4 i v hv;⟨c,by rw [World.cell?_setCells_out _ _ _ _ _ (fun e _=>absurd e.symm hb)];exact p,q⟩,fun ho=>⟨(h5 ho).1,hth _ _ _ (h5 ho).2⟩⟩
 ·obtain ⟨d0,e1,e2⟩:=find k d hk
  obtain ⟨d1,e3,_⟩:=find k' d' hk'
  exact h.apart k k' d0 d1 x x' e1 e3 hne (by rw [e2];exact hown) hx hx'
 ·obtain ⟨f1,f2⟩:=h.frz b' o v hz
  have hne:l.b≠b':=fun e=>by
   subst e
   rw [h.fown n b l hm ho hl o] at hz
   cases hz
  exact ⟨by rw [hsz];exact f1,by rw [World.cell?_setCells_out _ _ _ _ _ (fun e _=>absurd e.symm hne)];exact f2⟩
 ·obtain ⟨d0,e1,e2⟩:=find k d hk
  exact h.fown k d0 x e1 (by rw [e2];exact hown) hx o
theorem Sat.behind {B:Nat} {ρ:Rho} {M:MemF} {w:World} (h:Sat B ρ M w) {n c:Nat} {b:Blk} {l:Loc} (hm:M n=some b) (ho:b.own=true) (hl:ρ n=some l) (hc:ρ c=none) (off:Nat) (hoff:off≤b.cells.length) {cs:List SV} {us:List Value} (hcr:CR ρ cs us) (hfit:b.cells.length+cs.length≤l.S) :
  Sat B (put ρ c ⟨l.b,l.o+off,l.S - off⟩) (upd [(c,some ⟨b.cells.drop off++cs,true⟩),(n,none)] M) (w.setCells l.b (l.o+b.cells.length) us):=by
 obtain ⟨l1,a1,a2,a3,a4,a5⟩:=h.here n b hm
 rw [hl] at a1
 obtain rfl:l=l1:=by simpa using a1
 obtain ⟨a6,a7⟩:=a5 ho
 have hsz:(w.setCells l.b (l.o+b.cells.length) us).heap.size=w.heap.size:=sizeCells _ _ _ _
 have hlen:=hcr.1
 have hne0:n≠c:=by intro e;subst e;rw [hl] at hc;cases hc
 have hth:∀ b' o n,w.there b' o n→(w.setCells l.b (l.o+b.cells.length) us).there b' o n:=fun b' o n ht=>World.there_setCells ht _ _ _
 have hu:∀ k,upd [(c,some ⟨b.cells.drop off++cs,true⟩),(n,none)] M k=if c=k then some ⟨b.cells.drop off++cs,true⟩ else if n=k then none else M k:=by
  intro k
  unfold upd
  by_cases e:c=k
  ·simp [e]
  ·by_cases e':n=k
   ·simp [e,e']
   ·simp [e,e']
 refine ⟨by rw [hsz];exact h.heap,fun k d hk=>?_,fun k k' d d' x x' hk hk' hne hown hx hx'=>?_,fun b' o v hz=>?_,fun k d x hk hown hx o=>?_⟩
 ·rw [hu] at hk
  split at hk
  ·rename_i e
   subst e
   obtain rfl:(⟨b.cells.drop off++cs,true⟩:Blk)=d:=by simpa using hk
   refine ⟨_,put_self _ _ _,by rw [hsz];exact a2,by show (b.cells.drop off++cs).length≤l.S - off;simp;omega,fun i v hv=>?_,fun _=>⟨a6,?_⟩⟩
   ·have hv':(b.cells.drop off++cs)[i]?=some v:=hv
    have htl:(b.cells.drop off).length=b.cells.length - off:=by simp
    by_cases h1:i < b.cells.length - off
    ·have:b.cells[off+i]?=some v:=by
      rw [List.getElem?_append_left (by omega),List.getElem?_drop] at hv'
      exact hv'
     obtain ⟨u,p,q⟩:=a4 _ v this
     refine ⟨u,?_,q.ext (put_keep hc)⟩
     show World.cell? _ ⟨l.b,l.o+off+i,none⟩=some u
     rw [World.cell?_setCells_out _ _ _ _ _ (fun _ _=>.inl (by show l.o+off+i < _;omega)),Nat.add_assoc]
     exact p
    ·have hv2:cs[i - (b.cells.length - off)]?=some v:=by
      rw [List.getElem?_append_right (by omega),htl] at hv'
      exact hv'
     obtain ⟨u,p,q⟩:=hcr.get hv2
     refine ⟨u,?_,q.ext (put_keep hc)⟩
     have hj:i - (b.cells.length - off) < us.length:=(List.getElem?_eq_some_iff.1 p).1
     have:=World.cell?_setCells_in l.b us (l.o+b.cells.length) w (fun j hj=>by have:=(a7 (b.cells.length+j) (by omega)).1;rwa [← Nat.add_assoc] at this) _ hj
     rw [show l.o+b.cells.length+(i - (b.cells.length - off))=l.o+off+i from by omega] at this
     show World.cell? _ ⟨l.b,l.o+off+i,none⟩=some u
     rw [this,← p,List.getElem?_eq_getElem hj]
   ·have:=hth _ _ _ a7
    intro j hj
    have:=this (off+j) (by show off+j < l.S;have:j < l.S - off:=hj;omega)
    rwa [← Nat.add_assoc] at this
  ·rename_i hck
   split at hk
   ·cases hk
   ·rename_i hnk
    obtain ⟨x,h1,h2,h3,h4,h5⟩:=h.here k d hk
    have hb:l.b≠x.b:=h.apart n k b d l x hm hk hnk ho hl h1
    exact ⟨x,put_nm hc _ _ h1,by rw [hsz];exact h2,h3,fun i v hv=>let ⟨u,p,q⟩:=h4 i v hv;⟨u,by rw [World.cell?_setCells_out _ _ _ _ _ (fun e _=>absurd e.symm hb)];exact p,q.ext (put_keep hc)⟩,fun ho=>⟨(h5 ho).1,hth _ _ _ (h5 ho).2⟩⟩
 ·have old:∀ k d x,M k=some d→put ρ c ⟨l.b,l.o+off,l.S - off⟩ k=some x→ρ k=some x:=by
   intro k d x hm hl
   obtain ⟨l2,a1,a2,_⟩:=h.here k d hm
   rw [put_nm hc _ _ a1] at hl
   obtain rfl:l2=x:=by simpa using hl
   exact a1
  rw [hu] at hk hk'
  split at hk
  ·rename_i e
   subst e
   rw [if_neg hne] at hk'
   split at hk'
   ·cases hk'
   ·rename_i hnk
    rw [put_self] at hx
    obtain rfl:(⟨l.b,l.o+off,l.S - off⟩:Loc)=x:=by simpa using hx
    exact h.apart n k' b d' l x' hm hk' hnk ho hl (old _ _ _ hk' hx')
  ·split at hk
   ·cases hk
   ·rename_i hnk
    split at hk'
    ·rename_i e
     subst e
     rw [put_self] at hx'
     obtain rfl:(⟨l.b,l.o+off,l.S - off⟩:Loc)=x':=by simpa using hx'
     exact fun e=>h.apart n k b d l x hm hk hnk ho hl (old _ _ _ hk hx) e.symm
    ·split at hk'
     ·cases hk'
     ·exact h.apart k k' d d' x x' hk hk' hne hown (old _ _ _ hk hx) (old _ _ _ hk' hx')
 ·have hz:ρ.fz b' o=some v:=hz
  obtain ⟨f1,f2⟩:=h.frz b' o v hz
  have hne:l.b≠b':=fun e=>by
   subst e
   rw [h.fown n b l hm ho hl o] at hz
   cases hz
  exact ⟨by rw [hsz];exact f1,by rw [World.cell?_setCells_out _ _ _ _ _ (fun e _=>absurd e.symm hne)];exact f2⟩
 ·rw [hu] at hk
  split at hk
  ·rename_i e
   subst e
   rw [put_self] at hx
   obtain rfl:(⟨l.b,l.o+off,l.S - off⟩:Loc)=x:=by simpa using hx
   exact h.fown n b l hm ho hl o
  ·split at hk
   ·cases hk
   ·rename_i hnk
    obtain ⟨l2,a1,_⟩:=h.here k d hk
    have:=put_nm hc k l2 a1 (l:=⟨l.b,l.o+off,l.S - off⟩)
    rw [hx] at this
    obtain rfl:=Option.some.inj this
    exact h.fown k d x hk hown a1 o
end Go.Proofs.Ytaelliigpclipaa.Eng
