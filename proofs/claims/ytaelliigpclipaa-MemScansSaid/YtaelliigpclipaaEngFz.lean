/- The reckoner: blocks that nobody writes any more become values;functions of values. -/
import Derived.Test.YtaelliigpclipaaEngN
import Derived.Test.YtaelliigpclipaaEngRS
namespace Go.Proofs.Ytaelliigpclipaa.Eng
set_option linter.unusedVariables false
set_option linter.unusedSimpArgs false
open Go Go.RowKit
variable {P:Program}
def plainB:SV→Bool
 | .ptr _ _=>false
 | .sl ..=>false
 | .slE _=>false
 | .fn _ _=>false
 | _=>true
theorem SR.FR {ρ:Rho} {v:SV} {c:Value} (h:SR ρ v c) (hb:plainB v=true):FR ρ.fz v c:=by
 cases v<;>first|exact h|cases hb
inductive FrzTo (n:Nat) (cells:List SV):SV→SV→Prop where
 | same (v:SV):FrzTo n cells v v
 | sl {off len sz:Nat} {cap:Option Nat} {cs:List SV} (h:sub cells off (len*sz)=some cs):FrzTo n cells (.sl n off len cap sz) (.slv len none sz cs)
 | ptr {off:Nat} {cs:List SV} {k:Nat} (h:sub cells off k=some cs):FrzTo n cells (.ptr n off) (.ptv cs)
inductive FrzL (n:Nat) (cells:List SV):List SV→List SV→Prop where
 | nil:FrzL n cells [] []
 | cons {x y:SV} {l r:List SV} (h:FrzTo n cells x y) (t:FrzL n cells l r):FrzL n cells (x :: l) (y :: r)
theorem FrzL.refl {n:Nat} {cells:List SV}:∀ (l:List SV),FrzL n cells l l
 | []=>.nil
 | x :: r=>.cons (.same x) (FrzL.refl r)
theorem FrzL.get {n:Nat} {cells:List SV} {a b:List SV} (h:FrzL n cells a b):a.length=b.length∧∀ (i:Nat) y,b[i]?=some y→∃ x,a[i]?=some x∧FrzTo n cells x y:=by
 induction h with
 | nil=>exact ⟨rfl,fun i y h=>by simp at h⟩
 | cons h _ ih =>
  refine ⟨by simp [ih.1],fun i y hy=>?_⟩
  cases i with
  | zero=>obtain rfl:=Option.some.inj hy;exact ⟨_,rfl,h⟩
  | succ i=>exact ih.2 i y hy
inductive FrzA (n:Nat) (cells:List SV):AV→AV→Prop where
 | any (v:AV):FrzA n cells v .any
 | same (v:AV):FrzA n cells v v
 | s {x y:SV} (h:FrzTo n cells x y):FrzA n cells (.s x) (.s y)
 | agg {x y:List SV} (h:FrzL n cells x y):FrzA n cells (.agg x) (.agg y)
inductive FrzS (n:Nat) (cells:List SV):List (Nat × AV)→List (Nat × AV)→Prop where
 | nil:FrzS n cells [] []
 | cons {d:Nat} {x y:AV} {l r:List (Nat × AV)} (h:FrzA n cells x y) (t:FrzS n cells l r):FrzS n cells ((d,x) :: l) ((d,y) :: r)
theorem FrzS.lk {n:Nat} {cells:List SV} {a b:List (Nat × AV)} (h:FrzS n cells a b) (d:Nat):lk b d=.any∨FrzA n cells (lk a d) (lk b d):=by
 induction h with
 | nil=>left;rfl
 | @cons k x y l r h _ ih =>
  simp only [Eng.lk]
  split
  ·right;exact h
  ·exact ih
inductive FrzM (n:Nat) (cells:List SV):Mem→Mem→Prop where
 | nil:FrzM n cells [] []
 | gone {b:Option Blk} {l r:Mem} (t:FrzM n cells l r):FrzM n cells ((n,b) :: l) ((n,none) :: r)
 | none {k:Nat} {b:Option Blk} {l r:Mem} (t:FrzM n cells l r):FrzM n cells ((k,b) :: l) ((k,none) :: r)
 | cons {k:Nat} {b:Bool} {x y:List SV} {l r:Mem} (hk:k≠n) (h:FrzL n cells x y) (t:FrzM n cells l r):FrzM n cells ((k,some ⟨x,b⟩) :: l) ((k,some ⟨y,b⟩) :: r)
theorem FrzM.get {n:Nat} {cells:List SV} {a b:Mem} (h:FrzM n cells a b):∀ (k:Nat) (y:Blk),get b k=some y→k≠n∧∃ x,get a k=some x∧x.own=y.own∧FrzL n cells x.cells y.cells:=by
 induction h with
 | nil=>intro k y h;cases h
 | gone t ih =>
  intro k y hy
  simp only [Eng.get] at hy ⊢
  split at hy
  ·cases hy
  ·rename_i hk;rw [if_neg hk];exact ih k y hy
 | none t ih =>
  intro k y hy
  simp only [Eng.get] at hy ⊢
  split at hy
  ·cases hy
  ·rename_i hk;rw [if_neg hk];exact ih k y hy
 | @cons j b x y' l r hk h t ih =>
  intro k y hy
  simp only [Eng.get] at hy ⊢
  split at hy
  ·rename_i he
   subst he
   obtain rfl:=Option.some.inj hy
   rw [if_pos rfl]
   exact ⟨hk,_,rfl,rfl,h⟩
  ·rename_i he
   rw [if_neg he]
   exact ih k y hy
theorem get_dom {m:Mem} {k:Nat} {b:Blk} (h:get m k=some b):k∈m.map (·.1):=List.mem_map.2 ⟨_,get_mem m k b h,rfl⟩
theorem CodeDoes.freeze {B:Nat} {code:Code} {s:St} {e:Ex} {k:Nat} {l l':List (Nat × AV)} {m m':Mem} {c:Nat} (n:Nat) {cells:List SV} (h:CodeDoes P B code s e ⟨⟨k,l⟩,m,c⟩) (hb:get m n=some ⟨cells,true⟩) (hp:∀ v∈cells,plainB v=true) (hl:FrzS n cells l l') (hm:FrzM n cells m m') :
  CodeDoes P B code s e ⟨⟨k,l'⟩,m',c⟩:=by
 obtain ⟨a1,δ,a2,a3⟩:=h
 let E:Mem:=(m.map (·.1)).filterMap fun k=>(get m' k).map fun b=>(k,some b)
 have hE:∀ x,x∈E→∃ b,x.2=some b∧get m' x.1=some b∧x.1∈m.map (·.1):=by
  intro x hx
  obtain ⟨k,hk,hk2⟩:=List.mem_filterMap.1 hx
  rw [Option.map_eq_some_iff] at hk2
  obtain ⟨b,hb,rfl⟩:=hk2
  exact ⟨b,rfl,hb,hk⟩
 have hEu:∀ (M:MemF) (k:Nat),upd E M k=match get m' k with|some b=>some b|none=>M k:=by
  intro M k
  by_cases hT:Touch E k
  ·obtain ⟨x,hx,rfl⟩:=hT
   obtain ⟨b,h1,h2,_⟩:=hE x hx
   rw [h2]
   unfold upd
   cases hf:E.find? (fun e=>e.1 == x.1) with
   | none =>
    have:=(List.find?_eq_none.1 hf) x hx
    simp at this
   | some y =>
    have h3:=List.find?_some hf
    have h4:=List.mem_of_find?_eq_some hf
    obtain ⟨b',g1,g2,_⟩:=hE y h4
    rw [show y.1=x.1 from by simpa using h3,h2] at g2
    show y.2=some b
    rw [g1,g2]
  ·rw [upd_out hT]
   cases hg:get m' k with
   | none=>rfl
   | some b =>
    exfalso
    obtain ⟨_,x,h1,_⟩:=hm.get k b hg
    exact hT ⟨(k,some b),List.mem_filterMap.2 ⟨k,get_dom h1,by rw [hg];rfl⟩,rfl⟩
 have hU:∀ (M:MemF) (k:Nat),upd (E++(n,none) :: δ) M k=match get m' k with|some b=>some b|none=>if n=k then none else upd δ M k:=by
  intro M k
  rw [upd_append,hEu]
  cases get m' k with
  | some b=>rfl
  | none=>rw [upd_cons,upd_one]
 refine ⟨a1,E++(n,none) :: δ,⟨fun M hM j b hj=>?_,fun x hx=>?_⟩,fun ρ M a w hd ht hA hfr hs Q hQ=>?_⟩
 ·rw [hU]
  have hj:get m' j=some b:=hj
  rw [hj]
 ·rcases List.mem_append.1 hx with hx|hx
  ·obtain ⟨b,h1,h2,h3⟩:=hE x hx
   obtain ⟨_,y,h4,_⟩:=hm.get x.1 b h2
   exact a2.known (s':=⟨⟨k,l⟩,m,c⟩) h4
  ·rcases List.mem_cons.1 hx with rfl|hx
   ·exact a2.known (s':=⟨⟨k,l⟩,m,c⟩) hb
   ·exact a2.old x hx
 ·refine a3 ρ M a w hd ht hA hfr hs Q (fun ρ1 a' w' x1 x2 x3 x4 x5=>?_)
  have hag:=a2.ag M hA
  obtain ⟨loc,q1,q2,q3,q4,q5⟩:=x4.here n ⟨cells,true⟩ (hag n _ hb)
  let ρ2:Rho:=⟨ρ1.nm,fun b o=>if b=loc.b then w'.cell? ⟨b,o,none⟩ else ρ1.fz b o⟩
  have hK:Keep ρ1 ρ2:=⟨fun _ _ h=>h,fun b o v hv=>by
   show (if b=loc.b then _ else _)=_
   by_cases hbl:b=loc.b
   ·subst hbl
    rw [x4.fown n ⟨cells,true⟩ loc (hag n _ hb) rfl q1 o] at hv
    cases hv
   ·rw [if_neg hbl];exact hv⟩
  have hsub:∀ {off j:Nat} {cs:List SV},Eng.sub cells off j=some cs→FRL ρ2.fz cs loc.b (loc.o+off)∧cs.length=j:=by
   intro off j cs hcs
   obtain ⟨h1,rfl⟩:=sub_some hcs
   refine ⟨FRL.of_get fun i v hv=>?_,by simp;omega⟩
   rw [List.getElem?_take] at hv
   split at hv
   ·rw [List.getElem?_drop] at hv
    obtain ⟨u,h2,h3⟩:=q4 (off+i) v hv
    refine ⟨u,?_,(h3.ext hK).FR (hp v (List.mem_of_getElem? hv))⟩
    show (if loc.b=loc.b then _ else _)=_
    rw [if_pos rfl,Nat.add_assoc]
    exact h2
   ·cases hv
  have hV:∀ {x y:SV} {u:Value},FrzTo n cells x y→SR ρ1 x u→SR ρ2 y u:=by
   intro x y u hf hx
   cases hf with
   | same=>exact hx.ext hK
   | @sl off len sz cap cs hcs =>
    obtain ⟨l0,cp,g1,rfl,g2,g3,_⟩:=hx
    rw [q1] at g1
    obtain rfl:=Option.some.inj g1
    obtain ⟨f1,f2⟩:=hsub hcs
    exact .inr (.inr ⟨_,_,cp,rfl,g2,g3,fun k hk=>(by cases hk),f2,f1⟩)
   | @ptr off cs k hcs =>
    obtain ⟨l0,g1,rfl⟩:=hx
    rw [q1] at g1
    obtain rfl:=Option.some.inj g1
    exact ⟨_,_,rfl,(hsub hcs).1⟩
  have hC:∀ {x y:List SV} {us:List Value},FrzL n cells x y→CR ρ1 x us→CR ρ2 y us:=by
   intro x y us hf hx
   obtain ⟨g1,g2⟩:=hf.get
   refine ⟨by rw [← g1];exact hx.1,fun i v u p q=>?_⟩
   obtain ⟨x0,p0,p1⟩:=g2 i v p
   exact hV p1 (hx.2 i x0 u p0 q)
  refine hQ ρ2 a' w' x1 ⟨x2.1,fun d=>?_⟩ ⟨x3.keep.trans hK,x3.out⟩ ?_ x5
  ·have ht2:=x2.2 d
   show VR ρ2 (lk l' d) _
   rcases hl.lk d with h0|h0
   ·rw [h0];trivial
   ·have ht2:VR ρ1 (lk l d) (a'.tmps.getD d undef):=ht2
    generalize lk l d=x at h0 ht2
    generalize lk l' d=y at h0
    cases h0 with
    | any=>trivial
    | same=>exact ht2.ext hK
    | s hs=>exact hV hs ht2
    | agg ha =>
     obtain ⟨cs,g1,g2⟩:=ht2
     exact ⟨cs,g1,hC ha g2⟩
  ·-- the blocks
   have find:∀ j b,upd (E++(n,none) :: δ) M j=some b→j≠n∧∃ b0,upd δ M j=some b0∧b0.own=b.own∧FrzL n cells b0.cells b.cells:=by
    intro j b hj
    rw [hU] at hj
    cases hg:get m' j with
    | some y =>
     rw [hg] at hj
     obtain rfl:=Option.some.inj hj
     obtain ⟨g1,x,g2,g3,g4⟩:=hm.get j y hg
     exact ⟨g1,x,hag j x g2,g3,g4⟩
    | none =>
     rw [hg] at hj
     have hj:(if n=j then none else upd δ M j)=some b:=hj
     split at hj
     ·cases hj
     ·rename_i hne
      exact ⟨fun h=>hne h.symm,b,hj,rfl,FrzL.refl _⟩
   refine ⟨x4.heap,fun j b hj=>?_,fun j j' b b' y y' hj hj' hne ho hy hy'=>?_,fun b o v hv=>?_,fun j b y hj ho hy o=>?_⟩
   ·obtain ⟨g0,b0,g1,g2,g3⟩:=find j b hj
    obtain ⟨l0,f1,f2,f3,f4,f5⟩:=x4.here j b0 g1
    obtain ⟨e1,e2⟩:=g3.get
    refine ⟨l0,f1,f2,by rw [← e1];exact f3,fun i v hv=>?_,fun ho=>f5 (by rw [g2];exact ho)⟩
    obtain ⟨x0,p0,p1⟩:=e2 i v hv
    obtain ⟨u,u1,u2⟩:=f4 i x0 p0
    exact ⟨u,u1,hV p1 u2⟩
   ·obtain ⟨g0,b0,g1,g2,g3⟩:=find j b hj
    obtain ⟨g0',b0',g1',g2',g3'⟩:=find j' b' hj'
    exact x4.apart j j' b0 b0' y y' g1 g1' hne (by rw [g2];exact ho) hy hy'
   ·have hv:(if b=loc.b then w'.cell? ⟨b,o,none⟩ else ρ1.fz b o)=some v:=hv
    split at hv
    ·rename_i hbl
     subst hbl
     exact ⟨q2,hv⟩
    ·exact x4.frz b o v hv
   ·obtain ⟨g0,b0,g1,g2,g3⟩:=find j b hj
    show (if y.b=loc.b then _ else _)=_
    rw [if_neg (x4.apart j n b0 ⟨cells,true⟩ y loc g1 (hag n _ hb) g0 (by rw [g2];exact ho) hy q1)]
    exact x4.fown j b0 y g1 (by rw [g2];exact ho) hy o
inductive NilA:AV→AV→Prop where
 | same (v:AV):NilA v v
 | nil (sz:Nat):NilA (.s .sl0) (.s (.slv 0 none sz []))
 | emp (n sz:Nat):NilA (.s (.slE n)) (.s (.slv 0 none sz []))
inductive NilS:List (Nat × AV)→List (Nat × AV)→Prop where
 | nil:NilS [] []
 | cons {d:Nat} {x y:AV} {l r:List (Nat × AV)} (h:NilA x y) (t:NilS l r):NilS ((d,x) :: l) ((d,y) :: r)
theorem NilS.lk {a b:List (Nat × AV)} (h:NilS a b) (d:Nat):NilA (lk a d) (lk b d):=by
 induction h with
 | nil=>exact .same _
 | @cons k x y l r h _ ih =>
  simp only [Eng.lk]
  split
  ·exact h
  ·exact ih
theorem CodeDoes.nilv {B:Nat} {code:Code} {s:St} {e:Ex} {k:Nat} {l l':List (Nat × AV)} {m:Mem} {c:Nat} (h:CodeDoes P B code s e ⟨⟨k,l⟩,m,c⟩) (hl:NilS l l'):CodeDoes P B code s e ⟨⟨k,l'⟩,m,c⟩:=by
 obtain ⟨a1,δ,a2,a3⟩:=h
 refine ⟨a1,δ,⟨a2.ag,a2.old⟩,fun ρ M a w hd ht hA hfr hs Q hQ=>a3 ρ M a w hd ht hA hfr hs Q (fun ρ1 a' w' x1 x2 x3 x4 x5=>hQ ρ1 a' w' x1 ⟨x2.1,fun d=>?_⟩ x3 x4 x5)⟩
 have ht2:VR ρ1 (lk l d) (a'.tmps.getD d undef):=x2.2 d
 show VR ρ1 (lk l' d) _
 have h0:=hl.lk d
 generalize lk l d=x at h0 ht2
 generalize lk l' d=y at h0
 cases h0 with
 | same=>exact ht2
 | nil sz =>
  have ht2:a'.tmps.getD d undef=.slice none 0 0:=ht2
  exact .inl ⟨ht2,rfl,rfl,fun k hk=>(by cases hk)⟩
 | emp n sz =>
  obtain ⟨ad,cp,h1,h3⟩:=ht2
  exact .inr (.inl ⟨ad,cp,h1,rfl,rfl,h3,fun k hk=>(by cases hk)⟩)
def namelessV:SV→Bool
 | .ptr _ _=>false
 | .sl ..=>false
 | .slE _=>false
 | .fn _ cs=>cs.isEmpty
 | _=>true
def namelessA:AV→Bool
 | .s v=>namelessV v
 | .agg l=>l.all namelessV
 | .any=>true
 | .no=>true
 | .tup l=>l.all fun p=>p.2.all namelessV
theorem SR.nameless {ρ ρ2:Rho} {v:SV} {u:Value} (h:SR ρ v u) (hb:namelessV v=true) (hz:∀ b o x,ρ.fz b o=some x→ρ2.fz b o=some x):SR ρ2 v u:=by
 cases v with
 | ptr n off=>cases hb
 | sl n off len cap sz=>cases hb
 | slE n=>cases hb
 | fn f cs =>
  cases cs with
  | nil =>
   obtain ⟨us,a,b,d⟩:=h
   exact ⟨us,a,b,fun i p c hp=>by simp at hp⟩
  | cons _ _=>cases hb
 | slv len cap sz cs=>exact FR.ext hz h
 | ptv cs=>exact FR.ext hz h
 | _=>exact h
theorem CR.nameless {ρ ρ2:Rho} {l:List SV} {us:List Value} (h:CR ρ l us) (hb:l.all namelessV=true) (hz:∀ b o x,ρ.fz b o=some x→ρ2.fz b o=some x):CR ρ2 l us :=
 ⟨h.1,fun i v c p q=>(h.2 i v c p q).nameless ((List.all_eq_true.1 hb) v (List.mem_of_getElem? p)) hz⟩
theorem VR.nameless {ρ ρ2:Rho} {v:AV} {u:Value} (h:VR ρ v u) (hb:namelessA v=true) (hz:∀ b o x,ρ.fz b o=some x→ρ2.fz b o=some x):VR ρ2 v u:=by
 cases v with
 | any=>trivial
 | no=>exact h
 | s v=>exact SR.nameless h hb hz
 | agg l=>obtain ⟨us,a,b⟩:=h;exact ⟨us,a,b.nameless hb hz⟩
 | tup l =>
  obtain ⟨us,a,b,d⟩:=h
  refine ⟨us,a,b,fun i x y p q=>?_⟩
  obtain ⟨v,e,f⟩:=d i x y p q
  have hx:=(List.all_eq_true.1 hb) x (List.mem_of_getElem? p)
  refine ⟨v,e,?_⟩
  obtain ⟨g,cs⟩:=x
  unfold ofComp at e
  split at e
  ·rename_i w hw
   obtain ⟨_,rfl⟩:=Prod.mk.inj hw
   obtain rfl:=Option.some.inj e
   exact SR.nameless f (by simpa using hx) hz
  ·rename_i w hw
   obtain ⟨_,rfl⟩:=Prod.mk.inj hw
   obtain rfl:=Option.some.inj e
   obtain ⟨us,a,b⟩:=f
   exact ⟨us,a,b.nameless hx hz⟩
  ·cases e
theorem rnV_nil {σ:Nat→Nat} {v:SV} (h:svNames v=[]):rnV σ v=v:=by
 cases v with
 | ptr n off=>simp [svNames] at h
 | sl n off len cap sz=>simp [svNames] at h
 | slE n=>simp [svNames] at h
 | fn f cs =>
  cases cs with
  | nil=>rfl
  | cons _ _=>simp [svNames] at h
 | _=>rfl
theorem rnVs_nil {σ:Nat→Nat} {l:List SV} (h:l.flatMap svNames=[]):l.map (rnV σ)=l:=by
 conv=>rhs;rw [← List.map_id l]
 exact List.map_congr_left fun v hv=>rnV_nil ((List.flatMap_eq_nil_iff.1 h) v hv)
theorem rnB_nil {σ:Nat→Nat} {b:Blk} (h:blkN b=[]):rnB σ b=b:=by
 obtain ⟨cs,o⟩:=b
 show Blk.mk _ _=_
 rw [rnVs_nil h]
theorem nameless_sv {v:SV} (h:namelessV v=true):svNames v=[]:=by
 cases v with
 | fn f cs=>cases cs with
  | nil=>rfl
  | cons _ _=>cases h
 | ptr n off=>cases h
 | sl n off len cap sz=>cases h
 | slE n=>cases h
 | _=>rfl
theorem nameless_svs {l:List SV} (h:l.all namelessV=true):l.flatMap svNames=[] :=
 List.flatMap_eq_nil_iff.2 fun v hv=>nameless_sv ((List.all_eq_true.1 h) v hv)
theorem nameless_av {v:AV} (h:namelessA v=true):avNames v=[]:=by
 cases v with
 | any=>rfl
 | no=>rfl
 | s v=>exact nameless_sv h
 | agg l=>exact nameless_svs h
 | tup l=>exact List.flatMap_eq_nil_iff.2 fun p hp=>nameless_svs ((List.all_eq_true.1 h) p hp)
theorem nameless_rn {σ:Nat→Nat} {v:AV} (h:namelessA v=true):rnX σ v=v:=by
 cases v with
 | any=>rfl
 | no=>rfl
 | s v=>exact congrArg AV.s (rnV_nil (nameless_sv h))
 | agg l=>exact congrArg AV.agg (rnVs_nil (nameless_svs h))
 | tup l =>
  refine congrArg AV.tup ?_
  conv=>rhs;rw [← List.map_id l]
  exact List.map_congr_left fun p hp=>by
   rw [rnVs_nil (nameless_svs ((List.all_eq_true.1 h) p hp))]
   rfl
theorem rnV_id (v:SV):rnV id v=v:=by
 cases v with
 | fn f cs=>simp [rnV]
 | _=>rfl
theorem rnX_id (v:AV):rnX id v=v:=by
 have h:∀ l:List SV,l.map (rnV id)=l:=fun l=>by
  conv=>rhs;rw [← List.map_id l]
  exact List.map_congr_left fun v _=>rnV_id v
 cases v with
 | any=>rfl
 | no=>rfl
 | s v=>exact congrArg AV.s (rnV_id v)
 | agg l=>exact congrArg AV.agg (h l)
 | tup l =>
  refine congrArg AV.tup ?_
  conv=>rhs;rw [← List.map_id l]
  exact List.map_congr_left fun p _=>by rw [h];rfl
theorem rnL_id (l:List (Nat × AV)):rnL id l=l:=by
 conv=>rhs;rw [← List.map_id l]
 exact List.map_congr_left fun p _=>by rw [rnX_id];rfl
theorem rnM_id (m:Mem):rnM id m=m:=by
 conv=>rhs;rw [← List.map_id m]
 refine List.map_congr_left fun p _=>?_
 obtain ⟨n,b⟩:=p
 cases b with
 | none=>rfl
 | some b =>
  obtain ⟨cs,o⟩:=b
  show (n,some (Blk.mk (cs.map (rnV id)) o))=_
  rw [show cs.map (rnV id)=cs from by
   conv=>rhs;rw [← List.map_id cs]
   exact List.map_congr_left fun v _=>rnV_id v]
  rfl
theorem CodeDoes.lift {B:Nat} {code:Code} {e:Ex} {k k':Nat} {L0 L1:List (Nat × AV)} {M0 M1:Mem} {c0 c1:Nat} (h:CodeDoes P B code ⟨⟨k,L0⟩,M0,c0⟩ e ⟨⟨k',L1⟩,M1,c1⟩) (σ:Nat→Nat) (U:List Nat) {c c':Nat} (hN:Naming σ U c0 c1 c c')
  (h1:∀ x∈L0,∀ n∈avNames x.2,n∈U∧n < c0) (h2:∀ x∈M0,x.1∈U∧x.1 < c0∧∀ b,x.2=some b→blkN b=[]) (h4:∀ x∈L1,∀ n∈avNames x.2,n∈U) (h5:∀ x∈M1,x.1∈U∧∀ b,x.2=some b→blkN b=[]) :
  CodeDoes P B code ⟨⟨k,rnL σ L0⟩,M0.map fun x=>(σ x.1,x.2),c⟩ e ⟨⟨k',rnL σ L1⟩,M1.map fun x=>(σ x.1,x.2),c'⟩:=by
 have:=h.names σ U hN h1 (fun x hx=>⟨(h2 x hx).1,(h2 x hx).2.1⟩) (fun n b hb k hk=>by rw [(h2 _ (get_mem _ _ _ hb)).2.2 b rfl] at hk;cases hk) h4 (fun x hx=>(h5 x hx).1) (fun n b hb k hk=>by rw [(h5 _ (get_mem _ _ _ hb)).2 b rfl] at hk;cases hk)
 have key:∀ (m:Mem),(∀ x∈m,∀ b,x.2=some b→blkN b=[])→rnM σ m=m.map fun x=>(σ x.1,x.2):=fun m hm=>List.map_congr_left fun x hx=>by
  obtain ⟨n,b⟩:=x
  cases b with
  | none=>rfl
  | some b=>show (σ n,some (rnB σ b))=_;rw [rnB_nil (hm _ hx b rfl)]
 rw [key M0 (fun x hx=>(h2 x hx).2.2),key M1 (fun x hx=>(h5 x hx).2)] at this
 exact this
def ValDoes (P:Program) (f:FuncId) (args:List AV) (v:AV):Prop:=∀ B c,CallDoes P B f args [] c v ([]++[]) c
theorem ValDoes.of_code {f : FuncId} {fn : Func} {body : Code} {args : List AV} {v : AV} {k : Nat} (hf : P.funcs[f]? = some fn) (hb : fn.body = some body) (hname : (fn.name == "runtime.NumGoroutine") = false) (hk : args.length + (fn.ntmps - args.length) = k)
  (h:∀ B,∃ e s',(e=.normal∨e=.ret)∧CodeDoes P B body ⟨⟨k,enum 0 args⟩,[],0⟩ e s'∧evResults P fn s'=some v) (hv:namelessA v=true) (ha:∀ x∈args,namelessA x=true):ValDoes P f args v:=by
 intro B c
 obtain ⟨e,s',he,h,hr⟩:=h B
 have h1:=CallDoes.of_code hf hb hname hk h he hr [] (fun n b' h=>by cases h) (fun n b' h=>by cases h) (fun x hx=>by cases hx)
 have h2:=h1.names (D0:=[]) id [] (c:=c) (c':=c) ⟨by simp,by simp,by simp,by omega⟩ (fun x hx n hn=>by rw [nameless_av (ha x hx)] at hn;cases hn) (by simp) (fun n b h=>by cases h) (by simp [nameless_av hv]) (by simp) (fun n b h=>by cases h) (fun n b h=>by cases h) (fun e he=>by cases he) (fun x hx=>by cases hx)
 rw [nameless_rn hv] at h2
 have:args.map (rnX id)=args:=by
  conv=>rhs;rw [← List.map_id args]
  exact List.map_congr_left fun x _=>rnX_id x
 rw [this] at h2
 exact h2
def NewDoes (P:Program) (f:FuncId) (args:List AV) (len sz:Nat) (cells:List SV):Prop:=∀ B c,CallDoes P B f args [] c (.s (.sl c 0 len none sz)) ([(c,some ⟨cells,true⟩)]++[]) (c+1)
theorem NewDoes.of_code {f : FuncId} {fn : Func} {body : Code} {args : List AV} {len sz : Nat} {cells : List SV} {k : Nat} (hf : P.funcs[f]? = some fn) (hb : fn.body = some body) (hname : (fn.name == "runtime.NumGoroutine") = false) (hk : args.length + (fn.ntmps - args.length) = k)
  (h:∀ B,∃ e s' j,(e=.normal∨e=.ret)∧CodeDoes P B body ⟨⟨k,enum 0 args⟩,[],0⟩ e s'∧evResults P fn s'=some (.s (.sl j 0 len none sz))∧get s'.m j=some ⟨cells,true⟩∧j < s'.c) (hv:blkN ⟨cells,true⟩=[]) (ha:∀ x∈args,namelessA x=true):NewDoes P f args len sz cells:=by
 intro B c
 obtain ⟨e,s',j,he,h,hr,hg,hj⟩:=h B
 have one:∀ {n:Nat} {b:Blk},get [(j,some (⟨cells,true⟩:Blk))] n=some b→j=n∧(⟨cells,true⟩:Blk)=b:=by
  intro n b hb
  simp only [get] at hb
  split at hb
  ·exact ⟨by assumption,Option.some.inj hb⟩
  ·cases hb
 have h1:=CallDoes.of_code hf hb hname hk h he hr [(j,some ⟨cells,true⟩)] (fun n b' h=>by obtain ⟨rfl,rfl⟩:=one h;exact hg) (fun n b' h=>by cases h) (fun x hx=>by
  simp only [List.mem_cons,List.not_mem_nil,or_false] at hx
  subst hx
  exact .inr ⟨Nat.zero_le _,hj⟩)
 have h2:=h1.names (D0:=[(j,some ⟨cells,true⟩)]) (fun _=>c) [j] (c:=c) (c':=c+1) ⟨by simp,by simp,by simp;omega,by omega⟩ (fun x hx n hn=>by rw [nameless_av (ha x hx)] at hn;cases hn) (by simp) (fun n b h=>by cases h) (by simp [avNames,svNames]) (by simp)
  (fun n b h k hk=>by obtain ⟨rfl,rfl⟩:=one h;rw [hv] at hk;cases hk) (fun n b h=>by obtain ⟨rfl,rfl⟩:=one h;simp [get]) (fun e he hlt=>by omega) (fun x hx hlt=>by omega)
 have:args.map (rnX fun _=>c)=args:=by
  conv=>rhs;rw [← List.map_id args]
  exact List.map_congr_left fun x hx=>nameless_rn (ha x hx)
 rw [this] at h2
 simp only [rnM,List.map_cons,List.map_nil,Option.map_some,rnB_nil hv] at h2
 exact h2
inductive SeenV (m:Mem):SV→SV→Prop where
 | same {v:SV} (h:namelessV v=true):SeenV m v v
 | sl {n off len sz:Nat} {cap:Option Nat} {b:Blk} {cs:List SV} (hb:get m n=some b) (h:sub b.cells off (len*sz)=some cs) (hp:∀ v∈cs,plainB v=true):SeenV m (.sl n off len cap sz) (.slv len none sz cs)
 | ptr {n off k:Nat} {b:Blk} {cs:List SV} (hb:get m n=some b) (h:sub b.cells off k=some cs) (hp:∀ v∈cs,plainB v=true):SeenV m (.ptr n off) (.ptv cs)
inductive SeenC (m:Mem):List SV→List SV→Prop where
 | nil:SeenC m [] []
 | cons {x y:SV} {l r:List SV} (h:SeenV m x y) (t:SeenC m l r):SeenC m (x :: l) (y :: r)
theorem SeenC.get {m:Mem} {a b:List SV} (h:SeenC m a b):a.length=b.length∧∀ (i:Nat) y,b[i]?=some y→∃ x,a[i]?=some x∧SeenV m x y:=by
 induction h with
 | nil=>exact ⟨rfl,fun i y h=>by simp at h⟩
 | cons h _ ih =>
  refine ⟨by simp [ih.1],fun i y hy=>?_⟩
  cases i with
  | zero=>obtain rfl:=Option.some.inj hy;exact ⟨_,rfl,h⟩
  | succ i=>exact ih.2 i y hy
inductive Seen (m:Mem):AV→AV→Prop where
 | same {v:AV} (h:namelessA v=true):Seen m v v
 | s {x y:SV} (h:SeenV m x y):Seen m (.s x) (.s y)
 | agg {x y:List SV} (h:SeenC m x y):Seen m (.agg x) (.agg y)
inductive SeenL (m:Mem):List AV→List AV→Prop where
 | nil:SeenL m [] []
 | cons {x y:AV} {l r:List AV} (h:Seen m x y) (t:SeenL m l r):SeenL m (x :: l) (y :: r)
theorem SeenL.get {m:Mem} {a b:List AV} (h:SeenL m a b):a.length=b.length∧∀ (i:Nat) y,b[i]?=some y→∃ x,a[i]?=some x∧Seen m x y:=by
 induction h with
 | nil=>exact ⟨rfl,fun i y h=>by simp at h⟩
 | cons h _ ih =>
  refine ⟨by simp [ih.1],fun i y hy=>?_⟩
  cases i with
  | zero=>obtain rfl:=Option.some.inj hy;exact ⟨_,rfl,h⟩
  | succ i=>exact ih.2 i y hy
def scalarV:SV→Bool
 | .bool _=>true
 | .int _ _=>true
 | .str _=>true
 | .ptr0=>true
 | .sl0=>true
 | .fnil=>true
 | .inil=>true
 | _=>false
def scalarA:AV→Bool
 | .s v=>scalarV v
 | .agg l=>l.all scalarV
 | .any=>true
 | .no=>true
 | .tup l=>l.all fun p=>p.2.all scalarV
theorem scalar_bare {v:SV} (h:scalarV v=true):bareV v=true:=by cases v<;>first|rfl|cases h
theorem scalar_bares {l:List SV} (h:l.all scalarV=true):l.all bareV=true:=List.all_eq_true.2 fun v hv=>scalar_bare ((List.all_eq_true.1 h) v hv)
theorem scalar_bareA {v:AV} (h:scalarA v=true):bareA v=true:=by
 cases v with
 | any=>rfl
 | no=>rfl
 | s v=>exact scalar_bare h
 | agg l=>exact scalar_bares h
 | tup l=>exact List.all_eq_true.2 fun p hp=>scalar_bares ((List.all_eq_true.1 h) p hp)
theorem fz_cells {w:World} {l:Loc} {cells:List SV} {ρ:Rho} {z:Nat→Nat→Option Value} (hz:∀ o v,w.cell? ⟨l.b,o,none⟩=some v→z l.b o=some v) (hk:∀ b o v,ρ.fz b o=some v→z b o=some v) (q4:∀ (i:Nat) v,cells[i]?=some v→∃ c,w.cell? ⟨l.b,l.o+i,none⟩=some c∧SR ρ v c)
  {off j:Nat} {cs:List SV} (hcs:Eng.sub cells off j=some cs) (hp:∀ v∈cs,plainB v=true):FRL z cs l.b (l.o+off)∧cs.length=j:=by
 obtain ⟨h1,rfl⟩:=sub_some hcs
 refine ⟨FRL.of_get fun i v hv=>?_,by simp;omega⟩
 have hv0:=hv
 rw [List.getElem?_take] at hv
 split at hv
 ·rw [List.getElem?_drop] at hv
  obtain ⟨u,h2,h3⟩:=q4 (off+i) v hv
  refine ⟨u,?_,FR.ext hk (h3.FR (hp v (List.mem_of_getElem? hv0)))⟩
  rw [Nat.add_assoc]
  exact hz _ _ h2
 ·cases hv
theorem ValDoes.peek {f:FuncId} {args0 args:List AV} {v:AV} (h:ValDoes P f args0 v) (hv:scalarA v=true) {m:Mem} (ha:SeenL m args args0) (B c:Nat):CallDoes P B f args m c v ([]++m) c:=by
 have he:=(h B 0).ok.1
 refine ⟨he,Nat.le_refl _,[],rfl,fun x hx=>by simp at hx,fun ρ M args' w hA hM hfr hs=>?_⟩
 obtain ⟨_,_,δ,hδ,h3⟩:=(h w.heap.size 0).ok
 have hz:∀ b o u,ρ.fz b o=some u→fzOf w b o=some u:=fun b o u hu=>by
  obtain ⟨g1,g2⟩:=hs.frz b o u hu
  unfold fzOf
  rw [if_pos g1]
  exact g2
 have hargs:ArgsR ⟨fun _=>none,fzOf w⟩ args0 args':=by
  obtain ⟨g1,g2⟩:=ha.get
  refine ⟨by rw [← g1];exact hA.1,fun i y u hy hu=>?_⟩
  obtain ⟨x,hx,hs1⟩:=g2 i y hy
  have hxu:=hA.2 i x u hx hu
  have hV:∀ {x y:SV} {u:Value},SeenV m x y→SR ρ x u→SR ⟨fun _=>none,fzOf w⟩ y u:=by
   intro x y u hs1 hxu
   cases hs1 with
   | same hn=>exact hxu.nameless hn hz
   | @sl n off len sz cap b cs hb hsub hp =>
    obtain ⟨l,q1,q2,q3,q4,_⟩:=hs.here n b (hM _ _ hb)
    obtain ⟨l0,cp,e1,rfl,e2,e3,_⟩:=hxu
    rw [q1] at e1
    obtain rfl:=Option.some.inj e1
    obtain ⟨f1,f2⟩:=fz_cells (z:=fzOf w) (fun o v hv=>by unfold fzOf;rw [if_pos q2];exact hv) hz q4 hsub hp
    exact .inr (.inr ⟨_,_,cp,rfl,e2,e3,fun k hk=>(by cases hk),f2,f1⟩)
   | @ptr n off k b cs hb hsub hp =>
    obtain ⟨l,q1,q2,q3,q4,_⟩:=hs.here n b (hM _ _ hb)
    obtain ⟨l0,e1,rfl⟩:=hxu
    rw [q1] at e1
    obtain rfl:=Option.some.inj e1
    exact ⟨_,_,rfl,(fz_cells (z:=fzOf w) (fun o v hv=>by unfold fzOf;rw [if_pos q2];exact hv) hz q4 hsub hp).1⟩
  cases hs1 with
  | same hn=>exact hxu.nameless hn hz
  | s h=>exact hV h hxu
  | agg h =>
   obtain ⟨cs,e1,e2⟩:=hxu
   obtain ⟨d1,d2⟩:=h.get
   refine ⟨cs,e1,by rw [← d1];exact e2.1,fun i v u p q=>?_⟩
   obtain ⟨x0,p0,p1⟩:=d2 i v p
   exact hV p1 (e2.2 i x0 u p0 q)
 refine (h3 ⟨fun _=>none,fzOf w⟩ (fun _=>none) args' w hargs (fun n b hn=>by cases hn) (fun n _ _=>rfl) ⟨Nat.le_refl _,fun n b hn=>(by cases hn),fun n n' b b' l l' hn=>(by cases hn),fun b o u hu=>fzOf_in hu,fun n b l hn=>(by cases hn)⟩).mono fun e w' ⟨v',he',ρ',_,hvv,_,bel⟩=>?_
 refine ⟨v',he',ρ,Ext.refl _ _ _,hvv.bare (scalar_bareA hv),?_,bel.mono hs.heap⟩
 rw [upd_nil]
 exact hs.keep bel.size (fun a ha=>bel.cell ha) (fun b o hb=>bel.frozen (p:=⟨b,o,none⟩) hb)
inductive FrzAs (n:Nat) (cells:List SV):List AV→List AV→Prop where
 | nil:FrzAs n cells [] []
 | cons {x y:AV} {l r:List AV} (h:FrzA n cells x y) (t:FrzAs n cells l r):FrzAs n cells (x :: l) (y :: r)
theorem FrzAs.get {n:Nat} {cells:List SV} {a b:List AV} (h:FrzAs n cells a b):a.length=b.length∧∀ (i:Nat) y,b[i]?=some y→∃ x,a[i]?=some x∧FrzA n cells x y:=by
 induction h with
 | nil=>exact ⟨rfl,fun i y h=>by simp at h⟩
 | cons h _ ih =>
  refine ⟨by simp [ih.1],fun i y hy=>?_⟩
  cases i with
  | zero=>obtain rfl:=Option.some.inj hy;exact ⟨_,rfl,h⟩
  | succ i=>exact ih.2 i y hy
theorem CallDoes.thaw {B:Nat} {f:FuncId} {args0 args:List AV} {m0 δ0:Mem} {v:AV} {c c' n:Nat} {cells:List SV} (h:CallDoes P B f args0 m0 c v (δ0++m0) c') (hp:∀ v∈cells,plainB v=true) (ha:FrzAs n cells args args0) (hn:∀ b,get m0 n≠some b) :
  CallDoes P B f args ((n,some ⟨cells,true⟩) :: m0) c v ((δ0++[(n,none)])++((n,some ⟨cells,true⟩) :: m0)) c':=by
 obtain ⟨he,h1,δ,hδ,h2,h3⟩:=h
 have:δ0=δ:=List.append_cancel_right hδ
 subst this
 refine ⟨he,h1,δ0++[(n,none)],rfl,fun x hx=>?_,fun ρ M args' w hA hM hfr hs=>?_⟩
 ·rcases List.mem_append.1 hx with hx|hx
  ·rcases h2 x hx with ⟨b,hb⟩|hb
   ·by_cases hxn:n=x.1
    ·exact .inl ⟨_,if_pos hxn⟩
    ·exact .inl ⟨b,by show (if n=x.1 then _ else get m0 x.1)=_;rw [if_neg hxn];exact hb⟩
   ·exact .inr hb
  ·simp only [List.mem_cons,List.not_mem_nil,or_false] at hx
   subst hx
   exact .inl ⟨_,if_pos rfl⟩
 ·have hbn:M n=some ⟨cells,true⟩:=hM n _ (if_pos rfl)
  obtain ⟨loc,q1,q2,q3,q4,q5⟩:=hs.here n ⟨cells,true⟩ hbn
  let ρ2:Rho:=⟨ρ.nm,fun b o=>if b=loc.b then w.cell? ⟨b,o,none⟩ else ρ.fz b o⟩
  have hz:∀ b o u,ρ.fz b o=some u→ρ2.fz b o=some u:=fun b o u hu=>by
   show (if b=loc.b then _ else _)=_
   by_cases hbl:b=loc.b
   ·subst hbl
    rw [hs.fown n ⟨cells,true⟩ loc hbn rfl q1 o] at hu
    cases hu
   ·rw [if_neg hbl];exact hu
  have hK:Keep ρ ρ2:=⟨fun _ _ h=>h,hz⟩
  have hz2:∀ o u,w.cell? ⟨loc.b,o,none⟩=some u→ρ2.fz loc.b o=some u:=fun o u hu=>by
   show (if loc.b=loc.b then _ else _)=_
   rw [if_pos rfl];exact hu
  have hV:∀ {x y:SV} {u:Value},FrzTo n cells x y→SR ρ x u→SR ρ2 y u:=by
   intro x y u hf hx
   cases hf with
   | same=>exact hx.ext hK
   | @sl off len sz cap cs hcs =>
    obtain ⟨l0,cp,g1,rfl,g2,g3,_⟩:=hx
    rw [q1] at g1
    obtain rfl:=Option.some.inj g1
    obtain ⟨f1,f2⟩:=fz_cells (z:=ρ2.fz) hz2 hz q4 hcs (fun v hv=>hp v (by
     obtain ⟨_,rfl⟩:=sub_some hcs
     exact List.mem_of_mem_drop (List.mem_of_mem_take hv)))
    exact .inr (.inr ⟨_,_,cp,rfl,g2,g3,fun k hk=>(by cases hk),f2,f1⟩)
   | @ptr off cs k hcs =>
    obtain ⟨l0,g1,rfl⟩:=hx
    rw [q1] at g1
    obtain rfl:=Option.some.inj g1
    exact ⟨_,_,rfl,(fz_cells (z:=ρ2.fz) hz2 hz q4 hcs (fun v hv=>hp v (by
     obtain ⟨_,rfl⟩:=sub_some hcs
     exact List.mem_of_mem_drop (List.mem_of_mem_take hv)))).1⟩
  have hargs:ArgsR ρ2 args0 args':=by
   obtain ⟨g1,g2⟩:=ha.get
   refine ⟨by rw [← g1];exact hA.1,fun i y u hy hu=>?_⟩
   obtain ⟨x,hx,hs1⟩:=g2 i y hy
   have hxu:=hA.2 i x u hx hu
   cases hs1 with
   | any=>trivial
   | same=>exact hxu.ext hK
   | s h=>exact hV h hxu
   | agg h =>
    obtain ⟨cs,e1,e2⟩:=hxu
    obtain ⟨d1,d2⟩:=h.get
    refine ⟨cs,e1,by rw [← d1];exact e2.1,fun i v u p q=>?_⟩
    obtain ⟨x0,p0,p1⟩:=d2 i v p
    exact hV p1 (e2.2 i x0 u p0 q)
  have hu:∀ k,upd [(n,none)] M k=if n=k then none else M k:=fun k=>upd_one _ _ _ _
  have hS:Sat B ρ2 (upd [(n,none)] M) w:=by
   refine ⟨hs.heap,fun k b hk=>?_,fun k k' b b' l l' hk hk' hne ho hl hl'=>?_,fun b o u hu'=>?_,fun k b l hk ho hl o=>?_⟩
   ·rw [hu] at hk
    split at hk
    ·cases hk
    ·obtain ⟨l,a1,a2,a3,a4,a5⟩:=hs.here k b hk
     exact ⟨l,a1,a2,a3,fun i v hv=>let ⟨u,x,y⟩:=a4 i v hv;⟨u,x,y.ext hK⟩,a5⟩
   ·rw [hu] at hk hk'
    split at hk
    ·cases hk
    ·split at hk'
     ·cases hk'
     ·exact hs.apart k k' b b' l l' hk hk' hne ho hl hl'
   ·have hu':(if b=loc.b then w.cell? ⟨b,o,none⟩ else ρ.fz b o)=some u:=hu'
    split at hu'
    ·rename_i hbl
     subst hbl
     exact ⟨q2,hu'⟩
    ·exact hs.frz b o u hu'
   ·rw [hu] at hk
    split at hk
    ·cases hk
    ·rename_i hnk
     show (if l.b=loc.b then _ else _)=_
     rw [if_neg (hs.apart k n b ⟨cells,true⟩ l loc hk hbn (fun e=>hnk e.symm) ho hl q1)]
     exact hs.fown k b l hk ho hl o
  have hM2:Agree m0 (upd [(n,none)] M):=fun k b hk=>by
   rw [hu]
   by_cases hnk:n=k
   ·subst hnk;exact absurd hk (hn b)
   ·rw [if_neg hnk]
    exact hM k b (by show (if n=k then _ else get m0 k)=_;rw [if_neg hnk];exact hk)
  refine (h3 ρ2 (upd [(n,none)] M) args' w hargs hM2 hfr hS).mono fun e w' ⟨v',he',ρ',x3,x2,x4,x5⟩=>⟨v',he',ρ',⟨hK.trans x3.keep,x3.out⟩,x2,?_,x5⟩
  rw [upd_append]
  exact x4
theorem call_mut {B : Nat} {f : FuncId} {fn : Func} {body : Code} {args0 args : List AV} {b b' : Blk} {v : AV} {e : Ex} {s' : St} {n c k : Nat} (hf : P.funcs[f]? = some fn) (hb : fn.body = some body) (hname : (fn.name == "runtime.NumGoroutine") = false) (hk : args0.length + (fn.ntmps - args0.length) = k)
  (h:CodeDoes P B body ⟨⟨k,enum 0 args0⟩,[(0,some b)],1⟩ e s') (he:e=.normal∨e=.ret) (hr:evResults P fn s'=some v) (hs':get s'.m 0=some b') (hb0:blkN b=[]) (hb1:blkN b'=[]) (hv:namelessA v=true)
  (ha:∀ x∈args0,∀ n∈avNames x,n=0) (har:args0.map (rnX (fun _=>n))=args) (hn:n < c):CallDoes P B f args [(n,some b)] c v ([(n,some b')]++[(n,some b)]) c:=by
 have one:∀ {b:Blk} {n:Nat} {b1:Blk},get [(0,some b)] n=some b1→0=n∧b=b1:=by
  intro b n b1 hb
  simp only [get] at hb
  split at hb
  ·exact ⟨by assumption,Option.some.inj hb⟩
  ·cases hb
 have h1:=CallDoes.of_code hf hb hname hk h he hr [(0,some b')] (fun n b1 h=>by obtain ⟨rfl,rfl⟩:=one h;exact hs') (fun n b1 h=>⟨_,List.mem_cons_self ..,(one h).1⟩) (fun x hx=>.inl (by simp only [List.mem_cons,List.not_mem_nil,or_false] at hx;subst hx;exact ⟨_,rfl⟩))
 have h2:=h1.names (D0:=[(0,some b')]) (fun _=>n) [0] (c:=c) (c':=c) ⟨by simp,by simp;omega,by simp,by omega⟩
  (fun x hx n hn=>by obtain rfl:=ha x hx n hn;exact ⟨by simp,by omega⟩) (by simp) (names_get (by simp [hb0])) (by simp [nameless_av hv]) (by simp) (names_get' (by simp [hb1])) (fun n b1 h=>by obtain ⟨rfl,rfl⟩:=one h;rfl)
  (fun e he _ _=>⟨_,List.mem_cons_self ..,by simp only [List.mem_cons,List.not_mem_nil,or_false] at he;subst he;rfl⟩) (fun x hx _=>by simp only [List.mem_cons,List.not_mem_nil,or_false] at hx;subst hx;exact ⟨_,rfl⟩)
 rw [har,nameless_rn hv] at h2
 simp only [rnM,List.map_cons,List.map_nil,Option.map_some,rnB_nil hb0,rnB_nil hb1] at h2
 exact h2
theorem CodeDoes.packU {B:Nat} {code:Code} {e:Ex} {k k':Nat} {L0 L1:List (Nat × AV)} {M0 M1:Mem} {c0 c1:Nat} (h:CodeDoes P B code ⟨⟨k,L0⟩,M0,c0⟩ e ⟨⟨k',L1⟩,M1,c1⟩) (U:List Nat) (hU:∀ n∈U,n < c0)
  (h1:∀ x∈L0,∀ n∈avNames x.2,n∈U) (h2:∀ x∈M0,x.1∈U∧∀ b,x.2=some b→blkN b=[]) (h4:∀ x∈L1,∀ n∈avNames x.2,n∈U) (h5:∀ x∈M1,x.1∈U∧∀ b,x.2=some b→blkN b=[]) :
  CodeDoes P B code ⟨⟨k,L0⟩,M0,c0⟩ e ⟨⟨k',L1⟩,M1,c0⟩:=by
 have:=h.lift id U (c:=c0) (c':=c0) ⟨fun _ _ _ _ h=>h,fun x hx hlt=>hlt,fun x hx hge=>absurd (hU x hx) (by omega),Nat.le_refl _⟩ (fun x hx n hn=>⟨h1 x hx n hn,hU n (h1 x hx n hn)⟩) (fun x hx=>⟨(h2 x hx).1,hU _ (h2 x hx).1,(h2 x hx).2⟩) h4 h5
 have e:∀ m:Mem,(m.map fun x=>(id x.1,x.2))=m:=fun m=>by
  conv=>rhs;rw [← List.map_id m]
  rfl
 rw [rnL_id,rnL_id,e,e] at this
 exact this
theorem first_bad (p:Nat→Bool):∀ n,(∀ i,i < n→p i=true)∨∃ k,k < n∧p k=false∧∀ i,i < k→p i=true
 | 0=>.inl fun i h=>absurd h (Nat.not_lt_zero i)
 | n+1=>by
  rcases first_bad p n with h|⟨k,h1,h2,h3⟩
  ·cases hp:p n with
   | true =>
    refine .inl fun i hi=>?_
    rcases Nat.lt_or_ge i n with h'|h'
    ·exact h i h'
    ·obtain rfl:i=n:=by omega
     exact hp
   | false=>exact .inr ⟨n,by omega,hp,h⟩
  ·exact .inr ⟨k,by omega,h2,h3⟩
theorem all_getD {α:Type} (p:α→Bool) (L:List α) (d:α):L.all p=true↔∀ i,i < L.length→p (L.getD i d)=true:=by
 rw [List.all_eq_true]
 constructor
 ·intro h i hi
  exact h _ (by simp [hi])
 ·intro h x hx
  obtain ⟨i,hi,rfl⟩:=List.getElem_of_mem hx
  have:=h i hi
  simpa [hi] using this
theorem LoopDoes.scanAll {B:Nat} {body:Code} (S:Nat→St) (n:Nat) {e2:Ex} {s2:St} (h2:e2≠.normal) (hgo:∀ i,i < n→CodeDoes P B body (S i) .normal (S (i+1))) (hend:CodeDoes P B body (S n) e2 s2):LoopDoes P B body (S 0) e2 s2:=by
 have key:∀ k i,n - i=k→i≤n→LoopDoes P B body (S i) e2 s2:=by
  intro k
  induction k with
  | zero =>
   intro i hk hi
   obtain rfl:i=n:=by omega
   exact LoopDoes.last hend h2
  | succ k ih=>exact fun i hk hi=>LoopDoes.more (hgo i (by omega)) (ih (i+1) (by omega) (by omega))
 exact key n 0 rfl (Nat.zero_le _)
theorem LoopDoes.scanHit {B:Nat} {body:Code} (S:Nat→St) (n:Nat) {e1:Ex} {s1:St} (h1:e1≠.normal) (hgo:∀ i,i < n→CodeDoes P B body (S i) .normal (S (i+1))) (hend:CodeDoes P B body (S n) e1 s1):LoopDoes P B body (S 0) e1 s1:=LoopDoes.scanAll S n h1 hgo hend
theorem LoopDoes.fold {B:Nat} {body:Code} {σ:Type} (S:Nat→σ→St) (n:Nat) (step:Nat→σ→σ) (inv:Nat→σ→Prop) {e2:Ex} {s2:σ→St} (h2:e2≠.normal) (hinv:∀ i a,i < n→inv i a→inv (i+1) (step i a)) (hgo:∀ i a,i < n→inv i a→CodeDoes P B body (S i a) .normal (S (i+1) (step i a)))
  (hend:∀ a,inv n a→CodeDoes P B body (S n a) e2 (s2 a)):∀ a,inv 0 a→LoopDoes P B body (S 0 a) e2 (s2 ((List.range n).foldl (fun a i=>step i a) a)):=by
 have key:∀ k i a,n - i=k→i≤n→inv i a→LoopDoes P B body (S i a) e2 (s2 ((List.range' i (n - i)).foldl (fun a i=>step i a) a)):=by
  intro k
  induction k with
  | zero =>
   intro i a hk hi hv
   obtain rfl:i=n:=by omega
   rw [Nat.sub_self]
   exact LoopDoes.last (hend a hv) h2
  | succ k ih =>
   intro i a hk hi hv
   have:=ih (i+1) (step i a) (by omega) (by omega) (hinv i a (by omega) hv)
   rw [show n - i=(n - (i+1))+1 by omega,List.range'_succ,List.foldl_cons]
   exact LoopDoes.more (hgo i a (by omega) hv) this
 intro a ha
 have:=key n 0 a rfl (Nat.zero_le _) ha
 rwa [Nat.sub_zero,← List.range_eq_range'] at this
theorem claim_indexv {α:Type} {f:α→List SV} {t e sz:TypeId} {kd:IntKind} {q:Int} {k:Nat} {L:List α} {len:Nat} {cap:Option Nat} (d:α) (hf:∀ x,(f x).length=sz) (he:elemOf P t=some e) (hs:tsize P e=some sz) (hq:q=(k:Int)) (h1:k < L.length) (hl:len=L.length) :
  evIndexAddr P t (.s (.slv len cap sz (flat f L))) (.s (.int kd q))=some (.s (.ptv (f (L.getD k d)))):=by
 subst hq
 subst hl
 have h2:(0:Int)≤(k:Int)∧(k:Int) < (L.length:Int):=by omega
 have h3:=flat_get f sz hf L k h1
 simp [evIndexAddr,he,hs,h2.2,h3,h1]
def eqB (P:Program):List Field→List SV→List SV→Option (List Bool)
 | [],_,_=>some []
 | f :: r, xs, ys => if f.name = "_" then none else
  match tagg P f.type,xs[f.offset]?,ys[f.offset]? with
  | some false,some x,some y=>match eqCell P f.type x y with
   | some b=>match eqB P r xs ys with
    | some l=>some (b :: l)
    | none=>none
   | none=>none
  | _,_,_=>none
def allB:List Bool→Bool
 | []=>true
 | b :: r=>b&&allB r
theorem eqB_ok:∀ {fs:List Field} {xs ys:List SV} {bs:List Bool},eqB P fs xs ys=some bs→eqFields P fs xs ys=some (allB bs)
 | [],xs,ys,bs,h=>by obtain rfl:=Option.some.inj h;rfl
 | f :: r,xs,ys,bs,h=>by
  simp only [eqB] at h
  simp only [eqFields]
  split at h
  ·cases h
  ·rename_i hn
   rw [if_neg hn]
   split at h
   ·rename_i x y h1 h2 h3
    simp only [h1,h2,h3]
    split at h
    ·rename_i b h4
     simp only [h4]
     split at h
     ·rename_i l h5
      obtain rfl:=Option.some.inj h
      have:=eqB_ok h5
      cases b
      ·rfl
      ·simp only [this];rfl
     ·cases h
    ·cases h
   ·cases h
theorem claim_nes {t:TypeId} {fs:Array Field} {xs ys:List SV} {bs:List Bool} (hf:fieldsOf P t=some fs) (hg:(P.eqGuardType P.depth t||P.stoodInHeld t)=false) (hb:eqB P fs.toList xs ys=some bs) :
  Option.map AV.s (evBin P .neq t (.agg xs) (.agg ys))=some (.s (.bool (!allB bs))):=by
 simp [evBin,hf,hg,eqB_ok hb,eqOf]
theorem claim_appown {ts tx e e2:TypeId} {n n2 len off2 k sz b c:Nat} {cells cs2 news:List SV} {cap2:Option Nat} {own2:Bool} {z:List SV} (he:elemOf P ts=some e) (hx:elemOf P tx=some e2) (hs:tsize P e=some sz) (hb:tbytes P e=some b) (hz:tzero P e=some z)
  (hzl:z.length=sz) (h0:0 < sz) (hne:n≠n2) (hl:cells.length=len*sz) (hn:sub cs2 off2 (k*sz)=some news) (hmax:len+k≤maxLen) (hby:(len+k)*b≤140737488355328) :
  less 2 (evAppend P ts tx (.s (.sl n 0 len none sz)) (.s (.sl n2 off2 k cap2 sz)) [(n,some ⟨cells,true⟩),(n2,some ⟨cs2,own2⟩)] c)=some (.s (.sl c 0 (len+k) none sz),[(c,some ⟨cells++news,true⟩),(n,none)],c+1):=by
 have hsub:sub cells 0 (len*sz)=some cells:=by
  unfold sub
  rw [if_pos (by omega),List.drop_zero,← hl,List.take_length]
 have h1:len≤maxLen:=by omega
 have h2:len*b≤140737488355328:=Nat.le_trans (Nat.mul_le_mul_right _ (by omega)) hby
 simp [evAppend,evAppend1,evSrc,he,hx,hs,hb,hz,hzl,h0,hne,Eng.get,hn,hsub,hl,hmax,hby,less,newBlk,h1,h2]
theorem flat_at {α:Type} (f:α→List SV) (sz:Nat) (hf:∀ x,(f x).length=sz) (d:α):∀ (L:List α) (i j:Nat),i < L.length→j < sz→(flat f L)[i*sz+j]?=(f (L.getD i d))[j]?
 | [],i,j,h,hj=>by simp at h
 | x :: L,0,j,h,hj=>by
  rw [flat,Nat.zero_mul,Nat.zero_add,List.getElem?_append_left (by rw [hf];exact hj)]
  rfl
 | x :: L,i+1,j,h,hj=>by
  rw [flat,List.getElem?_append_right (by rw [hf,Nat.succ_mul];omega),hf,show (i+1)*sz+j - sz=i*sz+j by rw [Nat.succ_mul];omega,flat_at f sz hf d L i j (by simpa using h) hj]
  rfl
theorem flat_setc {α:Type} (f:α→List SV) (sz:Nat) (hf:∀ x,(f x).length=sz) (d y:α) (j:Nat) (v:SV) (hj:j < sz):∀ (L:List α) (i:Nat),i < L.length→f y=(f (L.getD i d)).set j v→(flat f L).set (i*sz+j) v=flat f (L.set i y)
 | [],i,h,_=>by simp at h
 | x :: L,0,h,hy=>by
  simp only [List.getD_cons_zero] at hy
  rw [flat,Nat.zero_mul,Nat.zero_add,List.set_append_left _ _ (by rw [hf];exact hj),List.set_cons_zero,flat,hy]
 | x :: L,i+1,h,hy=>by
  simp only [List.getD_cons_succ] at hy
  rw [flat,List.set_append_right _ _ (by rw [hf,Nat.succ_mul];omega),hf,show (i+1)*sz+j - sz=i*sz+j by rw [Nat.succ_mul];omega,flat_setc f sz hf d y j v hj L i (by simpa using h) hy,List.set_cons_succ,flat]
theorem over_one (l:List SV) (k:Nat) (v:SV) (h:k < l.length):over l k [v]=l.set k v:=by
 rw [List.set_eq_take_append_cons_drop,if_pos h]
 simp [over]
theorem claim_loadf {α:Type} {f:α→List SV} {t sz n off i j:Nat} {L:List α} {o:Bool} (d:α) {v:SV} (hf:∀ x,(f x).length=sz) (hs:tsize P t=some 1) (ha:tagg P t=some false) (ho:off=i*sz+j) (hi:i < L.length) (hj:j < sz) (hv:(f (L.getD i d))[j]?=some v) :
  loadG P t (.s (.ptr n off)) (fun _=>some ⟨flat f L,o⟩)=some (.s v):=by
 subst ho
 exact claim_load hs ha (by show (flat f L)[i*sz+j]?=_;rw [flat_at f sz hf d L i j hi hj,hv])
theorem claim_storef {α:Type} {f:α→List SV} {t sz n off i j c:Nat} {L:List α} (d y:α) {v:SV} (hf:∀ x,(f x).length=sz) (hs:tsize P t=some 1) (ho:off=i*sz+j) (hi:i < L.length) (hj:j < sz) (hy:f y=(f (L.getD i d)).set j v) :
  storeR (storeG P t (.s (.ptr n off)) (.s v) (fun _=>some ⟨flat f L,true⟩)) c=some (.any,[(n,some ⟨flat f (L.set i y),true⟩)],c):=by
 subst ho
 have hl:(flat f L).length=L.length*sz:=flat_length f sz hf L
 have hle:i*sz+j+1≤(flat f L).length:=by
  rw [hl]
  have:(i+1)*sz≤L.length*sz:=Nat.mul_le_mul_right _ hi
  rw [Nat.succ_mul] at this
  omega
 have hc:(([v]:List SV).length == 1&&decide (i*sz+j+1≤(flat f L).length))=true:=by
  rw [Bool.and_eq_true]
  exact ⟨rfl,decide_eq_true hle⟩
 simp only [storeG,hs,AV.cells]
 rw [if_pos hc,over_one _ _ _ (by omega),flat_setc f sz hf d y j v hj L i hi hy]
 rfl
theorem claim_appv {ts tx e:TypeId} {e2:TypeId} {n len k sz b c:Nat} {cap:Option Nat} {cells news:List SV} {z:List SV} (he:elemOf P ts=some e) (hx:elemOf P tx=some e2) (hs:tsize P e=some sz) (hb:tbytes P e=some b) (hz:tzero P e=some z)
  (hzl:z.length=sz) (h0:0 < sz) (hl:cells.length=len*sz) (hmax:len+k≤maxLen) (hby:(len+k)*b≤140737488355328) :
  less 1 (evAppend P ts tx (.s (.sl n 0 len none sz)) (.s (.slv k cap sz news)) [(n,some ⟨cells,true⟩)] c)=some (.s (.sl c 0 (len+k) none sz),[(c,some ⟨cells++news,true⟩),(n,none)],c+1):=by
 have hsub:sub cells 0 (len*sz)=some cells:=by
  unfold sub
  rw [if_pos (by omega),List.drop_zero,← hl,List.take_length]
 have h1:len≤maxLen:=by omega
 have h2:len*b≤140737488355328:=Nat.le_trans (Nat.mul_le_mul_right _ (by omega)) hby
 simp [evAppend,evAppend1,evSrc,he,hx,hs,hb,hz,hzl,h0,Eng.get,hsub,hl,hmax,hby,less,newBlk,h1,h2]
end Go.Proofs.Ytaelliigpclipaa.Eng
