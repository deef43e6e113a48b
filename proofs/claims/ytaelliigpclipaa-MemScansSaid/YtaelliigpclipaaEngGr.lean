/- A loop that collects: a row that grows from nil on,and is a value behind it. -/
import Derived.Test.YtaelliigpclipaaEngFz
namespace Go.Proofs.Ytaelliigpclipaa.Eng
set_option linter.unusedVariables false
set_option linter.unusedSimpArgs false
open Go Go.RowKit
variable {P:Program}
theorem rnV_fix {σ:Nat→Nat} {v:SV} (h:∀ n∈svNames v,σ n=n):rnV σ v=v:=by
 cases v with
 | ptr n off=>show SV.ptr (σ n) off=_;rw [h n (by simp [svNames])]
 | sl n off len cap sz=>show SV.sl (σ n) off len cap sz=_;rw [h n (by simp [svNames])]
 | slE n=>show SV.slE (σ n)=_;rw [h n (by simp [svNames])]
 | fn f cs =>
  show SV.fn f (cs.map fun p=>(σ p.1,p.2))=_
  congr 1
  conv=>rhs;rw [← List.map_id cs]
  exact List.map_congr_left fun p hp=>by rw [h p.1 (by simp only [svNames,List.mem_map];exact ⟨p,hp,rfl⟩)];rfl
 | _=>rfl
theorem rnVs_fix {σ:Nat→Nat} {l:List SV} (h:∀ n∈l.flatMap svNames,σ n=n):l.map (rnV σ)=l:=by
 conv=>rhs;rw [← List.map_id l]
 exact List.map_congr_left fun v hv=>rnV_fix fun n hn=>h n (List.mem_flatMap.2 ⟨v,hv,hn⟩)
theorem rnX_fix {σ:Nat→Nat} {v:AV} (h:∀ n∈avNames v,σ n=n):rnX σ v=v:=by
 cases v with
 | s v=>show AV.s (rnV σ v)=_;rw [rnV_fix h]
 | agg l=>show AV.agg (l.map (rnV σ))=_;rw [rnVs_fix h]
 | tup l =>
  show AV.tup (l.map fun p=>(p.1,p.2.map (rnV σ)))=_
  congr 1
  conv=>rhs;rw [← List.map_id l]
  exact List.map_congr_left fun p hp=>by rw [rnVs_fix fun n hn=>h n (List.mem_flatMap.2 ⟨p,hp,hn⟩)];rfl
 | _=>rfl
theorem rnL_fix {σ:Nat→Nat} {l:List (Nat × AV)} (h:∀ x∈l,∀ n∈avNames x.2,σ n=n):rnL σ l=l:=by
 conv=>rhs;rw [← List.map_id l]
 exact List.map_congr_left fun x hx=>by rw [rnX_fix (h x hx)];rfl
theorem rnB_fix {σ:Nat→Nat} {b:Blk} (h:∀ n∈blkN b,σ n=n):rnB σ b=b:=by
 obtain ⟨cs,o⟩:=b
 show Blk.mk (cs.map (rnV σ)) o=_
 rw [rnVs_fix h]
theorem rnM_fix {σ:Nat→Nat} {m:Mem} (h:∀ x∈m,σ x.1=x.1∧∀ b,x.2=some b→∀ n∈blkN b,σ n=n):rnM σ m=m:=by
 conv=>rhs;rw [← List.map_id m]
 refine List.map_congr_left fun x hx=>?_
 obtain ⟨n,b⟩:=x
 obtain ⟨h1,h2⟩:=h _ hx
 cases b with
 | none=>show (σ n,none)=_;rw [h1];rfl
 | some b=>show (σ n,some (rnB σ b))=_;rw [h1,rnB_fix (h2 b rfl)];rfl
def NL (m:Nat) (l:List (Nat × AV)):Prop:=∀ x∈l,∀ n∈avNames x.2,n < m
def NM (m:Nat) (l:Mem):Prop:=∀ x∈l,x.1 < m∧∀ b,x.2=some b→∀ n∈blkN b,n < m
theorem NL.nil {m:Nat}:NL m []:=fun x hx=>by cases hx
theorem NL.cons {m d:Nat} {v:AV} {l:List (Nat × AV)} (h:∀ n∈avNames v,n < m) (t:NL m l):NL m ((d,v) :: l):=fun x hx=>by
 rcases List.mem_cons.1 hx with rfl|hx
 ·exact h
 ·exact t x hx
theorem NM.nil {m:Nat}:NM m []:=fun x hx=>by cases hx
theorem NM.cons {m d:Nat} {b:Blk} {l:Mem} (hd:d < m) (h:∀ n∈blkN b,n < m) (t:NM m l):NM m ((d,some b) :: l):=fun x hx=>by
 rcases List.mem_cons.1 hx with rfl|hx
 ·exact ⟨hd,fun b' hb=>by obtain rfl:=Option.some.inj hb;exact h⟩
 ·exact t x hx
theorem NM.get {m:Nat} {l:Mem} (h:NM m l) {n:Nat} {b:Blk} (hb:Eng.get l n=some b):∀ k∈blkN b,k < m:=(h _ (get_mem _ _ _ hb)).2 b rfl
section
variable {B:Nat} {body C:Code} {α:Type} {f:α→List SV} {sz K d m:Nat} {e:Ex}
abbrev SO (f:α→List SV) (sz K d:Nat) (nn c:Nat) (O:List α) (sl:List (Nat × AV)) (me:Mem):St:=⟨⟨K,(d,.s (.sl nn 0 O.length none sz)) :: sl⟩,(nn,some ⟨flat f O,true⟩) :: me,c⟩
abbrev SN (K d:Nat) (c:Nat) (sl:List (Nat × AV)) (me:Mem):St:=⟨⟨K,(d,.s .sl0) :: sl⟩,me,c⟩
theorem flat_names (hp:∀ x,∀ v∈f x,svNames v=[]) (L:List α) (o:Bool):blkN ⟨flat f L,o⟩=[]:=List.flatMap_eq_nil_iff.2 fun v hv=>by
 obtain ⟨x,hx⟩:=flat_mem hv
 exact hp x v hx
theorem SO.lift (hp:∀ x,∀ v∈f x,svNames v=[]) {O O':List α} {sl sl':List (Nat × AV)} {me me':Mem} {n' c':Nat} (h:CodeDoes P B body (SO f sz K d m (m+1) O sl me) e (SO f sz K d n' c' O' sl' me')) (hn:n'=m∨m < n'∧n' < c')
  (hsl:NL m sl) (hme:NM m me) (hsl':NL m sl') (hme':NM m me') (nn c:Nat) (h1:m≤nn) (h2:nn < c):∃ n2 c2,m≤n2∧n2 < c2∧CodeDoes P B body (SO f sz K d nn c O sl me) e (SO f sz K d n2 c2 O' sl' me'):=by
 have fl:=flat_names hp
 obtain ⟨c2,σ,s1,s2,s3⟩:∃ c2,∃ σ:Nat→Nat,(∀ k,k < m→σ k=k)∧σ m=nn∧((n'=m∧c2=c)∨(n'≠m∧σ n'=c∧c2=c+1)):=by
  rcases hn with hn|⟨hn,hc⟩
  ·exact ⟨c,fun k=>if k < m then k else nn,fun k hk=>if_pos hk,if_neg (Nat.lt_irrefl _),.inl ⟨hn,rfl⟩⟩
  ·refine ⟨c+1,fun k=>if k < m then k else if k=m then nn else c,fun k hk=>if_pos hk,?_,.inr ⟨by omega,?_,rfl⟩⟩
   ·show (if m < m then m else if m=m then nn else c)=nn
    rw [if_neg (Nat.lt_irrefl _),if_pos rfl]
   ·show (if n' < m then n' else if n'=m then nn else c)=c
    rw [if_neg (by omega),if_neg (by omega)]
 have e1:rnL σ sl=sl:=rnL_fix fun x hx n hn=>s1 _ (hsl x hx n hn)
 have e2:rnM σ me=me:=rnM_fix fun x hx=>⟨s1 _ (hme x hx).1,fun b hb n hn=>s1 _ ((hme x hx).2 b hb n hn)⟩
 have e3:rnL σ sl'=sl':=rnL_fix fun x hx n hn=>s1 _ (hsl' x hx n hn)
 have e4:rnM σ me'=me':=rnM_fix fun x hx=>⟨s1 _ (hme' x hx).1,fun b hb n hn=>s1 _ ((hme' x hx).2 b hb n hn)⟩
 have hU:∀ x,x∈List.range m++[m,n']→x < m∨x=m∨x=n':=fun x hx=>by simpa using hx
 have hc2:c≤c2:=by rcases s3 with ⟨_,h⟩|⟨_,_,h⟩<;>omega
 have key:CodeDoes P B body ⟨⟨K,(d,.s (.sl (σ m) 0 O.length none sz)) :: rnL σ sl⟩,(σ m,some (rnB σ ⟨flat f O,true⟩)) :: rnM σ me,c⟩ e ⟨⟨K,(d,.s (.sl (σ n') 0 O'.length none sz)) :: rnL σ sl'⟩,(σ n',some (rnB σ ⟨flat f O',true⟩)) :: rnM σ me',c2⟩:=by
  refine h.names σ (List.range m++[m,n']) (c:=c) (c':=c2) ⟨fun x hx y hy hxy=>?_,fun x hx hlt=>?_,fun x hx hge=>?_,hc2⟩ (fun x hx n hx2=>?_) (fun x hx=>?_) (fun n b hb k hk=>?_) (fun x hx n hx2=>?_) (fun x hx=>?_) (fun n b hb k hk=>?_)
  ·rcases hU x hx with hx|hx|hx<;>rcases hU y hy with hy|hy|hy<;>first|omega|(rw [s1 _ hx,s1 _ hy] at hxy;exact hxy)|(have hx':=s1 _ hx;rw [hx',hy] at hxy;rcases s3 with ⟨q1,_⟩|⟨q1,q2,_⟩<;>first|(rw [q1,s2] at hxy;omega)|(rw [s2] at hxy;omega)|(rw [q2] at hxy;omega))|(have hy':=s1 _ hy;rw [hy',hx] at hxy;rcases s3 with ⟨q1,_⟩|⟨q1,q2,_⟩<;>first|(rw [q1,s2] at hxy;omega)|(rw [s2] at hxy;omega)|(rw [q2] at hxy;omega))|(rw [hx,hy] at hxy;rcases s3 with ⟨q1,_⟩|⟨q1,q2,_⟩<;>first|omega|(rw [s2,q2] at hxy;omega))
  ·have hlt:x < m+1:=hlt
   rcases hU x hx with hx|hx|hx
   ·rw [s1 _ hx];omega
   ·rw [hx,s2];exact h2
   ·rcases s3 with ⟨q1,_⟩|⟨q1,_⟩
    ·rw [hx,q1,s2];exact h2
    ·rcases hn with hn|hn<;>omega
  ·have hge:m+1≤x:=hge
   rcases hU x hx with hx|hx|hx
   ·omega
   ·omega
   ·subst hx
    rcases s3 with ⟨q1,_⟩|⟨_,q2,q3⟩
    ·omega
    ·rcases hn with hn|hn
     ·omega
     ·exact ⟨hn.2,by omega,by omega⟩
  ·rcases List.mem_cons.1 hx with rfl|hx
   ·have:n=m:=by simpa [avNames,svNames] using hx2
    subst this
    exact ⟨by simp,Nat.lt_succ_self _⟩
   ·have:=hsl x hx n hx2
    exact ⟨by simp [this],Nat.lt_succ_of_lt this⟩
  ·rcases List.mem_cons.1 hx with rfl|hx
   ·exact ⟨by simp,Nat.lt_succ_self _⟩
   ·have:=(hme x hx).1
    exact ⟨by simp [this],Nat.lt_succ_of_lt this⟩
  ·rcases get_cons_some hb with ⟨_,hb⟩|hb
   ·obtain rfl:=Option.some.inj hb
    rw [fl] at hk;cases hk
   ·have:=hme.get hb k hk
    exact ⟨by simp [this],Nat.lt_succ_of_lt this⟩
  ·rcases List.mem_cons.1 hx with rfl|hx
   ·have:n=n':=by simpa [avNames,svNames] using hx2
    subst this;simp
   ·have:=hsl' x hx n hx2
    simp [this]
  ·rcases List.mem_cons.1 hx with rfl|hx
   ·simp
   ·have:=(hme' x hx).1
    simp [this]
  ·rcases get_cons_some hb with ⟨_,hb⟩|hb
   ·obtain rfl:=Option.some.inj hb
    rw [fl] at hk;cases hk
   ·have:=hme'.get hb k hk
    simp [this]
 rw [e1,e2,e3,e4,s2,rnB_nil (fl _ _),rnB_nil (fl _ _)] at key
 rcases s3 with ⟨q1,q2⟩|⟨q1,q2,q3⟩
 ·rw [q1,s2,q2] at key
  exact ⟨nn,c,h1,h2,key⟩
 ·rw [q2,q3] at key
  exact ⟨c,c+1,by omega,by omega,key⟩
theorem SO.first (hp:∀ x,∀ v∈f x,svNames v=[]) {O':List α} {L sl':List (Nat × AV)} {me me':Mem} {n' c':Nat} (h:CodeDoes P B body ⟨⟨K,L⟩,me,m⟩ e (SO f sz K d n' c' O' sl' me')) (hn:m≤n'∧n' < c')
  (hsl:NL m L) (hme:NM m me) (hsl':NL m sl') (hme':NM m me'):CodeDoes P B body ⟨⟨K,L⟩,me,m⟩ e (SO f sz K d m (m+1) O' sl' me'):=by
 have fl:=flat_names hp
 obtain ⟨σ,s1,s2⟩:∃ σ:Nat→Nat,(∀ k,k < m→σ k=k)∧σ n'=m:=⟨fun k=>if k < m then k else m,fun k hk=>if_pos hk,if_neg (by omega)⟩
 have e1:rnL σ L=L:=rnL_fix fun x hx n hn=>s1 _ (hsl x hx n hn)
 have e2:rnM σ me=me:=rnM_fix fun x hx=>⟨s1 _ (hme x hx).1,fun b hb n hn=>s1 _ ((hme x hx).2 b hb n hn)⟩
 have e3:rnL σ sl'=sl':=rnL_fix fun x hx n hn=>s1 _ (hsl' x hx n hn)
 have e4:rnM σ me'=me':=rnM_fix fun x hx=>⟨s1 _ (hme' x hx).1,fun b hb n hn=>s1 _ ((hme' x hx).2 b hb n hn)⟩
 have hU:∀ x,x∈List.range m++[n']→x < m∨x=n':=fun x hx=>by simpa using hx
 have key:CodeDoes P B body ⟨⟨K,rnL σ L⟩,rnM σ me,m⟩ e ⟨⟨K,(d,.s (.sl (σ n') 0 O'.length none sz)) :: rnL σ sl'⟩,(σ n',some (rnB σ ⟨flat f O',true⟩)) :: rnM σ me',m+1⟩:=by
  refine h.names σ (List.range m++[n']) (c:=m) (c':=m+1) ⟨fun x hx y hy hxy=>?_,fun x hx hlt=>?_,fun x hx hge=>?_,Nat.le_succ _⟩ (fun x hx n hx2=>?_) (fun x hx=>?_) (fun n b hb k hk=>?_) (fun x hx n hx2=>?_) (fun x hx=>?_) (fun n b hb k hk=>?_)
  ·rcases hU x hx with hx|hx<;>rcases hU y hy with hy|hy
   ·rw [s1 _ hx,s1 _ hy] at hxy;exact hxy
   ·have hx':=s1 _ hx;rw [hx',hy,s2] at hxy;omega
   ·have hy':=s1 _ hy;rw [hy',hx,s2] at hxy;omega
   ·omega
  ·have hlt:x < m:=hlt
   rw [s1 _ hlt];exact hlt
  ·have hge:m≤x:=hge
   rcases hU x hx with hx|rfl
   ·omega
   ·exact ⟨hn.2,by omega,by omega⟩
  ·have:=hsl x hx n hx2
   exact ⟨by simp [this],this⟩
  ·have:=(hme x hx).1
   exact ⟨by simp [this],this⟩
  ·have:=hme.get hb k hk
   exact ⟨by simp [this],this⟩
  ·rcases List.mem_cons.1 hx with rfl|hx
   ·have:n=n':=by simpa [avNames,svNames] using hx2
    subst this;simp
   ·have:=hsl' x hx n hx2
    simp [this]
  ·rcases List.mem_cons.1 hx with rfl|hx
   ·simp
   ·have:=(hme' x hx).1
    simp [this]
  ·rcases get_cons_some hb with ⟨_,hb⟩|hb
   ·obtain rfl:=Option.some.inj hb
    rw [fl] at hk;cases hk
   ·have:=hme'.get hb k hk
    simp [this]
 rw [e1,e2,e3,e4,s2,rnB_nil (fl _ _)] at key
 exact key
theorem CodeDoes.packM {L L':List (Nat × AV)} {me me':Mem} {c':Nat} (h:CodeDoes P B body ⟨⟨K,L⟩,me,m⟩ e ⟨⟨K,L'⟩,me',c'⟩) (hsl:NL m L) (hme:NM m me) (hsl':NL m L') (hme':NM m me'):CodeDoes P B body ⟨⟨K,L⟩,me,m⟩ e ⟨⟨K,L'⟩,me',m⟩:=by
 have:=h.names id (List.range m) (c:=m) (c':=m) ⟨fun _ _ _ _ h=>h,fun x hx hlt=>hlt,fun x hx hge=>absurd (List.mem_range.1 hx) (Nat.not_lt.2 hge),Nat.le_refl _⟩
  (fun x hx n hn=>⟨List.mem_range.2 (hsl x hx n hn),hsl x hx n hn⟩) (fun x hx=>⟨List.mem_range.2 (hme x hx).1,(hme x hx).1⟩) (fun n b hb k hk=>⟨List.mem_range.2 (hme.get hb k hk),hme.get hb k hk⟩)
  (fun x hx n hn=>List.mem_range.2 (hsl' x hx n hn)) (fun x hx=>List.mem_range.2 (hme' x hx).1) (fun n b hb k hk=>List.mem_range.2 (hme'.get hb k hk))
 rw [rnL_id,rnM_id,rnL_id,rnM_id] at this
 exact this
theorem CodeDoes.collect (hC:C=.loop (Lf C)) (he:e≠.normal) (hp:∀ x,∀ v∈f x,svNames v=[]) (pre:Nat→List α) (n:Nat) (sl:Nat→List (Nat × AV)) (me:Nat→Mem) {slE:List (Nat × AV)} {meE:Mem}
  (hsl:∀ i,NL m (sl i)) (hme:∀ i,NM m (me i)) (hslE:NL m slE) (hmeE:NM m meE) (h0:pre 0=[])
  (hO:∀ i,i < n→∃ n' c',(n'=m∨m < n'∧n' < c')∧CodeDoes P B (Lf C) (SO f sz K d m (m+1) (pre i) (sl i) (me i)) .normal (SO f sz K d n' c' (pre (i+1)) (sl (i+1)) (me (i+1))))
  (hN:∀ i,i < n→pre i=[]→(pre (i+1)=[]∧∃ c',CodeDoes P B (Lf C) (SN K d m (sl i) (me i)) .normal (SN K d c' (sl (i+1)) (me (i+1))))∨(∃ n' c',(m≤n'∧n' < c')∧CodeDoes P B (Lf C) (SN K d m (sl i) (me i)) .normal (SO f sz K d n' c' (pre (i+1)) (sl (i+1)) (me (i+1)))))
  (eO:∃ c',CodeDoes P B (Lf C) (SO f sz K d m (m+1) (pre n) (sl n) (me n)) e (SO f sz K d m c' (pre n) slE meE))
  (eN:pre n=[]→∃ c',CodeDoes P B (Lf C) (SN K d m (sl n) (me n)) e (SN K d c' slE meE)) :
  (pre n=[]∧CodeDoes P B C (SN K d m (sl 0) (me 0)) e (SN K d m slE meE))∨CodeDoes P B C (SN K d m (sl 0) (me 0)) e (SO f sz K d m (m+1) (pre n) slE meE):=by
 have own:∀ k i,n - i=k→i≤n→∀ nn c,m≤nn→nn < c→∃ n2 c2,m≤n2∧n2 < c2∧LoopDoes P B (Lf C) (SO f sz K d nn c (pre i) (sl i) (me i)) e (SO f sz K d n2 c2 (pre n) slE meE):=by
  intro k
  induction k with
  | zero =>
   intro i hk hi nn c h1 h2
   obtain rfl:i=n:=by omega
   obtain ⟨c',h⟩:=eO
   obtain ⟨n2,c2,g1,g2,g3⟩:=SO.lift hp h (.inl rfl) (hsl i) (hme i) hslE hmeE nn c h1 h2
   exact ⟨n2,c2,g1,g2,LoopDoes.last g3 he⟩
  | succ k ih =>
   intro i hk hi nn c h1 h2
   obtain ⟨n',c',h3,h⟩:=hO i (by omega)
   obtain ⟨n2,c2,g1,g2,g3⟩:=SO.lift hp h h3 (hsl i) (hme i) (hsl _) (hme _) nn c h1 h2
   obtain ⟨n4,c4,k1,k2,k3⟩:=ih (i+1) (by omega) (by omega) n2 c2 g1 g2
   exact ⟨n4,c4,k1,k2,LoopDoes.more g3 k3⟩
 have nilL:∀ i,NL m ((d,.s .sl0) :: sl i):=fun i=>NL.cons (by simp [avNames,svNames]) (hsl i)
 have nilE:NL m ((d,.s .sl0) :: slE):=NL.cons (by simp [avNames,svNames]) hslE
 have nil:∀ k i,n - i=k→i≤n→pre i=[]→(pre n=[]∧LoopDoes P B (Lf C) (SN K d m (sl i) (me i)) e (SN K d m slE meE))∨∃ n2 c2,m≤n2∧n2 < c2∧LoopDoes P B (Lf C) (SN K d m (sl i) (me i)) e (SO f sz K d n2 c2 (pre n) slE meE):=by
  intro k
  induction k with
  | zero =>
   intro i hk hi hp0
   obtain rfl:i=n:=by omega
   obtain ⟨c',h⟩:=eN hp0
   exact .inl ⟨hp0,LoopDoes.last (h.packM (nilL i) (hme i) nilE hmeE) he⟩
  | succ k ih =>
   intro i hk hi hp0
   rcases hN i (by omega) hp0 with ⟨h1,c',h⟩|⟨n',c',⟨h1,h2⟩,h⟩
   ·have g:=h.packM (nilL i) (hme i) (nilL (i+1)) (hme (i+1))
    rcases ih (i+1) (by omega) (by omega) h1 with ⟨q1,q2⟩|⟨n4,c4,k1,k2,k3⟩
    ·exact .inl ⟨q1,LoopDoes.more g q2⟩
    ·exact .inr ⟨n4,c4,k1,k2,LoopDoes.more g k3⟩
   ·obtain ⟨n4,c4,k1,k2,k3⟩:=own k (i+1) (by omega) (by omega) n' c' h1 h2
    exact .inr ⟨n4,c4,k1,k2,LoopDoes.more h k3⟩
 rcases nil n 0 rfl (Nat.zero_le _) h0 with ⟨q1,q2⟩|⟨n2,c2,q1,q2,q3⟩
 ·exact .inl ⟨q1,CodeDoes.loopAt hC q2⟩
 ·exact .inr (SO.first hp (CodeDoes.loopAt hC q3) ⟨q1,q2⟩ (nilL 0) (hme 0) hslE hmeE)
theorem FrzS.refl {n:Nat} {cells:List SV}:∀ (l:List (Nat × AV)),FrzS n cells l l
 | []=>.nil
 | (d,v) :: r=>.cons (.same v) (FrzS.refl r)
theorem FrzM.refl {n:Nat} {cells:List SV}:∀ (l:Mem),(∀ x∈l,x.1≠n)→FrzM n cells l l
 | [],_=>.nil
 | (k,Option.none) :: r,h=>.none (FrzM.refl r fun x hx=>h x (List.mem_cons_of_mem _ hx))
 | (k,Option.some ⟨cs,o⟩) :: r,h=>.cons (h _ (List.mem_cons_self ..)) (FrzL.refl cs) (FrzM.refl r fun x hx=>h x (List.mem_cons_of_mem _ hx))
theorem NilS.refl:∀ (l:List (Nat × AV)),NilS l l
 | []=>.nil
 | (d,v) :: r=>.cons (.same v) (NilS.refl r)
theorem CodeDoes.collected (hf:∀ x,(f x).length=sz) (hp:∀ x,∀ v∈f x,plainB v=true) {L:List α} {S0 slE:List (Nat × AV)} {me meE:Mem} (hsl:NL m S0) (hme:NM m me) (hslE:NL m slE) (hmeE:NM m meE)
  (h:(L=[]∧CodeDoes P B C ⟨⟨K,S0⟩,me,m⟩ e (SN K d m slE meE))∨CodeDoes P B C ⟨⟨K,S0⟩,me,m⟩ e (SO f sz K d m (m+1) L slE meE)):CodeDoes P B C ⟨⟨K,S0⟩,me,m⟩ e ⟨⟨K,(d,.s (.slv L.length none sz (flat f L))) :: slE⟩,meE,m⟩:=by
 rcases h with ⟨rfl,h⟩|h
 ·exact h.nilv (.cons (.nil sz) (NilS.refl _))
 ·have hsub:sub (flat f L) 0 (L.length*sz)=some (flat f L):=by
   have:=flat_sub f sz hf L 0 L.length (by omega)
   rwa [Nat.zero_mul,List.drop_zero,List.take_length] at this
  have h1:=h.freeze m (cells:=flat f L) (l':=(d,.s (.slv L.length none sz (flat f L))) :: slE) (m':=(m,none) :: meE) (by simp [Eng.get]) (fun v hv=>by obtain ⟨x,hx⟩:=flat_mem hv;exact hp x v hx) (.cons (.s (.sl hsub)) (FrzS.refl _)) (.gone (FrzM.refl _ fun x hx=>Nat.ne_of_lt (hmeE x hx).1))
  have h2:CodeDoes P B C ⟨⟨K,S0⟩,me,m⟩ e ⟨⟨K,(d,.s (.slv L.length none sz (flat f L))) :: slE⟩,meE,m+1⟩:=h1.after ⟨rfl,fun d=>.inr rfl,fun n b hb=>by
   show (if m=n then none else Eng.get meE n)=some b
   have:m≠n:=fun e=>by
    subst e
    exact absurd (hmeE _ (get_mem _ _ _ hb)).1 (Nat.lt_irrefl _)
   rw [if_neg this];exact hb,rfl⟩
  exact h2.packM hsl hme (NL.cons (by simp [avNames,svNames]) hslE) hmeE
theorem plain_names {v:SV} (h:plainB v=true):svNames v=[]:=by cases v<;>first|rfl|cases h
theorem SO.snoc {O:List α} {x:α} {sl:List (Nat × AV)} {me:Mem} {n' c':Nat} {s:St} (h:CodeDoes P B body s e ⟨⟨K,(d,.s (.sl n' 0 (O.length+1) none sz)) :: sl⟩,(n',some ⟨flat f O++f x,true⟩) :: me,c'⟩):CodeDoes P B body s e (SO f sz K d n' c' (O++[x]) sl me):=by
 have e1:(O++[x]).length=O.length+1:=by simp
 have e2:flat f (O++[x])=flat f O++f x:=by rw [flat_append];simp [flat]
 show CodeDoes P B body s e ⟨⟨K,(d,.s (.sl n' 0 (O++[x]).length none sz)) :: sl⟩,(n',some ⟨flat f (O++[x]),true⟩) :: me,c'⟩
 rw [e1,e2];exact h
theorem SO.one {x:α} {sl:List (Nat × AV)} {me:Mem} {n' c':Nat} {s:St} (h:CodeDoes P B body s e ⟨⟨K,(d,.s (.sl n' 0 1 none sz)) :: sl⟩,(n',some ⟨f x,true⟩) :: me,c'⟩):CodeDoes P B body s e (SO f sz K d n' c' [x] sl me):=by
 have e2:flat f [x]=f x:=by simp [flat]
 show CodeDoes P B body s e ⟨⟨K,(d,.s (.sl n' 0 1 none sz)) :: sl⟩,(n',some ⟨flat f [x],true⟩) :: me,c'⟩
 rw [e2];exact h
abbrev coll (app:Nat→List α) (k:Nat):List α:=(List.range k).flatMap app
theorem coll_succ (app:Nat→List α) (k:Nat):coll app (k+1)=coll app k++app k:=by
 unfold coll;rw [List.range_succ,List.flatMap_append];simp
theorem coll_len {app:Nat→List α} {a:Nat} (h:∀ i,(app i).length≤a) (k:Nat):(coll app k).length≤k*a:=by
 induction k with
 | zero=>simp [coll]
 | succ k ih=>rw [coll_succ,List.length_append,Nat.succ_mul];exact Nat.add_le_add ih (h k)
theorem coll_len1 {app:Nat→List α} (h:∀ i,(app i).length≤1) (k:Nat):(coll app k).length≤k:=by
 have:=coll_len h k;omega
theorem coll_map (g:Nat→α) (k:Nat):coll (fun i=>[g i]) k=(List.range k).map g:=by
 unfold coll
 induction k with
 | zero=>rfl
 | succ k ih=>rw [List.range_succ,List.flatMap_append,List.map_append,ih];rfl
end
end Go.Proofs.Ytaelliigpclipaa.Eng
