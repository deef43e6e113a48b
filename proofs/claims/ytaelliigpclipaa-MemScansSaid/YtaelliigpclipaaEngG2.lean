/- A loop that collects into two rows at once. -/
import Derived.Test.YtaelliigpclipaaEngGt
namespace Go.Proofs.Ytaelliigpclipaa.Eng
set_option linter.unusedVariables false
set_option linter.unusedSimpArgs false
open Go Go.RowKit
variable {P:Program}
section
variable {α:Type}
def rv (sz:Nat):List α→Nat→SV
 | [],_=>.sl0
 | x :: l,a=>.sl a 0 (x :: l).length none sz
def mr (f:α→List SV):List α→Nat→Mem
 | [],_=>[]
 | x :: l,a=>[(a,some ⟨flat f (x :: l),true⟩)]
variable {f:α→List SV} {sz:Nat}
theorem rv_names {Y:List α} {a n:Nat} (h:n∈svNames (rv sz Y a)):Y≠[]∧n=a:=by
 cases Y with
 | nil=>cases h
 | cons x l=>exact ⟨by simp,by simpa [rv,svNames] using h⟩
theorem mr_mem {Y:List α} {a:Nat} {x:Nat × Option Blk} (h:x∈mr f Y a):Y≠[]∧x.1=a∧x.2=some ⟨flat f Y,true⟩:=by
 cases Y with
 | nil=>cases h
 | cons y l =>
  have h:x∈[(a,some (⟨flat f (y :: l),true⟩:Blk))]:=h
  rw [List.mem_singleton] at h
  subst h
  exact ⟨by simp,rfl,rfl⟩
theorem rv_rn (σ:Nat→Nat) (Y:List α) (a:Nat):rnV σ (rv sz Y a)=rv sz Y (σ a):=by
 cases Y<;>rfl
theorem mr_rn (hp:∀ x,∀ v∈f x,svNames v=[]) (σ:Nat→Nat) (Y:List α) (a:Nat):rnM σ (mr f Y a)=mr f Y (σ a):=by
 cases Y with
 | nil=>rfl
 | cons y l =>
  show [(σ a,some (rnB σ ⟨flat f (y :: l),true⟩))]=[(σ a,some ⟨flat f (y :: l),true⟩)]
  rw [rnB_nil (flat_names hp _ _)]
variable {B K d1 d2 m:Nat} {body C:Code} {e:Ex}
abbrev S2 (f:α→List SV) (sz K d1 d2:Nat) (Y Z:List α) (sl:List (Nat × AV)) (me:Mem) (a b c:Nat):St:=⟨⟨K,(d1,.s (rv sz Y a)) :: (d2,.s (rv sz Z b)) :: sl⟩,mr f Y a++(mr f Z b++me),c⟩
def Ok2 (m:Nat) (Y Z:List α) (a b c:Nat):Prop:=m≤c∧(Y≠[]→m≤a∧a < c)∧(Z≠[]→m≤b∧b < c)∧(Y≠[]→Z≠[]→a≠b)
def Nx2 (m:Nat) (Y Z Y' Z':List α) (a b c:Nat):Prop:=m+2≤c∧(Y'≠[]→(a=m∧Y≠[])∨(m+2≤a∧a < c))∧(Z'≠[]→(b=m+1∧Z≠[])∨(m+2≤b∧b < c))∧(Y'≠[]→Z'≠[]→a≠b)
theorem lift2 (hp:∀ x,∀ v∈f x,svNames v=[]) {Y Z Y' Z':List α} {sl sl':List (Nat × AV)} {me me':Mem} {a' b' c':Nat} (hsl:NL m sl) (hme:NM m me) (hsl':NL m sl') (hme':NM m me')
  (h:CodeDoes P B body (S2 f sz K d1 d2 Y Z sl me m (m+1) (m+2)) e (S2 f sz K d1 d2 Y' Z' sl' me' a' b' c')) (hn:Nx2 m Y Z Y' Z' a' b' c') {a b c:Nat} (ho:Ok2 m Y Z a b c) :
  ∃ a2 b2 c2,Ok2 m Y' Z' a2 b2 c2∧CodeDoes P B body (S2 f sz K d1 d2 Y Z sl me a b c) e (S2 f sz K d1 d2 Y' Z' sl' me' a2 b2 c2):=by
 obtain ⟨o0,o1,o2,o3⟩:=ho
 obtain ⟨n0,n1,n2,n3⟩:=hn
 obtain ⟨σ,s1,s2,s3,s4⟩:∃ σ:Nat→Nat,(∀ k,k < m→σ k=k)∧σ m=a∧σ (m+1)=b∧∀ k,m+2≤k→σ k=c+(k - (m+2)):=by
  refine ⟨fun k=>if k < m then k else if k=m then a else if k=m+1 then b else c+(k - (m+2)),fun k hk=>if_pos hk,?_,?_,fun k hk=>?_⟩
  ·show (if m < m then m else if m=m then a else _)=a
   rw [if_neg (Nat.lt_irrefl _),if_pos rfl]
  ·show (if m+1 < m then m+1 else if m+1=m then a else if m+1=m+1 then b else _)=b
   rw [if_neg (by omega),if_neg (by omega),if_pos rfl]
  ·show (if k < m then k else if k=m then a else if k=m+1 then b else c+(k - (m+2)))=_
   rw [if_neg (by omega),if_neg (by omega),if_neg (by omega)]
 have hc2:c≤c+(c' - (m+2)):=Nat.le_add_right _ _
 let ok:Nat→Prop:=fun x=>x < m∨(Y≠[]∧x=m)∨(Z≠[]∧x=m+1)∨(m+2≤x∧x < c')
 obtain ⟨U,hU⟩:∃ U:List Nat,∀ x,x∈U↔ok x:=by
  refine ⟨(List.range (m+2+c')).filter (fun x=>@decide (ok x) (Classical.propDecidable _)),fun x=>?_⟩
  rw [List.mem_filter]
  constructor
  ·intro hx;simpa using hx.2
  ·intro hx
   refine ⟨List.mem_range.2 ?_,by simpa using hx⟩
   rcases hx with hx|hx|hx|hx<;>omega
 have hσ:∀ x,ok x→(x < m∧σ x=x)∨(Y≠[]∧x=m∧σ x=a)∨(Z≠[]∧x=m+1∧σ x=b)∨(m+2≤x∧x < c'∧σ x=c+(x - (m+2))):=fun x hx=>by
  rcases hx with hx|⟨hx,rfl⟩|⟨hx,rfl⟩|⟨hx,hx2⟩
  ·exact .inl ⟨hx,s1 x hx⟩
  ·exact .inr (.inl ⟨hx,rfl,s2⟩)
  ·exact .inr (.inr (.inl ⟨hx,rfl,s3⟩))
  ·exact .inr (.inr (.inr ⟨hx,hx2,s4 x hx⟩))
 have ya:Y'≠[]→ok a':=fun h=>(n1 h).elim (fun h=>.inr (.inl ⟨h.2,h.1⟩)) (fun h=>.inr (.inr (.inr h)))
 have za:Z'≠[]→ok b':=fun h=>(n2 h).elim (fun h=>.inr (.inr (.inl ⟨h.2,h.1⟩))) (fun h=>.inr (.inr (.inr h)))
 have lo:∀ {x},x < m→x∈U∧x < m+2:=fun hx=>⟨(hU _).2 (.inl hx),by omega⟩
 have ym:Y≠[]→m∈U∧m < m+2:=fun h=>⟨(hU _).2 (.inr (.inl ⟨h,rfl⟩)),by omega⟩
 have zm:Z≠[]→m+1∈U∧m+1 < m+2:=fun h=>⟨(hU _).2 (.inr (.inr (.inl ⟨h,rfl⟩))),by omega⟩
 have nn:∀ {b:Blk} {Y:List α},some b=some (⟨flat f Y,true⟩:Blk)→∀ k,k∉blkN b:=fun h k hk=>by
  obtain rfl:=Option.some.inj h
  rw [flat_names hp] at hk;cases hk
 have key:=h.names σ U (c:=c) (c':=c+(c' - (m+2))) ⟨fun x hx y hy hxy=>by
   rcases hσ x ((hU x).1 hx) with ⟨p,q⟩|⟨p,p2,q⟩|⟨p,p2,q⟩|⟨p,p2,q⟩<;>rcases hσ y ((hU y).1 hy) with ⟨r,s⟩|⟨r,r2,s⟩|⟨r,r2,s⟩|⟨r,r2,s⟩<;>rw [q,s] at hxy<;>first|omega|(have:=o1 p;omega)|(have:=o1 r;omega)|(have:=o2 p;omega)|(have:=o2 r;omega)|(have:=o3 p r;omega)|(have:=o3 r p;omega),
  fun x hx hlt=>by
   have hlt:x < m+2:=hlt
   rcases hσ x ((hU x).1 hx) with ⟨p,q⟩|⟨p,p2,q⟩|⟨p,p2,q⟩|⟨p,p2,q⟩<;>rw [q]<;>first|omega|exact (o1 p).2|exact (o2 p).2,
  fun x hx hge=>by
   have hge:m+2≤x:=hge
   rcases hσ x ((hU x).1 hx) with ⟨p,q⟩|⟨p,p2,q⟩|⟨p,p2,q⟩|⟨p,p2,q⟩
   ·omega
   ·omega
   ·omega
   ·exact ⟨p2,by rw [q];omega,by rw [q];omega⟩,hc2⟩
  (fun x hx n hx2=>by
   rcases List.mem_cons.1 hx with rfl|hx
   ·obtain ⟨r,rfl⟩:=rv_names hx2;exact ym r
   rcases List.mem_cons.1 hx with rfl|hx
   ·obtain ⟨r,rfl⟩:=rv_names hx2;exact zm r
   exact lo (hsl x hx n hx2))
  (fun x hx=>by
   rcases List.mem_append.1 hx with hx|hx
   ·obtain ⟨r,r2,_⟩:=mr_mem hx;rw [r2];exact ym r
   rcases List.mem_append.1 hx with hx|hx
   ·obtain ⟨r,r2,_⟩:=mr_mem hx;rw [r2];exact zm r
   exact lo (hme x hx).1)
  (fun n b hb k hk=>by
   have hx:=get_mem _ _ _ hb
   rcases List.mem_append.1 hx with hx|hx
   ·exact absurd hk (nn (mr_mem hx).2.2 k)
   rcases List.mem_append.1 hx with hx|hx
   ·exact absurd hk (nn (mr_mem hx).2.2 k)
   exact lo ((hme _ hx).2 b rfl k hk))
  (fun x hx n hx2=>by
   rcases List.mem_cons.1 hx with rfl|hx
   ·obtain ⟨r,rfl⟩:=rv_names hx2;exact (hU _).2 (ya r)
   rcases List.mem_cons.1 hx with rfl|hx
   ·obtain ⟨r,rfl⟩:=rv_names hx2;exact (hU _).2 (za r)
   exact (lo (hsl' x hx n hx2)).1)
  (fun x hx=>by
   rcases List.mem_append.1 hx with hx|hx
   ·obtain ⟨r,r2,_⟩:=mr_mem hx;rw [r2];exact (hU _).2 (ya r)
   rcases List.mem_append.1 hx with hx|hx
   ·obtain ⟨r,r2,_⟩:=mr_mem hx;rw [r2];exact (hU _).2 (za r)
   exact (lo (hme' x hx).1).1)
  (fun n b hb k hk=>by
   have hx:=get_mem _ _ _ hb
   rcases List.mem_append.1 hx with hx|hx
   ·exact absurd hk (nn (mr_mem hx).2.2 k)
   rcases List.mem_append.1 hx with hx|hx
   ·exact absurd hk (nn (mr_mem hx).2.2 k)
   exact (lo ((hme' _ hx).2 b rfl k hk)).1)
 have e1:rnL σ sl=sl:=rnL_fix fun x hx n hn=>s1 _ (hsl x hx n hn)
 have e2:rnM σ me=me:=rnM_fix fun x hx=>⟨s1 _ (hme x hx).1,fun b hb n hn=>s1 _ ((hme x hx).2 b hb n hn)⟩
 have e3:rnL σ sl'=sl':=rnL_fix fun x hx n hn=>s1 _ (hsl' x hx n hn)
 have e4:rnM σ me'=me':=rnM_fix fun x hx=>⟨s1 _ (hme' x hx).1,fun b hb n hn=>s1 _ ((hme' x hx).2 b hb n hn)⟩
 have ap:∀ x y:Mem,rnM σ (x++y)=rnM σ x++rnM σ y:=fun x y=>List.map_append ..
 have f1:rnL σ ((d1,AV.s (rv sz Y m)) :: (d2,AV.s (rv sz Z (m+1))) :: sl)=(d1,AV.s (rv sz Y a)) :: (d2,AV.s (rv sz Z b)) :: sl:=by
  show (d1,AV.s (rnV σ (rv sz Y m))) :: (d2,AV.s (rnV σ (rv sz Z (m+1)))) :: rnL σ sl=_
  rw [rv_rn,rv_rn,s2,s3,e1]
 have f2:rnL σ ((d1,AV.s (rv sz Y' a')) :: (d2,AV.s (rv sz Z' b')) :: sl')=(d1,AV.s (rv sz Y' (σ a'))) :: (d2,AV.s (rv sz Z' (σ b'))) :: sl':=by
  show (d1,AV.s (rnV σ (rv sz Y' a'))) :: (d2,AV.s (rnV σ (rv sz Z' b'))) :: rnL σ sl'=_
  rw [rv_rn,rv_rn,e3]
 have f3:rnM σ (mr f Y m++(mr f Z (m+1)++me))=mr f Y a++(mr f Z b++me):=by rw [ap,ap,mr_rn hp,mr_rn hp,s2,s3,e2]
 have f4:rnM σ (mr f Y' a'++(mr f Z' b'++me'))=mr f Y' (σ a')++(mr f Z' (σ b')++me'):=by rw [ap,ap,mr_rn hp,mr_rn hp,e4]
 refine ⟨σ a',σ b',c+(c' - (m+2)),⟨by omega,fun hy=>?_,fun hz=>?_,fun hy hz hab=>?_⟩,?_⟩
 ·rcases hσ a' (ya hy) with ⟨p,q⟩|⟨p,p2,q⟩|⟨p,p2,q⟩|⟨p,p2,q⟩<;>rw [q]
  ·rcases n1 hy with h|h<;>omega
  ·have:=o1 p;omega
  ·have:=o2 p;omega
  ·omega
 ·rcases hσ b' (za hz) with ⟨p,q⟩|⟨p,p2,q⟩|⟨p,p2,q⟩|⟨p,p2,q⟩<;>rw [q]
  ·rcases n2 hz with h|h<;>omega
  ·have:=o1 p;omega
  ·have:=o2 p;omega
  ·omega
 ·have hne:=n3 hy hz
  rcases hσ a' (ya hy) with ⟨p,q⟩|⟨p,p2,q⟩|⟨p,p2,q⟩|⟨p,p2,q⟩<;>rcases hσ b' (za hz) with ⟨r,s⟩|⟨r,r2,s⟩|⟨r,r2,s⟩|⟨r,r2,s⟩<;>rw [q,s] at hab<;>first|omega|(have:=o1 p;omega)|(have:=o1 r;omega)|(have:=o2 p;omega)|(have:=o2 r;omega)|(have:=o3 p r;omega)|(have:=o3 r p;omega)
 ·have key2:CodeDoes P B body ⟨⟨K,rnL σ ((d1,AV.s (rv sz Y m)) :: (d2,AV.s (rv sz Z (m+1))) :: sl)⟩,rnM σ (mr f Y m++(mr f Z (m+1)++me)),c⟩ e ⟨⟨K,rnL σ ((d1,AV.s (rv sz Y' a')) :: (d2,AV.s (rv sz Z' b')) :: sl')⟩,rnM σ (mr f Y' a'++(mr f Z' b'++me')),c+(c' - (m+2))⟩:=key
  rw [f1,f2,f3,f4] at key2
  exact key2
theorem first2 (hp:∀ x,∀ v∈f x,svNames v=[]) {Y Z:List α} {L sl:List (Nat × AV)} {M me:Mem} {a b c:Nat} (hL:NL m L) (hM:NM m M) (hsl:NL m sl) (hme:NM m me)
  (h:CodeDoes P B body ⟨⟨K,L⟩,M,m⟩ e (S2 f sz K d1 d2 Y Z sl me a b c)) (ho:Ok2 m Y Z a b c):CodeDoes P B body ⟨⟨K,L⟩,M,m⟩ e (S2 f sz K d1 d2 Y Z sl me m (m+1) (m+2)):=by
 obtain ⟨o0,o1,o2,o3⟩:=ho
 obtain ⟨σ,s1,s2,s3⟩:∃ σ:Nat→Nat,(∀ k,k < m→σ k=k)∧(Y≠[]→σ a=m)∧(Z≠[]→σ b=m+1):=by
  by_cases hY:Y=[]
  ·refine ⟨fun k=>if k < m then k else m+1,fun k hk=>if_pos hk,fun h=>absurd hY h,fun h=>if_neg (by have:=o2 h;omega)⟩
  ·refine ⟨fun k=>if k < m then k else if k=a then m else m+1,fun k hk=>if_pos hk,fun h=>?_,fun h=>?_⟩
   ·show (if a < m then a else if a=a then m else m+1)=m
    rw [if_neg (by have:=o1 h;omega),if_pos rfl]
   ·show (if b < m then b else if b=a then m else m+1)=m+1
    rw [if_neg (by have:=o2 h;omega),if_neg (fun e=>o3 hY h e.symm)]
 let ok:Nat→Prop:=fun x=>x < m∨(Y≠[]∧x=a)∨(Z≠[]∧x=b)
 obtain ⟨U,hU⟩:∃ U:List Nat,∀ x,x∈U↔ok x:=by
  refine ⟨(List.range (m+c)).filter (fun x=>@decide (ok x) (Classical.propDecidable _)),fun x=>?_⟩
  rw [List.mem_filter]
  constructor
  ·intro hx;simpa using hx.2
  ·intro hx
   refine ⟨List.mem_range.2 ?_,by simpa using hx⟩
   rcases hx with hx|⟨hx,rfl⟩|⟨hx,rfl⟩
   ·omega
   ·have:=o1 hx;omega
   ·have:=o2 hx;omega
 have lo:∀ {x},x < m→x∈U∧x < m:=fun hx=>⟨(hU _).2 (.inl hx),hx⟩
 have ya:Y≠[]→a∈U:=fun h=>(hU _).2 (.inr (.inl ⟨h,rfl⟩))
 have za:Z≠[]→b∈U:=fun h=>(hU _).2 (.inr (.inr ⟨h,rfl⟩))
 have hσ:∀ x,ok x→(x < m∧σ x=x)∨(Y≠[]∧x=a∧σ x=m)∨(Z≠[]∧x=b∧σ x=m+1):=fun x hx=>by
  rcases hx with hx|⟨hx,rfl⟩|⟨hx,rfl⟩
  ·exact .inl ⟨hx,s1 x hx⟩
  ·exact .inr (.inl ⟨hx,rfl,s2 hx⟩)
  ·exact .inr (.inr ⟨hx,rfl,s3 hx⟩)
 have nn:∀ {b:Blk} {Y:List α},some b=some (⟨flat f Y,true⟩:Blk)→∀ k,k∉blkN b:=fun h k hk=>by
  obtain rfl:=Option.some.inj h
  rw [flat_names hp] at hk;cases hk
 have key:=h.names σ U (c:=m) (c':=m+2) ⟨fun x hx y hy hxy=>by
   rcases hσ x ((hU x).1 hx) with ⟨p,q⟩|⟨p,p2,q⟩|⟨p,p2,q⟩<;>rcases hσ y ((hU y).1 hy) with ⟨r,s⟩|⟨r,r2,s⟩|⟨r,r2,s⟩<;>rw [q,s] at hxy<;>omega,
  fun x hx hlt=>by
   have hlt:x < m:=hlt
   rw [s1 x hlt];exact hlt,
  fun x hx hge=>by
   have hge:m≤x:=hge
   rcases hσ x ((hU x).1 hx) with ⟨p,q⟩|⟨p,p2,q⟩|⟨p,p2,q⟩
   ·omega
   ·have:=o1 p;exact ⟨by show x < c;omega,by rw [q];omega,by rw [q];omega⟩
   ·have:=o2 p;exact ⟨by show x < c;omega,by rw [q];omega,by rw [q];omega⟩,by omega⟩
  (fun x hx n hx2=>lo (hL x hx n hx2)) (fun x hx=>lo (hM x hx).1) (fun n b hb k hk=>lo (hM.get hb k hk))
  (fun x hx n hx2=>by
   rcases List.mem_cons.1 hx with rfl|hx
   ·obtain ⟨r,rfl⟩:=rv_names hx2;exact ya r
   rcases List.mem_cons.1 hx with rfl|hx
   ·obtain ⟨r,rfl⟩:=rv_names hx2;exact za r
   exact (lo (hsl x hx n hx2)).1)
  (fun x hx=>by
   rcases List.mem_append.1 hx with hx|hx
   ·obtain ⟨r,r2,_⟩:=mr_mem hx;rw [r2];exact ya r
   rcases List.mem_append.1 hx with hx|hx
   ·obtain ⟨r,r2,_⟩:=mr_mem hx;rw [r2];exact za r
   exact (lo (hme x hx).1).1)
  (fun n b hb k hk=>by
   have hx:=get_mem _ _ _ hb
   rcases List.mem_append.1 hx with hx|hx
   ·exact absurd hk (nn (mr_mem hx).2.2 k)
   rcases List.mem_append.1 hx with hx|hx
   ·exact absurd hk (nn (mr_mem hx).2.2 k)
   exact (lo ((hme _ hx).2 b rfl k hk)).1)
 have e1:rnL σ L=L:=rnL_fix fun x hx n hn=>s1 _ (hL x hx n hn)
 have e2:rnM σ M=M:=rnM_fix fun x hx=>⟨s1 _ (hM x hx).1,fun b hb n hn=>s1 _ ((hM x hx).2 b hb n hn)⟩
 have e3:rnL σ sl=sl:=rnL_fix fun x hx n hn=>s1 _ (hsl x hx n hn)
 have e4:rnM σ me=me:=rnM_fix fun x hx=>⟨s1 _ (hme x hx).1,fun b hb n hn=>s1 _ ((hme x hx).2 b hb n hn)⟩
 have ap:∀ x y:Mem,rnM σ (x++y)=rnM σ x++rnM σ y:=fun x y=>List.map_append ..
 have g1:rv sz Y (σ a)=rv sz Y m:=by
  cases Y with
  | nil=>rfl
  | cons y l=>rw [s2 (by simp)]
 have g2:rv sz Z (σ b)=rv sz Z (m+1):=by
  cases Z with
  | nil=>rfl
  | cons y l=>rw [s3 (by simp)]
 have g3:mr f Y (σ a)=mr f Y m:=by
  cases Y with
  | nil=>rfl
  | cons y l=>rw [s2 (by simp)]
 have g4:mr f Z (σ b)=mr f Z (m+1):=by
  cases Z with
  | nil=>rfl
  | cons y l=>rw [s3 (by simp)]
 have f2:rnL σ ((d1,AV.s (rv sz Y a)) :: (d2,AV.s (rv sz Z b)) :: sl)=(d1,AV.s (rv sz Y m)) :: (d2,AV.s (rv sz Z (m+1))) :: sl:=by
  show (d1,AV.s (rnV σ (rv sz Y a))) :: (d2,AV.s (rnV σ (rv sz Z b))) :: rnL σ sl=_
  rw [rv_rn,rv_rn,e3,g1,g2]
 have f4:rnM σ (mr f Y a++(mr f Z b++me))=mr f Y m++(mr f Z (m+1)++me):=by rw [ap,ap,mr_rn hp,mr_rn hp,e4,g3,g4]
 have key2:CodeDoes P B body ⟨⟨K,rnL σ L⟩,rnM σ M,m⟩ e ⟨⟨K,rnL σ ((d1,AV.s (rv sz Y a)) :: (d2,AV.s (rv sz Z b)) :: sl)⟩,rnM σ (mr f Y a++(mr f Z b++me)),m+2⟩:=key
 rw [e1,e2,f2,f4] at key2
 exact key2
theorem CodeDoes.collect2 (hC:C=.loop (Lf C)) (he:e≠.normal) (hp:∀ x,∀ v∈f x,svNames v=[]) (n:Nat) (Y Z:Nat→List α) (sl:Nat→List (Nat × AV)) (me:Nat→Mem) {sE:List (Nat × AV)} {mE:Mem}
  (hsl:∀ i,NL m (sl i)) (hme:∀ i,NM m (me i)) (hsE:NL m sE) (hmE:NM m mE) (hY:Y 0=[]) (hZ:Z 0=[])
  (hR:∀ i,i < n→∃ a b c,Nx2 m (Y i) (Z i) (Y (i+1)) (Z (i+1)) a b c∧CodeDoes P B (Lf C) (S2 f sz K d1 d2 (Y i) (Z i) (sl i) (me i) m (m+1) (m+2)) .normal (S2 f sz K d1 d2 (Y (i+1)) (Z (i+1)) (sl (i+1)) (me (i+1)) a b c))
  (hE:∃ c,m+2≤c∧CodeDoes P B (Lf C) (S2 f sz K d1 d2 (Y n) (Z n) (sl n) (me n) m (m+1) (m+2)) e (S2 f sz K d1 d2 (Y n) (Z n) sE mE m (m+1) c)) :
  CodeDoes P B C ⟨⟨K,(d1,.s .sl0) :: (d2,.s .sl0) :: sl 0⟩,me 0,m⟩ e (S2 f sz K d1 d2 (Y n) (Z n) sE mE m (m+1) (m+2)):=by
 have main:∀ k i,n - i=k→i≤n→∀ a b c,Ok2 m (Y i) (Z i) a b c→∃ a2 b2 c2,Ok2 m (Y n) (Z n) a2 b2 c2∧LoopDoes P B (Lf C) (S2 f sz K d1 d2 (Y i) (Z i) (sl i) (me i) a b c) e (S2 f sz K d1 d2 (Y n) (Z n) sE mE a2 b2 c2):=by
  intro k
  induction k with
  | zero =>
   intro i hk hi a b c ho
   obtain rfl:i=n:=by omega
   obtain ⟨c',hc',h⟩:=hE
   obtain ⟨a2,b2,c2,g1,g2⟩:=lift2 hp (hsl i) (hme i) hsE hmE h ⟨hc',fun h=>.inl ⟨rfl,h⟩,fun h=>.inl ⟨rfl,h⟩,fun _ _=>by omega⟩ ho
   exact ⟨a2,b2,c2,g1,LoopDoes.last g2 he⟩
  | succ k ih =>
   intro i hk hi a b c ho
   obtain ⟨a',b',c',h1,h2⟩:=hR i (by omega)
   obtain ⟨a2,b2,c2,g1,g2⟩:=lift2 hp (hsl i) (hme i) (hsl (i+1)) (hme (i+1)) h2 h1 ho
   obtain ⟨a3,b3,c3,k1,k2⟩:=ih (i+1) (by omega) (by omega) a2 b2 c2 g1
   exact ⟨a3,b3,c3,k1,LoopDoes.more g2 k2⟩
 obtain ⟨a2,b2,c2,g1,g2⟩:=main n 0 rfl (Nat.zero_le _) m (m+1) m ⟨Nat.le_refl _,fun h=>absurd hY h,fun h=>absurd hZ h,fun h=>absurd hY h⟩
 have g3:=CodeDoes.loopAt hC g2
 rw [hY,hZ] at g3
 exact first2 hp (L:=(d1,AV.s .sl0) :: (d2,AV.s .sl0) :: sl 0) (M:=me 0) (NL.cons (fun n hn=>by cases hn) (NL.cons (fun n hn=>by cases hn) (hsl 0))) (hme 0) hsE hmE g3 g1
end
end Go.Proofs.Ytaelliigpclipaa.Eng
