/- A loop that collects into a row that is named anywhere;cells that tell less. -/
import Derived.Test.YtaelliigpclipaaEngGs
namespace Go.Proofs.Ytaelliigpclipaa.Eng
set_option linter.unusedVariables false
set_option linter.unusedSimpArgs false
open Go Go.RowKit
variable {P:Program}
structure Own (m:Nat) (sl:Nat→List (Nat × AV)) (me:Nat→Mem):Prop where
 rl:∀ (σ:Nat→Nat) nn,(∀ k,k < m→σ k=k)→rnL σ (sl nn)=sl (σ nn)
 rm:∀ (σ:Nat→Nat) nn,(∀ k,k < m→σ k=k)→rnM σ (me nn)=me (σ nn)
 nl:∀ nn,∀ x∈sl nn,∀ n∈avNames x.2,n < m∨n=nn
 nm:∀ nn,∀ x∈me nn,(x.1 < m∨x.1=nn)∧∀ b,x.2=some b→∀ n∈blkN b,n < m∨n=nn
section
variable {B:Nat} {body C:Code} {K m:Nat} {e:Ex} {sl sl':Nat→List (Nat × AV)} {me me':Nat→Mem}
theorem Own.lift (ho:Own m sl me) (ho':Own m sl' me') {n' c':Nat} (h:CodeDoes P B body ⟨⟨K,sl m⟩,me m,m+1⟩ e ⟨⟨K,sl' n'⟩,me' n',c'⟩) (hn:n'=m∨m < n'∧n' < c') (nn c:Nat) (h1:m≤nn) (h2:nn < c) :
  ∃ n2 c2,m≤n2∧n2 < c2∧CodeDoes P B body ⟨⟨K,sl nn⟩,me nn,c⟩ e ⟨⟨K,sl' n2⟩,me' n2,c2⟩:=by
 obtain ⟨c2,σ,s1,s2,s3⟩:∃ c2,∃ σ:Nat→Nat,(∀ k,k < m→σ k=k)∧σ m=nn∧((n'=m∧c2=c)∨(n'≠m∧σ n'=c∧c2=c+1)):=by
  rcases hn with hn|⟨hn,hc⟩
  ·exact ⟨c,fun k=>if k < m then k else nn,fun k hk=>if_pos hk,if_neg (Nat.lt_irrefl _),.inl ⟨hn,rfl⟩⟩
  ·refine ⟨c+1,fun k=>if k < m then k else if k=m then nn else c,fun k hk=>if_pos hk,?_,.inr ⟨by omega,?_,rfl⟩⟩
   ·show (if m < m then m else if m=m then nn else c)=nn
    rw [if_neg (Nat.lt_irrefl _),if_pos rfl]
   ·show (if n' < m then n' else if n'=m then nn else c)=c
    rw [if_neg (by omega),if_neg (by omega)]
 have hU:∀ x,x∈List.range m++[m,n']→x < m∨x=m∨x=n':=fun x hx=>by simpa using hx
 have hc2:c≤c2:=by rcases s3 with ⟨_,h⟩|⟨_,_,h⟩<;>omega
 have key:CodeDoes P B body ⟨⟨K,rnL σ (sl m)⟩,rnM σ (me m),c⟩ e ⟨⟨K,rnL σ (sl' n')⟩,rnM σ (me' n'),c2⟩:=by
  refine h.names σ (List.range m++[m,n']) (c:=c) (c':=c2) ⟨fun x hx y hy hxy=>?_,fun x hx hlt=>?_,fun x hx hge=>?_,hc2⟩ (fun x hx n hx2=>?_) (fun x hx=>?_) (fun n b hb k hk=>?_) (fun x hx n hx2=>?_) (fun x hx=>?_) (fun n b hb k hk=>?_)
  ·rcases hU x hx with hx|hx|hx<;>rcases hU y hy with hy|hy|hy<;>first|omega|(rw [s1 _ hx,s1 _ hy] at hxy;exact hxy)|(have hx':=s1 _ hx;rw [hx',hy] at hxy;rcases s3 with ⟨q1,_⟩|⟨q1,q2,_⟩<;>first|(rw [q1,s2] at hxy;omega)|(rw [s2] at hxy;omega)|(rw [q2] at hxy;omega))|(have hy':=s1 _ hy;rw [hy',hx] at hxy;rcases s3 with ⟨q1,_⟩|⟨q1,q2,_⟩<;>first|(rw [q1,s2] at hxy;omega)|(rw [s2] at hxy;omega)|(rw [q2] at hxy;omega))|(rw [hx,hy] at hxy;rcases s3 with ⟨q1,_⟩|⟨q1,q2,_⟩<;>first|omega|(rw [s2,q2] at hxy;omega))
  ·have hlt:x < m+1:=hlt
   rcases hU x hx with hx|hx|hx
   ·rw [s1 _ hx];omega
   ·rw [hx,s2];exact h2
   ·rcases s3 with ⟨q1,_⟩|⟨q1,_⟩
    ·rw [hx,q1,s2];exact h2
    ·rcases hn with hn|hn<;>omega
  ·have hge:m+1≤x:=hge
   rcases hU x hx with hx|hx|hx
   ·omega
   ·omega
   ·subst hx
    rcases s3 with ⟨q1,_⟩|⟨_,q2,q3⟩
    ·omega
    ·rcases hn with hn|hn
     ·omega
     ·exact ⟨hn.2,by omega,by omega⟩
  ·rcases ho.nl m x hx n hx2 with h|h
   ·exact ⟨by simp [h],Nat.lt_succ_of_lt h⟩
   ·subst h;exact ⟨by simp,Nat.lt_succ_self _⟩
  ·rcases (ho.nm m x hx).1 with h|h
   ·exact ⟨by simp [h],Nat.lt_succ_of_lt h⟩
   ·rw [h];exact ⟨by simp,Nat.lt_succ_self _⟩
  ·rcases (ho.nm m _ (get_mem _ _ _ hb)).2 b rfl k hk with h|h
   ·exact ⟨by simp [h],Nat.lt_succ_of_lt h⟩
   ·subst h;exact ⟨by simp,Nat.lt_succ_self _⟩
  ·rcases ho'.nl n' x hx n hx2 with h|h
   ·simp [h]
   ·subst h;simp
  ·rcases (ho'.nm n' x hx).1 with h|h
   ·simp [h]
   ·rw [h];simp
  ·rcases (ho'.nm n' _ (get_mem _ _ _ hb)).2 b rfl k hk with h|h
   ·simp [h]
   ·subst h;simp
 rw [ho.rl σ m s1,ho.rm σ m s1,ho'.rl σ n' s1,ho'.rm σ n' s1,s2] at key
 rcases s3 with ⟨q1,q2⟩|⟨q1,q2,q3⟩
 ·rw [q1,s2,q2] at key
  exact ⟨nn,c,h1,h2,key⟩
 ·rw [q2,q3] at key
  exact ⟨c,c+1,by omega,by omega,key⟩
theorem Own.first (ho':Own m sl' me') {L:List (Nat × AV)} {M:Mem} {n' c':Nat} (h:CodeDoes P B body ⟨⟨K,L⟩,M,m⟩ e ⟨⟨K,sl' n'⟩,me' n',c'⟩) (hn:m≤n'∧n' < c') (hL:NL m L) (hM:NM m M):CodeDoes P B body ⟨⟨K,L⟩,M,m⟩ e ⟨⟨K,sl' m⟩,me' m,m+1⟩:=by
 obtain ⟨σ,s1,s2⟩:∃ σ:Nat→Nat,(∀ k,k < m→σ k=k)∧σ n'=m:=⟨fun k=>if k < m then k else m,fun k hk=>if_pos hk,if_neg (by omega)⟩
 have e1:rnL σ L=L:=rnL_fix fun x hx n hn=>s1 _ (hL x hx n hn)
 have e2:rnM σ M=M:=rnM_fix fun x hx=>⟨s1 _ (hM x hx).1,fun b hb n hn=>s1 _ ((hM x hx).2 b hb n hn)⟩
 have hU:∀ x,x∈List.range m++[n']→x < m∨x=n':=fun x hx=>by simpa using hx
 have key:CodeDoes P B body ⟨⟨K,rnL σ L⟩,rnM σ M,m⟩ e ⟨⟨K,rnL σ (sl' n')⟩,rnM σ (me' n'),m+1⟩:=by
  refine h.names σ (List.range m++[n']) (c:=m) (c':=m+1) ⟨fun x hx y hy hxy=>?_,fun x hx hlt=>?_,fun x hx hge=>?_,Nat.le_succ _⟩ (fun x hx n hx2=>?_) (fun x hx=>?_) (fun n b hb k hk=>?_) (fun x hx n hx2=>?_) (fun x hx=>?_) (fun n b hb k hk=>?_)
  ·rcases hU x hx with hx|hx<;>rcases hU y hy with hy|hy
   ·rw [s1 _ hx,s1 _ hy] at hxy;exact hxy
   ·have hx':=s1 _ hx;rw [hx',hy,s2] at hxy;omega
   ·have hy':=s1 _ hy;rw [hy',hx,s2] at hxy;omega
   ·omega
  ·have hlt:x < m:=hlt
   rw [s1 _ hlt];exact hlt
  ·have hge:m≤x:=hge
   rcases hU x hx with hx|rfl
   ·omega
   ·exact ⟨hn.2,by omega,by omega⟩
  ·have:=hL x hx n hx2
   exact ⟨by simp [this],this⟩
  ·have:=(hM x hx).1
   exact ⟨by simp [this],this⟩
  ·have:=hM.get hb k hk
   exact ⟨by simp [this],this⟩
  ·rcases ho'.nl n' x hx n hx2 with h|h
   ·simp [h]
   ·subst h;simp
  ·rcases (ho'.nm n' x hx).1 with h|h
   ·simp [h]
   ·rw [h];simp
  ·rcases (ho'.nm n' _ (get_mem _ _ _ hb)).2 b rfl k hk with h|h
   ·simp [h]
   ·subst h;simp
 rw [e1,e2,ho'.rl σ n' s1,ho'.rm σ n' s1,s2] at key
 exact key
theorem CodeDoes.collectG (hC:C=.loop (Lf C)) (he:e≠.normal) (n:Nat) (q:Nat→Bool) (sO:Nat→Nat→List (Nat × AV)) (mO:Nat→Nat→Mem) (sN:Nat→List (Nat × AV)) (mN:Nat→Mem) {sE:Nat→List (Nat × AV)} {mE:Nat→Mem} {sF:List (Nat × AV)} {mF:Mem}
  (hOw:∀ i,Own m (sO i) (mO i)) (hsN:∀ i,NL m (sN i)) (hmN:∀ i,NM m (mN i)) (hE:Own m sE mE) (hsF:NL m sF) (hmF:NM m mF) (h0:q 0=false)
  (hO:∀ i,i < n→q i=true→q (i+1)=true∧∃ n' c',(n'=m∨m < n'∧n' < c')∧CodeDoes P B (Lf C) ⟨⟨K,sO i m⟩,mO i m,m+1⟩ .normal ⟨⟨K,sO (i+1) n'⟩,mO (i+1) n',c'⟩)
  (hN:∀ i,i < n→q i=false→(q (i+1)=false∧∃ c',CodeDoes P B (Lf C) ⟨⟨K,sN i⟩,mN i,m⟩ .normal ⟨⟨K,sN (i+1)⟩,mN (i+1),c'⟩)∨(q (i+1)=true∧∃ n' c',(m≤n'∧n' < c')∧CodeDoes P B (Lf C) ⟨⟨K,sN i⟩,mN i,m⟩ .normal ⟨⟨K,sO (i+1) n'⟩,mO (i+1) n',c'⟩))
  (eO:q n=true→∃ c',m < c'∧CodeDoes P B (Lf C) ⟨⟨K,sO n m⟩,mO n m,m+1⟩ e ⟨⟨K,sE m⟩,mE m,c'⟩)
  (eN:q n=false→∃ c',CodeDoes P B (Lf C) ⟨⟨K,sN n⟩,mN n,m⟩ e ⟨⟨K,sF⟩,mF,c'⟩) :
  (q n=false∧CodeDoes P B C ⟨⟨K,sN 0⟩,mN 0,m⟩ e ⟨⟨K,sF⟩,mF,m⟩)∨(q n=true∧CodeDoes P B C ⟨⟨K,sN 0⟩,mN 0,m⟩ e ⟨⟨K,sE m⟩,mE m,m+1⟩):=by
 have own:∀ k i,n - i=k→i≤n→q i=true→∀ nn c,m≤nn→nn < c→q n=true∧∃ n2 c2,m≤n2∧n2 < c2∧LoopDoes P B (Lf C) ⟨⟨K,sO i nn⟩,mO i nn,c⟩ e ⟨⟨K,sE n2⟩,mE n2,c2⟩:=by
  intro k
  induction k with
  | zero =>
   intro i hk hi hq nn c h1 h2
   obtain rfl:i=n:=by omega
   obtain ⟨c',hc',h⟩:=eO hq
   obtain ⟨n2,c2,g1,g2,g3⟩:=(hOw i).lift hE h (.inl rfl) nn c h1 h2
   exact ⟨hq,n2,c2,g1,g2,LoopDoes.last g3 he⟩
  | succ k ih =>
   intro i hk hi hq nn c h1 h2
   obtain ⟨hq',n',c',h3,h⟩:=hO i (by omega) hq
   obtain ⟨n2,c2,g1,g2,g3⟩:=(hOw i).lift (hOw (i+1)) h h3 nn c h1 h2
   obtain ⟨r,n4,c4,k1,k2,k3⟩:=ih (i+1) (by omega) (by omega) hq' n2 c2 g1 g2
   exact ⟨r,n4,c4,k1,k2,LoopDoes.more g3 k3⟩
 have nil:∀ k i,n - i=k→i≤n→q i=false→(q n=false∧LoopDoes P B (Lf C) ⟨⟨K,sN i⟩,mN i,m⟩ e ⟨⟨K,sF⟩,mF,m⟩)∨(q n=true∧∃ n2 c2,m≤n2∧n2 < c2∧LoopDoes P B (Lf C) ⟨⟨K,sN i⟩,mN i,m⟩ e ⟨⟨K,sE n2⟩,mE n2,c2⟩):=by
  intro k
  induction k with
  | zero =>
   intro i hk hi hq
   obtain rfl:i=n:=by omega
   obtain ⟨c',h⟩:=eN hq
   exact .inl ⟨hq,LoopDoes.last (h.packM (hsN i) (hmN i) hsF hmF) he⟩
  | succ k ih =>
   intro i hk hi hq
   rcases hN i (by omega) hq with ⟨h1,c',h⟩|⟨hq',n',c',⟨h1,h2⟩,h⟩
   ·have g:=h.packM (hsN i) (hmN i) (hsN (i+1)) (hmN (i+1))
    rcases ih (i+1) (by omega) (by omega) h1 with ⟨q1,q2⟩|⟨q1,n4,c4,k1,k2,k3⟩
    ·exact .inl ⟨q1,LoopDoes.more g q2⟩
    ·exact .inr ⟨q1,n4,c4,k1,k2,LoopDoes.more g k3⟩
   ·obtain ⟨r,n4,c4,k1,k2,k3⟩:=own k (i+1) (by omega) (by omega) hq' n' c' h1 h2
    exact .inr ⟨r,n4,c4,k1,k2,LoopDoes.more h k3⟩
 rcases nil n 0 rfl (Nat.zero_le _) h0 with ⟨q1,q2⟩|⟨q1,n2,c2,r1,r2,r3⟩
 ·exact .inl ⟨q1,CodeDoes.loopAt hC q2⟩
 ·exact .inr ⟨q1,Own.first hE (CodeDoes.loopAt hC r3) ⟨r1,r2⟩ (hsN 0) (hmN 0)⟩
end
def WkV (x y:SV):Prop:=∀ (ρ:Rho) u,SR ρ x u→SR ρ y u
theorem WkV.refl (x:SV):WkV x x:=fun _ _ h=>h
theorem WkV.nil (sz:Nat):WkV .sl0 (.slv 0 none sz []):=fun ρ u h=>by
 have h:u=.slice none 0 0:=h
 exact .inl ⟨h,rfl,rfl,fun k hk=>(by cases hk)⟩
inductive WkL:List SV→List SV→Prop where
 | nil:WkL [] []
 | cons {x y:SV} {l r:List SV} (h:WkV x y) (t:WkL l r):WkL (x :: l) (y :: r)
theorem WkL.refl:∀ l,WkL l l
 | []=>.nil
 | x :: r=>.cons (.refl x) (WkL.refl r)
theorem WkL.get {a b:List SV} (h:WkL a b):a.length=b.length∧∀ (i:Nat) y,b[i]?=some y→∃ x,a[i]?=some x∧WkV x y:=by
 induction h with
 | nil=>exact ⟨rfl,fun i y h=>by simp at h⟩
 | cons h _ ih =>
  refine ⟨by simp [ih.1],fun i y hy=>?_⟩
  cases i with
  | zero=>obtain rfl:=Option.some.inj hy;exact ⟨_,rfl,h⟩
  | succ i=>exact ih.2 i y hy
theorem Sat.weak {B:Nat} {ρ:Rho} {M:MemF} {w:World} (h:Sat B ρ M w) {n:Nat} {xs ys:List SV} {o:Bool} (hM:M n=some ⟨xs,o⟩) (hw:WkL xs ys):Sat B ρ (upd [(n,some ⟨ys,o⟩)] M) w:=by
 have back:∀ k b,upd [(n,some ⟨ys,o⟩)] M k=some b→∃ b',M k=some b'∧b'.own=b.own∧WkL b'.cells b.cells:=fun k b hk=>by
  rw [upd_one] at hk
  split at hk
  ·rename_i e0;subst e0
   obtain rfl:=Option.some.inj hk
   exact ⟨_,hM,rfl,hw⟩
  ·exact ⟨b,hk,rfl,WkL.refl _⟩
 refine ⟨h.heap,fun k b hk=>?_,fun k k' b b' l l' hk hk' hne ho hl hl'=>?_,h.frz,fun k b l hk ho hl o'=>?_⟩
 ·obtain ⟨b',q1,q2,q3⟩:=back k b hk
  obtain ⟨l,h1,h2,h3,h4,h5⟩:=h.here k b' q1
  refine ⟨l,h1,h2,by rw [← q3.get.1];exact h3,fun i v hv=>?_,fun ho=>h5 (by rw [q2];exact ho)⟩
  obtain ⟨x,hx,hxv⟩:=q3.get.2 i v hv
  obtain ⟨c,g1,g2⟩:=h4 i x hx
  exact ⟨c,g1,hxv _ _ g2⟩
 ·obtain ⟨b1,q1,q2,_⟩:=back k b hk
  obtain ⟨b2,p1,_⟩:=back k' b' hk'
  exact h.apart k k' b1 b2 l l' q1 p1 hne (by rw [q2];exact ho) hl hl'
 ·obtain ⟨b1,q1,q2,_⟩:=back k b hk
  exact h.fown k b1 l q1 (by rw [q2];exact ho) hl o'
theorem CodeDoes.weakM {B:Nat} {code:Code} {s:St} {e:Ex} {t:Tm} {m:Mem} {c:Nat} (n:Nat) {xs ys:List SV} {o:Bool} (h:CodeDoes P B code s e ⟨t,m,c⟩) (hb:get m n=some ⟨xs,o⟩) (hw:WkL xs ys):CodeDoes P B code s e ⟨t,(n,some ⟨ys,o⟩) :: m,c⟩:=by
 obtain ⟨a1,δ,a2,a3⟩:=h
 refine ⟨a1,(n,some ⟨ys,o⟩) :: δ,⟨fun M hM k b hk=>?_,fun x hx=>?_⟩,fun ρ M a w hd ht hA hfr hs Q hQ=>a3 ρ M a w hd ht hA hfr hs Q (fun ρ1 a' w' x1 x2 x3 x4 x5=>hQ ρ1 a' w' x1 x2 x3 ?_ x5)⟩
 ·rw [upd_cons,upd_one]
  have hk:(if n=k then some (⟨ys,o⟩:Blk) else get m k)=some b:=hk
  split at hk
  ·rename_i e0;rw [if_pos e0];exact hk
  ·rename_i e0;rw [if_neg e0];exact a2.ag M hM k b hk
 ·rcases List.mem_cons.1 hx with rfl|hx
  ·exact a2.known hb
  ·exact a2.old x hx
 ·rw [upd_cons]
  exact x4.weak (a2.ag M hA n _ hb) hw
theorem vr_weak {xs ys:List SV} (h:WkL xs ys):∀ (ρ:Rho) u,VR ρ (.agg xs) u→VR ρ (.agg ys) u:=fun ρ u ⟨cs,h1,h2,h3⟩=>⟨cs,h1,by rw [← h.get.1];exact h2,fun i v c hv hc=>by
 obtain ⟨x,hx,hw⟩:=h.get.2 i v hv
 exact hw _ _ (h3 i x c hx hc)⟩
theorem ValDoes.weak {f:FuncId} {args:List AV} {v v':AV} (h:ValDoes P f args v) (hw:∀ (ρ:Rho) u,VR ρ v u→VR ρ v' u):ValDoes P f args v':=fun B c=>by
 obtain ⟨h1,h2,δ,h3,h4,h5⟩:=h B c
 exact ⟨h1,h2,δ,h3,h4,fun ρ M args' w hA hM hfr hs=>(h5 ρ M args' w hA hM hfr hs).mono fun e w' ⟨v',he,ρ',p1,p2,p3,p4⟩=>⟨v',he,ρ',p1,hw _ _ p2,p3,p4⟩⟩
inductive WkAs:List AV→List AV→Prop where
 | nil:WkAs [] []
 | cons {x y:AV} {l r:List AV} (h:∀ (ρ:Rho) u,VR ρ x u→VR ρ y u) (t:WkAs l r):WkAs (x :: l) (y :: r)
theorem WkAs.get {a b:List AV} (h:WkAs a b):a.length=b.length∧∀ (i:Nat) y,b[i]?=some y→∃ x,a[i]?=some x∧∀ (ρ:Rho) u,VR ρ x u→VR ρ y u:=by
 induction h with
 | nil=>exact ⟨rfl,fun i y h=>by simp at h⟩
 | cons h _ ih =>
  refine ⟨by simp [ih.1],fun i y hy=>?_⟩
  cases i with
  | zero=>obtain rfl:=Option.some.inj hy;exact ⟨_,rfl,h⟩
  | succ i=>exact ih.2 i y hy
theorem CallDoes.weakArgs {B:Nat} {f:FuncId} {args args0:List AV} {m m':Mem} {c c':Nat} {v:AV} (h:CallDoes P B f args0 m c v m' c') (ha:WkAs args args0):CallDoes P B f args m c v m' c':=by
 obtain ⟨h1,h2,δ,h3,h4,h5⟩:=h
 refine ⟨h1,h2,δ,h3,h4,fun ρ M args' w hA hM hfr hs=>h5 ρ M args' w ⟨by rw [← ha.get.1];exact hA.1,fun i y u hy hu=>?_⟩ hM hfr hs⟩
 obtain ⟨x,hx,hxy⟩:=ha.get.2 i y hy
 exact hxy ρ u (hA.2 i x u hx hu)
theorem vr_nilv {sz:Nat}:∀ (ρ:Rho) u,VR ρ (.s .sl0) u→VR ρ (.s (.slv 0 none sz [])) u:=fun ρ u h=>WkV.nil sz ρ u h
end Go.Proofs.Ytaelliigpclipaa.Eng
