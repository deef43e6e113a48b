/- The reckoner: names may be changed. What a piece of code does under one naming of memory it does under another;names that nobody needs any more are let go. -/
import Derived.Test.YtaelliigpclipaaEngAD
namespace Go.Proofs.Ytaelliigpclipaa.Eng
set_option linter.unusedVariables false
set_option linter.unusedSimpArgs false
open Go Go.RowKit
variable {P:Program}
def rnX (σ:Nat→Nat):AV→AV
 | .s v=>.s (rnV σ v)
 | .agg l=>.agg (l.map (rnV σ))
 | .tup l=>.tup (l.map fun p=>(p.1,p.2.map (rnV σ)))
 | .any=>.any
 | .no=>.no
def rnB (σ:Nat→Nat) (b:Blk):Blk:=⟨b.cells.map (rnV σ),b.own⟩
def blkN (b:Blk):List Nat:=b.cells.flatMap svNames
def rnM (σ:Nat→Nat) (m:Mem):Mem:=m.map fun e=>(σ e.1,e.2.map (rnB σ))
def rnL (σ:Nat→Nat) (l:List (Nat × AV)):List (Nat × AV):=l.map fun e=>(e.1,rnX σ e.2)
theorem SR.rn {ρ ρ2:Rho} {σ:Nat→Nat} {v:SV} {u:Value} (h:SR ρ v u) (hz:∀ b o v,ρ.fz b o=some v→ρ2.fz b o=some v) (hρ:∀ n∈svNames v,∀ l,ρ n=some l→ρ2 (σ n)=some l):SR ρ2 (rnV σ v) u:=by
 cases v with
 | ptr n off=>obtain ⟨l,a,b⟩:=h;exact ⟨l,hρ n (by simp [svNames]) l a,b⟩
 | sl n off len cap sz=>obtain ⟨l,cp,a,b⟩:=h;exact ⟨l,cp,hρ n (by simp [svNames]) l a,b⟩
 | fn f cs =>
  obtain ⟨us,a,b,d⟩:=h
  refine ⟨us,a,by simpa using b,fun i p q hp hq=>?_⟩
  rw [List.getElem?_map] at hp
  cases hc:cs[i]? with
  | none=>rw [hc] at hp;cases hp
  | some z =>
   rw [hc] at hp
   obtain rfl:=Option.some.inj hp
   obtain ⟨l,e1,e2⟩:=d i z q hc hq
   exact ⟨l,hρ z.1 (by simp only [svNames,List.mem_map];exact ⟨z,List.mem_of_getElem? hc,rfl⟩) l e1,e2⟩
 | slv len cap sz cs=>exact FR.ext hz h
 | ptv cs=>exact FR.ext hz h
 | _=>exact h
theorem SR.unrn {ρ ρ2:Rho} {σ:Nat→Nat} {v:SV} {u:Value} (h:SR ρ (rnV σ v) u) (hz:∀ b o v,ρ.fz b o=some v→ρ2.fz b o=some v) (hρ:∀ n∈svNames v,∀ l,ρ (σ n)=some l→ρ2 n=some l):SR ρ2 v u:=by
 cases v with
 | ptr n off=>obtain ⟨l,a,b⟩:=h;exact ⟨l,hρ n (by simp [svNames]) l a,b⟩
 | sl n off len cap sz=>obtain ⟨l,cp,a,b⟩:=h;exact ⟨l,cp,hρ n (by simp [svNames]) l a,b⟩
 | fn f cs =>
  obtain ⟨us,a,b,d⟩:=h
  refine ⟨us,a,by simpa using b,fun i p q hp hq=>?_⟩
  obtain ⟨l,e1,e2⟩:=d i (σ p.1,p.2) q (by simp [hp]) hq
  exact ⟨l,hρ p.1 (by simp only [svNames,List.mem_map];exact ⟨p,List.mem_of_getElem? hp,rfl⟩) l e1,e2⟩
 | slv len cap sz cs=>exact FR.ext hz h
 | ptv cs=>exact FR.ext hz h
 | _=>exact h
theorem CR.rn {ρ ρ2:Rho} {σ:Nat→Nat} {l:List SV} {us:List Value} (h:CR ρ l us) (hz:∀ b o v,ρ.fz b o=some v→ρ2.fz b o=some v) (hρ:∀ n∈l.flatMap svNames,∀ x,ρ n=some x→ρ2 (σ n)=some x):CR ρ2 (l.map (rnV σ)) us:=by
 refine ⟨by simpa using h.1,fun i v u p q=>?_⟩
 rw [List.getElem?_map] at p
 cases hc:l[i]? with
 | none=>rw [hc] at p;cases p
 | some z =>
  rw [hc] at p
  obtain rfl:=Option.some.inj p
  exact (h.2 i z u hc q).rn hz (fun n hn=>hρ n (List.mem_flatMap.2 ⟨z,List.mem_of_getElem? hc,hn⟩))
theorem CR.unrn {ρ ρ2:Rho} {σ:Nat→Nat} {l:List SV} {us:List Value} (h:CR ρ (l.map (rnV σ)) us) (hz:∀ b o v,ρ.fz b o=some v→ρ2.fz b o=some v) (hρ:∀ n∈l.flatMap svNames,∀ x,ρ (σ n)=some x→ρ2 n=some x):CR ρ2 l us:=by
 refine ⟨by simpa using h.1,fun i v u p q=>?_⟩
 exact (h.2 i (rnV σ v) u (by simp [p]) q).unrn hz (fun n hn=>hρ n (List.mem_flatMap.2 ⟨v,List.mem_of_getElem? p,hn⟩))
theorem VR1.rn {ρ ρ2:Rho} {σ:Nat→Nat} {v:AV} {u:Value} (h:VR1 ρ v u) (hz:∀ b o v,ρ.fz b o=some v→ρ2.fz b o=some v) (hρ:∀ n∈avNames v,∀ x,ρ n=some x→ρ2 (σ n)=some x):VR1 ρ2 (rnX σ v) u:=by
 cases v with
 | any=>exact h
 | no=>exact h
 | tup l=>exact h
 | s v=>exact SR.rn h hz hρ
 | agg l=>obtain ⟨us,a,b⟩:=h;exact ⟨us,a,b.rn hz hρ⟩
theorem ofComp_rn {σ:Nat→Nat} {p:Bool × List SV} {v:AV} (h:ofComp p=some v):ofComp (p.1,p.2.map (rnV σ))=some (rnX σ v)∧avNames v=p.2.flatMap svNames:=by
 obtain ⟨b,cs⟩:=p
 unfold ofComp at h
 split at h
 ·rename_i w hw
  obtain ⟨rfl,rfl⟩:=Prod.mk.inj hw
  obtain rfl:=Option.some.inj h
  exact ⟨rfl,by simp [avNames]⟩
 ·rename_i w hw
  obtain ⟨rfl,rfl⟩:=Prod.mk.inj hw
  obtain rfl:=Option.some.inj h
  exact ⟨rfl,rfl⟩
 ·cases h
theorem VR.rn {ρ ρ2:Rho} {σ:Nat→Nat} {v:AV} {u:Value} (h:VR ρ v u) (hz:∀ b o v,ρ.fz b o=some v→ρ2.fz b o=some v) (hρ:∀ n∈avNames v,∀ x,ρ n=some x→ρ2 (σ n)=some x):VR ρ2 (rnX σ v) u:=by
 cases v with
 | any=>trivial
 | no=>exact h
 | s v=>exact SR.rn h hz hρ
 | agg l=>obtain ⟨us,a,b⟩:=h;exact ⟨us,a,b.rn hz hρ⟩
 | tup l =>
  obtain ⟨us,a,b,d⟩:=h
  refine ⟨us,a,by simpa using b,fun i x y p q=>?_⟩
  rw [List.getElem?_map] at p
  cases hc:l[i]? with
  | none=>rw [hc] at p;cases p
  | some z =>
   rw [hc] at p
   obtain rfl:=Option.some.inj p
   obtain ⟨v,e,f⟩:=d i z y hc q
   obtain ⟨e1,e2⟩:=ofComp_rn (σ:=σ) e
   refine ⟨rnX σ v,e1,f.rn hz (fun n hn=>hρ n ?_)⟩
   rw [e2] at hn
   exact List.mem_flatMap.2 ⟨z,List.mem_of_getElem? hc,hn⟩
theorem VR.unrn {ρ ρ2:Rho} {σ:Nat→Nat} {v:AV} {u:Value} (h:VR ρ (rnX σ v) u) (hz:∀ b o v,ρ.fz b o=some v→ρ2.fz b o=some v) (hρ:∀ n∈avNames v,∀ x,ρ (σ n)=some x→ρ2 n=some x):VR ρ2 v u:=by
 cases v with
 | any=>trivial
 | no=>exact h
 | s v=>exact SR.unrn h hz hρ
 | agg l=>obtain ⟨us,a,b⟩:=h;exact ⟨us,a,b.unrn hz hρ⟩
 | tup l =>
  obtain ⟨us,a,b,d⟩:=h
  refine ⟨us,a,by simpa using b,fun i x y p q=>?_⟩
  obtain ⟨v,e,f⟩:=d i (x.1,x.2.map (rnV σ)) y (by simp [p]) q
  obtain ⟨g,cs⟩:=x
  have key:∀ n∈cs.flatMap svNames,∀ z,ρ (σ n)=some z→ρ2 n=some z:=fun n hn=>hρ n (List.mem_flatMap.2 ⟨(g,cs),List.mem_of_getElem? p,hn⟩)
  unfold ofComp at e
  split at e
  ·rename_i w hw
   obtain ⟨rfl,hw2⟩:=Prod.mk.inj hw
   cases cs with
   | nil=>simp at hw2
   | cons x r =>
    cases r with
    | cons _ _=>simp at hw2
    | nil =>
     simp only [List.map_cons,List.map_nil,List.cons.injEq,and_true] at hw2
     subst hw2
     obtain rfl:=Option.some.inj e
     exact ⟨.s x,rfl,SR.unrn f hz (fun n hn=>key n (by simpa using hn))⟩
  ·rename_i w hw
   obtain ⟨rfl,rfl⟩:=Prod.mk.inj hw
   obtain rfl:=Option.some.inj e
   obtain ⟨us,f1,f2⟩:=f
   exact ⟨.agg cs,rfl,us,f1,f2.unrn hz key⟩
  ·cases e
theorem lk_rnL (σ:Nat→Nat):∀ (l:List (Nat × AV)) (d:Nat),lk (rnL σ l) d=rnX σ (lk l d)
 | [],d=>rfl
 | (k,v) :: r,d=>by
  show (if k=d then rnX σ v else lk (rnL σ r) d)=rnX σ (if k=d then v else lk r d)
  split
  ·rfl
  ·exact lk_rnL σ r d
theorem lk_mem:∀ (l:List (Nat × AV)) (d:Nat),lk l d=.any∨(d,lk l d)∈l
 | [],d=>.inl rfl
 | (k,v) :: r,d=>by
  simp only [lk]
  by_cases h:k=d
  ·subst h;simp
  ·rw [if_neg h]
   rcases lk_mem r d with h1|h1
   ·exact .inl h1
   ·exact .inr (List.mem_cons_of_mem _ h1)
theorem get_mem:∀ (m:Mem) (n:Nat) (b:Blk),get m n=some b→(n,some b)∈m
 | [],n,b,h=>by cases h
 | (k,x) :: r,n,b,h=>by
  simp only [get] at h
  split at h
  ·rename_i e;subst e;subst h;simp
  ·exact List.mem_cons_of_mem _ (get_mem r n b h)
theorem get_rnM {σ:Nat→Nat} {U:List Nat} (hU:∀ x∈U,∀ y∈U,σ x=σ y→x=y) {n:Nat} (hn:n∈U):∀ (m:Mem),(∀ e∈m,e.1∈U)→get (rnM σ m) (σ n)=(get m n).map (rnB σ)
 | [],_=>rfl
 | (k,x) :: r,h=>by
  show (if σ k=σ n then x.map (rnB σ) else get (rnM σ r) (σ n))=((if k=n then x else get r n).map (rnB σ))
  by_cases hk:k=n
  ·subst hk;simp
  ·have:¬ σ k=σ n:=fun e=>hk (hU k (h (k,x) (by simp)) n hn e)
   rw [if_neg this,if_neg hk]
   exact get_rnM hU hn r (fun e he=>h e (by simp [he]))
theorem get_rnM_inv {σ:Nat→Nat}:∀ (m:Mem) (a:Nat) (b:Blk),get (rnM σ m) a=some b→∃ e∈m,σ e.1=a
 | [],a,b,h=>by cases h
 | (k,x) :: r,a,b,h=>by
  have h:(if σ k=a then x.map (rnB σ) else get (rnM σ r) a)=some b:=h
  split at h
  ·rename_i e;exact ⟨(k,x),by simp,e⟩
  ·obtain ⟨e,h1,h2⟩:=get_rnM_inv r a b h
   exact ⟨e,List.mem_cons_of_mem _ h1,h2⟩
theorem rnV_inv {σ τ:Nat→Nat} {v:SV} (h:∀ n∈svNames v,τ (σ n)=n):rnV τ (rnV σ v)=v:=by
 cases v with
 | ptr n off=>simp [rnV,h n (by simp [svNames])]
 | sl n off len cap sz=>simp [rnV,h n (by simp [svNames])]
 | slE n=>simp [rnV,h n (by simp [svNames])]
 | fn f cs =>
  simp only [rnV,List.map_map,SV.fn.injEq,true_and]
  conv=>rhs;rw [← List.map_id cs]
  refine List.map_congr_left fun p hp=>?_
  simp [h p.1 (by simp only [svNames,List.mem_map];exact ⟨p,hp,rfl⟩)]
 | _=>rfl
theorem rnB_inv {σ τ:Nat→Nat} {b:Blk} (h:∀ n∈blkN b,τ (σ n)=n):rnB τ (rnB σ b)=b:=by
 obtain ⟨cs,o⟩:=b
 simp only [rnB,List.map_map,Blk.mk.injEq,and_true]
 conv=>rhs;rw [← List.map_id cs]
 exact List.map_congr_left fun v hv=>rnV_inv (fun n hn=>h n (List.mem_flatMap.2 ⟨v,hv,hn⟩))
theorem Holds.rn {B:Nat} {ρ ρ2:Rho} {σ:Nat→Nat} {n n2:Nat} {b:Blk} {w:World} (h:Holds B ρ n b w) (hn:∀ l,ρ n=some l→ρ2 n2=some l) (hz:∀ b o v,ρ.fz b o=some v→ρ2.fz b o=some v) (hρ:∀ k∈blkN b,∀ x,ρ k=some x→ρ2 (σ k)=some x):Holds B ρ2 n2 (rnB σ b) w:=by
 obtain ⟨l,h1,h2,h3,h4,h5⟩:=h
 refine ⟨l,hn l h1,h2,by simpa [rnB] using h3,fun i v hv=>?_,h5⟩
 have hv:(b.cells.map (rnV σ))[i]?=some v:=hv
 rw [List.getElem?_map] at hv
 cases hc:b.cells[i]? with
 | none=>rw [hc] at hv;cases hv
 | some z =>
  rw [hc] at hv
  obtain rfl:=Option.some.inj hv
  obtain ⟨u,e1,e2⟩:=h4 i z hc
  exact ⟨u,e1,e2.rn hz (fun k hk=>hρ k (List.mem_flatMap.2 ⟨z,List.mem_of_getElem? hc,hk⟩))⟩
theorem Holds.unrn {B:Nat} {ρ ρ2:Rho} {σ:Nat→Nat} {n n2:Nat} {b:Blk} {w:World} (h:Holds B ρ n (rnB σ b) w) (hn:∀ l,ρ n=some l→ρ2 n2=some l) (hz:∀ b o v,ρ.fz b o=some v→ρ2.fz b o=some v) (hρ:∀ k∈blkN b,∀ x,ρ (σ k)=some x→ρ2 k=some x):Holds B ρ2 n2 b w:=by
 obtain ⟨l,h1,h2,h3,h4,h5⟩:=h
 refine ⟨l,hn l h1,h2,by simpa [rnB] using h3,fun i v hv=>?_,h5⟩
 obtain ⟨u,e1,e2⟩:=h4 i (rnV σ v) (by simp [rnB,hv])
 exact ⟨u,e1,e2.unrn hz (fun k hk=>hρ k (List.mem_flatMap.2 ⟨v,List.mem_of_getElem? hv,hk⟩))⟩
structure Naming (σ:Nat→Nat) (U:List Nat) (c0 c0' c c':Nat):Prop where
 inj:∀ x∈U,∀ y∈U,σ x=σ y→x=y
 old:∀ x∈U,x < c0→σ x < c
 new:∀ x∈U,c0≤x→x < c0'∧c≤σ x∧σ x < c'
 le:c≤c'
section
variable (σ:Nat→Nat) (U:List Nat) (c0 K:Nat)
def tau (a:Nat):Nat:=match U.find? (fun n=>decide (n < c0)&&σ n == a) with
 | some n=>n
 | none=>K+a
variable {σ U c0 K}
theorem tau_old (hi:∀ x∈U,∀ y∈U,σ x=σ y→x=y) {n:Nat} (hn:n∈U) (hlt:n < c0):tau σ U c0 K (σ n)=n:=by
 unfold tau
 cases hf:U.find? (fun k=>decide (k < c0)&&σ k == σ n) with
 | none =>
  have:=(List.find?_eq_none.1 hf) n hn
  simp [hlt] at this
 | some k =>
  have h1:=List.find?_some hf
  have h2:=List.mem_of_find?_eq_some hf
  simp only [Bool.and_eq_true,decide_eq_true_eq,beq_iff_eq] at h1
  exact hi k h2 n hn h1.2
theorem tau_cases (a:Nat):(∃ n∈U,n < c0∧σ n=a∧tau σ U c0 K a=n)∨((∀ n∈U,n < c0→σ n≠a)∧tau σ U c0 K a=K+a):=by
 unfold tau
 cases hf:U.find? (fun k=>decide (k < c0)&&σ k == a) with
 | none =>
  right
  refine ⟨fun n hn hlt he=>?_,rfl⟩
  have:=(List.find?_eq_none.1 hf) n hn
  simp [hlt,he] at this
 | some k =>
  left
  have h1:=List.find?_some hf
  have h2:=List.mem_of_find?_eq_some hf
  simp only [Bool.and_eq_true,decide_eq_true_eq,beq_iff_eq] at h1
  exact ⟨k,h2,h1.1,h1.2,rfl⟩
theorem tau_inj (hK:c0≤K) {a b:Nat} (h:tau σ U c0 K a=tau σ U c0 K b):a=b:=by
 rcases tau_cases (σ:=σ) (U:=U) (c0:=c0) (K:=K) a with ⟨n,h1,h2,h3,h4⟩|⟨h1,h2⟩
 ·rcases tau_cases (σ:=σ) (U:=U) (c0:=c0) (K:=K) b with ⟨k,g1,g2,g3,g4⟩|⟨g1,g2⟩
  ·rw [h4,g4] at h;subst h;rw [← h3,← g3]
  ·rw [h4,g2] at h;omega
 ·rcases tau_cases (σ:=σ) (U:=U) (c0:=c0) (K:=K) b with ⟨k,g1,g2,g3,g4⟩|⟨g1,g2⟩
  ·rw [h2,g4] at h;omega
  ·rw [h2,g2] at h;omega
def pull {α:Type} (σ:Nat→Nat) (U:List Nat) (c0 K:Nat) (f:Nat→Option α) (j:Nat):Option α :=
 if j < K then (if U.contains j&&decide (j < c0) then f (σ j) else none) else if tau σ U c0 K (j - K)=j then f (j - K) else none
theorem pull_tau {α:Type} (hi:∀ x∈U,∀ y∈U,σ x=σ y→x=y) (hK:c0≤K) (f:Nat→Option α) (a:Nat):pull σ U c0 K f (tau σ U c0 K a)=f a:=by
 rcases tau_cases (σ:=σ) (U:=U) (c0:=c0) (K:=K) a with ⟨n,h1,h2,h3,h4⟩|⟨h1,h2⟩
 ·rw [h4]
  unfold pull
  rw [if_pos (by omega),if_pos (by simp [h1,h2]),h3]
 ·rw [h2]
  unfold pull
  rw [if_neg (by omega),show K+a - K=a by omega,if_pos h2]
theorem pull_some {α:Type} (hi:∀ x∈U,∀ y∈U,σ x=σ y→x=y) {f:Nat→Option α} {j:Nat} {x:α} (h:pull σ U c0 K f j=some x):∃ a,j=tau σ U c0 K a∧f a=some x:=by
 unfold pull at h
 split at h
 ·split at h
  ·rename_i h1
   simp only [Bool.and_eq_true,decide_eq_true_eq,List.contains_iff_mem] at h1
   exact ⟨σ j,(tau_old hi h1.1 h1.2).symm,h⟩
  ·cases h
 ·split at h
  ·rename_i h1;exact ⟨j - K,h1.symm,h⟩
  ·cases h
theorem pull_none {α:Type} {f:Nat→Option α} {j:Nat} (h1:c0≤j) (h2:j < K):pull σ U c0 K f j=none:=by
 unfold pull
 rw [if_pos h2,if_neg (by simp;omega)]
def pullR (σ:Nat→Nat) (U:List Nat) (c0 K:Nat) (ρ:Rho):Rho:=⟨pull σ U c0 K ρ.nm,ρ.fz⟩
theorem pullR_tau (hi:∀ x∈U,∀ y∈U,σ x=σ y→x=y) (hK:c0≤K) (ρ:Rho) (a:Nat):pullR σ U c0 K ρ (tau σ U c0 K a)=ρ a:=pull_tau hi hK ρ.nm a
end
theorem le_sum {l:List Nat} {n:Nat} (h:n∈l):n≤l.sum:=by
 induction l with
 | nil=>cases h
 | cons x r ih =>
  rcases List.mem_cons.1 h with rfl|h
  ·simp
  ·have:=ih h;simp;omega
theorem start_ok {σ:Nat→Nat} {U:List Nat} {c0 K B:Nat} (hi:∀ x∈U,∀ y∈U,σ x=σ y→x=y) (hK:c0≤K) {ρ:Rho} {M:MemF} {w:World} (hs:Sat B ρ M w) :
  Sat B (pullR σ U c0 K ρ) (fun j=>(pull σ U c0 K M j).map (rnB (tau σ U c0 K))) w:=by
 refine ⟨hs.heap,fun n b hn=>?_,fun n n' b b' l l' hn hn' hne ho hl hl'=>?_,hs.frz,fun n b l hn ho hl o=>?_⟩
 ·rw [Option.map_eq_some_iff] at hn
  obtain ⟨b1,h1,rfl⟩:=hn
  obtain ⟨a,rfl,h2⟩:=pull_some hi h1
  exact (hs.here a b1 h2).rn (fun l hl=>by rw [pullR_tau hi hK];exact hl) (fun _ _ _ x=>x) (fun k _ x hx=>by rw [pullR_tau hi hK];exact hx)
 ·rw [Option.map_eq_some_iff] at hn hn'
  obtain ⟨b1,h1,rfl⟩:=hn
  obtain ⟨b2,h2,rfl⟩:=hn'
  obtain ⟨a,rfl,h3⟩:=pull_some hi h1
  obtain ⟨a',rfl,h4⟩:=pull_some hi h2
  rw [pullR_tau hi hK] at hl hl'
  exact hs.apart a a' b1 b2 l l' h3 h4 (fun e=>hne (by rw [e])) ho hl hl'
 ·rw [Option.map_eq_some_iff] at hn
  obtain ⟨b1,h1,rfl⟩:=hn
  obtain ⟨a,rfl,h2⟩:=pull_some hi h1
  rw [pullR_tau hi hK] at hl
  exact hs.fown a b1 l h2 ho hl o
theorem end_ok {σ:Nat→Nat} {U:List Nat} {c0 c0' c c' K B:Nat} (hN:Naming σ U c0 c0' c c') (h00:c0≤c0') (hK:c0' < K) {ρ ρe:Rho} {M:MemF} {w w':World} {δ0 m:Mem}
  (hfr:Fresh ρ c c') (hs:Sat B ρ M w) (hδ:∀ e∈δ0,e.1 < K) (hext:Ext (pullR σ U c0 K ρ) ρe c0 c0')
  (hse:Sat B ρe (upd δ0 (fun j=>(pull σ U c0 K M j).map (rnB (tau σ U c0 K)))) w')
  (hm:∀ n b,get m n=some b→upd δ0 (fun j=>(pull σ U c0 K M j).map (rnB (tau σ U c0 K))) n=some b) (hmU:∀ e∈m,e.1∈U) (hmB:∀ n b,get m n=some b→∀ k∈blkN b,k∈U) :
  ∃ ρ':Rho,ρ'.fz=ρe.fz∧Ext ρ ρ' c c'∧(∀ n∈U,ρ' (σ n)=ρe n)∧∀ δ:Mem,(∀ a b,upd δ M a=some b→(∃ n∈U,σ n=a∧∃ b0,get m n=some b0∧b=rnB σ b0)∨(M a=some b∧∀ n∈U,n < c0→σ n=a→¬ Touch δ0 n))→Sat B ρ' (upd δ M) w':=by
 have hi:=hN.inj
 have hK0:c0≤K:=by omega
 let ρ':Rho:=⟨fun a=>if c≤a∧a < c' then (match U.find? (fun n=>decide (c0≤n)&&σ n == a) with|some n=>ρe n|none=>none) else ρe (tau σ U c0 K a),ρe.fz⟩
 have hin:∀ a,¬ (c≤a∧a < c')→ρ' a=ρe (tau σ U c0 K a):=fun a ha=>if_neg ha
 have htauout:∀ a,¬ (c≤a∧a < c')→ρe (tau σ U c0 K a)=ρ a∧¬ (c0≤tau σ U c0 K a∧tau σ U c0 K a < c0'):=by
  intro a ha
  have ho:¬ (c0≤tau σ U c0 K a∧tau σ U c0 K a < c0'):=by
   rcases tau_cases (σ:=σ) (U:=U) (c0:=c0) (K:=K) a with ⟨n,h1,h2,h3,h4⟩|⟨h1,h2⟩
   ·rw [h4];omega
   ·rw [h2];omega
  exact ⟨by rw [hext.out _ ho,pullR_tau hi hK0],ho⟩
 have hE:Ext ρ ρ' c c':=by
  refine ⟨⟨fun a l hl=>?_,hext.keep.fz⟩,fun a ha=>?_⟩
  ·have ha:¬ (c≤a∧a < c'):=fun h=>by rw [hfr a h.1 h.2] at hl;cases hl
   rw [hin a ha,(htauout a ha).1]
   exact hl
  ·rw [hin a ha,(htauout a ha).1]
 have hU:∀ n∈U,ρ' (σ n)=ρe n:=by
  intro n hn
  by_cases h:n < c0
  ·have h1:=hN.old n hn h
   rw [hin _ (by omega),tau_old hi hn h]
  ·obtain ⟨h1,h2,h3⟩:=hN.new n hn (by omega)
   show (if c≤σ n∧σ n < c' then _ else _)=_
   rw [if_pos ⟨h2,h3⟩]
   cases hf:U.find? (fun k=>decide (c0≤k)&&σ k == σ n) with
   | none =>
    have:=(List.find?_eq_none.1 hf) n hn
    simp at this
    omega
   | some k =>
    have g1:=List.find?_some hf
    have g2:=List.mem_of_find?_eq_some hf
    simp only [Bool.and_eq_true,decide_eq_true_eq,beq_iff_eq] at g1
    rw [hi k g2 n hn g1.2]
 refine ⟨ρ',rfl,hE,hU,fun δ hd=>?_⟩
 -- each known block,and where it was known under the other naming
 have code:∀ a b,upd δ M a=some b→∃ j b0,upd δ0 (fun j=>(pull σ U c0 K M j).map (rnB (tau σ U c0 K))) j=some b0∧b0.own=b.own∧(∀ l,ρe j=some l→ρ' a=some l)∧(ρ' a=ρe j)∧(∀ x,Holds B ρe j b0 x→Holds B ρ' a b x)∧((j∈U∧σ j=a∧j < c0')∨j=tau σ U c0 K a):=by
  intro a b hb
  rcases hd a b hb with ⟨n,hn,rfl,b0,h1,rfl⟩|⟨h1,h2⟩
  ·have hlt:n < c0':=by
    by_cases h:n < c0
    ·omega
    ·exact (hN.new n hn (by omega)).1
   exact ⟨n,b0,hm n b0 h1,rfl,fun l hl=>by rw [hU n hn];exact hl,hU n hn,fun x hx=>hx.rn (fun l hl=>by rw [hU n hn];exact hl) (fun _ _ _ x=>x) (fun k hk y hy=>by rw [hU k (hmB n b0 h1 k hk)];exact hy),.inl ⟨hn,rfl,hlt⟩⟩
  ·have ha:¬ (c≤a∧a < c'):=fun h=>by rw [hs.gone (hfr a h.1 h.2)] at h1;cases h1
   have hnt:¬ Touch δ0 (tau σ U c0 K a):=by
    rcases tau_cases (σ:=σ) (U:=U) (c0:=c0) (K:=K) a with ⟨n,g1,g2,g3,g4⟩|⟨g1,g2⟩
    ·rw [g4];exact h2 n g1 g2 g3
    ·rw [g2]
     rintro ⟨e,he,he2⟩
     have:=hδ e he
     omega
   have hM:upd δ0 (fun j=>(pull σ U c0 K M j).map (rnB (tau σ U c0 K))) (tau σ U c0 K a)=some (rnB (tau σ U c0 K) b):=by
    rw [upd_out hnt]
    show (pull σ U c0 K M (tau σ U c0 K a)).map _=_
    rw [pull_tau hi hK0,h1]
    rfl
   refine ⟨tau σ U c0 K a,_,hM,rfl,fun l hl=>by rw [hin a ha];exact hl,by rw [hin a ha],fun x hx=>?_,.inr rfl⟩
   refine hx.unrn (fun l hl=>by rw [hin a ha];exact hl) (fun _ _ _ x=>x) (fun k hk y hy=>?_)
   by_cases hkk:c≤k∧k < c'
   ·exfalso
    have hko:¬ (c0≤tau σ U c0 K k∧tau σ U c0 K k < c0'):=by
     rcases tau_cases (σ:=σ) (U:=U) (c0:=c0) (K:=K) k with ⟨n,g1,g2,g3,g4⟩|⟨g1,g2⟩
     ·rw [g4];omega
     ·rw [g2];omega
    rw [hext.out _ hko,pullR_tau hi hK0,hfr k hkk.1 hkk.2] at hy
    cases hy
   ·rw [hin k hkk];exact hy
 refine ⟨hse.heap,fun a b hb=>?_,fun a a' b b' l l' hb hb' hne ho hl hl'=>?_,hse.frz,fun a b l hb ho hl o=>?_⟩
 ·obtain ⟨j,b0,h1,_,_,_,h4,_⟩:=code a b hb
  exact h4 w' (hse.here j b0 h1)
 ·obtain ⟨j,b0,h1,h2,_,h3,_,h5⟩:=code a b hb
  obtain ⟨j',b0',g1,g2,_,g3,_,g5⟩:=code a' b' hb'
  rw [h3] at hl
  rw [g3] at hl'
  refine hse.apart j j' b0 b0' l l' h1 g1 (fun e=>?_) (by rw [h2];exact ho) hl hl'
  subst e
  have far:∀ (a a':Nat),j∈U→σ j=a→j < c0'→j=tau σ U c0 K a'→a=a':=by
   intro a a' q1 q2 q3 q4
   rcases tau_cases (σ:=σ) (U:=U) (c0:=c0) (K:=K) a' with ⟨n,g1,g2,g3,g4⟩|⟨g1,g2⟩
   ·rw [g4] at q4;subst q4;rw [← q2,← g3]
   ·rw [g2] at q4;omega
  rcases h5 with ⟨p1,p2,p3⟩|p1
  ·rcases g5 with ⟨q1,q2,q3⟩|q1
   ·exact hne (by rw [← p2,← q2])
   ·exact hne (far a a' p1 p2 p3 q1)
  ·rcases g5 with ⟨q1,q2,q3⟩|q1
   ·exact hne (far a' a q1 q2 q3 p1).symm
   ·exact hne (tau_inj hK0 (p1.symm.trans q1))
 ·obtain ⟨j,b0,h1,h2,_,h3,_,h5⟩:=code a b hb
  rw [h3] at hl
  exact hse.fown j b0 l h1 (by rw [h2];exact ho) hl o
theorem upd_names {σ:Nat→Nat} {U:List Nat} (hi:∀ x∈U,∀ y∈U,σ x=σ y→x=y) (G:Nat→Option Blk) (M:MemF):∀ (L:List Nat),(∀ x∈L,x∈U)→(∀ n∈L,upd (L.map fun n=>(σ n,G n)) M (σ n)=G n)∧∀ a,(∀ n∈L,σ n≠a)→upd (L.map fun n=>(σ n,G n)) M a=M a
 | [],_=>⟨fun n hn=>(by cases hn),fun a _=>rfl⟩
 | x :: r,h=>by
  obtain ⟨h1,h2⟩:=upd_names hi G M r (fun y hy=>h y (by simp [hy]))
  refine ⟨fun n hn=>?_,fun a ha=>?_⟩
  ·rw [List.map_cons,upd_cons,upd_one]
   by_cases hx:x=n
   ·subst hx;simp
   ·have hne:¬ σ x=σ n:=fun e=>hx (hi x (h x (by simp)) n (h n hn) e)
    rw [if_neg hne]
    rcases List.mem_cons.1 hn with rfl|hn
    ·exact absurd rfl hx
    ·exact h1 n hn
  ·rw [List.map_cons,upd_cons,upd_one,if_neg (ha x (by simp))]
   exact h2 a (fun n hn=>ha n (by simp [hn]))
theorem CodeDoes.names {B:Nat} {code:Code} {s0 s0':St} {e:Ex} (h:CodeDoes P B code s0 e s0') (σ:Nat→Nat) (U:List Nat) {c c':Nat} (hN:Naming σ U s0.c s0'.c c c')
  (h1:∀ x∈s0.t.l,∀ n∈avNames x.2,n∈U∧n < s0.c) (h2:∀ x∈s0.m,x.1∈U∧x.1 < s0.c) (h3:∀ n b,get s0.m n=some b→∀ k∈blkN b,k∈U∧k < s0.c)
  (h4:∀ x∈s0'.t.l,∀ n∈avNames x.2,n∈U) (h5:∀ x∈s0'.m,x.1∈U) (h6:∀ n b,get s0'.m n=some b→∀ k∈blkN b,k∈U) :
  CodeDoes P B code ⟨⟨s0.t.n,rnL σ s0.t.l⟩,rnM σ s0.m,c⟩ e ⟨⟨s0'.t.n,rnL σ s0'.t.l⟩,rnM σ s0'.m,c'⟩:=by
 obtain ⟨h0,δ0,hag,hrun⟩:=h
 have hi:=hN.inj
 let L1:List Nat:=U.filter fun n=>(get s0'.m n).isSome
 let L2:List Nat:=U.filter fun n=>decide (n < s0.c)&&(get s0.m n).isSome
 let D:Mem:=(L1.map fun n=>(σ n,(get s0'.m n).map (rnB σ)))++L2.map fun n=>(σ n,none)
 have hL1:∀ x∈L1,x∈U:=fun x hx=>(List.mem_filter.1 hx).1
 have hL2:∀ x∈L2,x∈U:=fun x hx=>(List.mem_filter.1 hx).1
 have hDag:∀ M,Agree (rnM σ s0'.m) (upd D M):=by
  intro M a b hb
  obtain ⟨en,q1,q2⟩:=get_rnM_inv _ _ _ hb
  subst q2
  rw [get_rnM hi (h5 en q1) s0'.m h5] at hb
  have hin:en.1∈L1:=by
   refine List.mem_filter.2 ⟨h5 en q1,?_⟩
   cases hg:get s0'.m en.1 with
   | none=>rw [hg] at hb;cases hb
   | some z=>rfl
  rw [show D=_ from rfl,upd_append]
  rw [(upd_names hi (fun n=>(get s0'.m n).map (rnB σ)) _ L1 hL1).1 en.1 hin]
  exact hb
 have hDold:Touches (rnM σ s0.m) c c' D:=by
  intro x hx
  have key:∀ n∈U,(∃ b,get s0.m n=some b)→(∃ b,get (rnM σ s0.m) (σ n)=some b):=by
   intro n hn ⟨b,hb⟩
   exact ⟨rnB σ b,by rw [get_rnM hi hn s0.m (fun e he=>(h2 e he).1),hb];rfl⟩
  rcases List.mem_append.1 hx with hx|hx
  ·obtain ⟨n,hn,rfl⟩:=List.mem_map.1 hx
   obtain ⟨hnU,hg⟩:=List.mem_filter.1 hn
   obtain ⟨b,hb⟩:=Option.isSome_iff_exists.1 hg
   rcases hag.known hb with hk|hk
   ·exact .inl (key n hnU hk)
   ·exact .inr (hN.new n hnU hk.1).2
  ·obtain ⟨n,hn,rfl⟩:=List.mem_map.1 hx
   obtain ⟨hnU,hg⟩:=List.mem_filter.1 hn
   simp only [Bool.and_eq_true,decide_eq_true_eq] at hg
   exact .inl (key n hnU (Option.isSome_iff_exists.1 hg.2))
 refine ⟨hN.le,D,⟨fun M _=>hDag M,hDold⟩,fun ρ M ac w hd ht hm hfr hs Q hQ=>?_⟩
 have hKe:∃ K,s0'.c < K∧∀ e∈δ0,e.1 < K:=⟨s0'.c+(δ0.map (·.1)).sum+1,by omega,fun e he=>by
  have:=le_sum (l:=δ0.map (·.1)) (n:=e.1) (List.mem_map.2 ⟨e,he,rfl⟩)
  omega⟩
 obtain ⟨K,hK,hδ⟩:=hKe
 have hK0:s0.c≤K:=by omega
 have hρo:∀ n∈U,n < s0.c→pullR σ U s0.c K ρ n=ρ (σ n):=fun n hn hlt=>by
  have:=pullR_tau (σ:=σ) (U:=U) (c0:=s0.c) (K:=K) hi hK0 ρ (σ n)
  rwa [tau_old hi hn hlt] at this
 have hT:TR (pullR σ U s0.c K ρ) s0.t ac.tmps:=by
  refine ⟨ht.1,fun d=>?_⟩
  have:=ht.2 d
  unfold look at this
  rw [lk_rnL] at this
  refine this.unrn (fun _ _ _ x=>x) (fun n hn x hx=>?_)
  rcases lk_mem s0.t.l d with hq|hq
  ·rw [hq] at hn;simp [avNames] at hn
  ·obtain ⟨p1,p2⟩:=h1 _ hq n hn
   rw [hρo n p1 p2]
   exact hx
 have hMo:∀ n∈U,n < s0.c→(pull σ U s0.c K M n).map (rnB (tau σ U s0.c K))=(M (σ n)).map (rnB (tau σ U s0.c K)):=fun n hn hlt=>by
  have:=pull_tau (σ:=σ) (U:=U) (c0:=s0.c) (K:=K) hi hK0 M (σ n)
  rw [tau_old hi hn hlt] at this
  rw [this]
 have hA:Agree s0.m (fun j=>(pull σ U s0.c K M j).map (rnB (tau σ U s0.c K))):=by
  intro n b hb
  obtain ⟨p1,p2⟩:=h2 _ (get_mem _ _ _ hb)
  show (pull σ U s0.c K M n).map _=_
  rw [hMo n p1 p2]
  have hg:get (rnM σ s0.m) (σ n)=some (rnB σ b):=by
   rw [get_rnM hi p1 s0.m (fun e he=>(h2 e he).1),hb]
   rfl
  rw [hm _ _ hg]
  show some _=some b
  rw [rnB_inv (fun k hk=>tau_old hi (h3 n b hb k hk).1 (h3 n b hb k hk).2)]
 have hF:Fresh (pullR σ U s0.c K ρ) s0.c s0'.c:=fun n p q=>pull_none p (by omega)
 refine hrun _ _ ac w hd hT hA hF (start_ok hi hK0 hs) Q (fun ρe a' w' x1 x2 x3 x4 x5=>?_)
 obtain ⟨ρ',e0,e1,e2,e3⟩:=end_ok (m:=s0'.m) hN h0 hK hfr hs hδ x3 x4 (hag.ag _ hA) h5 h6
 refine hQ ρ' a' w' x1 ⟨x2.1,fun d=>?_⟩ e1 (e3 D (fun a b hb=>?_)) x5
 ·have:=x2.2 d
  unfold look at this ⊢
  rw [lk_rnL]
  refine this.rn (fun _ _ _ x=>by rw [e0];exact x) (fun n hn y hy=>?_)
  rcases lk_mem s0'.t.l d with hq|hq
  ·rw [hq] at hn;simp [avNames] at hn
  ·rw [e2 n (h4 _ hq n hn)];exact hy
 ·rw [show D=_ from rfl,upd_append] at hb
  by_cases hT1:∃ n∈L1,σ n=a
  ·obtain ⟨n,hn,rfl⟩:=hT1
   rw [(upd_names hi (fun n=>(get s0'.m n).map (rnB σ)) _ L1 hL1).1 n hn,Option.map_eq_some_iff] at hb
   obtain ⟨b0,g1,rfl⟩:=hb
   exact .inl ⟨n,hL1 n hn,rfl,b0,g1,rfl⟩
  ·have hT1':∀ n∈L1,σ n≠a:=fun n hn he=>hT1 ⟨n,hn,he⟩
   rw [(upd_names hi (fun n=>(get s0'.m n).map (rnB σ)) _ L1 hL1).2 a hT1'] at hb
   by_cases hT2:∃ n∈L2,σ n=a
   ·obtain ⟨n,hn,rfl⟩:=hT2
    rw [(upd_names hi (fun _=>none) _ L2 hL2).1 n hn] at hb
    cases hb
   ·have hT2':∀ n∈L2,σ n≠a:=fun n hn he=>hT2 ⟨n,hn,he⟩
    rw [(upd_names hi (fun _=>none) _ L2 hL2).2 a hT2'] at hb
    refine .inr ⟨hb,fun n hn hlt he ht=>?_⟩
    obtain ⟨z,hz,hz2⟩:=ht
    rcases hag.old z hz with ⟨b',hb'⟩|h
    ·rw [hz2] at hb'
     exact hT2 ⟨n,List.mem_filter.2 ⟨hn,by simp [hlt,hb']⟩,he⟩
    ·omega
theorem CallDoes.names {B:Nat} {f:FuncId} {args0:List AV} {m0 δ0 D0:Mem} {c0 c0':Nat} {v0:AV} (h:CallDoes P B f args0 m0 c0 v0 (δ0++m0) c0') (σ:Nat→Nat) (U:List Nat) {c c':Nat} (hN:Naming σ U c0 c0' c c')
  (h1:∀ x∈args0,∀ n∈avNames x,n∈U∧n < c0) (h2:∀ x∈m0,x.1∈U∧x.1 < c0) (h3:∀ n b,get m0 n=some b→∀ k∈blkN b,k∈U∧k < c0)
  (h4:∀ n∈avNames v0,n∈U) (h5:∀ x∈D0,x.1∈U) (h6:∀ n b,get D0 n=some b→∀ k∈blkN b,k∈U) (h7:∀ n b,get D0 n=some b→get (δ0++m0) n=some b) (h8:∀ e∈δ0,e.1 < c0→e.1∈U→∃ e'∈D0,e'.1=e.1) (h9:∀ x∈D0,x.1 < c0→∃ b,get m0 x.1=some b) :
  CallDoes P B f (args0.map (rnX σ)) (rnM σ m0) c (rnX σ v0) (rnM σ D0++rnM σ m0) c':=by
 obtain ⟨hE,h0,δ',hδ',_,hrun⟩:=h
 have:δ0=δ':=List.append_cancel_right hδ'
 subst this
 have hi:=hN.inj
 refine ⟨hE,hN.le,rnM σ D0,rfl,fun x hx=>?_,fun ρ M args' w hargs hm hfr hs=>?_⟩
 ·obtain ⟨z,hz,rfl⟩:=List.mem_map.1 hx
  by_cases hlt:z.1 < c0
  ·obtain ⟨b,hb⟩:=h9 z hz hlt
   exact .inl ⟨rnB σ b,by
    show get _ (σ z.1)=_
    rw [get_rnM hi (h5 z hz) m0 (fun e he=>(h2 e he).1),hb];rfl⟩
  ·exact .inr (hN.new z.1 (h5 z hz) (by omega)).2
 obtain ⟨K,hK,hδ⟩:∃ K,c0' < K∧∀ e∈δ0,e.1 < K:=⟨c0'+(δ0.map (·.1)).sum+1,by omega,fun e he=>by
  have:=le_sum (l:=δ0.map (·.1)) (n:=e.1) (List.mem_map.2 ⟨e,he,rfl⟩)
  omega⟩
 have hK0:c0≤K:=by omega
 have hρo:∀ n∈U,n < c0→pullR σ U c0 K ρ n=ρ (σ n):=fun n hn hlt=>by
  have:=pullR_tau (σ:=σ) (U:=U) (c0:=c0) (K:=K) hi hK0 ρ (σ n)
  rwa [tau_old hi hn hlt] at this
 have hT:ArgsR (pullR σ U c0 K ρ) args0 args':=by
  refine ⟨by simpa using hargs.1,fun i x y p q=>?_⟩
  refine (hargs.2 i (rnX σ x) y (by simp [p]) q).unrn (fun _ _ _ x=>x) (fun n hn z hz=>?_)
  obtain ⟨p1,p2⟩:=h1 x (List.mem_of_getElem? p) n hn
  rw [hρo n p1 p2]
  exact hz
 have hMo:∀ n∈U,n < c0→(pull σ U c0 K M n).map (rnB (tau σ U c0 K))=(M (σ n)).map (rnB (tau σ U c0 K)):=fun n hn hlt=>by
  have:=pull_tau (σ:=σ) (U:=U) (c0:=c0) (K:=K) hi hK0 M (σ n)
  rw [tau_old hi hn hlt] at this
  rw [this]
 have hA:Agree m0 (fun j=>(pull σ U c0 K M j).map (rnB (tau σ U c0 K))):=by
  intro n b hb
  obtain ⟨p1,p2⟩:=h2 _ (get_mem _ _ _ hb)
  show (pull σ U c0 K M n).map _=_
  rw [hMo n p1 p2]
  have hg:get (rnM σ m0) (σ n)=some (rnB σ b):=by
   rw [get_rnM hi p1 m0 (fun e he=>(h2 e he).1),hb]
   rfl
  rw [hm _ _ hg]
  show some _=some b
  rw [rnB_inv (fun k hk=>tau_old hi (h3 n b hb k hk).1 (h3 n b hb k hk).2)]
 have hF:Fresh (pullR σ U c0 K ρ) c0 c0':=fun n p q=>pull_none p (by omega)
 refine (hrun _ _ args' w hT hA hF (start_ok hi hK0 hs)).mono fun e w' ⟨v',hv,ρe,x3,x2,x4,x5⟩=>?_
 have hag:∀ n b,get D0 n=some b→upd δ0 (fun j=>(pull σ U c0 K M j).map (rnB (tau σ U c0 K))) n=some b:=fun n b hb=>upd_here hA δ0 n b (h7 n b hb)
 obtain ⟨ρ',e0,e1,e2,e3⟩:=end_ok (m:=D0) hN h0 hK hfr hs hδ x3 x4 hag h5 h6
 refine ⟨v',hv,ρ',e1,x2.rn (fun _ _ _ x=>by rw [e0];exact x) (fun n hn y hy=>by rw [e2 n (h4 n hn)];exact hy),?_,x5⟩
 refine e3 (rnM σ D0) (fun a b hb=>?_)
 by_cases hT1:Touch (rnM σ D0) a
 ·left
  rw [upd_in hT1 _ (fun _=>none)] at hb
  have hg:get (rnM σ D0) a=some b:=by
   have:=get_append (rnM σ D0) []
   rw [List.append_nil] at this
   rw [this]
   exact hb
  obtain ⟨en,q1,q2⟩:=get_rnM_inv _ _ _ hg
  subst q2
  rw [get_rnM hi (h5 en q1) D0 h5,Option.map_eq_some_iff] at hg
  obtain ⟨b0,g1,rfl⟩:=hg
  exact ⟨en.1,h5 en q1,rfl,b0,g1,rfl⟩
 ·right
  rw [upd_out hT1] at hb
  refine ⟨hb,fun n hn hlt he ht=>hT1 ?_⟩
  obtain ⟨en,q1,q2⟩:=ht
  obtain ⟨e',g1,g2⟩:=h8 en q1 (by omega) (by rw [q2];exact hn)
  refine ⟨(σ e'.1,e'.2.map (rnB σ)),List.mem_map.2 ⟨e',g1,rfl⟩,?_⟩
  show σ e'.1=a
  rw [g2,q2,he]
theorem CallDoes.of_code {B : Nat} {f : FuncId} {fn : Func} {body : Code} {args : List AV} {m : Mem} {c : Nat} {e : Ex} {s' : St} {v : AV} (hf : P.funcs[f]? = some fn) (hb : fn.body = some body) (hname : (fn.name == "runtime.NumGoroutine") = false)
  {k:Nat} (hk:args.length+(fn.ntmps - args.length)=k) (h:CodeDoes P B body ⟨⟨k,enum 0 args⟩,m,c⟩ e s') (he:e=.normal∨e=.ret) (hr:evResults P fn s'=some v) (D:Mem)
  (h1:∀ n b,get D n=some b→get s'.m n=some b) (h2:∀ n b,get m n=some b→∃ x∈D,x.1=n) (h3:∀ x∈D,(∃ b,get m x.1=some b)∨(c≤x.1∧x.1 < s'.c)):CallDoes P B f args m c v (D++m) s'.c:=by
 subst hk
 refine CallDoes.of_body hf hb hname h he hr D rfl h3 (fun ρ M hA hfr n b hub δ0 hst=>?_)
 by_cases hT:Touch D n
 ·rw [upd_in hT _ (fun _=>none)] at hub
  have hg:get D n=some b:=by
   have:=get_append D []
   rw [List.append_nil] at this
   rw [this]
   exact hub
  exact hst.ag M hA n b (h1 n b hg)
 ·rw [upd_out hT] at hub
  have:¬ Touch δ0 n:=by
   rintro ⟨z,hz,rfl⟩
   rcases hst.old z hz with ⟨b',hb'⟩|h
   ·exact hT (h2 _ _ hb')
   ·rw [hfr _ h.1 h.2] at hub;cases hub
  rw [upd_out this]
  exact hub
structure Bare {α:Type} (f:α→List SV):Prop where
 names:∀ x,∀ v∈f x,svNames v=[]
 fn:∀ x,∀ v∈f x,∀ g cs,v≠.fn g cs
theorem flat_mem {α:Type} {f:α→List SV}:∀ {l:List α} {v:SV},v∈flat f l→∃ x,v∈f x
 | x :: r,v,h=>by
  simp only [flat,List.mem_append] at h
  rcases h with h|h
  ·exact ⟨x,h⟩
  ·exact flat_mem h
theorem get_cons_some {k n:Nat} {x:Option Blk} {m:Mem} {b:Blk} (h:get ((k,x) :: m) n=some b):(k=n∧x=some b)∨get m n=some b:=by
 simp only [get] at h
 split at h
 ·rename_i e;exact .inl ⟨e,h⟩
 ·exact .inr h
theorem names_get {m:Mem} {U:List Nat} {c:Nat} (h:∀ e∈m,∀ b,e.2=some b→∀ k∈blkN b,k∈U∧k < c):∀ n b,get m n=some b→∀ k∈blkN b,k∈U∧k < c:=fun n b hb k hk=>h _ (get_mem _ _ _ hb) b rfl k hk
theorem names_get' {m:Mem} {U:List Nat} (h:∀ e∈m,∀ b,e.2=some b→∀ k∈blkN b,k∈U):∀ n b,get m n=some b→∀ k∈blkN b,k∈U:=fun n b hb k hk=>h _ (get_mem _ _ _ hb) b rfl k hk
end Go.Proofs.Ytaelliigpclipaa.Eng
