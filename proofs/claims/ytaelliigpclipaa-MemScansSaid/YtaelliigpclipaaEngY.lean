/- The reckoner: functions that change nothing that was there,and tell no memory;calls of them. -/
import Derived.Test.YtaelliigpclipaaEngX
import Derived.Test.YtaelliigpclipaaEngQ
namespace Go.Proofs.Ytaelliigpclipaa.Eng
set_option linter.unusedVariables false
set_option linter.unusedSimpArgs false
open Go Go.RowKit
variable {P:Program}
def PureDoes (P:Program) (f:FuncId) (args:List AV) (m:Mem) (c:Nat) (v:AV):Prop:=Enters P f∧∀ B ρ M args' w,ArgsR ρ args args'→Agree m M→(∀ n,c≤n→ρ n=none)→Sat B ρ M w →
 Calls P f args' w fun e w'=>∃ v' ρ',e=.returned v'∧VR ρ' v v'∧Below B w w'
theorem PureDoes.of_eval (hmix:P.follows .mixedOrders=true) {n:Nat} {f:FuncId} {args:List AV} {m:Mem} {c:Nat} {v:AV} (h:(callQ P (evQ P n) f args m c).map (·.1)=some v):PureDoes P f args m c v:=by
 cases hc:callQ P (evQ P n) f args m c with
 | none=>rw [hc] at h;cases h
 | some p =>
  obtain ⟨v0,m',c'⟩:=p
  rw [hc] at h
  obtain rfl:v0=v:=by simpa using h
  rw [callQ_eq,evQ_eq] at hc
  have hk:∀ B,_:=fun B=>callF_ok (B:=B) (evF_ok hmix n).1 f args m c _ _ _ hc
  refine ⟨(hk 0).1,fun B ρ M args' w ha hm hfr hs=>?_⟩
  obtain ⟨_,_,δ,_,h3⟩:=hk B
  exact (h3 ρ M args' w ha hm (fun n p _=>hfr n p) hs).mono fun e w' ⟨v',h1,ρ',_,h4,_,h5⟩=>⟨v',ρ',h1,h4,h5⟩
def rnV (σ:Nat→Nat):SV→SV
 | .ptr n off=>.ptr (σ n) off
 | .sl n off len cap sz=>.sl (σ n) off len cap sz
 | .slE n=>.slE (σ n)
 | .fn f cs=>.fn f (cs.map fun p=>(σ p.1,p.2))
 | v=>v
def rnA (σ:Nat→Nat):AV→AV
 | .s v=>.s (rnV σ v)
 | .agg l=>.agg (l.map (rnV σ))
 | v=>v
def ltV (c:Nat):SV→Prop
 | .ptr n _=>n < c
 | .sl n _ _ _ _=>n < c
 | .slE n=>n < c
 | .fn _ cs=>∀ p∈cs,p.1 < c
 | _=>True
def ltA (c:Nat):AV→Prop
 | .s v=>ltV c v
 | .agg l=>∀ v∈l,ltV c v
 | .any=>True
 | .no=>True
 | .tup _=>False
def bareV:SV→Bool
 | .ptr _ _=>false
 | .sl ..=>false
 | .slE _=>false
 | .fn _ _=>false
 | .slv ..=>false
 | .ptv _=>false
 | _=>true
def bareA:AV→Bool
 | .s v=>bareV v
 | .agg l=>l.all bareV
 | .any=>true
 | .no=>true
 | .tup l=>l.all fun p=>p.2.all bareV
def under (ρ:Rho) (σ:Nat→Nat) (c:Nat):Rho:=⟨fun n=>if n < c then ρ (σ n) else none,ρ.fz⟩
theorem under_lt {ρ:Rho} {σ:Nat→Nat} {c n:Nat} (h:n < c):under ρ σ c n=ρ (σ n):=if_pos h
theorem SR.under {ρ:Rho} {σ:Nat→Nat} {c:Nat} {v:SV} {u:Value} (h:SR ρ (rnV σ v) u) (hl:ltV c v):SR (under ρ σ c) v u:=by
 cases v with
 | ptr n off =>
  obtain ⟨l,a,b⟩:=h
  exact ⟨l,by rw [under_lt (show n < c from hl)];exact a,b⟩
 | sl n off len cap sz =>
  obtain ⟨l,cp,a,b⟩:=h
  exact ⟨l,cp,by rw [under_lt (show n < c from hl)];exact a,b⟩
 | fn f cs =>
  obtain ⟨us,a,b,d⟩:=h
  refine ⟨us,a,by simpa using b,fun i p q hp hq=>?_⟩
  obtain ⟨l,e1,e2⟩:=d i (σ p.1,p.2) q (by simp [hp]) hq
  exact ⟨l,by rw [under_lt (hl p (List.mem_of_getElem? hp))];exact e1,e2⟩
 | slv len cap sz cs=>exact h
 | ptv cs=>exact h
 | _=>exact h
theorem CR.under {ρ:Rho} {σ:Nat→Nat} {c:Nat} {l:List SV} {us:List Value} (h:CR ρ (l.map (rnV σ)) us) (hl:∀ v∈l,ltV c v):CR (under ρ σ c) l us :=
 ⟨by simpa using h.1,fun i v u p q=>(h.2 i (rnV σ v) u (by simp [p]) q).under (hl v (List.mem_of_getElem? p))⟩
theorem VR.under {ρ:Rho} {σ:Nat→Nat} {c:Nat} {v:AV} {u:Value} (h:VR ρ (rnA σ v) u) (hl:ltA c v):VR (under ρ σ c) v u:=by
 cases v with
 | any=>trivial
 | no=>exact h
 | s v=>exact SR.under h hl
 | agg l=>obtain ⟨us,a,b⟩:=h;exact ⟨us,a,b.under hl⟩
 | tup l=>exact hl.elim
theorem SR.bare {ρ ρ':Rho} {v:SV} {u:Value} (h:SR ρ v u) (hb:bareV v=true):SR ρ' v u:=by cases v<;>first|exact h|cases hb
theorem VR.bare {ρ ρ':Rho} {v:AV} {u:Value} (h:VR ρ v u) (hb:bareA v=true):VR ρ' v u:=by
 cases v with
 | any=>trivial
 | no=>exact h
 | s v=>exact SR.bare h hb
 | agg l =>
  obtain ⟨us,a,b⟩:=h
  exact ⟨us,a,b.1,fun i v c p q=>(b.2 i v c p q).bare ((List.all_eq_true.1 hb) v (List.mem_of_getElem? p))⟩
 | tup l =>
  obtain ⟨us,a,b,d⟩:=h
  refine ⟨us,a,b,fun i x y p q=>?_⟩
  obtain ⟨v,e,f⟩:=d i x y p q
  have hx:=(List.all_eq_true.1 hb) x (List.mem_of_getElem? p)
  refine ⟨v,e,?_⟩
  obtain ⟨g,cs⟩:=x
  cases v with
  | any=>exact f
  | no=>exact f
  | tup _=>exact f
  | s v =>
   have hm:v∈cs:=by
    unfold ofComp at e
    split at e
    ·rename_i w hw
     obtain ⟨_,rfl⟩:=Prod.mk.inj hw
     obtain rfl:w=v:=by simpa using e
     simp
    ·cases e
    ·cases e
   exact SR.bare f ((List.all_eq_true.1 hx) v hm)
  | agg l =>
   obtain ⟨us,a,b⟩:=f
   have hm:l=cs:=by
    unfold ofComp at e
    split at e
    ·cases e
    ·rename_i cs' hw
     obtain ⟨_,rfl⟩:=Prod.mk.inj hw
     simpa using e.symm
    ·cases e
   subst hm
   exact ⟨us,a,b.1,fun i v c p q=>(b.2 i v c p q).bare ((List.all_eq_true.1 hx) v (List.mem_of_getElem? p))⟩
theorem PureDoes.call {B:Nat} {f:FuncId} {args0:List AV} {m0:Mem} {c0:Nat} {v:AV} (h:PureDoes P f args0 m0 c0 v) (hb:bareA v=true) (σ:Nat→Nat) {args:List AV} {m:Mem} (c:Nat) (ha:args=args0.map (rnA σ)) (hlt:∀ x∈args0,ltA c0 x)
  (hm:∀ n b,get m0 n=some b→n < c0∧b.own=false∧(∀ v∈b.cells,ltV c0 v)∧∃ b',get m (σ n)=some b'∧b'.cells=b.cells.map (rnV σ)):CallDoes P B f args m c v m c:=by
 obtain ⟨he,h⟩:=h
 refine ⟨he,Nat.le_refl _,[],rfl,fun x hx=>by simp at hx,fun ρ M args' w hA hM hfr hs=>?_⟩
 have hS:Sat w.heap.size (under ρ σ c0) (get m0) w:=by
  refine ⟨Nat.le_refl _,fun n b hn=>?_,fun n n' b b' l l' hn _ _ ho=>?_,hs.frz,fun n b l hn ho=>?_⟩
  ·obtain ⟨a1,a2,a3,b',a4,a5⟩:=hm n b hn
   obtain ⟨l,e1,e2,e3,e4,_⟩:=hs.here (σ n) b' (hM _ _ a4)
   refine ⟨l,by rw [under_lt a1];exact e1,e2,by rw [a5] at e3;simpa using e3,fun i v hv=>?_,fun ho=>by rw [a2] at ho;cases ho⟩
   obtain ⟨u,f1,f2⟩:=e4 i (rnV σ v) (by rw [a5];simp [hv])
   exact ⟨u,f1,f2.under (a3 v (List.mem_of_getElem? hv))⟩
  ·obtain ⟨_,a2,_⟩:=hm n b hn
   rw [a2] at ho
   cases ho
  ·obtain ⟨_,a2,_⟩:=hm n b hn
   rw [a2] at ho
   cases ho
 have hargs:ArgsR (under ρ σ c0) args0 args':=by
  subst ha
  refine ⟨by simpa using hA.1,fun i x y p q=>(hA.2 i (rnA σ x) y (by simp [p]) q).under (hlt x (List.mem_of_getElem? p))⟩
 refine (h w.heap.size (under ρ σ c0) (get m0) args' w hargs (fun _ _ h=>h) (fun n hn=>if_neg (by omega)) hS).mono fun e w' ⟨v',ρ',h1,h2,h3⟩=>⟨v',h1,ρ,Ext.refl _ _ _,h2.bare hb,?_,h3.mono hs.heap⟩
 rw [upd_nil]
 exact hs.keep h3.size (fun a ha=>h3.cell ha) (fun b o hb=>h3.frozen (p:=⟨b,o,none⟩) hb)
def exactly:List (FuncId × List AV × Mem × Nat × AV × Mem × Nat)→CallF
 | []=>fun _ _ _ _=>none
 | (g,as,m0,c0,r) :: l=>fun f args m c=>if f=g∧args=as∧m=m0∧c=c0 then some r else exactly l f args m c
theorem exactly_ok {B:Nat}:∀ {l:List (FuncId × List AV × Mem × Nat × AV × Mem × Nat)},(∀ x∈l,CallDoes P B x.1 x.2.1 x.2.2.1 x.2.2.2.1 x.2.2.2.2.1 x.2.2.2.2.2.1 x.2.2.2.2.2.2)→CallOk P B (exactly l)
 | [],_=>fun _ _ _ _ _ _ _ h=>by cases h
 | (g,as,m0,c0,v0,m1,c1) :: l,hl=>fun f args m c v m' c' h=>by
  simp only [exactly] at h
  split at h
  ·rename_i hc
   obtain ⟨rfl,rfl,rfl,rfl⟩:=hc
   simp only [Option.some.injEq,Prod.mk.injEq] at h
   obtain ⟨rfl,rfl,rfl⟩:=h
   exact (hl _ (List.mem_cons_self ..)).ok
  ·exact exactly_ok (fun x hx=>hl x (List.mem_cons_of_mem _ hx)) f args m c v m' c' h
theorem exactly_touch {B:Nat}:∀ {l:List (FuncId × List AV × Mem × Nat × AV × Mem × Nat)},(∀ x∈l,CallDoes P B x.1 x.2.1 x.2.2.1 x.2.2.2.1 x.2.2.2.2.1 x.2.2.2.2.2.1 x.2.2.2.2.2.2)→TouchOk (exactly l)
 | [],_=>fun _ _ _ _ _ _ _ h=>by cases h
 | (g,as,m0,c0,v0,m1,c1) :: l,hl=>fun f args m c v m' c' h=>by
  simp only [exactly] at h
  split at h
  ·rename_i hc
   obtain ⟨rfl,rfl,rfl,rfl⟩:=hc
   simp only [Option.some.injEq,Prod.mk.injEq] at h
   obtain ⟨rfl,rfl,rfl⟩:=h
   exact (hl _ (List.mem_cons_self ..)).ahead
  ·exact exactly_touch (fun x hx=>hl x (List.mem_cons_of_mem _ hx)) f args m c v m' c' h
end Go.Proofs.Ytaelliigpclipaa.Eng
