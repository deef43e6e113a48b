/- Contracts under other names,and blocks of which less is told. -/
import Derived.Test.YtaelliigpclipaaEngGr
namespace Go.Proofs.Ytaelliigpclipaa.Eng
set_option linter.unusedVariables false
set_option linter.unusedSimpArgs false
open Go Go.RowKit
variable {P:Program}
theorem get_appl:∀ {x m:Mem} {n:Nat} {b:Blk},get x n=some b→get (x++m) n=some b
 | (k,y) :: r,m,n,b,h=>by
  have h:(if k=n then y else get r n)=some b:=h
  show (if k=n then y else get (r++m) n)=some b
  split at h
  ·rename_i e;rw [if_pos e];exact h
  ·rename_i e;rw [if_neg e];exact get_appl h
theorem call_gen {B : Nat} {f : FuncId} {fn : Func} {body : Code} {args0 args : List AV} {m0 D m δ : Mem} {c0 c c' k : Nat} {v0 v : AV} {e : Ex} {s' : St} (hf : P.funcs[f]? = some fn) (hb : fn.body = some body) (hname : (fn.name == "runtime.NumGoroutine") = false) (hk : args0.length + (fn.ntmps - args0.length) = k)
  (h:CodeDoes P B body ⟨⟨k,enum 0 args0⟩,m0,c0⟩ e s') (he:e=.normal∨e=.ret) (hr:evResults P fn s'=some v0) (σ:Nat→Nat) (U:List Nat) (hN:Naming σ U c0 s'.c c c')
  (hD:∀ n b,get D n=some b→get s'.m n=some b) (hall:∀ x∈m0,∃ y∈D,y.1=x.1) (hDn:∀ x∈D,(∃ b,get m0 x.1=some b)∨(c0≤x.1∧x.1 < s'.c)) (hDU:∀ x∈D,x.1∈U)
  (ha:∀ x∈args0,∀ n∈avNames x,n∈U∧n < c0) (hm0:∀ x∈m0,(x.1∈U∧x.1 < c0)∧∀ b,x.2=some b→∀ k∈blkN b,k∈U∧k < c0) (hDb:∀ x∈D,∀ b,x.2=some b→∀ k∈blkN b,k∈U) (hv0:∀ n∈avNames v0,n∈U)
  (har:args0.map (rnX σ)=args) (hm:rnM σ m0=m) (hd:rnM σ D=δ) (hv:rnX σ v0=v):CallDoes P B f args m c v (δ++m) c':=by
 subst har hm hd hv
 have h1:=CallDoes.of_code hf hb hname hk h he hr D hD (fun n b hb=>hall _ (get_mem _ _ _ hb)) hDn
 exact h1.names (D0:=D) σ U hN ha (fun x hx=>(hm0 x hx).1) (fun n b hb=>(hm0 _ (get_mem _ _ _ hb)).2 b rfl) hv0 hDU (fun n b hb=>hDb _ (get_mem _ _ _ hb) b rfl) (fun n b hb=>get_appl hb) (fun e he _ _=>⟨e,he,rfl⟩) (fun x hx hlt=>by
  rcases hDn x hx with h|h
  ·exact h
  ·omega)
theorem CodeDoes.trunc {B:Nat} {code:Code} {s:St} {e:Ex} {t:Tm} {m:Mem} {c:Nat} (n:Nat) {pre post:List SV} {o:Bool} (h:CodeDoes P B code s e ⟨t,m,c⟩) (hb:get m n=some ⟨pre++post,o⟩):CodeDoes P B code s e ⟨t,(n,some ⟨pre,o⟩) :: m,c⟩:=by
 obtain ⟨a1,δ,a2,a3⟩:=h
 refine ⟨a1,(n,some ⟨pre,o⟩) :: δ,⟨fun M hM k b hk=>?_,fun x hx=>?_⟩,fun ρ M a w hd ht hA hfr hs Q hQ=>a3 ρ M a w hd ht hA hfr hs Q (fun ρ1 a' w' x1 x2 x3 x4 x5=>hQ ρ1 a' w' x1 x2 x3 ?_ x5)⟩
 ·rw [upd_cons,upd_one]
  have hk:(if n=k then some (⟨pre,o⟩:Blk) else get m k)=some b:=hk
  split at hk
  ·rename_i e0;rw [if_pos e0];exact hk
  ·rename_i e0;rw [if_neg e0];exact a2.ag M hM k b hk
 ·rcases List.mem_cons.1 hx with rfl|hx
  ·exact a2.known hb
  ·exact a2.old x hx
 ·have hM:upd δ M n=some ⟨pre++post,o⟩:=a2.ag M hA n _ hb
  have hu:∀ k,upd ((n,some ⟨pre,o⟩) :: δ) M k=if n=k then some ⟨pre,o⟩ else upd δ M k:=fun k=>by rw [upd_cons,upd_one]
  have back:∀ k b,upd ((n,some ⟨pre,o⟩) :: δ) M k=some b→∃ b',upd δ M k=some b'∧b'.own=b.own∧∃ r,b'.cells=b.cells++r:=fun k b hk=>by
   rw [hu] at hk
   split at hk
   ·rename_i e0;subst e0
    obtain rfl:=Option.some.inj hk
    exact ⟨_,hM,rfl,post,rfl⟩
   ·exact ⟨b,hk,rfl,[],by simp⟩
  refine ⟨x4.heap,fun k b hk=>?_,fun k k' b b' l l' hk hk' hne ho hl hl'=>?_,x4.frz,fun k b l hk ho hl o'=>?_⟩
  ·obtain ⟨b',q1,q2,r,q3⟩:=back k b hk
   obtain ⟨l,h1,h2,h3,h4,h5⟩:=x4.here k b' q1
   refine ⟨l,h1,h2,?_,fun i v hv=>h4 i v ?_,fun ho=>h5 (by rw [q2];exact ho)⟩
   ·rw [q3,List.length_append] at h3;omega
   ·rw [q3,List.getElem?_append_left (List.getElem?_eq_some_iff.1 hv).1];exact hv
  ·obtain ⟨b1,q1,q2,_⟩:=back k b hk
   obtain ⟨b2,p1,_⟩:=back k' b' hk'
   exact x4.apart k k' b1 b2 l l' q1 p1 hne (by rw [q2];exact ho) hl hl'
  ·obtain ⟨b1,q1,q2,_⟩:=back k b hk
   exact x4.fown k b1 l q1 (by rw [q2];exact ho) hl o'
theorem hD_of {D m:Mem} (h:∀ x∈D,x.2=none∨get m x.1=x.2):∀ n b,get D n=some b→get m n=some b:=fun n b hb=>by
 rcases h _ (get_mem _ _ _ hb) with h|h
 ·cases h
 ·exact h
theorem orVal {B:Nat} {f:FuncId} {args:List AV} {c:Nat} {v:AV} (h:ValDoes P f args v):CallDoes P B f args [] c v ([]++[]) c:=h B c
end Go.Proofs.Ytaelliigpclipaa.Eng
