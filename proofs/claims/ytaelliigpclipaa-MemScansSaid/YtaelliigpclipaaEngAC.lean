/- The reckoner with answers: code,and what is claimed of it. -/
import Derived.Test.YtaelliigpclipaaEngAB
namespace Go.Proofs.Ytaelliigpclipaa.Eng
set_option linter.unusedVariables false
set_option linter.unusedSimpArgs false
open Go Go.RowKit
variable {P:Program}
theorem CodeDoes.pure {B:Nat} {code:Code} {s:St} {e:Ex} (h:evS P (fun _ _ _ _=>none) code s=some (e,s)) (hmix:P.follows .mixedOrders=true):CodeDoes P B code s e s :=
 evS_does hmix noCall_ok noCall_touch h
theorem codeA_ok {B:Nat} (hmix:P.follows .mixedOrders=true):∀ (code:Code) (s:FA) (e:Ex) (s':FA),codeA P B code s=some (e,s')→SemA P B code s e s'
 | .skip,s,e,s',h=>by
  simp only [codeA,Option.some.injEq,Prod.mk.injEq] at h
  obtain ⟨rfl,rfl⟩:=h
  exact ⟨[],rfl,fun _ t m ht hm=>⟨t,m,CodeDoes.pure rfl hmix,ht,hm⟩⟩
 | .label l,s,e,s',h=>by
  simp only [codeA,Option.some.injEq,Prod.mk.injEq] at h
  obtain ⟨rfl,rfl⟩:=h
  exact ⟨[],rfl,fun _ t m ht hm=>⟨t,m,CodeDoes.pure rfl hmix,ht,hm⟩⟩
 | .exit i,s,e,s',h=>by
  simp only [codeA,Option.some.injEq,Prod.mk.injEq] at h
  obtain ⟨rfl,rfl⟩:=h
  exact ⟨[],rfl,fun _ t m ht hm=>⟨t,m,CodeDoes.pure rfl hmix,ht,hm⟩⟩
 | .ret,s,e,s',h=>by
  simp only [codeA,Option.some.injEq,Prod.mk.injEq] at h
  obtain ⟨rfl,rfl⟩:=h
  exact ⟨[],rfl,fun _ t m ht hm=>⟨t,m,CodeDoes.pure rfl hmix,ht,hm⟩⟩
 | .region id ops draw,s,e,s',h=>by
  simp only [codeA] at h
  split at h
  ·rename_i s1 h1
   simp only [Option.some.injEq,Prod.mk.injEq] at h
   obtain ⟨rfl,rfl⟩:=h
   exact regA_ok hmix h1
  ·cases h
 | .seq a b,s,e,s',h=>by
  simp only [codeA] at h
  split at h
  ·rename_i s1 h1
   obtain ⟨L1,a1,a2⟩:=codeA_ok hmix a _ _ _ h1
   obtain ⟨L2,b1,b2⟩:=codeA_ok hmix b _ _ _ h
   refine ⟨L2++L1,by rw [b1,a1,List.append_assoc],fun hL t m ht hm=>?_⟩
   obtain ⟨q2,q1⟩:=All.append hL
   obtain ⟨t1,m1,c1,c2,c3⟩:=a2 q1 t m ht hm
   obtain ⟨t2,m2,d1,d2,d3⟩:=b2 q2 t1 m1 c2 c3
   exact ⟨t2,m2,c1.seq d1,d2,d3⟩
  ·rename_i hne
   obtain ⟨L1,a1,a2⟩:=codeA_ok hmix a _ _ _ h
   refine ⟨L1,a1,fun hL t m ht hm=>?_⟩
   obtain ⟨t1,m1,c1,c2,c3⟩:=a2 hL t m ht hm
   exact ⟨t1,m1,c1.seq_out (fun he=>by subst he;exact hne _ h),c2,c3⟩
 | .cond x a b,s,e,s',h=>by
  simp only [codeA] at h
  split at h
  ·rename_i hq
   obtain ⟨L1,a1,a2⟩:=codeA_ok hmix a _ _ _ h
   refine ⟨L1,a1,fun hL t m ht hm=>?_⟩
   obtain ⟨t1,m1,c1,c2,c3⟩:=a2 hL t m ht hm
   rw [ht.2] at hq
   exact ⟨t1,m1,CodeDoes.cond hq (by rw [if_pos rfl];exact c1),c2,c3⟩
  ·rename_i hq
   obtain ⟨L1,a1,a2⟩:=codeA_ok hmix b _ _ _ h
   refine ⟨L1,a1,fun hL t m ht hm=>?_⟩
   obtain ⟨t1,m1,c1,c2,c3⟩:=a2 hL t m ht hm
   rw [ht.2] at hq
   exact ⟨t1,m1,CodeDoes.cond hq (by rw [if_neg (by decide)];exact c1),c2,c3⟩
  ·cases h
 | .block id body,s,e,s',h=>by
  simp only [codeA] at h
  split at h
  ·rename_i id' s1 h1
   obtain ⟨L1,a1,a2⟩:=codeA_ok hmix body _ _ _ h1
   split at h
   ·rename_i hid
    have hid:=Nat.eq_of_beq_eq_true hid
    subst hid
    simp only [Option.some.injEq,Prod.mk.injEq] at h
    obtain ⟨rfl,rfl⟩:=h
    refine ⟨L1,a1,fun hL t m ht hm=>?_⟩
    obtain ⟨t1,m1,c1,c2,c3⟩:=a2 hL t m ht hm
    exact ⟨t1,m1,c1.block_exit,c2,c3⟩
   ·rename_i hid
    have hid:id'≠id:=by
     intro he
     subst he
     rw [show Nat.beq id' id'=true from by simp] at hid
     cases hid
    simp only [Option.some.injEq,Prod.mk.injEq] at h
    obtain ⟨rfl,rfl⟩:=h
    refine ⟨L1,a1,fun hL t m ht hm=>?_⟩
    obtain ⟨t1,m1,c1,c2,c3⟩:=a2 hL t m ht hm
    exact ⟨t1,m1,c1.block_out hid,c2,c3⟩
  ·rename_i hne
   obtain ⟨L1,a1,a2⟩:=codeA_ok hmix body _ _ _ h
   refine ⟨L1,a1,fun hL t m ht hm=>?_⟩
   obtain ⟨t1,m1,c1,c2,c3⟩:=a2 hL t m ht hm
   exact ⟨t1,m1,c1.block (fun i he=>by subst he;exact hne _ _ h),c2,c3⟩
 | .loop body,s,e,s',h=>by
  simp only [codeA] at h
  unfold loopA at h
  split at h
  ·rename_i q kk r htape
   split at h
   ·have key:∀ (kk:Nat) (s:FA) (e:Ex) (s':FA),roundsA (codeA P B body) kk s=some (e,s')→∃ L,s'.cl=L++s.cl∧(All L→∀ t m,RelS s.n s.S t→RelM s.T m→∃ t' m',LoopDoes P B body ⟨t,m,s.c⟩ e ⟨t',m',s'.c⟩∧RelS s'.n s'.S t'∧RelM s'.T m'):=by
     intro kk
     induction kk with
     | zero=>intro s e s' h;cases h
     | succ kk ih =>
      intro s e s' h
      have h:(match codeA P B body s with|some (.normal,s')=>roundsA (codeA P B body) kk s'|r=>r)=some (e,s'):=h
      split at h
      ·rename_i s1 h1
       obtain ⟨L1,a1,a2⟩:=codeA_ok hmix body _ _ _ h1
       obtain ⟨L2,b1,b2⟩:=ih _ _ _ h
       refine ⟨L2++L1,by rw [b1,a1,List.append_assoc],fun hL t m ht hm=>?_⟩
       obtain ⟨q2,q1⟩:=All.append hL
       obtain ⟨t1,m1,c1,c2,c3⟩:=a2 q1 t m ht hm
       obtain ⟨t2,m2,d1,d2,d3⟩:=b2 q2 t1 m1 c2 c3
       exact ⟨t2,m2,LoopDoes.more c1 d1,d2,d3⟩
      ·rename_i hne
       obtain ⟨L1,a1,a2⟩:=codeA_ok hmix body _ _ _ h
       refine ⟨L1,a1,fun hL t m ht hm=>?_⟩
       obtain ⟨t1,m1,c1,c2,c3⟩:=a2 hL t m ht hm
       exact ⟨t1,m1,LoopDoes.last c1 (fun he=>by subst he;exact hne _ h),c2,c3⟩
    obtain ⟨L,a1,a2⟩:=key _ _ _ _ h
    refine ⟨L,a1,fun hL t m ht hm=>?_⟩
    obtain ⟨t1,m1,c1,c2,c3⟩:=a2 hL t m ht hm
    exact ⟨t1,m1,c1.code,c2,c3⟩
   ·cases h
  ·rename_i q dl nl e1 s1 r htape
   split at h
   ·obtain ⟨S1,h1,h2⟩:=slotsK_ok _ _ _ h
    obtain ⟨T1,h3,h4⟩:=putsU_ok _ _ _ _ h1
    simp only [Option.some.injEq,Prod.mk.injEq] at h3
    obtain ⟨rfl,rfl⟩:=h3
    refine ⟨[_],rfl,fun hL t m ht hm=>⟨s1.t,s1.m,?_,⟨rfl,funext h2⟩,?_⟩⟩
    ·refine CodeDoes.before (s1:=pickA dl nl s) hL.1 ⟨ht.1.symm,fun d=>?_,fun q b hb=>?_,rfl⟩
     ·show look _ d=.any∨_
      unfold pickA look
      rw [lk_map]
      split
      ·right;exact congrFun ht.2 d
      ·left;rfl
     ·unfold pickA at hb
      simp only at hb
      rw [get_map] at hb
      split at hb
      ·rw [← show mg s.T=get m from hm];exact hb
      ·cases hb
    ·have:=h4 [] (show RelM .e [] from rfl)
     rw [List.append_nil] at this
     exact this
   ·cases h
  ·cases h
 | .rangeFunc ..,_,_,_,h=>by simp [codeA] at h
 | .scope _,_,_,_,h=>by simp [codeA] at h
 | .goto _,_,_,_,h=>by simp [codeA] at h
 | .refuse _,_,_,_,h=>by simp [codeA] at h
theorem goA_ok {B:Nat} (hmix:P.follows .mixedOrders=true) {code:Code} {s s1:St} {tape:List (Nat × Ans)} {dl nl:List Nat} {e:Ex} {C:List Prop} (h:goA P B code s tape dl nl=some (e,s1,C)) (hC:All C):CodeDoes P B code s e s1:=by
 unfold goA at h
 obtain ⟨S,h1,h2⟩:=slotsK_ok _ _ _ h
 obtain ⟨T,h3,h4⟩:=putsU_ok _ _ _ _ h1
 split at h3
 ·rename_i e' s' he
  simp only [Option.some.injEq,Prod.mk.injEq] at h3
  obtain ⟨rfl,rfl,rfl⟩:=h3
  have hm:=h4 [] (show RelM .e [] from rfl)
  rw [List.append_nil] at hm
  obtain ⟨L,a1,a2⟩:=codeA_ok hmix _ _ _ _ he
  rw [List.append_nil] at a1
  obtain ⟨t',m',b1,b2,b3⟩:=a2 (by rw [← a1];exact hC) s.t s.m ⟨rfl,funext h2⟩ hm
  refine b1.after ⟨b2.1.symm,fun d=>?_,fun q b hb=>?_,rfl⟩
  ·show look _ d=.any∨_
   unfold pickA look
   rw [lk_map]
   split
   ·right;exact congrFun b2.2 d
   ·left;rfl
  ·unfold pickA at hb
   simp only at hb
   rw [get_map] at hb
   split at hb
   ·rw [← show mg s'.T=get m' from b3];exact hb
   ·cases hb
 ·cases h3
end Go.Proofs.Ytaelliigpclipaa.Eng
