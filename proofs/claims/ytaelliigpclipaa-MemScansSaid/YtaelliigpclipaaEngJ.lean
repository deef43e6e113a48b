/- The reckoner: whole functions. -/
import Derived.Test.YtaelliigpclipaaEngI
import Derived.LoopN
namespace Go.Proofs.Ytaelliigpclipaa.Eng
set_option linter.unusedVariables false
set_option linter.unusedSimpArgs false
open Go Go.RowKit
variable {P:Program}
theorem lk_enum:∀ (l:List AV) (k d:Nat),lk (enum k l) d=if k≤d then (l[d - k]?).getD .any else .any
 | [],k,d=>by simp [enum,lk]
 | x :: r,k,d=>by
  simp only [enum,lk]
  by_cases h:k=d
  ·subst h;simp
  ·rw [if_neg h,lk_enum r (k+1) d]
   by_cases h2:k≤d
   ·rw [if_pos h2,if_pos (by omega),show d - k=(d - (k+1))+1 from by omega,List.getElem?_cons_succ]
   ·rw [if_neg h2,if_neg (by omega)]
theorem call_ok {B:Nat} {rec:Code→St→Option (Ex × St)} (hrec:CodeOk P B rec):CallOk P B (callEv P rec):=by
 intro f args m c v m' c' h
 unfold callEv at h
 cases hf:P.funcs[f]? with
 | none=>rw [hf] at h;cases h
 | some fn =>
  rw [hf] at h
  simp only at h
  cases hb:fn.body with
  | none=>rw [hb] at h;cases h
  | some body =>
   rw [hb] at h
   simp only at h
   split at h
   ·cases h
   ·rename_i hname
    have main:∀ (e:Ex) (s':St),rec body ⟨⟨args.length+(fn.ntmps - args.length),enum 0 args⟩,m,c⟩=some (e,s')→e=.normal∨e=.ret→(evResults P fn s').map (fun v=>(v,s'.m,s'.c))=some (v,m',c')→Enters P f∧c≤c'∧∃ δ,m'=δ++m ∧
      ∀ ρ M args' w,ArgsR ρ args args'→Agree m M→Fresh ρ c c'→Sat B ρ M w→Calls P f args' w fun e w'=>∃ v',e=.returned v'∧Post B ρ M c c' w v δ v' w':=by
     intro e s' hr he hv
     cases hres:evResults P fn s' with
     | none=>simp [hres] at hv
     | some v0 =>
      simp only [hres,Option.map_some,Option.some.injEq,Prod.mk.injEq] at hv
      obtain ⟨rfl,rfl,rfl⟩:=hv
      obtain ⟨h1,δ,h2,h3⟩:=hrec _ _ _ _ hr
      refine ⟨⟨fn,hf,by simpa using hname,by rw [hb];rfl⟩,h1,δ,h2,fun ρ M args' w ha hm hfr hs=>?_⟩
      refine calls_of_wp hf hb (h3 ρ M _ w rfl ?_ hm hfr hs _ ?_)
      ·refine ⟨by simp [ha.1],fun d=>?_⟩
       show VR ρ (lk (enum 0 args) d) ((args'++Array.replicate (fn.ntmps - args'.size) undef).getD d undef)
       rw [lk_enum,if_pos (Nat.zero_le _),Nat.sub_zero]
       cases hx:args[d]? with
       | none=>trivial
       | some x =>
        have hlt:d < args'.size:=by rw [← ha.1];exact (List.getElem?_eq_some_iff.1 hx).1
        have:(args'++Array.replicate (fn.ntmps - args'.size) undef).getD d undef=args'[d]:=by
         rw [Array.getD_eq_getD_getElem?,Array.getElem?_append,if_pos hlt,Array.getElem?_eq_getElem hlt]
         rfl
        rw [this]
        exact ha.2 d x _ hx (Array.getElem?_eq_getElem hlt)
      ·intro ρ' a' w' hd ht he' hs' hbel
       obtain ⟨v',r1,r2⟩:=results_ok hres ht (by rw [h2];exact upd_here hm δ) hs'
       have:a'.defers=[]∧∃ v,(results fn a'.tmps).run P w'=.ok v w'∧∃ v',(Ending.returned v)=.returned v'∧Post B ρ M c s'.c w v0 δ v' w':=⟨hd,v',r1,v',rfl,ρ',he',r2,hs',hbel⟩
       rcases he with rfl|rfl
       ·exact this
       ·exact this
    split at h
    ·rename_i s' hr;exact main _ s' hr (.inl rfl) h
    ·rename_i s' hr;exact main _ s' hr (.inr rfl) h
    ·cases h
theorem step_ok {B:Nat} {reg:RegF} (hreg:RegOk P B reg) {call:CallF} (hcall:CallOk P B call) {rec:Code→St→Option (Ex × St)} (hrec:CodeOk P B rec) (hloop:LoopOk P B rec) :
  CodeOk P B (evStep reg call rec)∧LoopOk P B (evStep reg call rec):=by
 have loop:LoopOk P B (evStep reg call rec):=by
  intro body s e s' h
  simp only [evStep] at h
  split at h
  ·rename_i s1 h1
   obtain ⟨a1,δ1,a2,a3⟩:=hrec _ _ _ _ h1
   obtain ⟨b1,δ2,b2,k,b3⟩:=hloop _ _ _ _ h
   refine ⟨by omega,δ2++δ1,by rw [b2,a2,List.append_assoc],k+1,fun ρ M a w hd ht hm hfr hs Q hQ=>?_⟩
   rw [rounds_succ]
   refine a3 ρ M a w hd ht hm (hfr.first b1) hs _ (fun ρ' a' w' x1 x2 x3 x4 x5=>?_)
   show Code.rounds P body Q k a' w'
   exact b3 ρ' (upd δ1 M) a' w' x1 x2 (by rw [a2];exact upd_here hm δ1) (hfr.rest x3 a1) x4 Q (fun ρ'' a'' w'' y1 y2 y3 y4 y5=>hQ ρ'' a'' w'' y1 y2 (x3.trans y3 a1 b1) (by rw [upd_append];exact y4) (x5.trans y5))
  ·rename_i hne
   cases hr:rec body s with
   | none=>rw [hr] at h;cases h
   | some p =>
    obtain ⟨e1,s1⟩:=p
    rw [hr] at h
    simp only [Option.some.injEq,Prod.mk.injEq] at h
    obtain ⟨rfl,rfl⟩:=h
    obtain ⟨a1,δ1,a2,a3⟩:=hrec _ _ _ _ hr
    refine ⟨a1,δ1,a2,1,fun ρ M a w hd ht hm hfr hs Q hQ=>?_⟩
    rw [rounds_succ]
    refine a3 ρ M a w hd ht hm hfr hs _ (fun ρ' a' w' x1 x2 x3 x4 x5=>?_)
    cases e1 with
    | normal=>exact absurd hr (hne s1)
    | exit id=>exact hQ ρ' a' w' x1 x2 x3 x4 x5
    | ret=>exact hQ ρ' a' w' x1 x2 x3 x4 x5
 refine ⟨?_,loop⟩
 intro code s e s' h
 cases code with
 | skip =>
  simp only [evStep,Option.some.injEq,Prod.mk.injEq] at h
  obtain ⟨rfl,rfl⟩:=h
  exact ⟨Nat.le_refl _,[],rfl,fun ρ M a w hd ht hm hfr hs Q hQ=>wp_skip (hQ ρ a w hd ht (Ext.refl _ _ _) hs (Below.refl _ _))⟩
 | label l =>
  simp only [evStep,Option.some.injEq,Prod.mk.injEq] at h
  obtain ⟨rfl,rfl⟩:=h
  exact ⟨Nat.le_refl _,[],rfl,fun ρ M a w hd ht hm hfr hs Q hQ=>wp_label (hQ ρ a w hd ht (Ext.refl _ _ _) hs (Below.refl _ _))⟩
 | exit id =>
  simp only [evStep,Option.some.injEq,Prod.mk.injEq] at h
  obtain ⟨rfl,rfl⟩:=h
  exact ⟨Nat.le_refl _,[],rfl,fun ρ M a w hd ht hm hfr hs Q hQ=>wp_exit (hQ ρ a w hd ht (Ext.refl _ _ _) hs (Below.refl _ _))⟩
 | ret =>
  simp only [evStep,Option.some.injEq,Prod.mk.injEq] at h
  obtain ⟨rfl,rfl⟩:=h
  exact ⟨Nat.le_refl _,[],rfl,fun ρ M a w hd ht hm hfr hs Q hQ=>wp_ret (hQ ρ a w hd ht (Ext.refl _ _ _) hs (Below.refl _ _))⟩
 | region id ops draw =>
  simp only [evStep] at h
  cases hr:reg call ops draw s.t s.m s.c with
  | none=>simp [hr] at h
  | some p =>
   obtain ⟨t',m',c'⟩:=p
   simp only [hr,Option.map_some,Option.some.injEq,Prod.mk.injEq] at h
   obtain ⟨rfl,rfl⟩:=h
   exact hreg call hcall id ops draw _ _ _ _ _ _ hr
 | seq x y =>
  simp only [evStep] at h
  split at h
  ·rename_i s1 h1
   obtain ⟨a1,δ1,a2,a3⟩:=hrec _ _ _ _ h1
   obtain ⟨b1,δ2,b2,b3⟩:=hrec _ _ _ _ h
   refine ⟨by omega,δ2++δ1,by rw [b2,a2,List.append_assoc],fun ρ M a w hd ht hm hfr hs Q hQ=>wp_seq ?_⟩
   refine a3 ρ M a w hd ht hm (hfr.first b1) hs _ (fun ρ' a' w' x1 x2 x3 x4 x5=>?_)
   show y.wp P Q a' w'
   exact b3 ρ' (upd δ1 M) a' w' x1 x2 (by rw [a2];exact upd_here hm δ1) (hfr.rest x3 a1) x4 Q (fun ρ'' a'' w'' y1 y2 y3 y4 y5=>hQ ρ'' a'' w'' y1 y2 (x3.trans y3 a1 b1) (by rw [upd_append];exact y4) (x5.trans y5))
  ·rename_i hne
   cases hr:rec x s with
   | none=>rw [hr] at h;cases h
   | some p =>
    obtain ⟨e1,s1⟩:=p
    rw [hr] at h
    simp only [Option.some.injEq,Prod.mk.injEq] at h
    obtain ⟨rfl,rfl⟩:=h
    obtain ⟨a1,δ1,a2,a3⟩:=hrec _ _ _ _ hr
    refine ⟨a1,δ1,a2,fun ρ M a w hd ht hm hfr hs Q hQ=>wp_seq ?_⟩
    refine a3 ρ M a w hd ht hm hfr hs _ (fun ρ' a' w' x1 x2 x3 x4 x5=>?_)
    cases e1 with
    | normal=>exact absurd hr (hne s1)
    | exit id=>exact hQ ρ' a' w' x1 x2 x3 x4 x5
    | ret=>exact hQ ρ' a' w' x1 x2 x3 x4 x5
 | cond x y z =>
  simp only [evStep] at h
  split at h
  ·rename_i q hq
   obtain ⟨a1,δ1,a2,a3⟩:=hrec _ _ _ _ h
   refine ⟨a1,δ1,a2,fun ρ M a w hd ht hm hfr hs Q hQ=>?_⟩
   have hx:=evO_ok ht.2 x
   rw [hq] at hx
   exact wp_cond (t:=q) hx (a3 ρ M a w hd ht hm hfr hs Q hQ)
  ·cases h
 | block id body =>
  simp only [evStep] at h
  split at h
  ·rename_i id' s1 h1
   obtain ⟨a1,δ1,a2,a3⟩:=hrec _ _ _ _ h1
   split at h
   ·rename_i hid
    subst hid
    simp only [Option.some.injEq,Prod.mk.injEq] at h
    obtain ⟨rfl,rfl⟩:=h
    refine ⟨a1,δ1,a2,fun ρ M a w hd ht hm hfr hs Q hQ=>wp_block ?_⟩
    refine a3 ρ M a w hd ht hm hfr hs _ (fun ρ' a' w' x1 x2 x3 x4 x5=>?_)
    show Exit.inBlock id' Q (.exit id') a' w'
    simp only [Exit.inBlock,if_true]
    exact hQ ρ' a' w' x1 x2 x3 x4 x5
   ·rename_i hid
    simp only [Option.some.injEq,Prod.mk.injEq] at h
    obtain ⟨rfl,rfl⟩:=h
    refine ⟨a1,δ1,a2,fun ρ M a w hd ht hm hfr hs Q hQ=>wp_block ?_⟩
    refine a3 ρ M a w hd ht hm hfr hs _ (fun ρ' a' w' x1 x2 x3 x4 x5=>?_)
    show Exit.inBlock id Q (.exit id') a' w'
    simp only [Exit.inBlock,hid,if_false]
    exact hQ ρ' a' w' x1 x2 x3 x4 x5
  ·rename_i hne
   cases hr:rec body s with
   | none=>rw [hr] at h;cases h
   | some p =>
    obtain ⟨e1,s1⟩:=p
    rw [hr] at h
    simp only [Option.some.injEq,Prod.mk.injEq] at h
    obtain ⟨rfl,rfl⟩:=h
    obtain ⟨a1,δ1,a2,a3⟩:=hrec _ _ _ _ hr
    refine ⟨a1,δ1,a2,fun ρ M a w hd ht hm hfr hs Q hQ=>wp_block ?_⟩
    refine a3 ρ M a w hd ht hm hfr hs _ (fun ρ' a' w' x1 x2 x3 x4 x5=>?_)
    cases e1 with
    | normal=>exact hQ ρ' a' w' x1 x2 x3 x4 x5
    | exit id'=>exact absurd hr (hne id' s1)
    | ret=>exact hQ ρ' a' w' x1 x2 x3 x4 x5
 | loop body =>
  obtain ⟨a1,δ1,a2,k,a3⟩:=loop body s e s' h
  exact ⟨a1,δ1,a2,fun ρ M a w hd ht hm hfr hs Q hQ=>wp_loop_rounds k (a3 ρ M a w hd ht hm hfr hs Q hQ)⟩
 | _=>simp [evStep] at h
end Go.Proofs.Ytaelliigpclipaa.Eng
