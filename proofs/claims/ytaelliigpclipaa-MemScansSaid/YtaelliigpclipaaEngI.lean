/- The reckoner: regions in the text's order,blocks,loops,calls. -/
import Derived.Test.YtaelliigpclipaaEngH
namespace Go.Proofs.Ytaelliigpclipaa.Eng
set_option linter.unusedVariables false
set_option linter.unusedSimpArgs false
open Go Go.RowKit
inductive Ex where
 | normal
 | exit (id:Nat)
 | ret
 deriving Inhabited,DecidableEq
def Ex.to:Ex→Exit
 | .normal=>.normal
 | .exit id=>.exit id
 | .ret=>.ret
abbrev RegF:=CallF→Array Oper→Bool→Tm→Mem→Nat→Option (Tm × Mem × Nat)
section
variable (P:Program)
def enum:Nat→List AV→List (Nat × AV)
 | _,[]=>[]
 | k,x :: r=>(k,x) :: enum (k+1) r
def evResults (fn:Func) (s:St):Option AV:=match fn.results.toList with
 | [.tmp d]=>some (look s.t d)
 | rs=>match go rs with
  | some [x]=>ofComp x
  | some l=>some (.tup l)
  | none=>none
where
 go:List ResultVar→Option (List (Bool × List SV))
  | []=>some []
  | .tmp d :: r=>match comp (look s.t d),go r with
   | some x,some l=>some (x :: l)
   | _,_=>none
  | .cell a t :: r=>match (evLoad P t (look s.t a) s.m).bind comp,go r with
   | some x,some l=>some (x :: l)
   | _,_=>none
def callEv (rec:Code→St→Option (Ex × St)):CallF:=fun f args m c =>
 match P.funcs[f]? with
 | some fn=>match fn.body with
  | some body => if fn.name == "runtime.NumGoroutine" then none else
   match rec body ⟨⟨args.length+(fn.ntmps - args.length),enum 0 args⟩,m,c⟩ with
   | some (.normal,s')=>(evResults P fn s').map fun v=>(v,s'.m,s'.c)
   | some (.ret,s')=>(evResults P fn s').map fun v=>(v,s'.m,s'.c)
   | _=>none
  | none=>none
 | none=>none
def evStep (reg:RegF) (call:CallF) (rec:Code→St→Option (Ex × St)) (code:Code) (s:St):Option (Ex × St):=match code with
 | .skip=>some (.normal,s)
 | .label _=>some (.normal,s)
 | .region _ ops draw=>(reg call ops draw s.t s.m s.c).map fun r=>(.normal,⟨r.1,r.2.1,r.2.2⟩)
 | .seq a b=>match rec a s with
  | some (.normal,s')=>rec b s'
  | r=>r
 | .cond x a b=>match evO (look s.t) x with
  | .s (.bool q)=>rec (if q then a else b) s
  | _=>none
 | .block id body=>match rec body s with
  | some (.exit id',s')=>if id'=id then some (.normal,s') else some (.exit id',s')
  | r=>r
 | .loop body=>match rec body s with
  | some (.normal,s')=>rec (.loop body) s'
  | r=>r
 | .exit id=>some (.exit id,s)
 | .ret=>some (.ret,s)
 | _=>none
end
variable {P:Program}
def TRf (ρ:Rho) (n:Nat) (f:Nat→AV) (tmps:Array Value):Prop:=n=tmps.size∧∀ d,VR ρ (f d) (tmps.getD d undef)
def TR (ρ:Rho) (t:Tm) (tmps:Array Value):Prop:=TRf ρ t.n (look t) tmps
theorem TRf.ext {ρ ρ':Rho} (h:Keep ρ ρ') {n:Nat} {f:Nat→AV} {tmps:Array Value} (k:TRf ρ n f tmps):TRf ρ' n f tmps:=⟨k.1,fun d=>(k.2 d).ext h⟩
theorem TR.ext {ρ ρ':Rho} (h:Keep ρ ρ') {t:Tm} {tmps:Array Value} (k:TR ρ t tmps):TR ρ' t tmps:=TRf.ext h k
def setF (n:Nat) (f:Nat→AV):Option Tmp→AV→Nat→AV
 | some d,v=>if d < n then fun i=>if d=i then v else f i else f
 | none,_=>f
theorem look_put (t:Tm) (d:Option Tmp) (v:AV):look (putT t d v)=setF t.n (look t) d v∧(putT t d v).n=t.n:=by
 cases d with
 | none=>exact ⟨rfl,rfl⟩
 | some d =>
  simp only [putT,setF]
  split
  ·exact ⟨rfl,rfl⟩
  ·exact ⟨rfl,rfl⟩
theorem TRf.put {ρ:Rho} {n:Nat} {f:Nat→AV} {a:Act} (k:TRf ρ n f a.tmps) (d:Option Tmp) {v:AV} {v':Value} (hv:VR ρ v v'):TRf ρ n (setF n f d v) (a.put d v').tmps:=by
 cases d with
 | none=>exact k
 | some d =>
  refine ⟨by simp [Act.put,k.1],fun i=>?_⟩
  simp only [setF,Act.put]
  by_cases hd:d < n
  ·rw [if_pos hd]
   have hd':d < a.tmps.size:=by rw [← k.1];exact hd
   by_cases e:d=i
   ·subst e
    rw [if_pos rfl]
    have:(a.tmps.setIfInBounds d v').getD d undef=v':=by simp [Array.getD_eq_getD_getElem?,hd']
    rw [this]
    exact hv
   ·rw [if_neg e]
    have:(a.tmps.setIfInBounds d v').getD i undef=a.tmps.getD i undef:=by simp [Array.getD_eq_getD_getElem?,Array.getElem?_setIfInBounds,e]
    rw [this]
    exact k.2 i
  ·rw [if_neg hd]
   have hd':¬ d < a.tmps.size:=by rw [← k.1];exact hd
   have:a.tmps.setIfInBounds d v'=a.tmps:=by simp [Array.setIfInBounds,hd']
   rw [this]
   exact k.2 i
theorem TR.put {ρ:Rho} {t:Tm} {a:Act} (k:TR ρ t a.tmps) (d:Option Tmp) {v:AV} {v':Value} (hv:VR ρ v v'):TR ρ (putT t d v) (a.put d v').tmps:=by
 have:=TRf.put k d hv
 obtain ⟨h1,h2⟩:=look_put t d v
 unfold TR
 rw [h1,h2]
 exact this
def CodeOk (P:Program) (B:Nat) (rec:Code→St→Option (Ex × St)):Prop:=∀ code s e s',rec code s=some (e,s')→s.c≤s'.c∧∃ δ,s'.m=δ++s.m ∧
 ∀ ρ M (a:Act) w,a.defers=[]→TR ρ s.t a.tmps→Agree s.m M→Fresh ρ s.c s'.c→Sat B ρ M w →
  ∀ Q:Exit→Act→World→Prop,(∀ ρ' (a':Act) w',a'.defers=[]→TR ρ' s'.t a'.tmps→Ext ρ ρ' s.c s'.c→Sat B ρ' (upd δ M) w'→Below B w w'→Q e.to a' w')→code.wp P Q a w
def RegOk (P:Program) (B:Nat) (reg:RegF):Prop:=∀ call,CallOk P B call→∀ id ops draw t m c t' m' c',reg call ops draw t m c=some (t',m',c')→c≤c'∧∃ δ,m'=δ++m ∧
 ∀ ρ M (a:Act) w,a.defers=[]→TR ρ t a.tmps→Agree m M→Fresh ρ c c'→Sat B ρ M w →
  ∀ Q:Exit→Act→World→Prop,(∀ ρ' (a':Act) w',a'.defers=[]→TR ρ' t' a'.tmps→Ext ρ ρ' c c'→Sat B ρ' (upd δ M) w'→Below B w w'→Q .normal a' w')→(Code.region id ops draw).wp P Q a w
theorem upd_append (δ δ':Mem) (M:MemF):upd (δ++δ') M=upd δ (upd δ' M):=by
 induction δ with
 | nil=>rfl
 | cons e r ih =>
  obtain ⟨k,x⟩:=e
  rw [List.cons_append,upd_cons,ih,← upd_cons]
theorem Fresh.rest {ρ ρ':Rho} {c c' c'':Nat} (h:Fresh ρ c c'') (e:Ext ρ ρ' c c') (h1:c≤c'):Fresh ρ' c' c'':=fun n a b=>by rw [e.out n (by omega)];exact h n (by omega) b
theorem Fresh.first {ρ:Rho} {c c' c'':Nat} (h:Fresh ρ c c'') (h2:c'≤c''):Fresh ρ c c':=fun n a b=>h n a (by omega)
theorem wanted_ok {ρ:Rho} {ops:Array Oper} {t:Nat→AV} {tmps:Array Value} {o:Oper} {b:Bool} (h:want ops t o=some b) (ht:∀ d,VR ρ (t d) (tmps.getD d undef)):Region.wanted o (yielded ops tmps)=b:=by
 unfold want at h
 unfold Region.wanted
 cases hg:o.guard with
 | none=>rw [hg] at h;simpa using h
 | some p =>
  obtain ⟨j,q⟩:=p
  rw [hg] at h
  simp only at h ⊢
  split at h
  ·rename_i d hd
   split at h
   ·rename_i z hz
    have h2:=ht d
    rw [hz] at h2
    have h3:tmps.getD d undef=.bool z:=h2
    have h1:tmps[d]?=some (.bool z):=by
     rw [Array.getD_eq_getD_getElem?] at h3
     cases hx:tmps[d]? with
     | none=>rw [hx] at h3;cases h3
     | some x=>rw [hx] at h3;exact congrArg some h3
    have:yielded ops tmps j=some z:=by simp [yielded,hd,h1]
    rw [this]
    obtain rfl:=Option.some.inj h
    simp
   ·rename_i hz
    have h2:=ht d
    rw [hz] at h2
    have h3:tmps.getD d undef=undef:=h2
    have:yielded ops tmps j=none:=by
     rw [Array.getD_eq_getD_getElem?] at h3
     cases hx:tmps[d]? with
     | none=>simp [yielded,hd,hx]
     | some x=>rw [hx] at h3;obtain rfl:x=undef:=h3;simp [yielded,hd,hx,undef]
    rw [this]
    obtain rfl:=Option.some.inj h
    simp
   ·cases h
  ·cases h
theorem ops_ok {B:Nat} {call:CallF} (hcall:CallOk P B call) (ops:Array Oper):∀ (l:List Oper) (k:Nat) (t:Tm) (m:Mem) (c:Nat) (t':Tm) (m':Mem) (c':Nat),evOps P call ops l t m c=some (t',m',c')→ops.toList.drop k=l →
  c≤c'∧∃ δ,m'=δ++m∧∀ ρ M (a:Act) w,a.defers=[]→TR ρ t a.tmps→Agree m M→Fresh ρ c c'→Sat B ρ M w →
   ∀ Q:Exit→Act→World→Prop,(∀ ρ' (a':Act) w',a'.defers=[]→TR ρ' t' a'.tmps→Ext ρ ρ' c c'→Sat B ρ' (upd δ M) w'→Below B w w'→Q .normal a' w')→wpOps P ops Q ((List.range ops.size).drop k) a w
 | [],k,t,m,c,t',m',c',h,hk=>by
  simp only [evOps,Option.some.injEq,Prod.mk.injEq] at h
  obtain ⟨rfl,rfl,rfl⟩:=h
  refine ⟨Nat.le_refl _,[],rfl,fun ρ M a w hd ht hm _ hs Q hQ=>?_⟩
  have:(List.range ops.size).drop k=[]:=by
   rw [List.drop_eq_nil_iff] at hk ⊢
   simpa using hk
  rw [this]
  exact hQ ρ a w hd ht (Ext.refl _ _ _) (by rw [upd_nil];exact hs) (Below.refl _ _)
 | o :: r,k,t,m,c,t',m',c',h,hk=>by
  have hlt:k < ops.size:=by
   rcases Nat.lt_or_ge k ops.size with h1|h1
   ·exact h1
   ·rw [List.drop_eq_nil_of_le (by simpa using h1)] at hk;cases hk
  have hko:ops[k]?=some o:=by
   have:(ops.toList.drop k)[0]?=some o:=by rw [hk];rfl
   rw [List.getElem?_drop] at this
   simpa using this
  have hk2:ops.toList.drop (k+1)=r:=by
   rw [← List.drop_drop,hk];rfl
  have hrange:(List.range ops.size).drop k=k :: (List.range ops.size).drop (k+1):=by
   rw [List.drop_eq_getElem_cons (by simpa using hlt)]
   simp
  simp only [evOps] at h
  split at h
  ·rename_i hw
   split at h
   ·rename_i v m1 c1 hop
    obtain ⟨h1,δ1,rfl,h3⟩:=op_ok hcall hop
    obtain ⟨h4,δ2,h5,h6⟩:=ops_ok hcall ops r (k+1) _ _ _ _ _ _ h hk2
    refine ⟨by omega,δ2++δ1,by rw [h5,List.append_assoc],fun ρ M a w hd ht hm hfr hs Q hQ=>?_⟩
    rw [hrange]
    simp only [wpOps,hko,wanted_ok hw ht.2,if_true]
    left
    refine h3 ρ M a w (fun x _=>evO_ok ht.2 x) hm (hfr.first h4) hs _ _ (fun v' w' hp=>?_)
    obtain ⟨ρ',e1,e2,e3,e4⟩:=hp
    refine h6 ρ' (upd δ1 M) _ w' (by cases o.dst<;>simpa [Act.put] using hd) ((ht.ext e1.keep).put o.dst e2) (upd_here hm δ1) (hfr.rest e1 h1) e3 Q (fun ρ'' a' w'' x1 x2 x3 x4 x5=>?_)
    exact hQ ρ'' a' w'' x1 x2 (e1.trans x3 h1 h4) (by rw [upd_append];exact x4) (e4.trans x5)
   ·cases h
  ·rename_i hw
   obtain ⟨h4,δ2,h5,h6⟩:=ops_ok hcall ops r (k+1) _ _ _ _ _ _ h hk2
   refine ⟨h4,δ2,h5,fun ρ M a w hd ht hm hfr hs Q hQ=>?_⟩
   rw [hrange]
   simp only [wpOps,hko,wanted_ok hw ht.2,Bool.false_eq_true,if_false]
   exact h6 ρ M _ w (by cases o.dst<;>simpa [Act.put] using hd) (ht.put o.dst (v:=.no) (v':=undef) rfl) hm hfr hs Q hQ
  ·cases h
theorem plain_ok {B:Nat} {call:CallF} (hcall:CallOk P B call) (id:Nat) (ops:Array Oper) (t:Tm) (m:Mem) (c:Nat) (t':Tm) (m':Mem) (c':Nat) (h:evOps P call ops ops.toList t m c=some (t',m',c')) :
  c≤c'∧∃ δ,m'=δ++m∧∀ ρ M (a:Act) w,a.defers=[]→TR ρ t a.tmps→Agree m M→Fresh ρ c c'→Sat B ρ M w →
   ∀ Q:Exit→Act→World→Prop,(∀ ρ' (a':Act) w',a'.defers=[]→TR ρ' t' a'.tmps→Ext ρ ρ' c c'→Sat B ρ' (upd δ M) w'→Below B w w'→Q .normal a' w')→(Code.region id ops false).wp P Q a w:=by
 obtain ⟨h1,δ,h2,h3⟩:=ops_ok hcall ops ops.toList 0 t m c t' m' c' h rfl
 exact ⟨h1,δ,h2,fun ρ M a w hd ht hm hfr hs Q hQ=>wp_region (h3 ρ M a w hd ht hm hfr hs Q hQ)⟩
def LoopOk (P:Program) (B:Nat) (rec:Code→St→Option (Ex × St)):Prop:=∀ body s e s',rec (.loop body) s=some (e,s')→s.c≤s'.c∧∃ δ,s'.m=δ++s.m∧∃ k,
 ∀ ρ M (a:Act) w,a.defers=[]→TR ρ s.t a.tmps→Agree s.m M→Fresh ρ s.c s'.c→Sat B ρ M w →
  ∀ Q:Exit→Act→World→Prop,(∀ ρ' (a':Act) w',a'.defers=[]→TR ρ' s'.t a'.tmps→Ext ρ ρ' s.c s'.c→Sat B ρ' (upd δ M) w'→Below B w w'→Q e.to a' w')→Code.rounds P body Q k a w
theorem comp_ok {ρ:Rho} {v:AV} {x:Bool × List SV} {u:Value} (h:comp v=some x) (hv:VR ρ v u):∃ v0,ofComp x=some v0∧VR1 ρ v0 u:=by
 cases v with
 | any=>cases h
 | no=>cases h
 | tup l=>cases h
 | s v=>obtain rfl:=Option.some.inj h;exact ⟨.s v,rfl,hv⟩
 | agg l=>obtain rfl:=Option.some.inj h;exact ⟨.agg l,by simp [ofComp],hv⟩
theorem go_ok {B:Nat} {ρ:Rho} {M:MemF} {s:St} {tmps:Array Value} {w:World} (ht:TR ρ s.t tmps) (hm:Agree s.m M) (hs:Sat B ρ M w):∀ {rs:List ResultVar} {l:List (Bool × List SV)},evResults.go P s rs=some l →
  ∃ us:List Value,(rs.mapM (fun|.tmp t=>pure (tmps.getD t undef)|.cell a t=>do loadVar t (← asAddr (tmps.getD a undef)):ResultVar→Sem Value)).run P w=.ok us w∧l.length=us.length∧∀ (i:Nat) x y,l[i]?=some x→us[i]?=some y→∃ v,ofComp x=some v∧VR1 ρ v y
 | [],l,h=>by
  obtain rfl:[]=l:=by simpa [evResults.go] using h
  exact ⟨[],by simp,rfl,fun i x y p=>by simp at p⟩
 | r :: rs,l,h=>by
  have hget:∀ d,VR ρ (look s.t d) (tmps.getD d undef):=ht.2
  have fin:∀ (x:Bool × List SV) (l':List (Bool × List SV)) (u:Value) (us:List Value),(∃ v,ofComp x=some v∧VR1 ρ v u)→l'.length=us.length→(∀ (i:Nat) x y,l'[i]?=some x→us[i]?=some y→∃ v,ofComp x=some v∧VR1 ρ v y) →
    (x :: l').length=(u :: us).length∧∀ (i:Nat) a b,(x :: l')[i]?=some a→(u :: us)[i]?=some b→∃ v,ofComp a=some v∧VR1 ρ v b:=by
   intro x l' u us h1 h2 h3
   refine ⟨by simp [h2],fun i a b p q=>?_⟩
   cases i with
   | zero =>
    obtain rfl:=Option.some.inj p
    obtain rfl:=Option.some.inj q
    exact h1
   | succ i=>exact h3 i a b (by simpa using p) (by simpa using q)
  cases r with
  | tmp d =>
   simp only [evResults.go] at h
   split at h
   ·rename_i x l' h1 h2
    obtain rfl:=Option.some.inj h
    obtain ⟨us,a1,a2,a3⟩:=go_ok ht hm hs h2
    obtain ⟨b1,b2⟩:=fin x l' _ us (comp_ok h1 (hget d)) a2 a3
    exact ⟨_,by rw [List.mapM_cons];simp only [Sem.run_bind,Sem.run_pure,Result.andThen_ok,a1],b1,b2⟩
   ·cases h
  | cell d t =>
   simp only [evResults.go] at h
   split at h
   ·rename_i x l' h1 h2
    obtain rfl:=Option.some.inj h
    obtain ⟨us,a1,a2,a3⟩:=go_ok ht hm hs h2
    rw [Option.bind_eq_some_iff] at h1
    obtain ⟨v0,h3,h4⟩:=h1
    obtain ⟨v',c1,c2⟩:=load_ok h3 (hget d) hm hs
    obtain ⟨b1,b2⟩:=fin x l' _ us (comp_ok h4 c2) a2 a3
    refine ⟨_,?_,b1,b2⟩
    rw [List.mapM_cons]
    have hp:∃ a,tmps.getD d undef=.pointer (some a):=by
     unfold evLoad at h3
     split at h3
     ·rename_i n off e
      have:=hget d
      rw [e] at this
      obtain ⟨l,_,h5⟩:=this
      exact ⟨_,h5⟩
     ·rename_i cs e
      have:=hget d
      rw [e] at this
      obtain ⟨b,o,h5,_⟩:=this
      exact ⟨_,h5⟩
     ·cases h3
    obtain ⟨a,ha⟩:=hp
    rw [ha] at c1
    simp only [Instr.loadAt,Instr.sureAddr,Sem.run_bind,Sem.run_pure,Result.andThen_ok] at c1
    have hcell:((do loadVar t (← asAddr (tmps.getD d undef)):Sem Value)).run P w=.ok v' w:=by simp only [ha,asAddr,Sem.run_bind,Sem.run_pure,Result.andThen_ok,c1]
    rw [Sem.run_bind]
    refine (congrArg (fun r=>Result.andThen r _) hcell).trans ?_
    simp only [Result.andThen_ok]
    rw [Sem.run_bind,a1]
    rfl
   ·cases h
theorem results_ok {B:Nat} {ρ:Rho} {M:MemF} {s:St} {tmps:Array Value} {w:World} {fn:Func} {v:AV} (h:evResults P fn s=some v) (ht:TR ρ s.t tmps) (hm:Agree s.m M) (hs:Sat B ρ M w) :
  ∃ v',(results fn tmps).run P w=.ok v' w∧VR ρ v v':=by
 unfold evResults at h
 have harr:fn.results=fn.results.toList.toArray:=by simp
 split at h
 ·rename_i d hd
  obtain rfl:=Option.some.inj h
  refine ⟨tmps.getD d undef,?_,?_⟩
  ·unfold results
   rw [harr,hd]
   simp
  ·exact ht.2 d
 ·rename_i hnd
  cases hg:evResults.go P s fn.results.toList with
  | none=>simp [hg] at h
  | some l =>
   obtain ⟨us,a1,a2,a3⟩:=go_ok ht hm hs hg
   have hrun:(fn.results.mapM (fun|.tmp t=>pure (tmps.getD t undef)|.cell a t=>do loadVar t (← asAddr (tmps.getD a undef)):ResultVar→Sem Value)).run P w=.ok us.toArray w:=by
    rw [Array.mapM_eq_mapM_toList]
    simp only [Sem.run_map,a1,Result.andThen_ok]
   simp only [hg] at h
   split at h
   ·rename_i x e
    obtain rfl:=Option.some.inj e
    cases us with
    | nil=>simp at a2
    | cons u r =>
     cases r with
     | cons _ _=>simp at a2
     | nil =>
      obtain ⟨v0,h1,h2⟩:=a3 0 x u rfl rfl
      rw [h1] at h
      obtain rfl:=Option.some.inj h
      refine ⟨u,?_,h2.toVR⟩
      unfold results
      simp only [Sem.run_bind]
      erw [hrun]
      simp
   ·rename_i l' hne e
    obtain rfl:=Option.some.inj e
    obtain rfl:=Option.some.inj h
    refine ⟨.tuple us.toArray,?_,us.toArray,rfl,by simpa using a2,fun i x y p q=>a3 i x y p (by simpa using q)⟩
    unfold results
    simp only [Sem.run_bind]
    erw [hrun]
    have:¬ us.length=1:=by
     intro h1
     rw [← a2] at h1
     obtain ⟨x,hx⟩:=List.length_eq_one_iff.1 h1
     exact hne x (by rw [hx])
    simp [this]
   ·cases h
end Go.Proofs.Ytaelliigpclipaa.Eng
