/- The reckoner: a region whose order is drawn comes to what is reckoned of it,in whatever order. -/
import Derived.Test.YtaelliigpclipaaEngK
namespace Go.Proofs.Ytaelliigpclipaa.Eng
set_option linter.unusedVariables false
set_option linter.unusedSimpArgs false
open Go Go.RowKit
variable {P:Program}
def DSpec (P:Program) (call:CallF) (ops:Array Oper) (bss:List (List Nat)) (hid:List Mem) (m0:Mem) (j:Nat) (t:Tm) (ds:List Mem) (c:Nat) (t':Tm) (ds':List Mem) (c':Nat):Prop :=
    ∃ (T:Nat→Tm) (C:Nat→Nat) (V:Nat→AV) (on:Nat→Bool),T j=t∧C j=c∧T ops.size=t'∧C ops.size=c'∧ds'.length=ops.size∧(∃ r,ds'=ds++r) ∧
     ∀ i o,j≤i→ops[i]?=some o→want ops (look (T i)) o=some (on i)∧T (i+1)=putT (T i) o.dst (V i)∧C i≤C (i+1) ∧
      (on i=true→evOp P call o.op o.type (look (T i)) (roomOf bss hid m0 (ds'.take i) i) (C i)=some (V i,ds'.getD i []++roomOf bss hid m0 (ds'.take i) i,C (i+1))) ∧
      (on i=false→V i=.no∧ds'.getD i []=[]∧C (i+1)=C i)
theorem evD_spec {B:Nat} {call:CallF} (hcall:CallOk P B call) {ops:Array Oper} {bss:List (List Nat)} {hid:List Mem} {m0:Mem}:∀ (l:List Oper) (j:Nat) (t:Tm) (ds:List Mem) (c:Nat) (t':Tm) (ds':List Mem) (c':Nat),
  evD P call ops bss hid m0 l j t ds c=some (t',ds',c')→ops.toList.drop j=l→ds.length=j→j≤ops.size→DSpec P call ops bss hid m0 j t ds c t' ds' c'
 | [],j,t,ds,c,t',ds',c',h,hl,hlen,hj=>by
  simp only [evD,Option.some.injEq,Prod.mk.injEq] at h
  obtain ⟨rfl,rfl,rfl⟩:=h
  have hj2:j=ops.size:=by
   rw [List.drop_eq_nil_iff] at hl
   simp at hl
   omega
  subst hj2
  refine ⟨fun _=>t,fun _=>c,fun _=>.any,fun _=>false,rfl,rfl,rfl,rfl,hlen,⟨[],by simp⟩,fun i o hi ho=>?_⟩
  have:=(Array.getElem?_eq_some_iff.1 ho).1
  omega
 | o :: r,j,t,ds,c,t',ds',c',h,hl,hlen,hj=>by
  have hlt:j < ops.size:=by
   rcases Nat.lt_or_ge j ops.size with h1|h1
   ·exact h1
   ·rw [List.drop_eq_nil_of_le (by simpa using h1)] at hl;cases hl
  have hko:ops[j]?=some o:=by
   have:(ops.toList.drop j)[0]?=some o:=by rw [hl];rfl
   rw [List.getElem?_drop] at this
   simpa using this
  have hk2:ops.toList.drop (j+1)=r:=by rw [← List.drop_drop,hl];rfl
  -- the step,of either kind
  have main:∀ (v:AV) (δ:Mem) (c1:Nat) (b:Bool),want ops (look t) o=some b→evD P call ops bss hid m0 r (j+1) (putT t o.dst v) (ds++[δ]) c1=some (t',ds',c')→c≤c1 →
    (b=true→evOp P call o.op o.type (look t) (roomOf bss hid m0 ds j) c=some (v,δ++roomOf bss hid m0 ds j,c1))→(b=false→v=.no∧δ=[]∧c1=c)→DSpec P call ops bss hid m0 j t ds c t' ds' c':=by
   intro v δ c1 b hw hr hc1 hon hoff
   obtain ⟨T,C,V,on,a1,a2,a3,a4,a5,⟨q,a6⟩,a7⟩:=evD_spec hcall r (j+1) _ _ _ _ _ _ hr hk2 (by simp [hlen]) hlt
   have e1:ds'.take j=ds:=by rw [a6,List.append_assoc,← hlen];simp
   have e2:ds'.getD j []=δ:=by rw [a6,List.append_assoc,← hlen];simp [List.getD_eq_getElem?_getD]
   refine ⟨fun i=>if i=j then t else T i,fun i=>if i=j then c else C i,fun i=>if i=j then v else V i,fun i=>if i=j then b else on i,by simp,by simp,by simp [Nat.ne_of_gt hlt,a3],by simp [Nat.ne_of_gt hlt,a4],a5,⟨[δ]++q,by rw [a6,List.append_assoc]⟩,fun i o' hi ho'=>?_⟩
   by_cases hij:i=j
   ·subst hij
    rw [hko] at ho'
    obtain rfl:=Option.some.inj ho'
    simp only [if_true,Nat.succ_ne_self,if_false,a1,a2,e1,e2]
    exact ⟨hw,trivial,hc1,hon,hoff⟩
   ·have hij1:¬ i+1=j:=by omega
    simp only [hij,hij1,if_false]
    exact a7 i o' (by omega) ho'
  simp only [evD] at h
  split at h
  ·rename_i hw
   split at h
   ·rename_i v m1 c1 hop
    obtain ⟨h1,δ,h2,_⟩:=op_ok hcall hop
    have e:m1.take (m1.length - (roomOf bss hid m0 ds j).length)=δ:=by rw [h2];simp
    rw [e] at h
    exact main v δ c1 true hw h h1 (fun _=>by rw [hop,h2]) (fun h=>by cases h)
   ·cases h
  ·rename_i hw
   exact main .no [] c false hw h (Nat.le_refl _) (fun h=>by cases h) (fun _=>⟨rfl,rfl,rfl⟩)
  ·cases h
theorem memOf_skip {bs:List Nat}:∀ (ds:List Mem) (k:Nat) (m:Mem),(∀ i,i∈bs→i < k)→memOf bs ds k m=m
 | [],_,_,_=>rfl
 | x :: r,k,m,h=>by
  simp only [memOf,join_eq]
  rw [if_neg (by intro hc;have:=h k (by simpa using hc);omega)]
  exact memOf_skip r (k+1) m (fun i hi=>by have:=h i hi;omega)
theorem memOf_take {bs:List Nat} {j:Nat} (h:∀ i,i∈bs→i < j):∀ (ds:List Mem) (k:Nat) (m:Mem),k≤j→memOf bs (ds.take (j - k)) k m=memOf bs ds k m
 | [],_,_,_=>by simp [memOf]
 | x :: r,k,m,hk=>by
  by_cases hkj:k=j
  ·subst hkj
   rw [Nat.sub_self,List.take_zero]
   exact (memOf_skip _ _ _ h).symm
  ·rw [show j - k=(j - (k+1))+1 from by omega,List.take_succ_cons]
   simp only [memOf]
   exact memOf_take h r (k+1) _ (by omega)
theorem want_congr {ops:Array Oper} {t t':Nat→AV} {o:Oper} (h:∀ d,d∈o.looksAt ops→t d=t' d):want ops t o=want ops t' o:=by
 unfold want
 cases hg:o.guard with
 | none=>rfl
 | some p =>
  obtain ⟨j,b⟩:=p
  simp only
  cases hd:(ops[j]?).bind (·.dst) with
  | none=>rfl
  | some d =>
   have:=h d (by simp [Oper.looksAt,hg,hd])
   simp only [this]
theorem evO_congr {ops:Array Oper} {t t':Nat→AV} {o:Oper} (h:∀ d,d∈o.looksAt ops→t d=t' d) {x:Operand} (hx:x∈o.op.operands.toList):evO t x=evO t' x:=by
 cases x with
 | tmp d =>
  have:=h d (by
   simp only [Oper.looksAt,List.mem_append,List.mem_filterMap]
   exact .inl ⟨_,hx,rfl⟩)
  simp only [evO,this]
 | _=>rfl
theorem run_ok {B:Nat} {call:CallF} (hmix:P.follows .mixedOrders=true) (hcall:CallOk P B call) {id:Nat} {ops:Array Oper} {bss:List (List Nat)} {hid:List Mem} {m0:Mem} {t0 t':Tm} {ds:List Mem} {c c':Nat}
  (hst:static ops bss=true) (hrun:evD P call ops bss hid m0 ops.toList 0 t0 [] c=some (t',ds,c')) (hdy:dyn ops bss hid m0 ds=true) :
  c≤c'∧∃ δ,allOf ds m0=δ++m0∧∀ ρ M (a:Act) w,a.defers=[]→TR ρ t0 a.tmps→Agree m0 M→Fresh ρ c c'→Sat B ρ M w →
   ∀ Q:Exit→Act→World→Prop,(∀ ρ' (a':Act) w',a'.defers=[]→TR ρ' t' a'.tmps→Ext ρ ρ' c c'→Sat B ρ' (upd δ M) w'→Below B w w'→Q .normal a' w')→(Code.region id ops true).wp P Q a w:=by
 obtain ⟨T,C,V,on,hT0,hC0,hTn,hCn,hdl,_,hsp⟩:=evD_spec hcall _ 0 t0 [] c t' ds c' hrun rfl rfl (Nat.zero_le _)
 have hsp:∀ i o,ops[i]?=some o→_:=fun i o=>hsp i o (Nat.zero_le _)
 -- the text
 have hst:∀ j,j < ops.size→_:=fun j hj=>(List.all_eq_true.1 hst) j (by simpa using hj)
 have hE:∀ j o,ops[j]?=some o→∀ k∈direct o,k < j:=by
  intro j o ho k hk
  have:=hst j (Array.getElem?_eq_some_iff.1 ho).1
  simp only [ho,Bool.and_eq_true,List.all_eq_true] at this
  simpa using this.1.1 k hk
 have hB:∀ j o,ops[j]?=some o→∀ i∈bss.getD j [],∃ k∈direct o,i=k∨i∈bss.getD k []:=by
  intro j o ho i hi
  have:=hst j (Array.getElem?_eq_some_iff.1 ho).1
  simp only [ho,Bool.and_eq_true,List.all_eq_true] at this
  have:=this.1.2 i hi
  simpa using this
 have hA:∀ j o i o',ops[j]?=some o→ops[i]?=some o'→i≠j→ordered bss i j=false→o'.apart ops o=true:=by
  intro j o i o' ho ho' hne hor
  have:=hst j (Array.getElem?_eq_some_iff.1 ho).1
  simp only [ho,Bool.and_eq_true,List.all_eq_true] at this
  have:=this.2 i (by simpa using (Array.getElem?_eq_some_iff.1 ho').1)
  simpa [hne,hor,ho'] using this
 have hlt:∀ j,j < ops.size→∀ i∈bss.getD j [],i < j:=by
  intro j
  induction j using Nat.strongRecOn with
  | _ j ih =>
   intro hj i hi
   have ho:=Array.getElem?_eq_getElem hj
   obtain ⟨k,hk,h⟩:=hB j _ ho i hi
   have hkj:=hE j _ ho k hk
   rcases h with rfl|h
   ·exact hkj
   ·have:=ih k hkj (by omega) i h;omega
 -- what was reckoned
 simp only [dyn,Bool.and_eq_true,List.all_eq_true] at hdy
 obtain ⟨hH,hdy⟩:=hdy
 have hD:∀ i j,i < ops.size→j < ops.size→i≠j→ordered bss i j=false→∀ e∈ds.getD i [],get (roomOf bss hid m0 ds j) e.1=none∧∀ e'∈ds.getD j [],e.1≠e'.1:=by
  intro i j hi hj hne hor e he
  have hp:(i,j)∈pairs ops.size bss:=by
   simp only [pairs,List.mem_flatMap,List.mem_map,List.mem_filter,List.mem_range]
   exact ⟨j,hj,i,⟨hi,by simp [hne,hor]⟩,rfl⟩
  have:=hdy (i,j) hp e he
  simpa using this
 have hroom:∀ i,i < ops.size→roomOf bss hid m0 (ds.take i) i=roomOf bss hid m0 ds i:=by
  intro i hi
  unfold roomOf
  rw [← memOf_take (hlt i hi) ds 0 m0 (Nat.zero_le _)]
  simp
 have hCm:∀ i j,i≤j→j≤ops.size→C i≤C j:=by
  intro i j hij hj
  induction j with
  | zero=>have:i=0:=by omega
          subst this;exact Nat.le_refl _
  | succ j ih =>
   by_cases h:i=j+1
   ·subst h;exact Nat.le_refl _
   ·have:=ih (by omega) (by omega)
    have:=(hsp j _ (Array.getElem?_eq_getElem (by omega))).2.2.1
    omega
 have hTn0:∀ i,i≤ops.size→(T i).n=t0.n:=by
  intro i
  induction i with
  | zero=>intro _;rw [hT0]
  | succ i ih =>
   intro hi
   rw [(hsp i _ (Array.getElem?_eq_getElem (by omega))).2.1,(look_put _ _ _).2,ih (by omega)]
 have hTp:∀ i,i≤ops.size→look (T i)=TD t0.n (fun k=>decide (k < i)) V ops.toList 0 (look t0):=by
  intro i
  induction i with
  | zero =>
   intro _
   rw [hT0]
   have:∀ (l:List Oper) (k:Nat) (t:Nat→AV),TD t0.n (fun k=>decide (k < 0)) V l k t=t:=by
    intro l
    induction l with
    | nil=>intros;rfl
    | cons x l ih=>intro k t;simp only [TD];rw [ih];simp
   exact (this _ _ _).symm
  | succ i ih =>
   intro hi
   have ho:=Array.getElem?_eq_getElem (xs:=ops) (i:=i) (by omega)
   rw [(hsp i _ ho).2.1,(look_put _ _ _).1,hTn0 i (by omega),ih (by omega)]
   refine (TD_insert (Nat.zero_le _) (by simp) (by simp) (by simp) (fun k hk=>by simp;omega) (fun k o' _ hlt hk=>?_)).symm
   simp at hk
   omega
 refine ⟨by rw [← hC0,← hCn];exact hCm _ _ (Nat.zero_le _) (Nat.le_refl _),allOf ds [],allOf_eq ds m0,fun ρ0 M0 a0 w0 hd0 ht0 hm0 hfr0 hs0 Q hQ=>wp_region_any hmix ?_⟩
 -- in whatever order
 have key:∀ (fuel:Nat) (listed:Array Bool) (a:Act) (w:World),listed.size=ops.size→((List.range ops.size).filter fun i=>!listed.getD i false).length≤fuel →
   (∀ j o,listed.getD j false=true→ops[j]?=some o→∀ k∈direct o,listed.getD k false=true)→a.defers=[]→Below B w0 w →
   (∃ ρ:Rho,Keep ρ0 ρ∧(∀ k,ρ k≠ρ0 k→∃ i,i < ops.size∧listed.getD i false=true∧C i≤k∧k < C (i+1))∧TRf ρ t0.n (TD t0.n (fun i=>listed.getD i false) V ops.toList 0 (look t0)) a.tmps∧Sat B ρ (MD (fun i=>listed.getD i false) ds 0 M0) w) →
   wpAny P .any ops Q fuel listed a w:=by
  have done:∀ (listed:Array Bool) (a:Act) (w:World),(∀ j,j < ops.size→listed.getD j false=true)→a.defers=[]→Below B w0 w →
    (∃ ρ:Rho,Keep ρ0 ρ∧(∀ k,ρ k≠ρ0 k→∃ i,i < ops.size∧listed.getD i false=true∧C i≤k∧k < C (i+1))∧TRf ρ t0.n (TD t0.n (fun i=>listed.getD i false) V ops.toList 0 (look t0)) a.tmps∧Sat B ρ (MD (fun i=>listed.getD i false) ds 0 M0) w)→Q .normal a w:=by
   intro listed a w hall hd hbel ⟨ρ,r1,r2,r3,r4⟩
   have e1:TD t0.n (fun i=>listed.getD i false) V ops.toList 0 (look t0)=look t':=by
    rw [← hTn,hTp _ (Nat.le_refl _)]
    have:∀ (l:List Oper) (k:Nat) (t:Nat→AV),k+l.length≤ops.size→TD t0.n (fun i=>listed.getD i false) V l k t=TD t0.n (fun k=>decide (k < ops.size)) V l k t:=by
     intro l
     induction l with
     | nil=>intros;rfl
     | cons x l ih =>
      intro k t hk
      simp only [List.length_cons] at hk
      simp only [TD]
      rw [if_pos (hall k (by omega)),if_pos (by simp;omega)]
      exact ih _ _ (by omega)
    exact this _ _ _ (by simp)
   have e2:MD (fun i=>listed.getD i false) ds 0 M0=upd (allOf ds []) M0:=MD_all (fun i hi=>by rw [Nat.zero_add];exact hall i (by omega))
   rw [e1,show t0.n=t'.n from by rw [← hTn];exact (hTn0 _ (Nat.le_refl _)).symm] at r3
   rw [e2] at r4
   refine hQ ρ a w hd r3 ⟨r1,fun k hk=>?_⟩ r4 hbel
   by_cases hkk:ρ k=ρ0 k
   ·exact hkk
   ·obtain ⟨i,hi,_,h3,h4⟩:=r2 k hkk
    have:=hCm 0 i (Nat.zero_le _) (by omega)
    have:=hCm (i+1) ops.size hi (Nat.le_refl _)
    omega
  have all_of_ready:∀ (listed:Array Bool),listed.size=ops.size→Region.ready .any ops listed=[]→∀ j,j < ops.size→listed.getD j false=true:=by
   intro listed hsz hr j
   induction j using Nat.strongRecOn with
   | _ j ih =>
    intro hj
    cases hjl:listed.getD j false with
    | true=>rfl
    | false =>
     have ho:=Array.getElem?_eq_getElem hj
     have:j∈Region.ready .any ops listed:=by
      simp only [Region.ready,List.mem_filter,List.mem_range,ho,Option.map_some,Option.getD_some,Bool.and_eq_true,Bool.not_eq_true']
      refine ⟨hj,?_,?_⟩
      ·rw [Array.getD_eq_getD_getElem?,Array.getElem?_eq_getElem (by omega)] at hjl ⊢
       exact hjl
      ·rw [Array.all_eq_true_iff_forall_mem]
       intro e he
       cases hb:Region.binds .any e with
       | false=>rfl
       | true =>
        have hk:e.on∈direct ops[j]:=by
         simp only [direct,List.mem_map,List.mem_filter]
         exact ⟨e,⟨by simpa using he,hb⟩,rfl⟩
        have hkj:=hE j _ ho _ hk
        simpa using ih _ hkj (by omega)
     rw [hr] at this
     cases this
  intro fuel
  induction fuel with
  | zero =>
   intro listed a w hsz hcnt hcl hd hbel hinv
   have hall:∀ j,j < ops.size→listed.getD j false=true:=by
    intro j hj
    cases hjl:listed.getD j false with
    | true=>rfl
    | false =>
     have:j∈(List.range ops.size).filter fun i=>!listed.getD i false:=List.mem_filter.2 ⟨by simpa using hj,by rw [hjl];rfl⟩
     have:=List.length_pos_of_mem this
     omega
   refine ⟨?_,done listed a w hall hd hbel hinv⟩
   rw [Region.ready,List.filter_eq_nil_iff]
   intro j hj
   have hj:j < ops.size:=by simpa using hj
   have:=hall j hj
   rw [Array.getD_eq_getD_getElem?,Array.getElem?_eq_getElem (by omega)] at this
   simp [Array.getD_eq_getD_getElem?,Array.getElem?_eq_getElem (show j < listed.size by omega)]
   intro h
   simp at this
   rw [this] at h
   cases h
  | succ fuel ih =>
   intro listed a w hsz hcnt hcl hd hbel hinv
   refine ⟨fun hr=>done listed a w (all_of_ready listed hsz hr) hd hbel hinv,fun i hi=>?_⟩
   obtain ⟨ρ,r1,r2,r3,r4⟩:=hinv
   simp only [Region.ready,List.mem_filter,List.mem_range] at hi
   obtain ⟨hin,hi⟩:=hi
   have ho:=Array.getElem?_eq_getElem hin
   generalize hoo:ops[i]=o at ho
   simp only [ho,Option.map_some,Option.getD_some,Bool.and_eq_true,Bool.not_eq_true'] at hi
   obtain ⟨hi1,hi2⟩:=hi
   have hDi:listed.getD i false=false:=by
    rw [Array.getD_eq_getD_getElem?,Array.getElem?_eq_getElem (by omega)] at hi1 ⊢
    exact hi1
   have hdir:∀ k∈direct o,listed.getD k false=true:=by
    intro k hk
    simp only [direct,List.mem_map,List.mem_filter] at hk
    obtain ⟨e,⟨he1,he2⟩,rfl⟩:=hk
    have:=(Array.all_eq_true_iff_forall_mem.1 hi2) e (by simpa using he1)
    simpa [he2] using this
   have hlisted:∀ j,listed.getD j false=true→j < ops.size:=by
    intro j hj
    rcases Nat.lt_or_ge j ops.size with h|h
    ·exact h
    ·rw [Array.getD_eq_getD_getElem?,Array.getElem?_eq_none (by omega)] at hj;cases hj
   -- all that an operation waits for is done
   have hclB:∀ j,listed.getD j false=true→∀ k∈bss.getD j [],listed.getD k false=true:=by
    intro j
    induction j using Nat.strongRecOn with
    | _ j ihj =>
     intro hj k hk
     have hoj:=Array.getElem?_eq_getElem (hlisted j hj)
     obtain ⟨q,hq,h⟩:=hB j _ hoj k hk
     have hqD:=hcl j _ hj hoj q hq
     rcases h with rfl|h
     ·exact hqD
     ·exact ihj q (hE j _ hoj q hq) hqD k h
   have hpre:∀ k∈bss.getD i [],listed.getD k false=true:=by
    intro k hk
    obtain ⟨q,hq,h⟩:=hB i _ ho k hk
    rcases h with rfl|h
    ·exact hdir _ hq
    ·exact hclB q (hdir q hq) k h
   have hpost:∀ k,listed.getD k false=true→i∉bss.getD k []:=by
    intro k hk hik
    have:=hclB k hk i hik
    rw [hDi] at this
    cases this
   -- an operation is done,or is one of those ahead,alike,wherever it matters
   have alike:∀ k o',ops[k]?=some o'→(k≠i→ordered bss k i=false→False)→listed.getD k false=decide (k∈bss.getD i []):=by
    intro k o' hk hor
    by_cases hki:k=i
    ·subst hki
     rw [hDi]
     have:¬ k∈bss.getD k []:=fun h=>by have:=hlt k hin k h;omega
     exact (decide_eq_false this).symm
    ·by_cases h1:k∈bss.getD i []
     ·rw [hpre k h1];exact (decide_eq_true h1).symm
     ·have:listed.getD k false=false:=by
       cases hkD:listed.getD k false with
       | false=>rfl
       | true =>
        exfalso
        refine hor hki ?_
        have h2:=hpost k hkD
        simp only [ordered,Bool.or_eq_false_iff]
        exact ⟨by simpa using h1,by simpa using h2⟩
      rw [this];exact (decide_eq_false h1).symm
   have alikeT:∀ k o',ops[k]?=some o'→(k≠i→ordered bss k i=false→False)→listed.getD k false=decide (k < i):=by
    intro k o' hk hor
    rw [alike k o' hk hor]
    by_cases hki:k=i
    ·subst hki
     have:¬ k∈bss.getD k []:=fun h=>by have:=hlt k hin k h;omega
     rw [decide_eq_false this];simp
    ·by_cases h1:k∈bss.getD i []
     ·have:=hlt i hin k h1;rw [decide_eq_true h1];exact (decide_eq_true this).symm
     ·have h2:i∈bss.getD k []:=by
       cases hor2:ordered bss k i with
       | false=>exact (hor hki hor2).elim
       | true =>
        simp only [ordered,Bool.or_eq_true] at hor2
        rcases hor2 with h|h
        ·exact absurd (by simpa using h) h1
        ·simpa using h
      have:=hlt k (Array.getElem?_eq_some_iff.1 hk).1 i h2
      rw [decide_eq_false h1];exact (decide_eq_false (by omega)).symm
   have hlook:∀ d,d∈o.looksAt ops→look (T i) d=TD t0.n (fun i=>listed.getD i false) V ops.toList 0 (look t0) d:=by
    intro d hdl
    rw [hTp i (by omega)]
    refine TD_congr rfl (fun k o' hk hdst=>?_)
    rw [Nat.zero_add]
    have hk':ops[k]?=some o':=by simpa using hk
    refine (alikeT k o' hk' (fun hki hor=>?_)).symm
    exact (Oper.apart_spec (hA i o k o' ho hk' hki hor)).1 d hdst hdl
   have hop:=hsp i o ho
   obtain ⟨hw,hTs,hCs,hon,hoff⟩:=hop
   rw [want_congr hlook] at hw
   have hwd:=wanted_ok hw r3.2
   -- behind it
   have hnew:∀ j,(listed.setIfInBounds i true).getD j false=if j=i then true else listed.getD j false:=by
    intro j
    simp only [Array.getD_eq_getD_getElem?,Array.getElem?_setIfInBounds]
    by_cases hji:j=i
    ·subst hji
     simp [show j < listed.size from by omega]
    ·rw [if_neg (fun h=>hji h.symm),if_neg hji]
   have hsz':(listed.setIfInBounds i true).size=ops.size:=by simpa using hsz
   have hcnt':((List.range ops.size).filter fun k=>!(listed.setIfInBounds i true).getD k false).length≤fuel:=by
    have e:((List.range ops.size).filter fun k=>!(listed.setIfInBounds i true).getD k false)=((List.range ops.size).filter fun k=>!listed.getD k false).filter fun k=>decide (k≠i):=by
     rw [List.filter_filter]
     apply List.filter_congr
     intro k _
     rw [hnew]
     by_cases h:k=i<;>simp [h]
    have hmem:i∈(List.range ops.size).filter fun k=>!listed.getD k false:=List.mem_filter.2 ⟨by simpa using hin,by rw [hDi];rfl⟩
    have:(((List.range ops.size).filter fun k=>!listed.getD k false).filter fun k=>decide (k≠i)).length < ((List.range ops.size).filter fun k=>!listed.getD k false).length:=by
     rw [List.length_filter_lt_length_iff_exists]
     exact ⟨i,hmem,by simp⟩
    rw [e]
    omega
   have hcl':∀ j o,(listed.setIfInBounds i true).getD j false=true→ops[j]?=some o→∀ k∈direct o,(listed.setIfInBounds i true).getD k false=true:=by
    intro j o' hj hoj k hk
    rw [hnew] at hj ⊢
    split
    ·rfl
    ·split at hj
     ·rename_i e
      subst e
      rw [ho] at hoj
      obtain rfl:=Option.some.inj hoj
      exact hdir k hk
     ·exact hcl j o' hj hoj k hk
   have hDs:ds[i]?=some (ds.getD i []):=by
    have:i < ds.length:=by omega
    simp [List.getD_eq_getElem?_getD,List.getElem?_eq_getElem this]
   have hTD:TD t0.n (fun j=>(listed.setIfInBounds i true).getD j false) V ops.toList 0 (look t0)=setF t0.n (TD t0.n (fun j=>listed.getD j false) V ops.toList 0 (look t0)) o.dst (V i):=by
    refine TD_insert (Nat.zero_le _) (by simpa using ho) hDi (by rw [hnew];simp) (fun k hk=>by rw [hnew,if_neg hk]) (fun k o' hk hlt' hkD x hx=>?_)
    rw [Nat.zero_add] at hkD hlt'
    have hk':ops[k]?=some o':=by simpa using hk
    have hor:ordered bss k i=false:=by
     simp only [ordered,Bool.or_eq_false_iff]
     refine ⟨?_,by simpa using hpost k hkD⟩
     cases hc:(bss.getD i []).contains k with
     | false=>rfl
     | true=>have:=hlt i hin k (by simpa using hc);omega
    have:=(Oper.apart_spec (hA i o k o' ho hk' (by omega) hor)).2.1
    intro hdst
    exact this x hdst hx
   have hMD:MD (fun j=>(listed.setIfInBounds i true).getD j false) ds 0 M0=upd (ds.getD i []) (MD (fun j=>listed.getD j false) ds 0 M0):=by
    refine MD_insert (Nat.zero_le _) (by simpa using hDs) hDi (by rw [hnew];simp) (fun k hk=>by rw [hnew,if_neg hk]) (fun k δ' hk hlt' hkD q hq hq'=>?_)
    rw [Nat.zero_add] at hkD hlt'
    have hkn:=hlisted k hkD
    have hor:ordered bss k i=false:=by
     simp only [ordered,Bool.or_eq_false_iff]
     refine ⟨?_,by simpa using hpost k hkD⟩
     cases hc:(bss.getD i []).contains k with
     | false=>rfl
     | true=>have:=hlt i hin k (by simpa using hc);omega
    obtain ⟨e,he1,he2⟩:=hq
    obtain ⟨e',he1',he2'⟩:=hq'
    have hkd:ds.getD k []=δ':=by simp [List.getD_eq_getElem?_getD,hk]
    exact (hD k i hkn hin (by omega) hor e (by rw [hkd];exact he1)).2 e' he1' (by rw [he2,he2'])
   simp only [wpOp,ho,hwd]
   cases hoi:on i with
   | false =>
    obtain ⟨hv,hδ,hcc⟩:=hoff hoi
    simp only [Bool.false_eq_true,if_false]
    refine ih _ _ w hsz' hcnt' hcl' (by cases o.dst<;>simpa [Act.put] using hd) hbel ⟨ρ,r1,fun k hk=>?_,?_,?_⟩
    ·obtain ⟨q,q1,q2,q3⟩:=r2 k hk
     exact ⟨q,q1,by rw [hnew];split<;>first|rfl|exact q2,q3⟩
    ·rw [hTD,hv];exact r3.put o.dst (v:=.no) (v':=undef) rfl
    ·rw [hMD,hδ,upd_nil];exact r4
   | true =>
    simp only [if_true]
    left
    have hev:=hon hoi
    rw [hroom i hin] at hev
    obtain ⟨h1,δ,h2,h3⟩:=op_ok hcall hev
    have hδ:ds.getD i []=δ:=List.append_cancel_right h2
    subst hδ
    have hagree:Agree (roomOf bss hid m0 ds i) (MD (fun j=>listed.getD j false) ds 0 M0):=by
     intro n b hb
     have hb2:get (memOf (bss.getD i []) ds 0 m0) n=some b:=by
      have hb3:=hb
      unfold roomOf at hb3
      have:∀ (h:Mem),(∀ e∈h,e.2=none)→get (h++memOf (bss.getD i []) ds 0 m0) n=some b→get (memOf (bss.getD i []) ds 0 m0) n=some b:=by
       intro h
       induction h with
       | nil=>intro _ h;exact h
       | cons e r ih2 =>
        intro hn hg
        obtain ⟨k,x⟩:=e
        simp only [List.cons_append,get] at hg
        split at hg
        ·have:=hn (k,x) (by simp)
         simp only at this
         rw [this] at hg
         cases hg
        ·exact ih2 (fun e he=>hn e (by simp [he])) hg
      refine this _ (fun e he=>?_) hb3
      rw [List.getD_eq_getElem?_getD] at he
      cases hh:hid[i]? with
      | none=>rw [hh] at he;simp at he
      | some x =>
       rw [hh] at he
       have:=hH x (List.mem_of_getElem? hh) e he
       simpa using this
     have hb4:=memOf_MD hb2
     refine MD_congr (fun b' hb'=>hm0 n b' hb') (fun k δ' hk ht=>?_) b hb4
     rw [Nat.zero_add]
     have hkn:k < ops.size:=by have:=(List.getElem?_eq_some_iff.1 hk).1;omega
     have:=alike k _ (Array.getElem?_eq_getElem hkn) (fun hki hor=>?_)
     ·rw [this];simp
     ·obtain ⟨e,he1,he2⟩:=ht
      have hkd:ds.getD k []=δ':=by simp [List.getD_eq_getElem?_getD,hk]
      have:=(hD k i hkn hin hki hor e (by rw [hkd];exact he1)).1
      rw [he2,hb] at this
      cases this
    have hfresh:Fresh ρ (C i) (C (i+1)):=by
     intro k hk1 hk2
     by_cases hkk:ρ k=ρ0 k
     ·rw [hkk]
      have:=hCm 0 i (Nat.zero_le _) (by omega)
      have:=hCm (i+1) ops.size hin (Nat.le_refl _)
      exact hfr0 k (by omega) (by omega)
     ·obtain ⟨q,q1,q2,q3,q4⟩:=r2 k hkk
      exfalso
      rcases Nat.lt_trichotomy q i with h|h|h
      ·have:=hCm (q+1) i h (by omega);omega
      ·subst h;rw [hDi] at q2;cases q2
      ·have:=hCm (i+1) q h (by omega);omega
    refine h3 ρ _ a w (fun x hx=>by rw [evO_congr hlook hx];exact evO_ok r3.2 x) hagree hfresh r4 _ _ (fun v' w' hp=>?_)
    obtain ⟨ρ',e1,e2,e3,e4⟩:=hp
    refine ih _ _ w' hsz' hcnt' hcl' (by cases o.dst<;>simpa [Act.put] using hd) (hbel.trans e4) ⟨ρ',r1.trans e1.keep,fun k hk=>?_,?_,?_⟩
    ·by_cases hkk:ρ' k=ρ k
     ·rw [hkk] at hk
      obtain ⟨q,q1,q2,q3⟩:=r2 k hk
      exact ⟨q,q1,by rw [hnew];split<;>first|rfl|exact q2,q3⟩
     ·refine ⟨i,hin,by rw [hnew];simp,?_⟩
      rcases Nat.lt_or_ge k (C i) with h|h
      ·exact absurd (e1.out k (by omega)) hkk
      ·refine ⟨h,?_⟩
       rcases Nat.lt_or_ge k (C (i+1)) with h'|h'
       ·exact h'
       ·exact absurd (e1.out k (by omega)) hkk
    ·rw [hTD];exact (r3.ext e1.keep).put o.dst e2
    ·rw [hMD];exact e3
 have hfalse:∀ j,(Array.replicate ops.size false).getD j false=false:=by
  intro j
  rw [Array.getD_eq_getD_getElem?,Array.getElem?_replicate]
  split<;>rfl
 refine key ops.size _ a0 _ (by simp) ?_ (fun j o hj=>by rw [hfalse] at hj;cases hj) hd0 ((Below.refl B w0).drew) ⟨ρ0,Keep.refl _,fun k hk=>absurd rfl hk,?_,?_⟩
 ·exact Nat.le_trans (List.length_filter_le _ _) (by simp)
 ·have:∀ (l:List Oper) (k:Nat) (t:Nat→AV),TD t0.n (fun i=>(Array.replicate ops.size false).getD i false) V l k t=t:=by
   intro l
   induction l with
   | nil=>intros;rfl
   | cons x l ih=>intro k t;simp only [TD];rw [if_neg (by rw [hfalse];simp),ih]
  rw [this];exact ht0
 ·have:∀ (l:List Mem) (k:Nat) (M:MemF),MD (fun i=>(Array.replicate ops.size false).getD i false) l k M=M:=by
   intro l
   induction l with
   | nil=>intros;rfl
   | cons x l ih=>intro k M;simp only [MD];rw [if_neg (by rw [hfalse];simp),ih]
  rw [this];exact hs0.drew
end Go.Proofs.Ytaelliigpclipaa.Eng
