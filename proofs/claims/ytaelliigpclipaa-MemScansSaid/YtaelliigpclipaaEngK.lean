/- The reckoner: regions whose order is drawn. -/
import Derived.Test.YtaelliigpclipaaEngJ
import Derived.Orders
namespace Go.Proofs.Ytaelliigpclipaa.Eng
set_option linter.unusedVariables false
set_option linter.unusedSimpArgs false
open Go Go.RowKit
def direct (o:Oper):List Nat:=(o.after.toList.filter (Region.binds .any ·)).map (·.on)
def befores:List Oper→List (List Nat)→List (List Nat)
 | [],acc=>acc
 | o :: r,acc=>befores r (acc++[((direct o)++(direct o).flatMap fun k=>acc.getD k []).eraseDups])
def join (bs:List Nat) (k:Nat) (δ m:Mem):Mem:=match δ with
 | []=>m
 | e :: r=>if bs.contains k then e :: r++m else m
theorem join_eq (bs:List Nat) (k:Nat) (δ m:Mem):join bs k δ m=if bs.contains k then δ++m else m:=by cases δ<;>simp [join]
def memOf (bs:List Nat):List Mem→Nat→Mem→Mem
 | [],_,m=>m
 | δ :: r,k,m=>memOf bs r (k+1) (join bs k δ m)
def allOf:List Mem→Mem→Mem
 | [],m=>m
 | δ :: r,m=>allOf r (δ++m)
section
variable (P:Program)
def roomOf (bss:List (List Nat)) (hid:List Mem) (m0:Mem) (ds:List Mem) (j:Nat):Mem:=hid.getD j []++memOf (bss.getD j []) ds 0 m0
def evD (call:CallF) (ops:Array Oper) (bss:List (List Nat)) (hid:List Mem) (m0:Mem):List Oper→Nat→Tm→List Mem→Nat→Option (Tm × List Mem × Nat)
 | [],_,t,ds,c=>some (t,ds,c)
 | o :: r,j,t,ds,c=>match want ops (look t) o with
  | some true=>match evOp P call o.op o.type (look t) (roomOf bss hid m0 ds j) c with
   | some (v,m',c')=>evD call ops bss hid m0 r (j+1) (putT t o.dst v) (ds++[m'.take (m'.length - (roomOf bss hid m0 ds j).length)]) c'
   | none=>none
  | some false=>evD call ops bss hid m0 r (j+1) (putT t o.dst .no) (ds++[[]]) c
  | none=>none
end
def ordered (bss:List (List Nat)) (i j:Nat):Bool:=(bss.getD j []).contains i||(bss.getD i []).contains j
def static (ops:Array Oper) (bss:List (List Nat)):Bool :=
 (List.range ops.size).all fun j=>match ops[j]? with
  | none=>true
  | some o=>((direct o).all fun k=>decide (k < j)) &&
   ((bss.getD j []).all fun i=>(direct o).any fun k=>i == k||(bss.getD k []).contains i) &&
   ((List.range ops.size).all fun i=>i == j||ordered bss i j||(match ops[i]? with|some o'=>o'.apart ops o|none=>true))
def pairs (n:Nat) (bss:List (List Nat)):List (Nat × Nat):=(List.range n).flatMap fun j=>((List.range n).filter fun i=>!(i == j||ordered bss i j)).map fun i=>(i,j)
def dyn (ops:Array Oper) (bss:List (List Nat)) (hid:List Mem) (m0:Mem) (ds:List Mem):Bool :=
 (hid.all fun h=>h.all fun e=>e.2.isNone) &&
 (pairs ops.size bss).all fun p=>(ds.getD p.1 []).all fun e=>(get (roomOf bss hid m0 ds p.2) e.1).isNone&&(ds.getD p.2 []).all fun e'=>decide (e.1≠e'.1)
def hides (ops:Array Oper) (bss:List (List Nat)) (ds:List Mem):List Mem :=
 (List.range ops.size).map fun j=>(List.range ops.size).flatMap fun i=>if i == j||ordered bss i j then [] else (ds.getD i []).map fun e=>(e.1,none)
def evDrawn (P:Program) (call:CallF) (ops:Array Oper) (t:Tm) (m:Mem) (c:Nat):Option (Tm × Mem × Nat) :=
 if static ops (befores ops.toList []) then
  match evD P call ops (befores ops.toList []) [] m ops.toList 0 t [] c with
  | some (t',ds,c')=>if dyn ops (befores ops.toList []) [] m ds then some (t',allOf ds m,c') else
   match evD P call ops (befores ops.toList []) (hides ops (befores ops.toList []) ds) m ops.toList 0 t [] c with
   | some (t',ds',c')=>if dyn ops (befores ops.toList []) (hides ops (befores ops.toList []) ds) m ds' then some (t',allOf ds' m,c') else none
   | none=>none
  | none=>none
 else none
def regAll (P:Program):RegF:=fun call ops draw t m c=>if draw then evDrawn P call ops t m c else evOps P call ops ops.toList t m c
def MD (D:Nat→Bool):List Mem→Nat→MemF→MemF
 | [],_,M=>M
 | δ :: r,k,M=>MD D r (k+1) (if D k then upd δ M else M)
def TD (n:Nat) (D:Nat→Bool) (V:Nat→AV):List Oper→Nat→(Nat→AV)→(Nat→AV)
 | [],_,t=>t
 | o :: r,k,t=>TD n D V r (k+1) (if D k then setF n t o.dst (V k) else t)
def Touch (δ:Mem) (n:Nat):Prop:=∃ e∈δ,e.1=n
theorem upd_out {δ:Mem} {n:Nat} (h:¬ Touch δ n) (M:MemF):upd δ M n=M n:=by
 unfold upd
 cases hf:δ.find? (fun e=>e.1 == n) with
 | none=>rfl
 | some e=>exact absurd ⟨e,List.mem_of_find?_eq_some hf,by simpa using List.find?_some hf⟩ h
theorem upd_in {δ:Mem} {n:Nat} (h:Touch δ n) (M M':MemF):upd δ M n=upd δ M' n:=by
 unfold upd
 cases hf:δ.find? (fun e=>e.1 == n) with
 | none =>
  obtain ⟨e,h1,h2⟩:=h
  have:=(List.find?_eq_none.1 hf) e h1
  simp [h2] at this
 | some e=>rfl
theorem upd_comm {δ δ':Mem} (h:∀ n,Touch δ n→¬ Touch δ' n) (M:MemF):upd δ (upd δ' M)=upd δ' (upd δ M):=by
 funext n
 by_cases h1:Touch δ n
 ·rw [upd_out (h n h1),upd_in h1 _ M]
 ·rw [upd_out h1]
  by_cases h2:Touch δ' n
  ·exact upd_in h2 _ _
  ·rw [upd_out h2,upd_out h2,upd_out h1]
theorem MD_comm {D:Nat→Bool} {δ:Mem}:∀ {ds:List Mem} {k:Nat} {M:MemF},(∀ (i:Nat) δ',ds[i]?=some δ'→D (k+i)=true→∀ n,Touch δ' n→¬ Touch δ n)→MD D ds k (upd δ M)=upd δ (MD D ds k M)
 | [],_,_,_=>rfl
 | x :: r,k,M,h=>by
  have ih:∀ M,MD D r (k+1) (upd δ M)=upd δ (MD D r (k+1) M):=fun M=>MD_comm (fun i δ' hi hD=>h (i+1) δ' (by simpa using hi) (by rw [← hD];congr 1;omega))
  simp only [MD]
  cases hk:D k with
  | false=>exact ih M
  | true =>
   rw [if_pos rfl,if_pos rfl,upd_comm (h 0 x rfl (by simpa using hk))]
   exact ih _
theorem MD_insert {D D':Nat→Bool} {j:Nat}:∀ {ds:List Mem} {k:Nat} {M:MemF} {δ:Mem},k≤j→ds[j - k]?=some δ→D j=false→D' j=true→(∀ i,i≠j→D' i=D i) →
  (∀ (i:Nat) δ',ds[i]?=some δ'→j < k+i→D (k+i)=true→∀ n,Touch δ' n→¬ Touch δ n)→MD D' ds k M=upd δ (MD D ds k M)
 | [],_,_,_,_,h,_,_,_,_=>by simp at h
 | x :: r,k,M,δ,hk,hj,h0,h1,hne,hd=>by
  by_cases hkj:k=j
  ·subst hkj
   obtain rfl:x=δ:=by simpa using hj
   have same:∀ (l:List Mem) (q:Nat) (M:MemF),k < q→MD D' l q M=MD D l q M:=by
    intro l
    induction l with
    | nil=>intros;rfl
    | cons y l ih=>intro q M hq;simp only [MD];rw [hne q (by omega),ih (q+1) _ (by omega)]
   simp only [MD,h0,h1,if_true,Bool.false_eq_true,if_false]
   rw [same r (k+1) _ (by omega)]
   exact MD_comm (fun i δ' hi hD=>hd (i+1) δ' (by simpa using hi) (by omega) (by rw [← hD];congr 1;omega))
  ·simp only [MD]
   rw [hne k hkj]
   exact MD_insert (by omega) (by rw [show j - k=(j - (k+1))+1 from by omega] at hj;simpa using hj) h0 h1 hne (fun i δ' hi hlt hD=>hd (i+1) δ' (by simpa using hi) (by omega) (by rw [← hD];congr 1;omega))
theorem MD_congr {D D':Nat→Bool} {n:Nat}:∀ {ds:List Mem} {k:Nat} {M M':MemF},(∀ b,M n=some b→M' n=some b)→(∀ (i:Nat) δ,ds[i]?=some δ→Touch δ n→D (k+i)=D' (k+i))→∀ b,MD D ds k M n=some b→MD D' ds k M' n=some b
 | [],_,_,_,h,_,b,hb=>h b hb
 | x :: r,k,M,M',h,hd,b,hb=>by
  simp only [MD] at hb ⊢
  refine MD_congr ?_ (fun i δ hi ht=>by have:=hd (i+1) δ (by simpa using hi) ht;rwa [show k+(i+1)=k+1+i from by omega] at this) b hb
  intro b' hb'
  by_cases ht:Touch x n
  ·have:=hd 0 x rfl ht
   rw [Nat.add_zero] at this
   rw [← this]
   cases hD:D k with
   | true=>rw [hD,if_pos rfl] at hb';rw [if_pos rfl,upd_in ht _ M];exact hb'
   | false=>rw [hD] at hb';exact h b' hb'
  ·have e1:∀ (c:Bool) (M:MemF),(if c then upd x M else M) n=M n:=by
    intro c M
    cases c
    ·rfl
    ·exact upd_out ht M
   rw [e1] at hb' ⊢
   exact h b' hb'
theorem get_append (x m:Mem):get (x++m)=upd x (get m):=by
 induction x with
 | nil=>rfl
 | cons e r ih =>
  obtain ⟨q,y⟩:=e
  funext n
  rw [upd_cons,upd_one,← ih]
  rfl
theorem memOf_MD {bs:List Nat} {n:Nat} {b:Blk}:∀ {ds:List Mem} {k:Nat} {m:Mem},get (memOf bs ds k m) n=some b→MD (fun i=>bs.contains i) ds k (get m) n=some b
 | [],_,_,h=>h
 | x :: r,k,m,h=>by
  simp only [memOf,join_eq] at h
  simp only [MD]
  have:=memOf_MD h
  by_cases hc:bs.contains k=true
  case neg=>rw [if_neg hc] at this ⊢;exact this
  case pos =>
   rw [if_pos hc] at this ⊢
   rw [get_append] at this
   exact this
theorem MD_all {D:Nat→Bool}:∀ {ds:List Mem} {k:Nat} {M:MemF},(∀ i,i < ds.length→D (k+i)=true)→MD D ds k M=upd (allOf ds []) M
 | [],_,_,_=>rfl
 | x :: r,k,M,h=>by
  have e:∀ (l:List Mem) (m:Mem),allOf l m=allOf l []++m:=by
   intro l
   induction l with
   | nil=>intro m;rfl
   | cons y l ih=>intro m;simp only [allOf];rw [ih (y++m),ih (y++[]),List.append_nil,List.append_assoc]
  simp only [MD]
  have h0:=h 0 (by simp)
  rw [Nat.add_zero] at h0
  rw [h0,if_pos rfl,MD_all (fun i hi=>by have:=h (i+1) (by simpa using hi);rwa [show k+(i+1)=k+1+i from by omega] at this)]
  simp only [allOf]
  rw [e r (x++[]),List.append_nil,upd_append]
theorem allOf_eq:∀ (l:List Mem) (m:Mem),allOf l m=allOf l []++m
 | [],_=>rfl
 | y :: l,m=>by simp only [allOf];rw [allOf_eq l (y++m),allOf_eq l (y++[]),List.append_nil,List.append_assoc]
theorem setF_comm {n:Nat} {t:Nat→AV} {d d':Option Tmp} {v v':AV} (h:∀ x,d=some x→d'≠some x):setF n (setF n t d v) d' v'=setF n (setF n t d' v') d v:=by
 cases d with
 | none=>cases d'<;>rfl
 | some x =>
  cases d' with
  | none=>rfl
  | some y =>
   have hxy:x≠y:=fun e=>h x rfl (by rw [e])
   funext i
   simp only [setF]
   by_cases h1:x < n<;>by_cases h2:y < n<;>simp only [h1,h2,if_true,if_false]
   by_cases h3:y=i
   ·subst h3;simp [hxy]
   ·simp [h3]
theorem TD_comm {n:Nat} {D:Nat→Bool} {V:Nat→AV} {d:Option Tmp} {v:AV}:∀ {l:List Oper} {k:Nat} {t:Nat→AV},(∀ (i:Nat) o,l[i]?=some o→D (k+i)=true→∀ x,d=some x→o.dst≠some x)→TD n D V l k (setF n t d v)=setF n (TD n D V l k t) d v
 | [],_,_,_=>rfl
 | o :: r,k,t,h=>by
  have ih:∀ t,TD n D V r (k+1) (setF n t d v)=setF n (TD n D V r (k+1) t) d v:=fun t=>TD_comm (fun i o hi hD=>h (i+1) o (by simpa using hi) (by rw [← hD];congr 1;omega))
  simp only [TD]
  cases hk:D k with
  | false=>exact ih t
  | true =>
   rw [if_pos rfl,if_pos rfl,setF_comm (h 0 o rfl (by simpa using hk))]
   exact ih _
theorem TD_insert {n:Nat} {D D':Nat→Bool} {V:Nat→AV} {j:Nat}:∀ {l:List Oper} {k:Nat} {t:Nat→AV} {o:Oper},k≤j→l[j - k]?=some o→D j=false→D' j=true→(∀ i,i≠j→D' i=D i) →
  (∀ (i:Nat) o',l[i]?=some o'→j < k+i→D (k+i)=true→∀ x,o.dst=some x→o'.dst≠some x)→TD n D' V l k t=setF n (TD n D V l k t) o.dst (V j)
 | [],_,_,_,_,h,_,_,_,_=>by simp at h
 | x :: r,k,t,o,hk,hj,h0,h1,hne,hd=>by
  by_cases hkj:k=j
  ·subst hkj
   obtain rfl:x=o:=by simpa using hj
   have same:∀ (l:List Oper) (q:Nat) (t:Nat→AV),k < q→TD n D' V l q t=TD n D V l q t:=by
    intro l
    induction l with
    | nil=>intros;rfl
    | cons y l ih=>intro q t hq;simp only [TD];rw [hne q (by omega),ih (q+1) _ (by omega)]
   simp only [TD,h0,h1,if_true,Bool.false_eq_true,if_false]
   rw [same r (k+1) _ (by omega)]
   exact TD_comm (fun i o' hi hD=>hd (i+1) o' (by simpa using hi) (by omega) (by rw [← hD];congr 1;omega))
  ·simp only [TD]
   rw [hne k hkj]
   exact TD_insert (by omega) (by rw [show j - k=(j - (k+1))+1 from by omega] at hj;simpa using hj) h0 h1 hne (fun i o' hi hlt hD=>hd (i+1) o' (by simpa using hi) (by omega) (by rw [← hD];congr 1;omega))
theorem TD_congr {n:Nat} {D D':Nat→Bool} {V:Nat→AV} {d:Nat}:∀ {l:List Oper} {k:Nat} {t t':Nat→AV},t d=t' d→(∀ (i:Nat) o,l[i]?=some o→o.dst=some d→D (k+i)=D' (k+i))→TD n D V l k t d=TD n D' V l k t' d
 | [],_,_,_,h,_=>h
 | o :: r,k,t,t',h,hd=>by
  simp only [TD]
  refine TD_congr ?_ (fun i o' hi ho=>by have:=hd (i+1) o' (by simpa using hi) ho;rwa [show k+(i+1)=k+1+i from by omega] at this)
  by_cases ho:o.dst=some d
  ·have:=hd 0 o rfl ho
   rw [Nat.add_zero] at this
   rw [← this,ho]
   cases D k with
   | false=>exact h
   | true =>
    simp only [if_true,setF]
    split
    ·simp
    ·exact h
  ·have e1:∀ (c:Bool) (t:Nat→AV),(if c then setF n t o.dst (V k) else t) d=t d:=by
    intro c t
    cases c
    ·rfl
    ·cases hdst:o.dst with
     | none=>rfl
     | some x =>
      simp only [if_true,setF]
      split
      ·have hne:¬ x=d:=fun e=>ho (by rw [hdst,e])
       simp [hne]
      ·rfl
   rw [e1,e1]
   exact h
end Go.Proofs.Ytaelliigpclipaa.Eng
