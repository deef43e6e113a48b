/- The reckoner,for a row: arguments of any depth,as values. -/
import Derived.Test.YtaelliigpclipaaEngFz
import Derived.DataReads
namespace Go.Proofs.Ytaelliigpclipaa.Eng
set_option linter.unusedVariables false
set_option linter.unusedSimpArgs false
open Go Go.RowKit Go.ChangeShapes Go.WideShapes Go.ChangeAt
def FC (z:Nat→Nat→Option Value) (l:List SV) (cs:List Value):Prop:=l.length=cs.length∧∀ (i:Nat) v,l[i]?=some v→∃ c,cs[i]?=some c∧FR z v c
theorem FC.CR {ρ:Rho} {l:List SV} {cs:List Value} (h:FC ρ.fz l cs):CR ρ l cs:=⟨h.1,fun i v c p q=>by
 obtain ⟨c',h1,h2⟩:=h.2 i v p
 rw [q] at h1
 obtain rfl:=Option.some.inj h1
 exact h2.SR⟩
theorem FC.one {z:Nat→Nat→Option Value} {v:SV} {c:Value} (h:FR z v c):FC z [v] [c]:=⟨rfl,fun i u p=>by
 cases i with
 | zero=>obtain rfl:=Option.some.inj p;exact ⟨c,rfl,h⟩
 | succ i=>simp at p⟩
theorem FC.append {z:Nat→Nat→Option Value} {l l':List SV} {cs cs':List Value} (h:FC z l cs) (k:FC z l' cs'):FC z (l++l') (cs++cs'):=by
 refine ⟨by simp [h.1,k.1],fun i v p=>?_⟩
 rw [List.getElem?_append] at p ⊢
 rw [h.1] at p
 split at p
 ·rename_i hi;rw [if_pos hi];exact h.2 i v p
 ·rename_i hi;rw [if_neg hi];exact k.2 _ v p
section
variable {H:Type} (enc:TypeId × Value→H) (P:Program) (W:World) (base:Nat) (spare:Nat→Bool) (held:Bool) {α β:Type}
def Light (t:TypeId) (x:DataW H):Prop:=∀ n∈x.weights P t,n≤reachBytes
def OpensD (t:TypeId) (sz:Nat) (f:α→List SV) (good:α→Prop):Prop :=
 ∀ fuel cs x,DataW.trod enc P W base spare held fuel t cs=some x→Light P t x.1→∃ v:α,FC (fzOf W) (f v) cs∧good v∧(f v).length=sz
def OpensE (o:Nat) (sz:Nat) (f:α→List SV) (L:List Field) (good:α→Prop):Prop :=
 ∀ (n:Nat) (cs:List Value),(∀ q∈L,∃ y,DataW.trod enc P W base spare held n q.type ((cs.drop q.offset).take (P.cellsOf q.type))=some y∧Light P q.type y.1)→∃ v:α,FC (fzOf W) (f v) ((cs.drop o).take sz)∧good v∧(f v).length=sz
variable {enc P W base spare held}
theorem opensD_int {t:TypeId} {k:IntKind} (hu:P.underlying t=some (.int k)):OpensD enc P W base spare held t 1 (fun n:Int=>[.int k n]) (fun n=>(Lit.int k n).wf=true):=by
 intro fuel cs x h _
 obtain ⟨n,rfl,_,hw⟩:=DataW.trod_int hu h
 exact ⟨n,FC.one rfl,hw,rfl⟩
theorem opensD_string {t:TypeId} (hu:P.underlying t=some .string):OpensD enc P W base spare held t 1 (fun s:ByteArray=>[.str s]) (fun s=>s.size≤140737488351232):=by
 intro fuel cs x h hw
 obtain ⟨s,rfl,rfl,hs⟩:=DataW.trod_string hu h
 refine ⟨s,FC.one rfl,?_,rfl⟩
 have:=hw s.data.toList.length (by simp [DataW.weights])
 simpa [reachBytes] using this
theorem opensE_one {o sz:Nat} {f:α→List SV} {q:Field} {good:α→Prop} (ho:q.offset=o) (hc:P.cellsOf q.type=sz) (h:OpensD enc P W base spare held q.type sz f good):OpensE enc P W base spare held o sz f [q] good:=by
 intro n cs hf
 obtain ⟨y,hy,hl⟩:=hf q (by simp)
 rw [ho,hc] at hy
 exact h n _ y hy hl
theorem opensE_cons {o sz sz':Nat} {f:α→List SV} {g:β→List SV} {q:Field} {L:List Field} {good:α→Prop} {good':β→Prop} (ho:q.offset=o) (hc:P.cellsOf q.type=sz) (h:OpensD enc P W base spare held q.type sz f good)
  (hr:OpensE enc P W base spare held (o+sz) sz' g L good'):OpensE enc P W base spare held o (sz+sz') (fun v:α × β=>f v.1++g v.2) (q :: L) (fun v=>good v.1∧good' v.2):=by
 intro n cs hf
 obtain ⟨y,hy,hl⟩:=hf q (by simp)
 rw [ho,hc] at hy
 obtain ⟨v,hv,gv,lv⟩:=h n _ y hy hl
 obtain ⟨u,hu,gu,lu⟩:=hr n cs (fun p hp=>hf p (by simp [hp]))
 refine ⟨(v,u),?_,⟨gv,gu⟩,by simp [lv,lu]⟩
 rw [List.take_add,List.drop_drop]
 exact hv.append hu
theorem opensD_struct {t:TypeId} {fs:Array Field} {sz:Nat} {f:α→List SV} {g:β→List SV} {good:α→Prop} (mk:α→β) (hm:∀ v,g (mk v)=f v) (hu:P.underlying t=some (.struct fs)) (hc:P.cellsOf t=sz) (h:OpensE enc P W base spare held 0 sz f fs.toList good) :
  OpensD enc P W base spare held t sz g (fun b=>∃ v,mk v=b∧good v):=by
 intro fuel cs x hx hw
 obtain ⟨xs,n,_,rfl,hl,hn,hf⟩:=DataW.trod_struct hu hx
 obtain ⟨v,hv,gv,lv⟩:=h n cs (fun q hq=>by
  obtain ⟨i,hi,he⟩:=List.getElem_of_mem hq
  have hfi:fs[i]?=some q:=by
   rw [Array.getElem?_eq_getElem (by simpa using hi)]
   simpa using he
  have:=hf i q hfi
  have hlt:i < xs.length:=by rw [hn];simpa using hi
  rw [List.getElem?_eq_getElem hlt] at this
  refine ⟨_,this,fun k hk=>hw k ?_⟩
  simp only [DataW.weights,hu]
  exact DataW.weights_mem_each (j:=i) (t:=q.type) (d:=xs[i].1) (by rw [List.getElem?_map];simp [hfi]) (by rw [List.getElem?_map,List.getElem?_eq_getElem hlt];rfl) k hk)
 rw [List.drop_zero,List.take_of_length_le (by omega)] at hv
 exact ⟨mk v,by rw [hm];exact hv,⟨v,rfl,gv⟩,by rw [hm];exact lv⟩
theorem OpensD.weak {t:TypeId} {sz:Nat} {f:α→List SV} {good good':α→Prop} (h:OpensD enc P W base spare held t sz f good) (hw:∀ v,good v→good' v):OpensD enc P W base spare held t sz f good':=fun fuel cs x hx hl=>by
 obtain ⟨v,h1,h2,h3⟩:=h fuel cs x hx hl
 exact ⟨v,h1,hw v h2,h3⟩
theorem weights_all {e:TypeId} {d:DataW H}:∀ {l:List (DataW H)},d∈l→∀ n∈d.weights P e,n∈DataW.weightsAll P e l
 | x :: r,h,n,hn=>by
  simp only [DataW.weightsAll,List.mem_append]
  rcases List.mem_cons.1 h with rfl|h
  ·exact .inl hn
  ·exact .inr (weights_all h n hn)
theorem cell_plain {w:World} {a:Addr} {v:Value} (h:w.cell? a=some v):a.spot=none∧a.block < w.heap.size:=by
 unfold World.cell? at h
 split at h
 ·rename_i c e x hb
  constructor
  ·split at h
   ·cases h
   ·rename_i hs;simpa using hs
  ·exact (Array.getElem?_eq_some_iff.1 hb).1
 ·cases h
theorem opensD_slice {t e:TypeId} {sz B:Nat} {f:α→List SV} {good:α→Prop} (hu:P.underlying t=some (.slice e)) (hc:P.cellsOf e=sz) (hs0:0 < sz) (hB:P.bytesOf e=B) (hfl:∀ x,(f x).length=sz) (ho:OpensD enc P W base spare held e sz f good) :
  OpensD enc P W base spare held t 1 (fun L:List α=>[.slv L.length none sz (flat f L)]) (fun L=>(∀ z∈L,good z∧(f z).length=sz)∧L.length≤maxLen∧L.length*B≤140737488351232):=by
 intro fuel cs x hx hw
 rcases DataW.trod_slice hu hx with ⟨rfl,_⟩|⟨a,len,cap,elems,rest,n,_,rfl,rfl,_,hl,hm,hn,he,_⟩
 ·exact ⟨[],FC.one (.inl ⟨rfl,rfl,rfl,fun k hk=>(by cases hk)⟩),⟨fun z hz=>(by cases hz),by simp,by simp⟩,rfl⟩
 ·obtain ⟨vs,hvl,hv⟩:=choose_rows (Q:=fun i v=>(good v∧(f v).length=sz)∧∃ c:List Value,c.length=sz∧FC (fzOf W) (f v) c∧∀ j u,c[j]?=some u→W.cell? (a.add (i*sz+j))=some u) len (fun i hi=>by
   have hei:=he i hi
   rw [hc] at hei
   have hlt:i < elems.length:=by omega
   rw [List.getElem?_eq_getElem hlt] at hei
   obtain ⟨c,hcs,hct⟩:=Option.bind_eq_some_iff.1 hei
   obtain ⟨v,hK,hg,hgl⟩:=ho n c _ hct (fun k hk=>hw k (by
    simp only [DataW.weights,hu,List.mem_cons,List.mem_append]
    exact .inr (.inl (weights_all (List.mem_map.2 ⟨_,List.getElem_mem hlt,rfl⟩) k hk))))
   obtain ⟨_,hcl,hcell⟩:=World.cells?_some hcs
   refine ⟨v,⟨hg,hgl⟩,c,hcl,hK,fun j u hu=>?_⟩
   have hj:j < c.length:=(List.getElem?_eq_some_iff.1 hu).1
   rw [← Addr.add_add,hcell j (by omega),hu])
  have hlen:len*B≤140737488351232:=by
   have:=hw ((elems.length+rest.length)*P.bytesOf e) (by simp [DataW.weights,hu])
   rw [hB] at this
   have h2:len*B≤(elems.length+rest.length)*B:=Nat.mul_le_mul_right _ (by omega)
   exact Nat.le_trans h2 (by simpa [reachBytes] using this)
  refine ⟨vs,FC.one ?_,⟨fun z hz=>?_,by rw [hvl];omega,by rw [hvl];exact hlen⟩,rfl⟩
  ·cases hz:len with
   | zero =>
    rw [hz] at hvl
    obtain rfl:=List.eq_nil_of_length_eq_zero hvl
    exact .inr (.inl ⟨a,cap,rfl,rfl,rfl,hm,fun k hk=>(by cases hk)⟩)
   | succ m =>
    have h0:(0:Nat) < vs.length:=by omega
    obtain ⟨⟨_,g2⟩,c,h1,h2,h3⟩:=hv 0 vs[0] (List.getElem?_eq_getElem h0)
    have hsp:a.spot=none∧a.block < W.heap.size:=by
     have:=h3 0 c[0] (List.getElem?_eq_getElem (by omega))
     have:=cell_plain this
     simpa [Addr.add] using this
    obtain ⟨ab,ao,as⟩:=a
    obtain ⟨rfl,hb⟩:as=none∧ab < W.heap.size:=hsp
    refine .inr (.inr ⟨ab,ao,cap,by rw [hvl,hz],by omega,hm,fun k hk=>(by cases hk),flat_length f sz hfl vs,?_⟩)
    have key:∀ (l:List α) (k:Nat),(∀ i v,l[i]?=some v→∃ c:List Value,c.length=sz∧FC (fzOf W) (f v) c∧∀ j u,c[j]?=some u→W.cell? (Addr.add ⟨ab,ao,none⟩ ((k+i)*sz+j))=some u) →
      ∀ (i:Nat) v,(flat f l)[i]?=some v→∃ c,fzOf W ab (ao+(k*sz+i))=some c∧FR (fzOf W) v c:=by
     intro l
     induction l with
     | nil=>intro k _ i v hi;simp [flat] at hi
     | cons x r ih =>
      intro k hk i v hi
      obtain ⟨c,c1,c2,c3⟩:=hk 0 x rfl
      simp only [flat] at hi
      rw [List.getElem?_append,hfl] at hi
      split at hi
      ·obtain ⟨u,u1,u2⟩:=c2.2 i v hi
       have h9:=c3 i u u1
       rw [Nat.add_zero] at h9
       refine ⟨u,?_,u2⟩
       unfold fzOf
       rw [if_pos hb]
       rw [show (⟨ab,ao+(k*sz+i),none⟩:Addr)=Addr.add ⟨ab,ao,none⟩ (k*sz+i) from by simp [Addr.add]]
       exact h9
      ·obtain ⟨u,u1,u2⟩:=ih (k+1) (fun i v hv=>by have:=hk (i+1) v (by simpa using hv);rwa [show k+(i+1)=k+1+i by omega] at this) _ v hi
       refine ⟨u,?_,u2⟩
       rw [← u1]
       congr 2
       rw [Nat.succ_mul]
       omega
    refine FRL.of_get fun i v hi=>?_
    have:=key vs 0 (fun i v hv'=>by
     obtain ⟨_,c,h1,h2,h3⟩:=hv i v hv'
     exact ⟨c,h1,h2,fun j u hu=>by rw [Nat.zero_add];exact h3 j u hu⟩) i v hi
    rwa [Nat.zero_mul,Nat.zero_add] at this
  ·obtain ⟨j,hj⟩:=List.getElem?_of_mem hz
   exact (hv j z hj).1
theorem deep_struct {t:TypeId} {fs:Array Field} {sz:Nat} {f:α→List SV} {good:α→Prop} {v:Value} {x:DataW H} {ps:List MemPlace} {r:Reach} {b0 j:Nat} {ts:List TypeId} {ds:List (DataW H)} (hsz:(DataW.weightsEach P ts ds).all (·≤reachBytes)=true) (ht:ts[j]?=some t) (hd:ds[j]?=some x)
  (hu:P.underlying t=some (.struct fs)) (hval:Value.okWide P W r b0 t v) (ho:OpensD enc P W base spare held t sz f good) (h:DataW.Trod enc P W base spare held t v x ps):∃ z:α,good z∧∀ ρ:Rho,ρ.fz=fzOf W→VR ρ (.agg (f z)) v:=by
 obtain ⟨cs,rfl,_⟩:=okWide_struct hu hval
 obtain ⟨fuel,hf⟩:=h
 obtain ⟨z,h1,h2,_⟩:=ho fuel _ _ hf (fun n hn=>by simpa using List.all_eq_true.1 hsz _ (DataW.weights_mem_each ht hd n hn))
 exact ⟨z,h2,fun ρ hρ=>⟨cs,rfl,FC.CR (by rw [hρ];exact h1)⟩⟩
theorem deep_cell {t:TypeId} {f:α→SV} {good:α→Prop} {v:Value} {x:DataW H} {ps:List MemPlace} {j:Nat} {ts:List TypeId} {ds:List (DataW H)} (hsz:(DataW.weightsEach P ts ds).all (·≤reachBytes)=true) (ht:ts[j]?=some t) (hd:ds[j]?=some x)
  (hone:v.cells=#[v]) (ho:OpensD enc P W base spare held t 1 (fun a=>[f a]) good) (h:DataW.Trod enc P W base spare held t v x ps):∃ z:α,good z∧∀ ρ:Rho,ρ.fz=fzOf W→VR ρ (.s (f z)) v:=by
 obtain ⟨fuel,hf⟩:=h
 obtain ⟨z,h1,h2,_⟩:=ho fuel _ _ hf (fun n hn=>by simpa using List.all_eq_true.1 hsz _ (DataW.weights_mem_each ht hd n hn))
 refine ⟨z,h2,fun ρ hρ=>?_⟩
 obtain ⟨c,e1,e2⟩:=h1.2 0 (f z) rfl
 have:c=v:=by
  rw [hone] at e1
  simpa using e1.symm
 subst this
 rw [← hρ] at e2
 exact e2.SR
theorem ValDoes.of_args {f:FuncId} {args:List AV} {args':List Value} {q:Bool} (ha:AllR (rhoOf W (fun _=>none)) args args') (hp:ValDoes P f args (.s (.bool q))):Calls P f args'.toArray W fun e w'=>e=.returned (.bool q)∧Below W.heap.size W w':=by
 obtain ⟨_,_,δ,_,h3⟩:=(hp W.heap.size 0).ok
 have hA:ArgsR (rhoOf W (fun _=>none)) args args'.toArray:=by
  obtain ⟨h1,h2⟩:=ha.args
  exact ⟨by simpa using h1,fun i x y hx hy=>h2 i x y hx (by simpa using hy)⟩
 refine (h3 (rhoOf W (fun _=>none)) (fun _=>none) _ W hA (fun n b hn=>by cases hn) (fun n _ _=>rfl) ⟨Nat.le_refl _,fun n b hn=>(by cases hn),fun n n' b b' l l' hn=>(by cases hn),fun b o v h=>fzOf_in h,fun n b l hn=>(by cases hn)⟩).mono fun e w' ⟨v',he,ρ',_,hv,_,bel⟩=>?_
 refine ⟨?_,bel⟩
 rw [he]
 exact congrArg _ hv
end
end Go.Proofs.Ytaelliigpclipaa.Eng
