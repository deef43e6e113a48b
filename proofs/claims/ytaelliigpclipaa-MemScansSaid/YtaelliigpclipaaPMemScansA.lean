/- MemScans: what its proof rests on, part 1 of 5: several texts in one. -/
import Derived.Test.YtaelliigpclipaaEngAD
import Derived.Test.YtaelliigpclipaaEngSh
import Derived.Test.YtaelliigpclipaaProg
import Derived.KernelRfl
namespace Go.Proofs.Ytaelliigpclipaa.VPl
open Go.RowKit
def vputF:Nat→Nat→List Int
 | 0,n=>[(n:Int)]
 | f+1,n=>if n≤127 then [(n:Int)] else ((n % 128+128:Nat):Int) :: vputF f (n / 128)
def go (a:Int):List Int→Nat→Int→Int × Int × Int
 | [],_,_=>(0,0,10)
 | c :: t,i,acc =>
  if c > 127 then go a t (i+1) (acc+(c % 128)*2 ^ (7*i))
  else if i > 9∨(i=9∧c > 1)∨(i > 0∧c=0) then (0,0,12)
  else (acc+c*2 ^ (7*i),a+i+1,0)
theorem go_late (a:Int) (l:List Int):∀ i acc acc',10≤i→go a l i acc=go a l i acc'∧((go a l i acc)=(0,0,10)∨(go a l i acc)=(0,0,12)):=by
 induction l with
 | nil=>intro i acc acc' _;exact ⟨rfl,.inl rfl⟩
 | cons c t ih =>
  intro i acc acc' hi
  simp only [go]
  by_cases h:c > 127
  ·rw [if_pos h,if_pos h]
   exact ih (i+1) _ _ (by omega)
  ·rw [if_neg h,if_neg h,if_pos (by omega)]
   exact ⟨by rw [if_pos (by omega)],.inr rfl⟩
set_option maxRecDepth 100000 in
theorem go_ok (a:Int) (l:List Int):∀ (i f:Nat) (acc v e:Int),i+f=9→(∀ x∈l,0≤x∧x≤255)→go a l i acc=(v,e,0) →
  ∃ n:Nat,v=acc+n*2 ^ (7*i)∧n*2 ^ (7*i) < 2 ^ 64∧(0 < i→0 < n)∧∃ r,l=vputF f n++r∧e=a+i+(vputF f n).length:=by
 induction l with
 | nil=>intro i f acc v e _ _ h;simp [go] at h
 | cons c t ih =>
  intro i f acc v e hi hb h
  have hc:=hb c (by simp)
  unfold go at h
  by_cases hgt:c > 127
  ·rw [if_pos hgt] at h
   rcases Nat.lt_or_ge i 9 with h9|h9
   ·obtain ⟨f,rfl⟩:∃ f',f=f'+1:=⟨f - 1,by omega⟩
    obtain ⟨n,hv,hn,hp,r,hl,he⟩:=ih (i+1) f _ v e (by omega) (fun x hx=>hb x (by simp [hx])) h
    have hpos:=hp (by omega)
    have e1:(2:Int) ^ (7*(i+1))=2 ^ (7*i)*128:=by rw [Nat.mul_add,Int.pow_add];rfl
    have e1n:2 ^ (7*(i+1))=2 ^ (7*i)*128:=by rw [Nat.mul_add,Nat.pow_add]
    refine ⟨(c % 128).toNat+128*n,?_,?_,fun _=>by omega,r,?_,?_⟩
    ·rw [hv,e1]
     have:(((c % 128).toNat+128*n:Nat):Int)=c % 128+128*n:=by omega
     rw [this,Int.add_mul,Int.mul_comm 128 (n:Int),Int.mul_assoc,Int.mul_comm (2 ^ (7*i)) 128]
     omega
    ·rw [e1n] at hn
     have hm:(c % 128).toNat < 128:=by omega
     have h7:n*(2 ^ (7*i)*128)=n*128*2 ^ (7*i):=by rw [Nat.mul_comm (2 ^ _),Nat.mul_assoc]
     rw [h7] at hn
     have e64:2 ^ 64=2 ^ (57 - 7*i)*128*2 ^ (7*i):=by
      rw [show 128=2 ^ 7 from rfl,← Nat.pow_add,← Nat.pow_add]
      congr 1
      omega
     rw [e64] at hn ⊢
     have hq:n*128 < 2 ^ (57 - 7*i)*128:=Nat.lt_of_mul_lt_mul_right hn
     exact Nat.mul_lt_mul_of_pos_right (by omega) (Nat.two_pow_pos _)
    ·rw [hl]
     rw [vputF.eq_def (f+1)]
     simp only
     rw [if_neg (by omega),show ((c % 128).toNat+128*n) / 128=n from by omega,List.cons_append]
     congr 1
     omega
    ·rw [he]
     rw [vputF.eq_def (f+1)]
     simp only
     rw [if_neg (by omega),show ((c % 128).toNat+128*n) / 128=n from by omega,List.length_cons]
     push_cast
     omega
   ·exfalso
    rcases (go_late a t (i+1) (acc+c % 128*2 ^ (7*i)) 0 (by omega)).2 with h'|h'<;>rw [h'] at h<;>simp at h
  ·rw [if_neg hgt] at h
   split at h
   ·simp at h
   ·rename_i hno
    simp only [Prod.mk.injEq,and_true] at h
    refine ⟨c.toNat,by rw [← h.1];congr 2;omega,?_,fun h0=>by omega,t,?_,?_⟩
    ·have hs:i=0∨i=1∨i=2∨i=3∨i=4∨i=5∨i=6∨i=7∨i=8∨i=9:=by omega
     rcases hs with rfl|rfl|rfl|rfl|rfl|rfl|rfl|rfl|rfl|rfl<;>simp only [Nat.reduceMul,Nat.reducePow]<;>omega
    ·cases f with
     | zero=>simp only [vputF,List.cons_append,List.nil_append];congr 1;omega
     | succ f=>rw [vputF,if_pos (by omega)];simp only [List.cons_append,List.nil_append];congr 1;omega
    ·rw [← h.2]
     cases f with
     | zero=>simp [vputF]
     | succ f=>rw [vputF,if_pos (by omega)];simp
end Go.Proofs.Ytaelliigpclipaa.VPl
namespace Go.Proofs.Ytaelliigpclipaa.VPl
open Go Go.RowKit
set_option linter.unusedVariables false
set_option linter.unusedSimpArgs false
end Go.Proofs.Ytaelliigpclipaa.VPl
namespace Go.Proofs.Ytaelliigpclipaa.V
open Go Go.RowKit Go.Proofs Go.Proofs.Ytaelliigpclipaa.Eng Go.Proofs.Ytaelliigpclipaa.VPl
set_option maxRecDepth 100000
set_option linter.unusedVariables false
set_option linter.unusedSimpArgs false
theorem mix:Try.prog.follows .mixedOrders=true:=by kernel_rfl
theorem el23:Eng.elemOf Try.prog 23=some 28:=by kernel_rfl
theorem el22:Eng.elemOf Try.prog 22=some 25:=by kernel_rfl
theorem sz28:tsize Try.prog 28=some 4:=by kernel_rfl
theorem ag28:tagg Try.prog 28=some true:=by kernel_rfl
theorem sz25:tsize Try.prog 25=some 3:=by kernel_rfl
theorem ag25:tagg Try.prog 25=some true:=by kernel_rfl
theorem sz9:tsize Try.prog 9=some 1:=by kernel_rfl
theorem sz23:tsize Try.prog 23=some 1:=by kernel_rfl
theorem ag23:tagg Try.prog 23=some false:=by kernel_rfl
theorem un9:Try.prog.underlying 9=some .string:=by kernel_rfl
theorem by28:tbytes Try.prog 28=some 48:=by kernel_rfl
theorem by25:tbytes Try.prog 25=some 40:=by kernel_rfl
structure Cl where
 col:ByteArray
 kind:Int
 n:Int
 s:ByteArray
abbrev Cl.cv (x:Cl):List SV:=[.str x.col,sI x.kind,sI x.n,.str x.s]
abbrev Cl0:Cl:=⟨⟨#[]⟩,0,0,⟨#[]⟩⟩
theorem Cl_len:∀ x:Cl,x.cv.length=4:=fun _=>rfl
theorem Cl_plain:∀ x:Cl,∀ v∈x.cv,plainB v=true:=fun x v hv=>by simp at hv;rcases hv with rfl|rfl|rfl|rfl<;>rfl
theorem Cl_flat (L:List Cl):∀ v∈flat Cl.cv L,plainB v=true:=fun v hv=>by obtain ⟨x,hx⟩:=flat_mem hv;exact Cl_plain x v hx
theorem Cl_blk (L:List Cl) (o:Bool):blkN ⟨flat Cl.cv L,o⟩=[]:=List.flatMap_eq_nil_iff.2 fun v hv=>by have:=Cl_flat L v hv;cases v<;>first|rfl|cases this
theorem subCl (L:List Cl):sub (flat Cl.cv L) 0 (L.length*4)=some (flat Cl.cv L):=by
 have:=flat_sub Cl.cv 4 Cl_len L 0 L.length (by omega)
 rwa [Nat.zero_mul,List.drop_zero,List.take_length] at this
theorem Cl_flen (L:List Cl):(flat Cl.cv L).length=L.length*4:=flat_length _ 4 Cl_len L
structure Rw where
 time:Int
 seq:Int
 cells:List Cl
abbrev Rw.cv (x:Rw):List SV:=[sI x.time,sI x.seq,.slv x.cells.length none 4 (flat Cl.cv x.cells)]
abbrev Rw0:Rw:=⟨0,0,[]⟩
theorem Rw_len:∀ x:Rw,x.cv.length=3:=fun _=>rfl
theorem Rw_plain:∀ x:Rw,∀ v∈x.cv,plainB v=true:=fun x v hv=>by simp at hv;rcases hv with rfl|rfl|rfl<;>rfl
theorem Rw_flat (L:List Rw):∀ v∈flat Rw.cv L,plainB v=true:=fun v hv=>by obtain ⟨x,hx⟩:=flat_mem hv;exact Rw_plain x v hx
theorem Rw_blk (L:List Rw) (o:Bool):blkN ⟨flat Rw.cv L,o⟩=[]:=List.flatMap_eq_nil_iff.2 fun v hv=>by have:=Rw_flat L v hv;cases v<;>first|rfl|cases this
theorem subRw (L:List Rw):sub (flat Rw.cv L) 0 (L.length*3)=some (flat Rw.cv L):=by
 have:=flat_sub Rw.cv 3 Rw_len L 0 L.length (by omega)
 rwa [Nat.zero_mul,List.drop_zero,List.take_length] at this
theorem Rw_flen (L:List Rw):(flat Rw.cv L).length=L.length*3:=flat_length _ 3 Rw_len L
theorem zr28:tzero Try.prog 28=some [.str ⟨#[]⟩,sI 0,sI 0,.str ⟨#[]⟩]:=by kernel_rfl
theorem zr25:tzero Try.prog 25=some [sI 0,sI 0,.sl0]:=by kernel_rfl
theorem ixCl {kd:IntKind} {q:Int} {k len:Nat} {cap:Option Nat} {L:List Cl} (hq:q=(k:Int)) (h1:k < L.length) (hl:len=L.length):evIndexAddr Try.prog 23 (.s (.slv len cap 4 (flat Cl.cv L))) (.s (.int kd q))=some (.s (.ptv (L.getD k Cl0).cv)):=claim_indexv Cl0 Cl_len el23 sz28 hq h1 hl
theorem ixpCl {kd:IntKind} {k len:Nat} {cap:Option Nat} {L:List Cl} (h0:0 < k) (h1:k≤L.length) (hl:len=L.length):evIndexAddr Try.prog 23 (.s (.slv len cap 4 (flat Cl.cv L))) (.s (.int kd ((k:Int) - 1)))=some (.s (.ptv (L.getD (k - 1) Cl0).cv)):=claim_indexv Cl0 Cl_len el23 sz28 (by omega) (by omega) hl
theorem appoCl {n n2 len c:Nat} {A:List Cl} {news:List SV} {own2:Bool} (hne:n≠n2) (hl:len=A.length) (hn:news.length=4) (hmax:A.length+1≤maxLen) (hby:(A.length+1)*48≤140737488355328) :
  less 2 (evAppend Try.prog 23 23 (.s (.sl n 0 len none 4)) (.s (.sl n2 0 1 none 4)) [(n,some ⟨flat Cl.cv A,true⟩),(n2,some ⟨news,own2⟩)] c)=some (.s (.sl c 0 (len+1) none 4),[(c,some ⟨flat Cl.cv A++news,true⟩),(n,none)],c+1):=by
 subst hl
 exact claim_appown el23 el23 sz28 by28 zr28 rfl (by decide) hne (Cl_flen A) (by unfold sub;rw [if_pos (by omega),List.drop_zero,← hn,Nat.one_mul,List.take_length]) hmax hby
theorem appCl {tx e2 n len k c:Nat} {cap:Option Nat} {A X:List Cl} (hx:Eng.elemOf Try.prog tx=some e2) (hl:len=A.length) (hk:k=X.length) (hmax:A.length+X.length≤maxLen) (hby:(A.length+X.length)*48≤140737488355328) :
  less 1 (evAppend Try.prog 23 tx (.s (.sl n 0 len none 4)) (.s (.slv k cap 4 (flat Cl.cv X))) [(n,some ⟨flat Cl.cv A,true⟩)] c)=some (.s (.sl c 0 (len+k) none 4),[(c,some ⟨flat Cl.cv (A++X),true⟩),(n,none)],c+1):=by
 subst hl;subst hk
 rw [flat_append]
 exact claim_appv el23 hx sz28 by28 zr28 rfl (by decide) (Cl_flen A) hmax hby
theorem app0Cl {tx e2 n k c:Nat} {cap:Option Nat} {X:List Cl} (hx:Eng.elemOf Try.prog tx=some e2) (hk:k=X.length) (hmax:X.length≤maxLen) (hby:X.length*48≤140737488355328) :
  less 1 (evAppend Try.prog 23 tx (.s (.sl n 0 0 none 4)) (.s (.slv k cap 4 (flat Cl.cv X))) [(n,some ⟨[],true⟩)] c)=some (.s (.sl c 0 k none 4),[(c,some ⟨flat Cl.cv X,true⟩),(n,none)],c+1):=by
 have:=appCl (n:=n) (c:=c) (cap:=cap) (len:=0) (A:=[]) (X:=X) hx rfl hk (by simpa using hmax) (by simpa using hby)
 rw [Nat.zero_add] at this
 exact this
theorem ixRw {kd:IntKind} {q:Int} {k len:Nat} {cap:Option Nat} {L:List Rw} (hq:q=(k:Int)) (h1:k < L.length) (hl:len=L.length):evIndexAddr Try.prog 22 (.s (.slv len cap 3 (flat Rw.cv L))) (.s (.int kd q))=some (.s (.ptv (L.getD k Rw0).cv)):=claim_indexv Rw0 Rw_len el22 sz25 hq h1 hl
theorem appoRw {n n2 len c:Nat} {A:List Rw} {news:List SV} {own2:Bool} (hne:n≠n2) (hl:len=A.length) (hn:news.length=3) (hmax:A.length+1≤maxLen) (hby:(A.length+1)*40≤140737488355328) :
  less 2 (evAppend Try.prog 22 22 (.s (.sl n 0 len none 3)) (.s (.sl n2 0 1 none 3)) [(n,some ⟨flat Rw.cv A,true⟩),(n2,some ⟨news,own2⟩)] c)=some (.s (.sl c 0 (len+1) none 3),[(c,some ⟨flat Rw.cv A++news,true⟩),(n,none)],c+1):=by
 subst hl
 exact claim_appown el22 el22 sz25 by25 zr25 rfl (by decide) hne (Rw_flen A) (by unfold sub;rw [if_pos (by omega),List.drop_zero,← hn,Nat.one_mul,List.take_length]) hmax hby
theorem ixsRw {kd:IntKind} {q:Int} {k len n off:Nat} {cap:Option Nat} (hq:q=(k:Int)) (h1:k < len):evIndexAddr Try.prog 22 (.s (.sl n off len cap 3)) (.s (.int kd q))=some (.s (.ptr n (off+k*3))):=claim_index el22 sz25 hq h1
theorem loadRw {n off k:Nat} {L:List Rw} {o:Bool} (ho:off=0) (h:k < L.length):loadG Try.prog 25 (.s (.ptr n (off+k*3))) (fun _=>some ⟨flat Rw.cv L,o⟩)=some (.agg (L.getD k Rw0).cv):=by
 subst ho
 refine claim_load_agg sz25 ag25 ?_
 show sub (flat Rw.cv L) (0+k*3) 3=_
 rw [Nat.zero_add,flat_get Rw.cv 3 Rw_len L k h]
 simp [h]
theorem appRw {tx e2 n len k c:Nat} {cap:Option Nat} {A X:List Rw} (hx:Eng.elemOf Try.prog tx=some e2) (hl:len=A.length) (hk:k=X.length) (hmax:A.length+X.length≤maxLen) (hby:(A.length+X.length)*40≤140737488355328) :
  less 1 (evAppend Try.prog 22 tx (.s (.sl n 0 len none 3)) (.s (.slv k cap 3 (flat Rw.cv X))) [(n,some ⟨flat Rw.cv A,true⟩)] c)=some (.s (.sl c 0 (len+k) none 3),[(c,some ⟨flat Rw.cv (A++X),true⟩),(n,none)],c+1):=by
 subst hl;subst hk
 rw [flat_append]
 exact claim_appv el22 hx sz25 by25 zr25 rfl (by decide) (Rw_flen A) hmax hby
theorem app0Rw {tx e2 n k c:Nat} {cap:Option Nat} {X:List Rw} (hx:Eng.elemOf Try.prog tx=some e2) (hk:k=X.length) (hmax:X.length≤maxLen) (hby:X.length*40≤140737488355328) :
  less 1 (evAppend Try.prog 22 tx (.s (.sl n 0 0 none 3)) (.s (.slv k cap 3 (flat Rw.cv X))) [(n,some ⟨[],true⟩)] c)=some (.s (.sl c 0 k none 3),[(c,some ⟨flat Rw.cv X,true⟩),(n,none)],c+1):=by
 have:=appRw (n:=n) (c:=c) (cap:=cap) (len:=0) (A:=[]) (X:=X) hx rfl hk (by simpa using hmax) (by simpa using hby)
 rw [Nat.zero_add] at this
 exact this
theorem neCl {a0 b0:ByteArray} {a1 b1:Int} {a2 b2:Int} {a3 b3:ByteArray}:Option.map AV.s (evBin Try.prog .neq 28 (.agg [.str a0,sI a1,sI a2,.str a3]) (.agg [.str b0,sI b1,sI b2,.str b3]))=some (.s (.bool (!allB [(a0.data.toList == b0.data.toList),(a1 == b1),(a2 == b2),(a3.data.toList == b3.data.toList)]))):=claim_nes (fs:=(fieldsOf Try.prog 28).getD #[]) (by kernel_rfl) (by kernel_rfl) (by kernel_rfl)
abbrev CD:=CallDoes Try.prog
abbrev KD:=CodeDoes Try.prog
theorem over_flat {α:Type} {f:α→List SV} {sz:Nat} (hf:∀ x,(f x).length=sz) (y:α):∀ (L:List α) (i:Nat),i < L.length→over (flat f L) (i*sz) (f y)=flat f (L.set i y)
 | [],i,h=>by simp at h
 | x :: L,0,h=>by
  show (flat f (x :: L)).take (0*sz)++f y++(flat f (x :: L)).drop (0*sz+(f y).length)=_
  rw [Nat.zero_mul,List.take_zero,List.nil_append,Nat.zero_add,hf,List.set_cons_zero,flat,flat]
  congr 1
  rw [← hf x,List.drop_left]
 | x :: L,i+1,h=>by
  have ih:=over_flat hf y L i (by simpa using h)
  unfold over at ih ⊢
  rw [List.set_cons_succ,flat,flat,← ih,Nat.succ_mul,Nat.add_comm (i*sz) sz]
  have h1:(f x++flat f L).take (sz+i*sz)=f x++(flat f L).take (i*sz):=by rw [← hf x,List.take_length_add_append]
  have h2:(f x++flat f L).drop (sz+i*sz+(f y).length)=(flat f L).drop (i*sz+(f y).length):=by rw [Nat.add_assoc,← hf x,List.drop_length_add_append]
  rw [h1,h2]
  simp only [List.append_assoc]
theorem claim_storew {α:Type} {f:α→List SV} {t sz n off i c:Nat} {L:List α} (y:α) {cs:List SV} (hf:∀ x,(f x).length=sz) (hs:tsize Try.prog t=some sz) (ho:off=i*sz) (hi:i < L.length) (hy:f y=cs) :
  storeR (storeG Try.prog t (.s (.ptr n off)) (.agg cs) (fun _=>some ⟨flat f L,true⟩)) c=some (.any,[(n,some ⟨flat f (L.set i y),true⟩)],c):=by
 subst ho
 subst hy
 have hl:(flat f L).length=L.length*sz:=flat_length f sz hf L
 have hle:i*sz+sz≤(flat f L).length:=by
  rw [hl]
  have:(i+1)*sz≤L.length*sz:=Nat.mul_le_mul_right _ hi
  rw [Nat.succ_mul] at this
  omega
 have hc:((f y).length == sz&&decide (i*sz+sz≤(flat f L).length))=true:=by
  rw [Bool.and_eq_true]
  exact ⟨by simp [hf],decide_eq_true hle⟩
 simp only [storeG,hs,AV.cells]
 rw [if_pos hc,over_flat hf y L i hi]
 rfl
theorem stwRw {n off k c len:Nat} {L:List Rw} {t q:Int} {C:List Cl} (ho:off=0) (hl:len=C.length) (h:k < L.length):storeR (storeG Try.prog 25 (.s (.ptr n (off+k*3))) (.agg [sI t,sI q,.slv len none 4 (flat Cl.cv C)]) (fun _=>some ⟨flat Rw.cv L,true⟩)) c=some (.any,[(n,some ⟨flat Rw.cv (L.set k ⟨t,q,C⟩),true⟩)],c):=by
 subst ho;subst hl;exact claim_storew (i:=k) ⟨t,q,C⟩ Rw_len sz25 (show 0+k*3=k*3 by omega) h rfl
theorem ldRw_cells {n k:Nat} {L:List Rw} {o:Bool} (h:k < L.length):loadG Try.prog 23 (.s (.ptr n (0+k*3+2))) (fun _=>some ⟨flat Rw.cv L,o⟩)=some (.s (.slv ((L).getD k Rw0).cells.length none 4 (flat Cl.cv ((L).getD k Rw0).cells))):=claim_loadf (i:=k) (j:=2) Rw0 Rw_len sz23 ag23 (by omega) h (by decide) rfl
theorem stRw_cells {n k c len:Nat} {L:List Rw} {C:List Cl} (hl:len=C.length) (h:k < L.length):storeR (storeG Try.prog 23 (.s (.ptr n (0+k*3+2))) (.s (.slv len none 4 (flat Cl.cv C))) (fun _=>some ⟨flat Rw.cv L,true⟩)) c=some (.any,[(n,some ⟨flat Rw.cv (L.set k ⟨(L.getD k Rw0).time,(L.getD k Rw0).seq,C⟩),true⟩)],c):=by
 subst hl;exact claim_storef (i:=k) (j:=2) Rw0 ⟨(L.getD k Rw0).time,(L.getD k Rw0).seq,C⟩ Rw_len sz23 (by omega) h (by decide) rfl
theorem ixspRw {kd:IntKind} {k len n off:Nat} {cap:Option Nat} (h0:0 < k) (h1:k≤len):evIndexAddr Try.prog 22 (.s (.sl n off len cap 3)) (.s (.int kd ((k:Int) - 1)))=some (.s (.ptr n (off+(k - 1)*3))):=claim_index el22 sz25 (by omega) (by omega)
@[irreducible] def cmpI (x y:Int):Int:=if x < y then -1 else if x > y then 1 else 0
attribute [local irreducible] Eng.evAppend Eng.evSlice Eng.less CallDoes Eng.loadG Eng.evIndexAddr Eng.evBin
theorem nanA_1 {B:Nat} (x:Int) :CodeDoes Try.prog B (Try.f70.body.getD .skip) ⟨⟨6,[(0,.s (sI x))]⟩,[],0⟩ Ex.ret ⟨⟨6,[(2,AV.s (SV.bool false))]⟩,[],0⟩ :=
 goA_ok mix (tape:=[(3,aF)]) (dl:=[2]) (nl:=[]) (C:=[(IsF (x != x))]) (by kernel_rfl) ⟨claim_b (bne_eq_false_iff_eq.2 (by first|assumption|omega)),trivial⟩
theorem nanA_does (x:Int):ValDoes Try.prog 70 [.s (sI x)] (.s (.bool false)):=by
 exact ValDoes.of_code Try.func70 (by kernel_rfl) (by kernel_rfl) (k:=6) (by kernel_rfl) (fun B=>⟨_,_,.inr rfl,nanA_1 x,Eq.trans (b:=some (AV.s (SV.bool false))) (by kernel_rfl) (congrArg some (show (AV.s (SV.bool false))=(.s (.bool false)) by refine congrArg (fun b=>AV.s (SV.bool b)) ?_;simp))⟩) (by kernel_rfl) (List.all_eq_true.1 (by kernel_rfl))
theorem nanA_call {B cc:Nat} (x:Int):CallDoes Try.prog B 70 [.s (sI x)] [] cc (.s (.bool false)) ([]++[]) cc:=orVal (nanA_does x)
theorem nanB_1 {B:Nat} (x:Int) :CodeDoes Try.prog B (Try.f71.body.getD .skip) ⟨⟨6,[(0,.s (sI x))]⟩,[],0⟩ Ex.ret ⟨⟨6,[(2,AV.s (SV.bool false))]⟩,[],0⟩ :=
 goA_ok mix (tape:=[(3,aF)]) (dl:=[2]) (nl:=[]) (C:=[(IsF (x != x))]) (by kernel_rfl) ⟨claim_b (bne_eq_false_iff_eq.2 (by first|assumption|omega)),trivial⟩
theorem nanB_does (x:Int):ValDoes Try.prog 71 [.s (sI x)] (.s (.bool false)):=by
 exact ValDoes.of_code Try.func71 (by kernel_rfl) (by kernel_rfl) (k:=6) (by kernel_rfl) (fun B=>⟨_,_,.inr rfl,nanB_1 x,Eq.trans (b:=some (AV.s (SV.bool false))) (by kernel_rfl) (congrArg some (show (AV.s (SV.bool false))=(.s (.bool false)) by refine congrArg (fun b=>AV.s (SV.bool b)) ?_;simp))⟩) (by kernel_rfl) (List.all_eq_true.1 (by kernel_rfl))
theorem nanB_call {B cc:Nat} (x:Int):CallDoes Try.prog B 71 [.s (sI x)] [] cc (.s (.bool false)) ([]++[]) cc:=orVal (nanB_does x)
theorem cmpA_1 {B:Nat} (x y:Int) (h_1:x < y):CodeDoes Try.prog B (Try.f52.body.getD .skip) ⟨⟨20,[(0,.s (sI x)),(1,.s (sI y))]⟩,[],0⟩ Ex.ret ⟨⟨20,[(4,AV.s (sI (-1)))]⟩,[],0⟩ :=
 goA_ok mix (tape:=[(2,aC (AV.s (SV.bool false)) 0),(5,aC (AV.s (SV.bool false)) 0),(11,aT)]) (dl:=[4]) (nl:=[]) (C:=[(IsT (decide (x < y))),(CD B 70 [AV.s (sI y)] [] 0 (AV.s (SV.bool false)) ([]++[]) 0),(CD B 70 [AV.s (sI x)] [] 0 (AV.s (SV.bool false)) ([]++[]) 0)]) (by kernel_rfl) ⟨cTa,by (apply nanA_call),by (apply nanA_call),trivial⟩
theorem cmpA_2 {B:Nat} (x y:Int) (h_1:¬ (x < y)) (h_2:x > y):CodeDoes Try.prog B (Try.f52.body.getD .skip) ⟨⟨20,[(0,.s (sI x)),(1,.s (sI y))]⟩,[],0⟩ Ex.ret ⟨⟨20,[(4,AV.s (sI 1))]⟩,[],0⟩ :=
 goA_ok mix (tape:=[(2,aC (AV.s (SV.bool false)) 0),(5,aC (AV.s (SV.bool false)) 0),(11,aF),(14,aT)]) (dl:=[4]) (nl:=[]) (C:=[(IsT (decide (x > y))),(IsF (decide (x < y))),(CD B 70 [AV.s (sI y)] [] 0 (AV.s (SV.bool false)) ([]++[]) 0),(CD B 70 [AV.s (sI x)] [] 0 (AV.s (SV.bool false)) ([]++[]) 0)]) (by kernel_rfl) ⟨cTa,cFa,by (apply nanA_call),by (apply nanA_call),trivial⟩
theorem cmpA_3 {B:Nat} (x y:Int) (h_1:¬ (x < y)) (h_2:¬ (x > y)):CodeDoes Try.prog B (Try.f52.body.getD .skip) ⟨⟨20,[(0,.s (sI x)),(1,.s (sI y))]⟩,[],0⟩ Ex.ret ⟨⟨20,[(4,AV.s (sI 0))]⟩,[],0⟩ :=
 goA_ok mix (tape:=[(2,aC (AV.s (SV.bool false)) 0),(5,aC (AV.s (SV.bool false)) 0),(11,aF),(14,aF)]) (dl:=[4]) (nl:=[]) (C:=[(IsF (decide (x > y))),(IsF (decide (x < y))),(CD B 70 [AV.s (sI y)] [] 0 (AV.s (SV.bool false)) ([]++[]) 0),(CD B 70 [AV.s (sI x)] [] 0 (AV.s (SV.bool false)) ([]++[]) 0)]) (by kernel_rfl) ⟨cFa,cFa,by (apply nanA_call),by (apply nanA_call),trivial⟩
theorem cmpA_does (x y:Int):ValDoes Try.prog 52 [.s (sI x),.s (sI y)] (.s (sI (cmpI x y))):=by
 by_cases h_1:x < y
 ·exact ValDoes.of_code Try.func52 (by kernel_rfl) (by kernel_rfl) (k:=20) (by kernel_rfl) (fun B=>⟨_,_,.inr rfl,cmpA_1 x y h_1,Eq.trans (b:=some (AV.s (sI (-1)))) (by kernel_rfl) (congrArg some (show (AV.s (sI (-1)))=(.s (sI (cmpI x y))) by refine congrArg (fun b=>AV.s (SV.int .i64 b)) ?_;unfold cmpI;grind))⟩) (by kernel_rfl) (List.all_eq_true.1 (by kernel_rfl))
 ·by_cases h_2:x > y
  ·exact ValDoes.of_code Try.func52 (by kernel_rfl) (by kernel_rfl) (k:=20) (by kernel_rfl) (fun B=>⟨_,_,.inr rfl,cmpA_2 x y h_1 h_2,Eq.trans (b:=some (AV.s (sI 1))) (by kernel_rfl) (congrArg some (show (AV.s (sI 1))=(.s (sI (cmpI x y))) by refine congrArg (fun b=>AV.s (SV.int .i64 b)) ?_;unfold cmpI;grind))⟩) (by kernel_rfl) (List.all_eq_true.1 (by kernel_rfl))
  ·exact ValDoes.of_code Try.func52 (by kernel_rfl) (by kernel_rfl) (k:=20) (by kernel_rfl) (fun B=>⟨_,_,.inr rfl,cmpA_3 x y h_1 h_2,Eq.trans (b:=some (AV.s (sI 0))) (by kernel_rfl) (congrArg some (show (AV.s (sI 0))=(.s (sI (cmpI x y))) by refine congrArg (fun b=>AV.s (SV.int .i64 b)) ?_;unfold cmpI;grind))⟩) (by kernel_rfl) (List.all_eq_true.1 (by kernel_rfl))
theorem cmpA_call {B cc:Nat} (x y:Int):CallDoes Try.prog B 52 [.s (sI x),.s (sI y)] [] cc (.s (sI (cmpI x y))) ([]++[]) cc:=orVal (cmpA_does x y)
theorem cmpB_1 {B:Nat} (x y:Int) (h_1:x < y):CodeDoes Try.prog B (Try.f53.body.getD .skip) ⟨⟨20,[(0,.s (sI x)),(1,.s (sI y))]⟩,[],0⟩ Ex.ret ⟨⟨20,[(4,AV.s (sI (-1)))]⟩,[],0⟩ :=
 goA_ok mix (tape:=[(2,aC (AV.s (SV.bool false)) 0),(5,aC (AV.s (SV.bool false)) 0),(11,aT)]) (dl:=[4]) (nl:=[]) (C:=[(IsT (decide (x < y))),(CD B 71 [AV.s (sI y)] [] 0 (AV.s (SV.bool false)) ([]++[]) 0),(CD B 71 [AV.s (sI x)] [] 0 (AV.s (SV.bool false)) ([]++[]) 0)]) (by kernel_rfl) ⟨cTa,by (apply nanB_call),by (apply nanB_call),trivial⟩
theorem cmpB_2 {B:Nat} (x y:Int) (h_1:¬ (x < y)) (h_2:x > y):CodeDoes Try.prog B (Try.f53.body.getD .skip) ⟨⟨20,[(0,.s (sI x)),(1,.s (sI y))]⟩,[],0⟩ Ex.ret ⟨⟨20,[(4,AV.s (sI 1))]⟩,[],0⟩ :=
 goA_ok mix (tape:=[(2,aC (AV.s (SV.bool false)) 0),(5,aC (AV.s (SV.bool false)) 0),(11,aF),(14,aT)]) (dl:=[4]) (nl:=[]) (C:=[(IsT (decide (x > y))),(IsF (decide (x < y))),(CD B 71 [AV.s (sI y)] [] 0 (AV.s (SV.bool false)) ([]++[]) 0),(CD B 71 [AV.s (sI x)] [] 0 (AV.s (SV.bool false)) ([]++[]) 0)]) (by kernel_rfl) ⟨cTa,cFa,by (apply nanB_call),by (apply nanB_call),trivial⟩
theorem cmpB_3 {B:Nat} (x y:Int) (h_1:¬ (x < y)) (h_2:¬ (x > y)):CodeDoes Try.prog B (Try.f53.body.getD .skip) ⟨⟨20,[(0,.s (sI x)),(1,.s (sI y))]⟩,[],0⟩ Ex.ret ⟨⟨20,[(4,AV.s (sI 0))]⟩,[],0⟩ :=
 goA_ok mix (tape:=[(2,aC (AV.s (SV.bool false)) 0),(5,aC (AV.s (SV.bool false)) 0),(11,aF),(14,aF)]) (dl:=[4]) (nl:=[]) (C:=[(IsF (decide (x > y))),(IsF (decide (x < y))),(CD B 71 [AV.s (sI y)] [] 0 (AV.s (SV.bool false)) ([]++[]) 0),(CD B 71 [AV.s (sI x)] [] 0 (AV.s (SV.bool false)) ([]++[]) 0)]) (by kernel_rfl) ⟨cFa,cFa,by (apply nanB_call),by (apply nanB_call),trivial⟩
theorem cmpB_does (x y:Int):ValDoes Try.prog 53 [.s (sI x),.s (sI y)] (.s (sI (cmpI x y))):=by
 by_cases h_1:x < y
 ·exact ValDoes.of_code Try.func53 (by kernel_rfl) (by kernel_rfl) (k:=20) (by kernel_rfl) (fun B=>⟨_,_,.inr rfl,cmpB_1 x y h_1,Eq.trans (b:=some (AV.s (sI (-1)))) (by kernel_rfl) (congrArg some (show (AV.s (sI (-1)))=(.s (sI (cmpI x y))) by refine congrArg (fun b=>AV.s (SV.int .i64 b)) ?_;unfold cmpI;grind))⟩) (by kernel_rfl) (List.all_eq_true.1 (by kernel_rfl))
 ·by_cases h_2:x > y
  ·exact ValDoes.of_code Try.func53 (by kernel_rfl) (by kernel_rfl) (k:=20) (by kernel_rfl) (fun B=>⟨_,_,.inr rfl,cmpB_2 x y h_1 h_2,Eq.trans (b:=some (AV.s (sI 1))) (by kernel_rfl) (congrArg some (show (AV.s (sI 1))=(.s (sI (cmpI x y))) by refine congrArg (fun b=>AV.s (SV.int .i64 b)) ?_;unfold cmpI;grind))⟩) (by kernel_rfl) (List.all_eq_true.1 (by kernel_rfl))
  ·exact ValDoes.of_code Try.func53 (by kernel_rfl) (by kernel_rfl) (k:=20) (by kernel_rfl) (fun B=>⟨_,_,.inr rfl,cmpB_3 x y h_1 h_2,Eq.trans (b:=some (AV.s (sI 0))) (by kernel_rfl) (congrArg some (show (AV.s (sI 0))=(.s (sI (cmpI x y))) by refine congrArg (fun b=>AV.s (SV.int .i64 b)) ?_;unfold cmpI;grind))⟩) (by kernel_rfl) (List.all_eq_true.1 (by kernel_rfl))
theorem cmpB_call {B cc:Nat} (x y:Int):CallDoes Try.prog B 53 [.s (sI x),.s (sI y)] [] cc (.s (sI (cmpI x y))) ([]++[]) cc:=orVal (cmpB_does x y)
theorem orI_1 {B:Nat} (a b:Int) (h_1:¬a=0):CodeDoes Try.prog B (Try.f51.body.getD .skip) ⟨⟨18,[(0,.s (.slv 2 none 1 [sI a,sI b]))]⟩,[],0⟩ Ex.ret ⟨⟨18,[(2,AV.s (sI a))]⟩,[],0⟩ :=
 goA_ok mix (tape:=[(5,Ans.rounds 1),(12,aT)]) (dl:=[2]) (nl:=[]) (C:=[(IsT (a != 0))]) (by kernel_rfl) ⟨claim_b (bne_iff_ne.2 (by first|assumption|omega)),trivial⟩
theorem orI_2 {B:Nat} (a b:Int) (h_1:¬ (¬a=0)) (h_2:¬b=0):CodeDoes Try.prog B (Try.f51.body.getD .skip) ⟨⟨18,[(0,.s (.slv 2 none 1 [sI a,sI b]))]⟩,[],0⟩ Ex.ret ⟨⟨18,[(2,AV.s (sI b))]⟩,[],0⟩ :=
 goA_ok mix (tape:=[(5,Ans.rounds 2),(12,aF),(21,aT)]) (dl:=[2]) (nl:=[]) (C:=[(IsT (b != 0)),(IsF (a != 0))]) (by kernel_rfl) ⟨claim_b (bne_iff_ne.2 (by first|assumption|omega)),claim_b (bne_eq_false_iff_eq.2 (by first|assumption|omega)),trivial⟩
theorem orI_3 {B:Nat} (a b:Int) (h_1:¬ (¬a=0)) (h_2:¬ (¬b=0)):CodeDoes Try.prog B (Try.f51.body.getD .skip) ⟨⟨18,[(0,.s (.slv 2 none 1 [sI a,sI b]))]⟩,[],0⟩ Ex.ret ⟨⟨18,[(2,AV.s (sI 0))]⟩,[],0⟩ :=
 goA_ok mix (tape:=[(5,Ans.rounds 3),(12,aF),(21,aF)]) (dl:=[2]) (nl:=[]) (C:=[(IsF (b != 0)),(IsF (a != 0))]) (by kernel_rfl) ⟨claim_b (bne_eq_false_iff_eq.2 (by first|assumption|omega)),claim_b (bne_eq_false_iff_eq.2 (by first|assumption|omega)),trivial⟩
theorem orI_does (a b:Int):ValDoes Try.prog 51 [.s (.slv 2 none 1 [sI a,sI b])] (.s (sI (if a≠0 then a else b))):=by
 by_cases h_1:¬a=0
 ·exact ValDoes.of_code Try.func51 (by kernel_rfl) (by kernel_rfl) (k:=18) (by kernel_rfl) (fun B=>⟨_,_,.inr rfl,orI_1 a b h_1,Eq.trans (b:=some (AV.s (sI a))) (by kernel_rfl) (congrArg some (show (AV.s (sI a))=(.s (sI (if a≠0 then a else b))) by refine congrArg (fun b=>AV.s (SV.int .i64 b)) ?_;grind))⟩) (by kernel_rfl) (List.all_eq_true.1 (by kernel_rfl))
 ·by_cases h_2:¬b=0
  ·exact ValDoes.of_code Try.func51 (by kernel_rfl) (by kernel_rfl) (k:=18) (by kernel_rfl) (fun B=>⟨_,_,.inr rfl,orI_2 a b h_1 h_2,Eq.trans (b:=some (AV.s (sI b))) (by kernel_rfl) (congrArg some (show (AV.s (sI b))=(.s (sI (if a≠0 then a else b))) by refine congrArg (fun b=>AV.s (SV.int .i64 b)) ?_;grind))⟩) (by kernel_rfl) (List.all_eq_true.1 (by kernel_rfl))
  ·exact ValDoes.of_code Try.func51 (by kernel_rfl) (by kernel_rfl) (k:=18) (by kernel_rfl) (fun B=>⟨_,_,.inr rfl,orI_3 a b h_1 h_2,Eq.trans (b:=some (AV.s (sI 0))) (by kernel_rfl) (congrArg some (show (AV.s (sI 0))=(.s (sI (if a≠0 then a else b))) by refine congrArg (fun b=>AV.s (SV.int .i64 b)) ?_;grind))⟩) (by kernel_rfl) (List.all_eq_true.1 (by kernel_rfl))
theorem or_peek {B c n:Nat} {a b:Int} {cp:Option Nat} {o:Bool}:CallDoes Try.prog B 51 [.s (.sl n 0 2 cp 1)] [(n,some ⟨[sI a,sI b],o⟩)] c (.s (sI (if a≠0 then a else b))) ([]++[(n,some ⟨[sI a,sI b],o⟩)]) c :=
 (orI_does a b).peek rfl (.cons (.s (.sl (b:=⟨[sI a,sI b],o⟩) (by simp [Eng.get]) rfl (fun v hv=>by simp at hv;rcases hv with rfl|rfl<;>rfl))) .nil) B c
@[irreducible] def cmpRw (t1 q1 t2 q2:Int):Int:=if cmpI t1 t2≠0 then cmpI t1 t2 else cmpI q1 q2
abbrev ltR (x y:Rw):Prop:=x.time < y.time∨x.time=y.time∧x.seq < y.seq
theorem cmpRw_lt (t1 q1 t2 q2:Int):cmpRw t1 q1 t2 q2 < 0↔(t1 < t2∨t1=t2∧q1 < q2):=by
 unfold cmpRw cmpI
 grind
theorem cmpR_1 {B:Nat} (t1 q1 t2 q2:Int) (L1 L2:List Cl) :CodeDoes Try.prog B (Try.f30.body.getD .skip) ⟨⟨17,[(0,.agg [sI t1,sI q1,.slv L1.length none 4 (flat Cl.cv L1)]),(1,.agg [sI t2,sI q2,.slv L2.length none 4 (flat Cl.cv L2)])]⟩,[],0⟩ Ex.ret ⟨⟨17,[(4,AV.s (sI (if cmpI t1 t2≠0 then cmpI t1 t2 else cmpI q1 q2)))]⟩,[],3⟩ :=
 goA_ok mix (tape:=[(7,aC (AV.s (sI (cmpI t1 t2))) 2),(12,aC (AV.s (sI (cmpI q1 q2))) 2),(14,Ans.call [2] (AV.s (sI (if cmpI t1 t2≠0 then cmpI t1 t2 else cmpI q1 q2))) [] 3)]) (dl:=[4]) (nl:=[]) (C:=[(CD B 51 [AV.s (SV.sl 2 0 2 none 1)] [(2,sB_ [sI (cmpI t1 t2),sI (cmpI q1 q2)])] 3 (AV.s (sI (if cmpI t1 t2≠0 then cmpI t1 t2 else cmpI q1 q2))) ([]++[(2,sB_ [sI (cmpI t1 t2),sI (cmpI q1 q2)])]) 3),(CD B 53 [AV.s (sI q1),AV.s (sI q2)] [] 2 (AV.s (sI (cmpI q1 q2))) ([]++[]) 2),(CD B 52 [AV.s (sI t1),AV.s (sI t2)] [] 2 (AV.s (sI (cmpI t1 t2))) ([]++[]) 2)]) (by kernel_rfl) ⟨by (apply or_peek),by (apply cmpB_call),by (apply cmpA_call),trivial⟩
theorem cmpR_does (t1 q1 t2 q2:Int) (L1 L2:List Cl):ValDoes Try.prog 30 [.agg [sI t1,sI q1,.slv L1.length none 4 (flat Cl.cv L1)],.agg [sI t2,sI q2,.slv L2.length none 4 (flat Cl.cv L2)]] (.s (sI (cmpRw t1 q1 t2 q2))):=by
 exact ValDoes.of_code Try.func30 (by kernel_rfl) (by kernel_rfl) (k:=17) (by kernel_rfl) (fun B=>⟨_,_,.inr rfl,cmpR_1 t1 q1 t2 q2 L1 L2,Eq.trans (b:=some (AV.s (sI (if cmpI t1 t2≠0 then cmpI t1 t2 else cmpI q1 q2)))) (by kernel_rfl) (congrArg some (show (AV.s (sI (if cmpI t1 t2≠0 then cmpI t1 t2 else cmpI q1 q2)))=(.s (sI (cmpRw t1 q1 t2 q2))) by refine congrArg (fun b=>AV.s (SV.int .i64 b)) ?_;unfold cmpRw;grind))⟩) (by kernel_rfl) (List.all_eq_true.1 (by kernel_rfl))
theorem cmpR_call {B cc:Nat} (t1 q1 t2 q2:Int) (L1 L2:List Cl):CallDoes Try.prog B 30 [.agg [sI t1,sI q1,.slv L1.length none 4 (flat Cl.cv L1)],.agg [sI t2,sI q2,.slv L2.length none 4 (flat Cl.cv L2)]] [] cc (.s (sI (cmpRw t1 q1 t2 q2))) ([]++[]) cc:=orVal (cmpR_does t1 q1 t2 q2 L1 L2)
theorem lessR_1 {B:Nat} (t1 q1 t2 q2:Int) (L1 L2:List Cl) :CodeDoes Try.prog B (Try.f12.body.getD .skip) ⟨⟨9,[(0,.agg [sI t1,sI q1,.slv L1.length none 4 (flat Cl.cv L1)]),(1,.agg [sI t2,sI q2,.slv L2.length none 4 (flat Cl.cv L2)])]⟩,[],0⟩ Ex.ret ⟨⟨9,[(4,AV.s (SV.bool (decide (cmpRw t1 q1 t2 q2 < 0))))]⟩,[],2⟩ :=
 goA_ok mix (tape:=[(5,aC (AV.s (sI (cmpRw t1 q1 t2 q2))) 2)]) (dl:=[4]) (nl:=[]) (C:=[(CD B 30 [AV.agg [sI t1,sI q1,vL Cl.cv 4 L1],AV.agg [sI t2,sI q2,vL Cl.cv 4 L2]] [] 2 (AV.s (sI (cmpRw t1 q1 t2 q2))) ([]++[]) 2)]) (by kernel_rfl) ⟨by (apply cmpR_call),trivial⟩
theorem lessR_does (t1 q1 t2 q2:Int) (L1 L2:List Cl):ValDoes Try.prog 12 [.agg [sI t1,sI q1,.slv L1.length none 4 (flat Cl.cv L1)],.agg [sI t2,sI q2,.slv L2.length none 4 (flat Cl.cv L2)]] (.s (.bool (decide (cmpRw t1 q1 t2 q2 < 0)))):=by
 exact ValDoes.of_code Try.func12 (by kernel_rfl) (by kernel_rfl) (k:=9) (by kernel_rfl) (fun B=>⟨_,_,.inr rfl,lessR_1 t1 q1 t2 q2 L1 L2,Eq.trans (b:=some (AV.s (SV.bool (decide (cmpRw t1 q1 t2 q2 < 0))))) (by kernel_rfl) (congrArg some (show (AV.s (SV.bool (decide (cmpRw t1 q1 t2 q2 < 0))))=(.s (.bool (decide (cmpRw t1 q1 t2 q2 < 0)))) by refine congrArg (fun b=>AV.s (SV.bool b)) ?_;grind))⟩) (by kernel_rfl) (List.all_eq_true.1 (by kernel_rfl))
end Go.Proofs.Ytaelliigpclipaa.V
namespace Go.Proofs.Ytaelliigpclipaa.V
open Go Go.RowKit Go.Proofs Go.Proofs.Ytaelliigpclipaa.Eng Go.Proofs.Ytaelliigpclipaa.VPl
set_option maxRecDepth 100000
set_option linter.unusedVariables false
set_option linter.unusedSimpArgs false
theorem cmp_c {B c l1 l2:Nat} {t1 q1 t2 q2 r:Int} {L1 L2:List Cl} (hr:cmpRw t1 q1 t2 q2=r) (h1:l1=L1.length) (h2:l2=L2.length):CallDoes Try.prog B 30 [.agg [sI t1,sI q1,.slv l1 none 4 (flat Cl.cv L1)],.agg [sI t2,sI q2,.slv l2 none 4 (flat Cl.cv L2)]] [] c (.s (sI r)) ([]++[]) c:=by
 subst hr;subst h1;subst h2;exact cmpR_does t1 q1 t2 q2 L1 L2 B c
attribute [local irreducible] Eng.evAppend Eng.evSlice Eng.less CallDoes Eng.loadG Eng.evIndexAddr Eng.evBin
theorem iiS_1 {B:Nat} (L:List Rw) (len b i:Nat) (hl:len=L.length) (hL:L.length≤1000) (k:Nat) (r:Int) (hk:0 < k) (hk2:k < L.length) (hr:cmpRw (L.getD k Rw0).time (L.getD k Rw0).seq (L.getD (k - 1) Rw0).time (L.getD (k - 1) Rw0).seq=r) (h0:r < 0) :CodeDoes Try.prog B (Lf (Lf (Rt (Lf (Lf (Rt (Lf (Lf (Rt (Try.f68.body.getD .skip)))))))))) ⟨⟨53,[(0,.s (.sl 0 0 len none 3)),(1,.s (sI 0)),(2,.s (sI (b:Int))),(3,.s (.fn 30 [])),(8,.s (sI (i:Int))),(9,.s (sI ((k:Int))))]⟩,[(0,some ⟨flat Rw.cv (L),true⟩)],1⟩ Ex.normal ⟨⟨53,[(0,AV.s (SV.sl 0 0 len none 3)),(1,AV.s (sI 0)),(2,AV.s (sI (↑b:Int))),(3,AV.s (SV.fn 30 [])),(8,AV.s (sI (↑i:Int))),(9,AV.s (sI ((↑k:Int) - 1)))]⟩,[(0,some (Blk.mk (flat Rw.cv (List.set (List.set L k (Rw.mk (Rw.time (List.getD L (k - 1) Rw0)) (Rw.seq (List.getD L (k - 1) Rw0)) (Rw.cells (List.getD L (k - 1) Rw0)))) (k - 1) (Rw.mk (Rw.time (List.getD L k Rw0)) (Rw.seq (List.getD L k Rw0)) (Rw.cells (List.getD L k Rw0))))) true))],1⟩ :=
 goA_ok mix (tape:=[(2,aT),(7,Ans.val (AV.s (SV.ptr 0 (0+k*3)))),(8,Ans.val (AV.agg (Rw.cv (List.getD L k Rw0)))),(11,Ans.val (AV.s (sI ((↑k:Int) - 1)))),(12,Ans.val (AV.s (SV.ptr 0 (0+(k - 1)*3)))),(13,Ans.val (AV.agg (Rw.cv (List.getD L (k - 1) Rw0)))),(14,aC (AV.s (sI r)) 1),(15,aT),(21,Ans.val (AV.s (sI ((↑k:Int) - 1)))),(24,Ans.val (AV.s (sI ((↑k:Int) - 1)))),(25,Ans.val (AV.s (SV.ptr 0 (0+(k - 1)*3)))),(26,Ans.val (AV.agg (Rw.cv (List.getD L (k - 1) Rw0)))),(29,Ans.val (AV.s (SV.ptr 0 (0+k*3)))),(30,Ans.val (AV.agg (Rw.cv (List.getD L k Rw0)))),(31,Ans.val (AV.s (SV.ptr 0 (0+k*3)))),(32,Ans.mem (AV.any) [(0,sB_ (flat Rw.cv (List.set L k (Rw.mk (Rw.time (List.getD L (k - 1) Rw0)) (Rw.seq (List.getD L (k - 1) Rw0)) (Rw.cells (List.getD L (k - 1) Rw0))))))] 1),(33,Ans.val (AV.s (SV.ptr 0 (0+(k - 1)*3)))),(34,Ans.mem (AV.any) [(0,sB_ (flat Rw.cv (List.set (List.set L k (Rw.mk (Rw.time (List.getD L (k - 1) Rw0)) (Rw.seq (List.getD L (k - 1) Rw0)) (Rw.cells (List.getD L (k - 1) Rw0)))) (k - 1) (Rw.mk (Rw.time (List.getD L k Rw0)) (Rw.seq (List.getD L k Rw0)) (Rw.cells (List.getD L k Rw0))))))] 1),(36,Ans.val (AV.s (sI ((↑k:Int) - 1))))]) (dl:=[0,1,2,3,8,9]) (nl:=[0]) (C:=[(some (AV.s (sI (wI ((↑k:Int) - 1))))=some (AV.s (sI ((↑k:Int) - 1)))),((storeR (storeG Try.prog 25 (AV.s (SV.ptr 0 (0+(k - 1)*3))) (AV.agg [sI (Rw.time (List.getD L k Rw0)),sI (Rw.seq (List.getD L k Rw0)),vL Cl.cv 4 (Rw.cells (List.getD L k Rw0))]) fun (x:Nat)=>sB_ (flat Rw.cv (List.set L k (Rw.mk (Rw.time (List.getD L (k - 1) Rw0)) (Rw.seq (List.getD L (k - 1) Rw0)) (Rw.cells (List.getD L (k - 1) Rw0)))))) 1)=some (AV.any,[(0,sB_ (flat Rw.cv (List.set (List.set L k (Rw.mk (Rw.time (List.getD L (k - 1) Rw0)) (Rw.seq (List.getD L (k - 1) Rw0)) (Rw.cells (List.getD L (k - 1) Rw0)))) (k - 1) (Rw.mk (Rw.time (List.getD L k Rw0)) (Rw.seq (List.getD L k Rw0)) (Rw.cells (List.getD L k Rw0))))))],1)),((evIndexAddr Try.prog 22 (AV.s (SV.sl 0 0 len none 3)) (AV.s (sI ((↑k:Int) - 1))))=some (AV.s (SV.ptr 0 (0+(k - 1)*3)))),((storeR (storeG Try.prog 25 (AV.s (SV.ptr 0 (0+k*3))) (AV.agg [sI (Rw.time (List.getD L (k - 1) Rw0)),sI (Rw.seq (List.getD L (k - 1) Rw0)),vL Cl.cv 4 (Rw.cells (List.getD L (k - 1) Rw0))]) fun (x:Nat)=>sB_ (flat Rw.cv L)) 1)=some (AV.any,[(0,sB_ (flat Rw.cv (List.set L k (Rw.mk (Rw.time (List.getD L (k - 1) Rw0)) (Rw.seq (List.getD L (k - 1) Rw0)) (Rw.cells (List.getD L (k - 1) Rw0))))))],1)),((evIndexAddr Try.prog 22 (AV.s (SV.sl 0 0 len none 3)) (AV.s (sI (↑k:Int))))=some (AV.s (SV.ptr 0 (0+k*3)))),((loadG Try.prog 25 (AV.s (SV.ptr 0 (0+k*3))) fun (x:Nat)=>sB_ (flat Rw.cv L))=some (AV.agg (Rw.cv (List.getD L k Rw0)))),((evIndexAddr Try.prog 22 (AV.s (SV.sl 0 0 len none 3)) (AV.s (sI (↑k:Int))))=some (AV.s (SV.ptr 0 (0+k*3)))),((loadG Try.prog 25 (AV.s (SV.ptr 0 (0+(k - 1)*3))) fun (x:Nat)=>sB_ (flat Rw.cv L))=some (AV.agg (Rw.cv (List.getD L (k - 1) Rw0)))),((evIndexAddr Try.prog 22 (AV.s (SV.sl 0 0 len none 3)) (AV.s (sI ((↑k:Int) - 1))))=some (AV.s (SV.ptr 0 (0+(k - 1)*3)))),(some (AV.s (sI (wI ((↑k:Int) - 1))))=some (AV.s (sI ((↑k:Int) - 1)))),(some (AV.s (sI (wI ((↑k:Int) - 1))))=some (AV.s (sI ((↑k:Int) - 1)))),(IsT (decide (r < 0))),(CD B 30 [AV.agg [sI (Rw.time (List.getD L k Rw0)),sI (Rw.seq (List.getD L k Rw0)),vL Cl.cv 4 (Rw.cells (List.getD L k Rw0))],AV.agg [sI (Rw.time (List.getD L (k - 1) Rw0)),sI (Rw.seq (List.getD L (k - 1) Rw0)),vL Cl.cv 4 (Rw.cells (List.getD L (k - 1) Rw0))]] [] 1 (AV.s (sI r)) ([]++[]) 1),((loadG Try.prog 25 (AV.s (SV.ptr 0 (0+(k - 1)*3))) fun (x:Nat)=>sB_ (flat Rw.cv L))=some (AV.agg (Rw.cv (List.getD L (k - 1) Rw0)))),((evIndexAddr Try.prog 22 (AV.s (SV.sl 0 0 len none 3)) (AV.s (sI ((↑k:Int) - 1))))=some (AV.s (SV.ptr 0 (0+(k - 1)*3)))),(some (AV.s (sI (wI ((↑k:Int) - 1))))=some (AV.s (sI ((↑k:Int) - 1)))),((loadG Try.prog 25 (AV.s (SV.ptr 0 (0+k*3))) fun (x:Nat)=>sB_ (flat Rw.cv L))=some (AV.agg (Rw.cv (List.getD L k Rw0)))),((evIndexAddr Try.prog 22 (AV.s (SV.sl 0 0 len none 3)) (AV.s (sI (↑k:Int))))=some (AV.s (SV.ptr 0 (0+k*3)))),(IsT (decide ((↑k:Int) > 0)))]) (by kernel_rfl) ⟨claim_i (by exact wrap_i64 (by omega) (by omega)),by (apply stwRw<;>first|rfl|(simp;omega)),by (apply ixspRw<;>first|assumption|omega),by (apply stwRw<;>first|assumption|rfl),by (apply ixsRw<;>first|rfl|omega),by (apply loadRw<;>first|assumption|rfl),by (apply ixsRw<;>first|rfl|omega),by (apply loadRw<;>first|rfl|omega),by (apply ixspRw<;>first|assumption|omega),claim_i (by exact wrap_i64 (by omega) (by omega)),claim_i (by exact wrap_i64 (by omega) (by omega)),cTa,by (apply cmp_c<;>first|exact hr|rfl),by (apply loadRw<;>first|rfl|omega),by (apply ixspRw<;>first|assumption|omega),claim_i (by exact wrap_i64 (by omega) (by omega)),by (apply loadRw<;>first|assumption|rfl),by (apply ixsRw<;>first|rfl|omega),cTa,trivial⟩
theorem iiN_1 {B:Nat} (L:List Rw) (len b i:Nat) (hl:len=L.length) (hL:L.length≤1000) (k:Nat) (r:Int) (hk:0 < k) (hk2:k < L.length) (hr:cmpRw (L.getD k Rw0).time (L.getD k Rw0).seq (L.getD (k - 1) Rw0).time (L.getD (k - 1) Rw0).seq=r) (h0:¬ r < 0) :CodeDoes Try.prog B (Lf (Lf (Rt (Lf (Lf (Rt (Lf (Lf (Rt (Try.f68.body.getD .skip)))))))))) ⟨⟨53,[(0,.s (.sl 0 0 len none 3)),(1,.s (sI 0)),(2,.s (sI (b:Int))),(3,.s (.fn 30 [])),(8,.s (sI (i:Int))),(9,.s (sI ((k:Int))))]⟩,[(0,some ⟨flat Rw.cv (L),true⟩)],1⟩ (Ex.exit 2) ⟨⟨53,[(0,AV.s (SV.sl 0 0 len none 3)),(1,AV.s (sI 0)),(2,AV.s (sI (↑b:Int))),(3,AV.s (SV.fn 30 [])),(8,AV.s (sI (↑i:Int))),(9,AV.s (sI (↑k:Int)))]⟩,[(0,some (Blk.mk (flat Rw.cv L) true))],1⟩ :=
 goA_ok mix (tape:=[(2,aT),(7,Ans.val (AV.s (SV.ptr 0 (0+k*3)))),(8,Ans.val (AV.agg (Rw.cv (List.getD L k Rw0)))),(11,Ans.val (AV.s (sI ((↑k:Int) - 1)))),(12,Ans.val (AV.s (SV.ptr 0 (0+(k - 1)*3)))),(13,Ans.val (AV.agg (Rw.cv (List.getD L (k - 1) Rw0)))),(14,aC (AV.s (sI r)) 1),(15,aF)]) (dl:=[0,1,2,3,8,9]) (nl:=[0]) (C:=[(IsF (decide (r < 0))),(CD B 30 [AV.agg [sI (Rw.time (List.getD L k Rw0)),sI (Rw.seq (List.getD L k Rw0)),vL Cl.cv 4 (Rw.cells (List.getD L k Rw0))],AV.agg [sI (Rw.time (List.getD L (k - 1) Rw0)),sI (Rw.seq (List.getD L (k - 1) Rw0)),vL Cl.cv 4 (Rw.cells (List.getD L (k - 1) Rw0))]] [] 1 (AV.s (sI r)) ([]++[]) 1),((loadG Try.prog 25 (AV.s (SV.ptr 0 (0+(k - 1)*3))) fun (x:Nat)=>sB_ (flat Rw.cv L))=some (AV.agg (Rw.cv (List.getD L (k - 1) Rw0)))),((evIndexAddr Try.prog 22 (AV.s (SV.sl 0 0 len none 3)) (AV.s (sI ((↑k:Int) - 1))))=some (AV.s (SV.ptr 0 (0+(k - 1)*3)))),(some (AV.s (sI (wI ((↑k:Int) - 1))))=some (AV.s (sI ((↑k:Int) - 1)))),((loadG Try.prog 25 (AV.s (SV.ptr 0 (0+k*3))) fun (x:Nat)=>sB_ (flat Rw.cv L))=some (AV.agg (Rw.cv (List.getD L k Rw0)))),((evIndexAddr Try.prog 22 (AV.s (SV.sl 0 0 len none 3)) (AV.s (sI (↑k:Int))))=some (AV.s (SV.ptr 0 (0+k*3)))),(IsT (decide ((↑k:Int) > 0)))]) (by kernel_rfl) ⟨cFa,by (apply cmp_c<;>first|exact hr|rfl),by (apply loadRw<;>first|rfl|omega),by (apply ixspRw<;>first|assumption|omega),claim_i (by exact wrap_i64 (by omega) (by omega)),by (apply loadRw<;>first|assumption|rfl),by (apply ixsRw<;>first|rfl|omega),cTa,trivial⟩
theorem iiZ_1 {B:Nat} (L:List Rw) (len b i:Nat) (hl:len=L.length) (hL:L.length≤1000)  :CodeDoes Try.prog B (Lf (Lf (Rt (Lf (Lf (Rt (Lf (Lf (Rt (Try.f68.body.getD .skip)))))))))) ⟨⟨53,[(0,.s (.sl 0 0 len none 3)),(1,.s (sI 0)),(2,.s (sI (b:Int))),(3,.s (.fn 30 [])),(8,.s (sI (i:Int))),(9,.s (sI (0)))]⟩,[(0,some ⟨flat Rw.cv (L),true⟩)],1⟩ (Ex.exit 2) ⟨⟨53,[(0,AV.s (SV.sl 0 0 len none 3)),(1,AV.s (sI 0)),(2,AV.s (sI (↑b:Int))),(3,AV.s (SV.fn 30 [])),(8,AV.s (sI (↑i:Int))),(9,AV.s (sI 0))]⟩,[(0,some (Blk.mk (flat Rw.cv L) true))],1⟩ :=
 goA_ok mix (tape:=[]) (dl:=[0,1,2,3,8,9]) (nl:=[0]) (C:=[]) (by kernel_rfl) trivial
def insRv:List Rw→Rw→List Rw
 | [],x=>[x]
 | y :: r,x=>if cmpRw x.time x.seq y.time y.seq < 0 then y :: insRv r x else x :: y :: r
theorem insRv_len (A:List Rw) (x:Rw):(insRv A x).length=A.length+1:=by
 induction A with
 | nil=>rfl
 | cons y r ih=>unfold insRv;split<;>simp [ih]
theorem swap_at (r T:List Rw) (x y:Rw):((r.reverse++y :: x :: T).set (r.length+1) y).set r.length x=r.reverse++x :: y :: T:=by
 rw [List.set_append_right _ _ (by simp),List.set_append_right _ _ (by simp)]
 simp
theorem in_rounds {B:Nat} (len b i:Nat):∀ (A:List Rw) (x:Rw) (T:List Rw),len=(A.reverse++x :: T).length→len≤1000→∃ j,LoopDoes Try.prog B (Lf (Lf (Rt (Lf (Lf (Rt (Lf (Lf (Rt (Try.f68.body.getD .skip)))))))))) ⟨⟨53,[(0,.s (.sl 0 0 len none 3)),(1,.s (sI 0)),(2,.s (sI (b:Int))),(3,.s (.fn 30 [])),(8,.s (sI (i:Int))),(9,.s (sI ((A.length:Int))))]⟩,[(0,some ⟨flat Rw.cv (A.reverse++x :: T),true⟩)],1⟩ (.exit 2) ⟨⟨53,[(0,.s (.sl 0 0 len none 3)),(1,.s (sI 0)),(2,.s (sI (b:Int))),(3,.s (.fn 30 [])),(8,.s (sI (i:Int))),(9,.s (sI (j)))]⟩,[(0,some ⟨flat Rw.cv ((insRv A x).reverse++T),true⟩)],1⟩:=by
 intro A
 induction A with
 | nil =>
  intro x T hl hL
  exact ⟨_,LoopDoes.last (iiZ_1 _ len b i hl (by omega)) (by simp)⟩
 | cons y r ih =>
  intro x T hl hL
  have e0:(y :: r).reverse++x :: T=r.reverse++y :: x :: T:=by simp
  rw [e0] at hl ⊢
  have e1:(r.reverse++y :: x :: T).getD (r.length+1) Rw0=x:=by simp
  have e2:(r.reverse++y :: x :: T).getD (r.length+1 - 1) Rw0=y:=by simp
  have hlt:r.length+1 < (r.reverse++y :: x :: T).length:=by simp
  have hr:cmpRw ((r.reverse++y :: x :: T).getD (r.length+1) Rw0).time ((r.reverse++y :: x :: T).getD (r.length+1) Rw0).seq ((r.reverse++y :: x :: T).getD (r.length+1 - 1) Rw0).time ((r.reverse++y :: x :: T).getD (r.length+1 - 1) Rw0).seq=cmpRw x.time x.seq y.time y.seq:=by rw [e1,e2]
  unfold insRv
  by_cases h0:cmpRw x.time x.seq y.time y.seq < 0
  ·rw [if_pos h0]
   have h:=iiS_1 (B:=B) (r.reverse++y :: x :: T) len b i hl (by omega) (r.length+1) _ (by omega) hlt hr h0
   rw [e1,e2] at h
   have e3:((r.length+1:Nat):Int) - 1=(r.length:Int):=by omega
   rw [e3] at h
   have e4:=swap_at r T x y
   obtain ⟨j,hj⟩:=ih x (y :: T) (by rw [hl];simp) hL
   refine ⟨j,LoopDoes.more ?_ (by simpa using hj)⟩
   simp only [List.length_cons]
   have e5:(((r.reverse++y :: x :: T).set (r.length+1) ⟨y.time,y.seq,y.cells⟩).set (r.length+1 - 1) ⟨x.time,x.seq,x.cells⟩)=r.reverse++x :: y :: T:=e4
   rw [e5] at h
   exact h
  ·rw [if_neg h0]
   have h:=iiN_1 (B:=B) (r.reverse++y :: x :: T) len b i hl (by omega) (r.length+1) _ (by omega) hlt hr h0
   have e6:(x :: y :: r).reverse++T=r.reverse++y :: x :: T:=by simp
   rw [e6]
   exact ⟨_,LoopDoes.last h (by simp)⟩
@[irreducible] def insAt (L:List Rw) (i:Nat):List Rw:=(insRv (L.take i).reverse (L.getD i Rw0)).reverse++L.drop (i+1)
theorem insAt_len (L:List Rw) (i:Nat) (h:i < L.length):(insAt L i).length=L.length:=by
 unfold insAt
 simp [insRv_len]
 omega
theorem in_loop {B:Nat} {L M:List Rw} {len b i:Nat} (hM:insAt L i=M) (hi:i < L.length) (hl:len=L.length) (hL:L.length≤1000):CodeDoes Try.prog B (Lf (Rt (Lf (Lf (Rt (Lf (Lf (Rt (Try.f68.body.getD .skip))))))))) ⟨⟨53,[(0,.s (.sl 0 0 len none 3)),(1,.s (sI 0)),(2,.s (sI (b:Int))),(3,.s (.fn 30 [])),(8,.s (sI (i:Int))),(9,.s (sI ((i:Int))))]⟩,[(0,some ⟨flat Rw.cv (L),true⟩)],1⟩ (.exit 2) ⟨⟨53,[(0,.s (.sl 0 0 len none 3)),(1,.s (sI 0)),(2,.s (sI (b:Int))),(3,.s (.fn 30 [])),(8,.s (sI (i:Int)))]⟩,[(0,some ⟨flat Rw.cv M,true⟩)],1⟩:=by
 subst hM
 have e:L=(L.take i).reverse.reverse++L.getD i Rw0 :: L.drop (i+1):=by
  have:L.getD i Rw0=L[i]:=by simp [hi]
  rw [List.reverse_reverse,this,List.getElem_cons_drop,List.take_append_drop]
 obtain ⟨j,hj⟩:=in_rounds (B:=B) len b i (L.take i).reverse (L.getD i Rw0) (L.drop (i+1)) (by rw [← e];exact hl) (by omega)
 have e2:((L.take i).reverse.length:Int)=(i:Int):=by simp;omega
 rw [← e,e2] at hj
 unfold insAt
 refine (CodeDoes.loopAt (by kernel_rfl) hj).after ⟨rfl,fun d=>?_,fun n b h=>h,rfl⟩
 by_cases d0:d=0
 ·subst d0;right;rfl
 by_cases d1:d=1
 ·subst d1;right;rfl
 by_cases d2:d=2
 ·subst d2;right;rfl
 by_cases d3:d=3
 ·subst d3;right;rfl
 by_cases d8:d=8
 ·subst d8;right;rfl
 left
 show (if 0=d then _ else if 1=d then _ else if 2=d then _ else if 3=d then _ else if 8=d then _ else AV.any)=.any
 rw [if_neg (by omega),if_neg (by omega),if_neg (by omega),if_neg (by omega),if_neg (by omega)]
theorem oiS_1 {B:Nat} (L:List Rw) (len b i:Nat) (hl:len=L.length) (hL:L.length≤1000) (M:List Rw) (hM:insAt L i=M) (hi:i < L.length) (hb:i < b) :CodeDoes Try.prog B (Lf (Lf (Rt (Try.f68.body.getD .skip)))) ⟨⟨53,[(0,.s (.sl 0 0 len none 3)),(1,.s (sI 0)),(2,.s (sI (b:Int))),(3,.s (.fn 30 [])),(8,.s (sI ((i:Int))))]⟩,[(0,some ⟨flat Rw.cv (L),true⟩)],1⟩ Ex.normal ⟨⟨53,[(0,AV.s (SV.sl 0 0 len none 3)),(1,AV.s (sI 0)),(2,AV.s (sI (↑b:Int))),(3,AV.s (SV.fn 30 [])),(8,AV.s (sI ((↑i:Int)+1)))]⟩,[(0,some (Blk.mk (flat Rw.cv M) true))],1⟩ :=
 goA_ok mix (tape:=[(2,aT),(5,Ans.loop [0,1,2,3,8,9] [0] (Ex.exit 2) (St.mk (Tm.mk 53 [(0,AV.s (SV.sl 0 0 len none 3)),(1,AV.s (sI 0)),(2,AV.s (sI (↑b:Int))),(3,AV.s (SV.fn 30 [])),(8,AV.s (sI (↑i:Int)))]) [(0,sB_ (flat Rw.cv M))] 1)),(7,Ans.val (AV.s (sI ((↑i:Int)+1))))]) (dl:=[0,1,2,3,8]) (nl:=[0]) (C:=[(some (AV.s (sI (wI ((↑i:Int)+1))))=some (AV.s (sI ((↑i:Int)+1)))),(KD B (Lf (Rt (Lf (Lf (Rt (Lf (Lf (Rt (Try.f68.body.getD .skip))))))))) (St.mk (Tm.mk 53 [(0,AV.s (SV.sl 0 0 len none 3)),(1,AV.s (sI 0)),(2,AV.s (sI (↑b:Int))),(3,AV.s (SV.fn 30 [])),(8,AV.s (sI (↑i:Int))),(9,AV.s (sI (↑i:Int)))]) [(0,sB_ (flat Rw.cv L))] 1) (Ex.exit 2) (St.mk (Tm.mk 53 [(0,AV.s (SV.sl 0 0 len none 3)),(1,AV.s (sI 0)),(2,AV.s (sI (↑b:Int))),(3,AV.s (SV.fn 30 [])),(8,AV.s (sI (↑i:Int)))]) [(0,sB_ (flat Rw.cv M))] 1)),(IsT (decide ((↑i:Int) < (↑b:Int))))]) (by kernel_rfl) ⟨claim_i (by exact wrap_i64 (by omega) (by omega)),by (apply in_loop<;>first|exact hM|exact el23|exact el22|exact sz28|exact sz25|exact by28|exact by25|exact zr28|exact zr25|exact ag28|exact ag25|exact un9|assumption|rfl|omega|(unfold maxLen;omega)|decide|(simp;done)|(simp;omega)),cTa,trivial⟩
theorem oiE_1 {B:Nat} (L:List Rw) (len b i:Nat) (hl:len=L.length) (hL:L.length≤1000) (hb:¬ i < b) :CodeDoes Try.prog B (Lf (Lf (Rt (Try.f68.body.getD .skip)))) ⟨⟨53,[(0,.s (.sl 0 0 len none 3)),(1,.s (sI 0)),(2,.s (sI (b:Int))),(3,.s (.fn 30 [])),(8,.s (sI ((i:Int))))]⟩,[(0,some ⟨flat Rw.cv (L),true⟩)],1⟩ (Ex.exit 0) ⟨⟨53,[(0,AV.s (SV.sl 0 0 len none 3)),(1,AV.s (sI 0)),(2,AV.s (sI (↑b:Int))),(3,AV.s (SV.fn 30 [])),(8,AV.s (sI (↑i:Int)))]⟩,[(0,some (Blk.mk (flat Rw.cv L) true))],1⟩ :=
 goA_ok mix (tape:=[(2,aF)]) (dl:=[0,1,2,3,8]) (nl:=[0]) (C:=[(IsF (decide ((↑i:Int) < (↑b:Int))))]) (by kernel_rfl) ⟨cFa,trivial⟩
end Go.Proofs.Ytaelliigpclipaa.V
namespace Go.Proofs.Ytaelliigpclipaa.V
open Go Go.RowKit Go.Proofs Go.Proofs.Ytaelliigpclipaa.Eng Go.Proofs.Ytaelliigpclipaa.VPl
set_option maxRecDepth 100000
set_option linter.unusedVariables false
set_option linter.unusedSimpArgs false
def isort0 (L:List Rw):List Rw:=(List.range (L.length - 1)).foldl (fun M k=>insAt M (k+1)) L
theorem out_loop {B:Nat} {L M:List Rw} {len:Nat} (hM:isort0 L=M) (hl:len=L.length) (h0:0 < len) (hL:len≤1000):CodeDoes Try.prog B (Lf (Rt (Try.f68.body.getD .skip))) ⟨⟨53,[(0,.s (.sl 0 0 len none 3)),(1,.s (sI 0)),(2,.s (sI (len:Int))),(3,.s (.fn 30 [])),(8,.s (sI (1)))]⟩,[(0,some ⟨flat Rw.cv (L),true⟩)],1⟩ (.exit 0) ⟨⟨53,[(0,.s (.sl 0 0 len none 3)),(1,.s (sI 0)),(2,.s (sI (len:Int))),(3,.s (.fn 30 [])),(8,.s (sI ((len:Int))))]⟩,[(0,some ⟨flat Rw.cv (M),true⟩)],1⟩:=by
 subst hM
 have h:=LoopDoes.fold (P:=Try.prog) (B:=B) (body:=(Lf (Lf (Rt (Try.f68.body.getD .skip))))) (fun k M=>⟨⟨53,[(0,.s (.sl 0 0 len none 3)),(1,.s (sI 0)),(2,.s (sI (len:Int))),(3,.s (.fn 30 [])),(8,.s (sI (((k+1:Nat):Int))))]⟩,[(0,some ⟨flat Rw.cv (M),true⟩)],1⟩) (len - 1) (fun k M=>insAt M (k+1)) (fun _ M=>M.length=len) (e2:=.exit 0) (s2:=fun M=>⟨⟨53,[(0,.s (.sl 0 0 len none 3)),(1,.s (sI 0)),(2,.s (sI (len:Int))),(3,.s (.fn 30 [])),(8,.s (sI ((len:Int))))]⟩,[(0,some ⟨flat Rw.cv (M),true⟩)],1⟩) (by simp) (fun k M hk h=>by rw [insAt_len _ _ (by omega)];exact h) (fun k M hk h=>by
   have:=oiS_1 (B:=B) M len len (k+1) h.symm (by omega) _ rfl (by omega) (by omega)
   have e:((k+1+1:Nat):Int)=((k+1:Nat):Int)+1:=by omega
   rw [e]
   exact this) (fun M h=>by
   have:=oiE_1 (B:=B) M len len len h.symm (by omega) (by omega)
   have e:((len - 1+1:Nat):Int)=(len:Int):=by omega
   rw [e]
   exact this) L hl.symm
 unfold isort0
 rw [← hl]
 exact CodeDoes.loopAt (by kernel_rfl) h
attribute [local irreducible] Eng.evAppend Eng.evSlice Eng.less CallDoes Eng.loadG Eng.evIndexAddr Eng.evBin
theorem isA_1 {B:Nat} (L M:List Rw) (len:Nat) (hM:isort0 L=M) (hl:len=L.length) (h0:0 < len) (hL:len≤1000) :CodeDoes Try.prog B (Try.f68.body.getD .skip) ⟨⟨53,[(0,.s (.sl 0 0 len none 3)),(1,.s (sI 0)),(2,.s (sI (len:Int))),(3,.s (.fn 30 []))]⟩,[(0,some ⟨flat Rw.cv L,true⟩)],1⟩ Ex.normal ⟨⟨53,[]⟩,[(0,some (Blk.mk (flat Rw.cv M) true))],1⟩ :=
 goA_ok mix (tape:=[(3,Ans.loop [0,1,2,3,8] [0] (Ex.exit 0) (St.mk (Tm.mk 53 [(0,AV.s (SV.sl 0 0 len none 3)),(1,AV.s (sI 0)),(2,AV.s (sI (↑len:Int))),(3,AV.s (SV.fn 30 [])),(8,AV.s (sI (↑len:Int)))]) [(0,sB_ (flat Rw.cv M))] 1))]) (dl:=[]) (nl:=[0]) (C:=[(KD B (Lf (Rt (Try.f68.body.getD .skip))) (St.mk (Tm.mk 53 [(0,AV.s (SV.sl 0 0 len none 3)),(1,AV.s (sI 0)),(2,AV.s (sI (↑len:Int))),(3,AV.s (SV.fn 30 [])),(8,AV.s (sI 1))]) [(0,sB_ (flat Rw.cv L))] 1) (Ex.exit 0) (St.mk (Tm.mk 53 [(0,AV.s (SV.sl 0 0 len none 3)),(1,AV.s (sI 0)),(2,AV.s (sI (↑len:Int))),(3,AV.s (SV.fn 30 [])),(8,AV.s (sI (↑len:Int)))]) [(0,sB_ (flat Rw.cv M))] 1))]) (by kernel_rfl) ⟨by (apply out_loop<;>first|exact hM|exact el23|exact el22|exact sz28|exact sz25|exact by28|exact by25|exact zr28|exact zr25|exact ag28|exact ag25|exact un9|assumption|rfl|omega|(unfold maxLen;omega)|decide|(simp;done)|(simp;omega)),trivial⟩
theorem isB_1 {B:Nat} (L:List Rw) (len:Nat) (a:Int) (ha:0≤a∧a≤1000) :CodeDoes Try.prog B (Try.f68.body.getD .skip) ⟨⟨53,[(0,.s (.sl 0 0 len none 3)),(1,.s (sI a)),(2,.s (sI a)),(3,.s (.fn 30 []))]⟩,[(0,some ⟨flat Rw.cv L,true⟩)],1⟩ Ex.normal ⟨⟨53,[]⟩,[(0,some (Blk.mk (flat Rw.cv L) true))],1⟩ :=
 goA_ok mix (tape:=[(1,Ans.val (AV.s (sI (a+1)))),(3,Ans.rounds 1),(6,aF)]) (dl:=[]) (nl:=[0]) (C:=[(IsF (decide (a+1 < a))),(some (AV.s (sI (wI (a+1))))=some (AV.s (sI (a+1))))]) (by kernel_rfl) ⟨cFa,claim_i (by exact wrap_i64 (by omega) (by omega)),trivial⟩
theorem ins_c {B c n len l2:Nat} {L M:List Rw} (hM:isort0 L=M) (hl:len=L.length) (h2:l2=len) (h0:0 < len) (hL:len≤1000) (hn:n < c):CallDoes Try.prog B 68 [.s (.sl n 0 len none 3),.s (sI 0),.s (sI (l2:Int)),.s (.fn 30 [])] [(n,some ⟨flat Rw.cv L,true⟩)] c (.tup []) ([(n,some ⟨flat Rw.cv M,true⟩)]++[(n,some ⟨flat Rw.cv L,true⟩)]) c:=by
 subst h2
 exact call_mut (args0:=[.s (.sl 0 0 l2 none 3),.s (sI 0),.s (sI (l2:Int)),.s (.fn 30 [])]) Try.func68 (by kernel_rfl) (by kernel_rfl) (k:=53) (by kernel_rfl) (isA_1 L M l2 hM hl h0 hL) (.inl rfl) (by kernel_rfl) rfl (Rw_blk _ _) (Rw_blk _ _) rfl (by simp [avNames,svNames]) rfl hn
theorem ins_k {B c n len:Nat} {L M:List Rw} (hM:isort0 L=M) (hl:len=L.length) (h2:len=20) (hn:n < c):CallDoes Try.prog B 68 [.s (.sl n 0 len none 3),.s (sI 0),.s (sI 20),.s (.fn 30 [])] [(n,some ⟨flat Rw.cv L,true⟩)] c (.tup []) ([(n,some ⟨flat Rw.cv M,true⟩)]++[(n,some ⟨flat Rw.cv L,true⟩)]) c:=by
 have:=ins_c (B:=B) (l2:=len) hM hl rfl (by omega) (by omega) hn
 subst h2
 exact this
theorem ins_n {B c n len:Nat} {a:Int} {L:List Rw} (ha:0≤a∧a≤1000) (hn:n < c):CallDoes Try.prog B 68 [.s (.sl n 0 len none 3),.s (sI a),.s (sI a),.s (.fn 30 [])] [(n,some ⟨flat Rw.cv L,true⟩)] c (.tup []) ([(n,some ⟨flat Rw.cv L,true⟩)]++[(n,some ⟨flat Rw.cv L,true⟩)]) c :=
 call_mut (args0:=[.s (.sl 0 0 len none 3),.s (sI a),.s (sI a),.s (.fn 30 [])]) Try.func68 (by kernel_rfl) (by kernel_rfl) (k:=53) (by kernel_rfl) (isB_1 L len a ha) (.inl rfl) (by kernel_rfl) rfl (Rw_blk _ _) (Rw_blk _ _) rfl (by simp [avNames,svNames]) rfl hn
theorem ins_z {B c n len:Nat} {L:List Rw} (h2:len=20) (hn:n < c):CallDoes Try.prog B 68 [.s (.sl n 0 len none 3),.s (sI 20),.s (sI (len:Int)),.s (.fn 30 [])] [(n,some ⟨flat Rw.cv L,true⟩)] c (.tup []) ([(n,some ⟨flat Rw.cv L,true⟩)]++[(n,some ⟨flat Rw.cv L,true⟩)]) c:=by
 have:=ins_n (B:=B) (len:=len) (a:=(len:Int)) (L:=L) (by omega) hn
 subst h2
 exact this
theorem stA_1 {B:Nat} (L M:List Rw) (len:Nat) (hM:isort0 L=M) (hl:len=L.length) (h0:0 < len) (h20:len < 20) :CodeDoes Try.prog B (Try.f50.body.getD .skip) ⟨⟨63,[(0,.s (.sl 0 0 len none 3)),(1,.s (sI (len:Int))),(2,.s (.fn 30 []))]⟩,[(0,some ⟨flat Rw.cv L,true⟩)],1⟩ Ex.normal ⟨⟨63,[]⟩,[(0,some (Blk.mk (flat Rw.cv M) true))],1⟩ :=
 goA_ok mix (tape:=[(4,Ans.rounds 1),(7,aF),(12,Ans.call [0] (AV.tup []) [(0,sB_ (flat Rw.cv M))] 1),(13,Ans.rounds 1),(16,aF)]) (dl:=[]) (nl:=[0]) (C:=[(IsF (decide (20 < (↑len:Int)))),(CD B 68 [AV.s (SV.sl 0 0 len none 3),AV.s (sI 0),AV.s (sI (↑len:Int)),AV.s (SV.fn 30 [])] [(0,sB_ (flat Rw.cv L))] 1 (AV.tup []) ([(0,sB_ (flat Rw.cv M))]++[(0,sB_ (flat Rw.cv L))]) 1),(IsF (decide (20≤(↑len:Int))))]) (by kernel_rfl) ⟨cFa,by (apply ins_c<;>first|exact hM|assumption|rfl|omega),cFa,trivial⟩
theorem stB_1 {B:Nat} (L M:List Rw) (len:Nat) (hM:isort0 L=M) (hl:len=L.length) (h20:len=20) :CodeDoes Try.prog B (Try.f50.body.getD .skip) ⟨⟨63,[(0,.s (.sl 0 0 len none 3)),(1,.s (sI (len:Int))),(2,.s (.fn 30 []))]⟩,[(0,some ⟨flat Rw.cv L,true⟩)],1⟩ Ex.normal ⟨⟨63,[]⟩,[(0,some (Blk.mk (flat Rw.cv M) true))],1⟩ :=
 goA_ok mix (tape:=[(4,Ans.rounds 2),(7,aT),(12,Ans.call [0] (AV.tup []) [(0,sB_ (flat Rw.cv M))] 1),(21,aF),(26,Ans.call [0] (AV.tup []) [(0,sB_ (flat Rw.cv M))] 1),(27,Ans.rounds 1),(30,aF)]) (dl:=[]) (nl:=[0]) (C:=[(IsF (decide (20 < (↑len:Int)))),(CD B 68 [AV.s (SV.sl 0 0 len none 3),AV.s (sI 20),AV.s (sI (↑len:Int)),AV.s (SV.fn 30 [])] [(0,sB_ (flat Rw.cv M))] 1 (AV.tup []) ([(0,sB_ (flat Rw.cv M))]++[(0,sB_ (flat Rw.cv M))]) 1),(IsF (decide (40≤(↑len:Int)))),(CD B 68 [AV.s (SV.sl 0 0 len none 3),AV.s (sI 0),AV.s (sI 20),AV.s (SV.fn 30 [])] [(0,sB_ (flat Rw.cv L))] 1 (AV.tup []) ([(0,sB_ (flat Rw.cv M))]++[(0,sB_ (flat Rw.cv L))]) 1),(IsT (decide (20≤(↑len:Int))))]) (by kernel_rfl) ⟨cFa,by (apply ins_z<;>first|assumption|omega),cFa,by (apply ins_k<;>first|exact hM|assumption|omega),cTa,trivial⟩
theorem st_c {B c n len l2:Nat} {L M:List Rw} (hM:isort0 L=M) (hl:len=L.length) (h2:l2=len) (h0:0 < len) (h20:len≤20) (hn:n < c):CallDoes Try.prog B 50 [.s (.sl n 0 len none 3),.s (sI (l2:Int)),.s (.fn 30 [])] [(n,some ⟨flat Rw.cv L,true⟩)] c (.tup []) ([(n,some ⟨flat Rw.cv M,true⟩)]++[(n,some ⟨flat Rw.cv L,true⟩)]) c:=by
 subst h2
 by_cases h:l2 < 20
 ·exact call_mut (args0:=[.s (.sl 0 0 l2 none 3),.s (sI (l2:Int)),.s (.fn 30 [])]) Try.func50 (by kernel_rfl) (by kernel_rfl) (k:=63) (by kernel_rfl) (stA_1 L M l2 hM hl h0 h) (.inl rfl) (by kernel_rfl) rfl (Rw_blk _ _) (Rw_blk _ _) rfl (by simp [avNames,svNames]) rfl hn
 ·exact call_mut (args0:=[.s (.sl 0 0 l2 none 3),.s (sI (l2:Int)),.s (.fn 30 [])]) Try.func50 (by kernel_rfl) (by kernel_rfl) (k:=63) (by kernel_rfl) (stB_1 L M l2 hM hl (by omega)) (.inl rfl) (by kernel_rfl) rfl (Rw_blk _ _) (Rw_blk _ _) rfl (by simp [avNames,svNames]) rfl hn
theorem ssA_1 {B:Nat} (L M:List Rw) (len:Nat) (hM:isort0 L=M) (hl:len=L.length) (h0:0 < len) (h20:len≤20) :CodeDoes Try.prog B (Try.f29.body.getD .skip) ⟨⟨9,[(0,.s (.sl 0 0 len none 3)),(1,.s (.fn 30 []))]⟩,[(0,some ⟨flat Rw.cv L,true⟩)],1⟩ Ex.normal ⟨⟨9,[]⟩,[(0,some (Blk.mk (flat Rw.cv M) true))],1⟩ :=
 goA_ok mix (tape:=[(4,Ans.call [0] (AV.tup []) [(0,sB_ (flat Rw.cv M))] 1)]) (dl:=[]) (nl:=[0]) (C:=[(CD B 50 [AV.s (SV.sl 0 0 len none 3),AV.s (sI (↑len:Int)),AV.s (SV.fn 30 [])] [(0,sB_ (flat Rw.cv L))] 1 (AV.tup []) ([(0,sB_ (flat Rw.cv M))]++[(0,sB_ (flat Rw.cv L))]) 1)]) (by kernel_rfl) ⟨by (apply st_c<;>first|exact hM|assumption|rfl|omega),trivial⟩
theorem ss_c {B c n len:Nat} {L M:List Rw} (hM:isort0 L=M) (hl:len=L.length) (h0:0 < len) (h20:len≤20) (hn:n < c):CallDoes Try.prog B 29 [.s (.sl n 0 len none 3),.s (.fn 30 [])] [(n,some ⟨flat Rw.cv L,true⟩)] c (.tup []) ([(n,some ⟨flat Rw.cv M,true⟩)]++[(n,some ⟨flat Rw.cv L,true⟩)]) c :=
 call_mut (args0:=[.s (.sl 0 0 len none 3),.s (.fn 30 [])]) Try.func29 (by kernel_rfl) (by kernel_rfl) (k:=9) (by kernel_rfl) (ssA_1 L M len hM hl h0 h20) (.inl rfl) (by kernel_rfl) rfl (Rw_blk _ _) (Rw_blk _ _) rfl (by simp [avNames,svNames]) rfl hn
end Go.Proofs.Ytaelliigpclipaa.V
namespace Go.Proofs.Ytaelliigpclipaa.V
open Go Go.RowKit Go.Proofs Go.Proofs.Ytaelliigpclipaa.Eng Go.Proofs.Ytaelliigpclipaa.VPl
set_option maxRecDepth 100000
set_option linter.unusedVariables false
set_option linter.unusedSimpArgs false
theorem un23s:Try.prog.underlying 23=some (.slice 28):=by kernel_rfl
theorem un22s:Try.prog.underlying 22=some (.slice 25):=by kernel_rfl
theorem nnC {len sz:Nat} {cap:Option Nat} {cs:List SV} (h:0 < len):Option.map AV.s (evBin Try.prog .eql 23 (.s (.slv len cap sz cs)) (.s .sl0))=some (.s (.bool false)):=by simp [evBin,un23s,h,eqOf]
theorem nnR {len sz:Nat} {cap:Option Nat} {cs:List SV} (h:0 < len):Option.map AV.s (evBin Try.prog .eql 22 (.s (.slv len cap sz cs)) (.s .sl0))=some (.s (.bool false)):=by simp [evBin,un22s,h,eqOf]
attribute [local irreducible] Eng.evAppend Eng.evSlice Eng.less CallDoes Eng.loadG Eng.evIndexAddr Eng.evBin
theorem clC_1 {B:Nat} (C:List Cl) (h0:0 < C.length) (hC:C.length≤2932031007317) :CodeDoes Try.prog B (Try.f49.body.getD .skip) ⟨⟨8,[(0,.s (.slv C.length none 4 (flat Cl.cv C)))]⟩,[],0⟩ Ex.ret ⟨⟨8,[(2,AV.s (SV.sl 1 0 (List.length C) none 4))]⟩,[(1,some (Blk.mk (flat Cl.cv C) true))],2⟩ :=
 goA_ok mix (tape:=[(2,Ans.val (AV.s (SV.bool false))),(5,Ans.mem (AV.s (SV.sl 1 0 (List.length C) none 4)) [(1,sB_ (flat Cl.cv C)),(0,none)] 2)]) (dl:=[2]) (nl:=[1]) (C:=[((less 1 (evAppend Try.prog 23 23 (AV.s (SV.sl 0 0 0 none 4)) (AV.s (vL Cl.cv 4 C)) [(0,sB_ [])] 1))=some (AV.s (SV.sl 1 0 (List.length C) none 4),[(1,sB_ (flat Cl.cv C)),(0,none)],2)),((Option.map AV.s (evBin Try.prog BinOp.eql 23 (AV.s (vL Cl.cv 4 C)) (AV.s SV.sl0)))=some (AV.s (SV.bool false)))]) (by kernel_rfl) ⟨by (apply app0Cl<;>first|exact el23|rfl|omega|(unfold maxLen;omega)),by (apply nnC<;>first|assumption),trivial⟩
theorem clR_1 {B:Nat} (L:List Rw) (h0:0 < L.length) (hL:L.length≤1000) :CodeDoes Try.prog B (Try.f48.body.getD .skip) ⟨⟨8,[(0,.s (.slv L.length none 3 (flat Rw.cv L)))]⟩,[],0⟩ Ex.ret ⟨⟨8,[(2,AV.s (SV.sl 1 0 (List.length L) none 3))]⟩,[(1,some (Blk.mk (flat Rw.cv L) true))],2⟩ :=
 goA_ok mix (tape:=[(2,Ans.val (AV.s (SV.bool false))),(5,Ans.mem (AV.s (SV.sl 1 0 (List.length L) none 3)) [(1,sB_ (flat Rw.cv L)),(0,none)] 2)]) (dl:=[2]) (nl:=[1]) (C:=[((less 1 (evAppend Try.prog 22 22 (AV.s (SV.sl 0 0 0 none 3)) (AV.s (vL Rw.cv 3 L)) [(0,sB_ [])] 1))=some (AV.s (SV.sl 1 0 (List.length L) none 3),[(1,sB_ (flat Rw.cv L)),(0,none)],2)),((Option.map AV.s (evBin Try.prog BinOp.eql 22 (AV.s (vL Rw.cv 3 L)) (AV.s SV.sl0)))=some (AV.s (SV.bool false)))]) (by kernel_rfl) ⟨by (apply app0Rw<;>first|exact el22|rfl|omega|(unfold maxLen;omega)),by (apply nnR<;>first|assumption),trivial⟩
theorem clC_does (C:List Cl) (h0:0 < C.length) (hC:C.length≤2932031007317):ValDoes Try.prog 49 [.s (.slv C.length none 4 (flat Cl.cv C))] (.s (.slv C.length none 4 (flat Cl.cv C))) :=
 ValDoes.of_code Try.func49 (by kernel_rfl) (by kernel_rfl) (k:=8) (by kernel_rfl) (fun B=>⟨_,_,.inr rfl,(clC_1 C h0 hC).freeze 1 (l':=[(2,.s (.slv C.length none 4 (flat Cl.cv C)))]) (m':=[(1,none)]) rfl (Cl_flat _) (.cons (.s (.sl (subCl _))) .nil) (.gone .nil),rfl⟩) rfl (List.all_eq_true.1 (by kernel_rfl))
theorem clC_c {B c len:Nat} {C:List Cl} (hl:len=C.length) (h0:0 < C.length) (hC:C.length≤2932031007317):CallDoes Try.prog B 49 [.s (.slv len none 4 (flat Cl.cv C))] [] c (.s (.slv C.length none 4 (flat Cl.cv C))) ([]++[]) c:=by
 subst hl;exact clC_does C h0 hC B c
theorem clR_new (L:List Rw) (h0:0 < L.length) (hL:L.length≤1000):NewDoes Try.prog 48 [.s (.slv L.length none 3 (flat Rw.cv L))] L.length 3 (flat Rw.cv L) :=
 NewDoes.of_code Try.func48 (by kernel_rfl) (by kernel_rfl) (k:=8) (by kernel_rfl) (fun B=>⟨_,_,1,.inr rfl,clR_1 L h0 hL,by kernel_rfl,rfl,by show 1 < 2;decide⟩) (Rw_blk _ _) (List.all_eq_true.1 (by kernel_rfl))
theorem clR_c {B c len:Nat} {L:List Rw} (hl:len=L.length) (h0:0 < L.length) (hL:L.length≤1000):CallDoes Try.prog B 48 [.s (.slv len none 3 (flat Rw.cv L))] [] c (.s (.sl c 0 len none 3)) ([(c,some ⟨flat Rw.cv L,true⟩)]++[]) (c+1):=by
 subst hl;exact clR_new L h0 hL B c
theorem set_same {L:List Rw} {i:Nat} (h:i < L.length):L.set i ⟨(L.getD i Rw0).time,(L.getD i Rw0).seq,(L.getD i Rw0).cells⟩=L:=by
 have:(⟨(L.getD i Rw0).time,(L.getD i Rw0).seq,(L.getD i Rw0).cells⟩:Rw)=L[i]:=by simp [h]
 rw [this,List.set_getElem_self]
theorem cpE_1 {B:Nat} (L:List Rw) (len i:Nat) (hi:¬ i < len) :CodeDoes Try.prog B (Lf (Lf (Rt (Lf (Rt (Rt (Try.f28.body.getD .skip))))))) ⟨⟨24,[(3,.s (.sl 0 0 len none 3)),(8,.s (sI (len:Int))),(9,.s (sI (i:Int)))]⟩,[(0,some ⟨flat Rw.cv L,true⟩)],1⟩ (Ex.exit 0) ⟨⟨24,[(3,AV.s (SV.sl 0 0 len none 3)),(8,AV.s (sI (↑len:Int))),(9,AV.s (sI (↑i:Int)))]⟩,[(0,some (Blk.mk (flat Rw.cv L) true))],1⟩ :=
 goA_ok mix (tape:=[(0,aF)]) (dl:=[3,8,9]) (nl:=[0]) (C:=[(IsF (decide ((↑i:Int) < (↑len:Int))))]) (by kernel_rfl) ⟨cFa,trivial⟩
theorem isort0_len (L:List Rw):(isort0 L).length=L.length:=by
 have key:∀ n,n≤L.length - 1→((List.range n).foldl (fun M k=>insAt M (k+1)) L).length=L.length:=by
  intro n
  induction n with
  | zero=>intro _;rfl
  | succ n ih =>
   intro h
   have:=ih (by omega)
   rw [List.range_succ,List.foldl_append]
   simp only [List.foldl_cons,List.foldl_nil]
   rw [insAt_len _ _ (by omega),this]
 exact key _ (Nat.le_refl _)
end Go.Proofs.Ytaelliigpclipaa.V
namespace Go.Proofs.Ytaelliigpclipaa.V
open Go Go.RowKit Go.Proofs Go.Proofs.Ytaelliigpclipaa.Eng Go.Proofs.Ytaelliigpclipaa.VPl
set_option maxRecDepth 100000
set_option linter.unusedVariables false
set_option linter.unusedSimpArgs false
abbrev bytesOf (s:ByteArray):List Int:=s.data.toList.map fun b=>(b.toNat:Int)
theorem bytesOf_len (s:ByteArray):(bytesOf s).length=s.size:=by simp [bytesOf]
theorem strto {kd:IntKind} {q:Int} {k:Nat} {s:ByteArray} (h0:0≤q) (h1:q≤(s.size:Int)):evSlice Try.prog 9 (.s (.str s)) none (some (.s (.int kd q))) none=some (.s (.str (s.extract 0 q.toNat))):=claim_strto un9 (by omega) (by omega)
theorem idxS {kd:IntKind} {q:Int} {k:Nat} {s:ByteArray} (hq:q=(k:Int)) (h1:k < s.size):evIndex Try.prog 9 (.s (.str s)) (.s (.int kd q))=some (.s (.int .u8 ((bytesOf s).getD k 0))):=by
 subst hq
 have h2:(0:Int)≤(k:Int):=by omega
 have h3:s[k]?=some s[k]:=by simp [h1]
 have h4:(bytesOf s).getD k 0=((s[k]).toNat:Int):=by
  have h5:k < s.data.toList.length:=by simpa using h1
  rw [List.getD_eq_getElem?_getD,List.getElem?_map,List.getElem?_eq_getElem h5]
  rfl
 have h6:evIndex Try.prog 9 (.s (.str s)) (.s (.int kd (k:Int)))=(if (0:Int)≤(k:Int) then (s[(k:Int).toNat]?).map (fun b=>AV.s (.int .u8 b.toNat)) else none):=by
  simp only [evIndex,un9]
 rw [h6,if_pos h2,Int.toNat_natCast,h3,h4]
 rfl
abbrev lowB (b:Int):Bool:=!(decide (b < 97)||decide (b > 122))
def nameB (s:ByteArray):Bool:=!(s.data.toList == [])&&decide (s.size≤12)&&(bytesOf s).all lowB
def fineB (x:Cl):Bool:=if x.kind=1 then nameB x.col&&(x.s.data.toList == []) else if x.kind=2 then nameB x.col&&decide (x.n=0)&&decide (x.s.size≤40) else false
abbrev geS (a b:ByteArray):Bool:=!Op.bytesLess a.data.toList b.data.toList
abbrev cellOk (L:List Cl) (k:Nat):Bool:=fineB (L.getD k Cl0)&&!(decide (k > 0)&&geS (L.getD (k - 1) Cl0).col (L.getD k Cl0).col)
def rightB (r:Rw):Bool:=!(decide (r.time < -1099511627776)||decide (r.time > 1099511627776)||decide (r.seq < 0)||decide (r.seq > 1073741824)||decide (r.cells.length > 8))&&(List.range r.cells.length).all (cellOk r.cells)
attribute [local irreducible] Eng.evAppend Eng.evSlice Eng.less CallDoes Eng.loadG Eng.evIndexAddr Eng.evBin
theorem nameR_1 {B:Nat} (s:ByteArray) (k:Nat) (hs:s.size≤12) (h_1:(↑k:Int) < (↑(ByteArray.size s):Int)) (h_2:List.getD (bytesOf s) k 0 < 97):CodeDoes Try.prog B (Lf (Lf (Rt (Lf (Rt (Rt (Try.f35.body.getD .skip))))))) ⟨⟨27,[(0,.s (.str s)),(12,.s (sI (s.size:Int))),(13,.s (sI (k:Int)))]⟩,[],0⟩ Ex.ret ⟨⟨27,[(2,AV.s (SV.bool false))]⟩,[],0⟩ :=
 goA_ok mix (tape:=[(0,aT),(5,Ans.val (AV.s (sB (List.getD (bytesOf s) k 0)))),(6,aT)]) (dl:=[2]) (nl:=[]) (C:=[(IsT (decide (List.getD (bytesOf s) k 0 < 97))),((evIndex Try.prog 9 (AV.s (SV.str s)) (AV.s (sI (↑k:Int))))=some (AV.s (sB (List.getD (bytesOf s) k 0)))),(IsT (decide ((↑k:Int) < (↑(ByteArray.size s):Int))))]) (by kernel_rfl) ⟨cTa,by (apply idxS<;>first|rfl|omega),cTa,trivial⟩
theorem nameR_2 {B:Nat} (s:ByteArray) (k:Nat) (hs:s.size≤12) (h_1:(↑k:Int) < (↑(ByteArray.size s):Int)) (h_2:¬ (List.getD (bytesOf s) k 0 < 97)) (h_3:List.getD (bytesOf s) k 0 > 122):CodeDoes Try.prog B (Lf (Lf (Rt (Lf (Rt (Rt (Try.f35.body.getD .skip))))))) ⟨⟨27,[(0,.s (.str s)),(12,.s (sI (s.size:Int))),(13,.s (sI (k:Int)))]⟩,[],0⟩ Ex.ret ⟨⟨27,[(2,AV.s (SV.bool false))]⟩,[],0⟩ :=
 goA_ok mix (tape:=[(0,aT),(5,Ans.val (AV.s (sB (List.getD (bytesOf s) k 0)))),(6,aF),(10,Ans.val (AV.s (sB (List.getD (bytesOf s) k 0)))),(11,aT)]) (dl:=[2]) (nl:=[]) (C:=[(IsT (decide (List.getD (bytesOf s) k 0 > 122))),((evIndex Try.prog 9 (AV.s (SV.str s)) (AV.s (sI (↑k:Int))))=some (AV.s (sB (List.getD (bytesOf s) k 0)))),(IsF (decide (List.getD (bytesOf s) k 0 < 97))),((evIndex Try.prog 9 (AV.s (SV.str s)) (AV.s (sI (↑k:Int))))=some (AV.s (sB (List.getD (bytesOf s) k 0)))),(IsT (decide ((↑k:Int) < (↑(ByteArray.size s):Int))))]) (by kernel_rfl) ⟨cTa,by (apply idxS<;>first|rfl|omega),cFa,by (apply idxS<;>first|rfl|omega),cTa,trivial⟩
theorem nameR_3 {B:Nat} (s:ByteArray) (k:Nat) (hs:s.size≤12) (h_1:(↑k:Int) < (↑(ByteArray.size s):Int)) (h_2:¬ (List.getD (bytesOf s) k 0 < 97)) (h_3:¬ (List.getD (bytesOf s) k 0 > 122)):CodeDoes Try.prog B (Lf (Lf (Rt (Lf (Rt (Rt (Try.f35.body.getD .skip))))))) ⟨⟨27,[(0,.s (.str s)),(12,.s (sI (s.size:Int))),(13,.s (sI (k:Int)))]⟩,[],0⟩ Ex.normal ⟨⟨27,[(0,AV.s (SV.str s)),(12,AV.s (sI (↑(ByteArray.size s):Int))),(13,AV.s (sI ((↑k:Int)+1)))]⟩,[],0⟩ :=
 goA_ok mix (tape:=[(0,aT),(5,Ans.val (AV.s (sB (List.getD (bytesOf s) k 0)))),(6,aF),(10,Ans.val (AV.s (sB (List.getD (bytesOf s) k 0)))),(11,aF),(13,Ans.val (AV.s (sI ((↑k:Int)+1))))]) (dl:=[0,12,13]) (nl:=[]) (C:=[(some (AV.s (sI (wI ((↑k:Int)+1))))=some (AV.s (sI ((↑k:Int)+1)))),(IsF (decide (List.getD (bytesOf s) k 0 > 122))),((evIndex Try.prog 9 (AV.s (SV.str s)) (AV.s (sI (↑k:Int))))=some (AV.s (sB (List.getD (bytesOf s) k 0)))),(IsF (decide (List.getD (bytesOf s) k 0 < 97))),((evIndex Try.prog 9 (AV.s (SV.str s)) (AV.s (sI (↑k:Int))))=some (AV.s (sB (List.getD (bytesOf s) k 0)))),(IsT (decide ((↑k:Int) < (↑(ByteArray.size s):Int))))]) (by kernel_rfl) ⟨claim_i (by exact wrap_i64 (by omega) (by omega)),cFa,by (apply idxS<;>first|rfl|omega),cFa,by (apply idxS<;>first|rfl|omega),cTa,trivial⟩
theorem nameR_4 {B:Nat} (s:ByteArray) (k:Nat) (hs:s.size≤12) (h_1:¬ ((↑k:Int) < (↑(ByteArray.size s):Int))):CodeDoes Try.prog B (Lf (Lf (Rt (Lf (Rt (Rt (Try.f35.body.getD .skip))))))) ⟨⟨27,[(0,.s (.str s)),(12,.s (sI (s.size:Int))),(13,.s (sI (k:Int)))]⟩,[],0⟩ (Ex.exit 0) ⟨⟨27,[(2,AV.any)]⟩,[],0⟩ :=
 goA_ok mix (tape:=[(0,aF)]) (dl:=[2]) (nl:=[]) (C:=[(IsF (decide ((↑k:Int) < (↑(ByteArray.size s):Int))))]) (by kernel_rfl) ⟨cFa,trivial⟩
theorem name_loopT {B:Nat} (s:ByteArray) (hs:s.size≤12) (h:(bytesOf s).all lowB=true):CodeDoes Try.prog B (Lf (Rt (Lf (Rt (Rt (Try.f35.body.getD .skip)))))) ⟨⟨27,[(0,.s (.str s)),(12,.s (sI (s.size:Int))),(13,.s (sI ((0:Nat):Int)))]⟩,[],0⟩ (.exit 0) ⟨⟨27,[(2,.any)]⟩,[],0⟩:=by
 have h2:=(all_getD lowB (bytesOf s) 0).1 h
 rw [bytesOf_len] at h2
 refine CodeDoes.loopAt (by kernel_rfl) (LoopDoes.scanAll (fun k=>⟨⟨27,[(0,.s (.str s)),(12,.s (sI (s.size:Int))),(13,.s (sI (k:Int)))]⟩,[],0⟩) s.size (by simp) (fun k hk=>?_) ?_)
 ·have:=h2 k hk
  simp only [lowB,Bool.not_eq_true',Bool.or_eq_false_iff,decide_eq_false_iff_not] at this
  exact nameR_3 s k hs (by omega) this.1 this.2
 ·exact nameR_4 s s.size hs (by omega)
theorem name_loopF {B:Nat} (s:ByteArray) (hs:s.size≤12) (h:¬ ((bytesOf s).all lowB=true)):CodeDoes Try.prog B (Lf (Rt (Lf (Rt (Rt (Try.f35.body.getD .skip)))))) ⟨⟨27,[(0,.s (.str s)),(12,.s (sI (s.size:Int))),(13,.s (sI ((0:Nat):Int)))]⟩,[],0⟩ .ret ⟨⟨27,[(2,.s (.bool false))]⟩,[],0⟩:=by
 have h2:=fun x=>h ((all_getD lowB (bytesOf s) 0).2 x)
 rw [bytesOf_len] at h2
 rcases first_bad (fun k=>lowB ((bytesOf s).getD k 0)) s.size with h3|⟨k,h3,h4,h5⟩
 ·exact absurd h3 h2
 ·refine CodeDoes.loopAt (by kernel_rfl) (LoopDoes.scanHit (fun k=>⟨⟨27,[(0,.s (.str s)),(12,.s (sI (s.size:Int))),(13,.s (sI (k:Int)))]⟩,[],0⟩) k (by simp) (fun i hi=>?_) ?_)
  ·have:=h5 i hi
   simp only [lowB,Bool.not_eq_true',Bool.or_eq_false_iff,decide_eq_false_iff_not] at this
   exact nameR_3 s i hs (by omega) this.1 this.2
  ·simp only [lowB,Bool.not_eq_false',Bool.or_eq_true,decide_eq_true_eq] at h4
   by_cases h6:(bytesOf s).getD k 0 < 97
   ·exact nameR_1 s k hs (by omega) h6
   ·exact nameR_2 s k hs (by omega) h6 (by omega)
theorem name_1 {B:Nat} (s:ByteArray) (hs_1:List.all (bytesOf s) lowB=true) (h_2:(Array.toList (ByteArray.data s) == Array.toList (ByteArray.data (s0_)))=true):CodeDoes Try.prog B (Try.f35.body.getD .skip) ⟨⟨27,[(0,.s (.str s))]⟩,[],0⟩ Ex.ret ⟨⟨27,[(2,AV.s (SV.bool false))]⟩,[],0⟩ :=
 goA_ok mix (tape:=[(2,aT)]) (dl:=[2]) (nl:=[]) (C:=[(IsT (tl_ (ByteArray.data s) == tl_ (ByteArray.data (s0_))))]) (by kernel_rfl) ⟨claim_b (by assumption),trivial⟩
theorem name_2 {B:Nat} (s:ByteArray) (hs_1:List.all (bytesOf s) lowB=true) (h_2:¬ ((Array.toList (ByteArray.data s) == Array.toList (ByteArray.data (s0_)))=true)) (h_3:(↑(ByteArray.size s):Int) > 12):CodeDoes Try.prog B (Try.f35.body.getD .skip) ⟨⟨27,[(0,.s (.str s))]⟩,[],0⟩ Ex.ret ⟨⟨27,[(2,AV.s (SV.bool false))]⟩,[],0⟩ :=
 goA_ok mix (tape:=[(2,aF),(6,aT)]) (dl:=[2]) (nl:=[]) (C:=[(IsT (decide ((↑(ByteArray.size s):Int) > 12))),(IsF (tl_ (ByteArray.data s) == tl_ (ByteArray.data (s0_))))]) (by kernel_rfl) ⟨cTa,claim_b (by exact Bool.eq_false_iff.2 (by assumption)),trivial⟩
theorem name_3 {B:Nat} (s:ByteArray) (hs_1:List.all (bytesOf s) lowB=true) (h_2:¬ ((Array.toList (ByteArray.data s) == Array.toList (ByteArray.data (s0_)))=true)) (h_3:¬ ((↑(ByteArray.size s):Int) > 12)):CodeDoes Try.prog B (Try.f35.body.getD .skip) ⟨⟨27,[(0,.s (.str s))]⟩,[],0⟩ Ex.ret ⟨⟨27,[(2,AV.s (SV.bool true))]⟩,[],0⟩ :=
 goA_ok mix (tape:=[(2,aF),(6,aF),(11,Ans.loop [0,12,13] [] (Ex.exit 0) (St.mk (Tm.mk 27 [(2,AV.any)]) [] 0))]) (dl:=[2]) (nl:=[]) (C:=[(KD B (Lf (Rt (Lf (Rt (Rt (Try.f35.body.getD .skip)))))) (St.mk (Tm.mk 27 [(0,AV.s (SV.str s)),(12,AV.s (sI (↑(ByteArray.size s):Int))),(13,AV.s (sI (↑0:Int)))]) [] 0) (Ex.exit 0) (St.mk (Tm.mk 27 [(2,AV.any)]) [] 0)),(IsF (decide ((↑(ByteArray.size s):Int) > 12))),(IsF (tl_ (ByteArray.data s) == tl_ (ByteArray.data (s0_))))]) (by kernel_rfl) ⟨by (apply name_loopT<;>first|exact el23|exact el22|exact sz28|exact sz25|exact by28|exact by25|exact zr28|exact zr25|exact ag28|exact ag25|exact un9|assumption|rfl|omega|(unfold maxLen;omega)|decide|(simp;done)|(simp;omega)),cFa,claim_b (by exact Bool.eq_false_iff.2 (by assumption)),trivial⟩
theorem name_4 {B:Nat} (s:ByteArray) (hs_1:¬ (List.all (bytesOf s) lowB=true)) (h_2:(Array.toList (ByteArray.data s) == Array.toList (ByteArray.data (s0_)))=true):CodeDoes Try.prog B (Try.f35.body.getD .skip) ⟨⟨27,[(0,.s (.str s))]⟩,[],0⟩ Ex.ret ⟨⟨27,[(2,AV.s (SV.bool false))]⟩,[],0⟩ :=
 goA_ok mix (tape:=[(2,aT)]) (dl:=[2]) (nl:=[]) (C:=[(IsT (tl_ (ByteArray.data s) == tl_ (ByteArray.data (s0_))))]) (by kernel_rfl) ⟨claim_b (by assumption),trivial⟩
theorem name_5 {B:Nat} (s:ByteArray) (hs_1:¬ (List.all (bytesOf s) lowB=true)) (h_2:¬ ((Array.toList (ByteArray.data s) == Array.toList (ByteArray.data (s0_)))=true)) (h_3:(↑(ByteArray.size s):Int) > 12):CodeDoes Try.prog B (Try.f35.body.getD .skip) ⟨⟨27,[(0,.s (.str s))]⟩,[],0⟩ Ex.ret ⟨⟨27,[(2,AV.s (SV.bool false))]⟩,[],0⟩ :=
 goA_ok mix (tape:=[(2,aF),(6,aT)]) (dl:=[2]) (nl:=[]) (C:=[(IsT (decide ((↑(ByteArray.size s):Int) > 12))),(IsF (tl_ (ByteArray.data s) == tl_ (ByteArray.data (s0_))))]) (by kernel_rfl) ⟨cTa,claim_b (by exact Bool.eq_false_iff.2 (by assumption)),trivial⟩
theorem name_6 {B:Nat} (s:ByteArray) (hs_1:¬ (List.all (bytesOf s) lowB=true)) (h_2:¬ ((Array.toList (ByteArray.data s) == Array.toList (ByteArray.data (s0_)))=true)) (h_3:¬ ((↑(ByteArray.size s):Int) > 12)):CodeDoes Try.prog B (Try.f35.body.getD .skip) ⟨⟨27,[(0,.s (.str s))]⟩,[],0⟩ Ex.ret ⟨⟨27,[(2,AV.s (SV.bool false))]⟩,[],0⟩ :=
 goA_ok mix (tape:=[(2,aF),(6,aF),(11,Ans.loop [0,12,13] [] (Ex.ret) (St.mk (Tm.mk 27 [(2,AV.s (SV.bool false))]) [] 0))]) (dl:=[2]) (nl:=[]) (C:=[(KD B (Lf (Rt (Lf (Rt (Rt (Try.f35.body.getD .skip)))))) (St.mk (Tm.mk 27 [(0,AV.s (SV.str s)),(12,AV.s (sI (↑(ByteArray.size s):Int))),(13,AV.s (sI (↑0:Int)))]) [] 0) (Ex.ret) (St.mk (Tm.mk 27 [(2,AV.s (SV.bool false))]) [] 0)),(IsF (decide ((↑(ByteArray.size s):Int) > 12))),(IsF (tl_ (ByteArray.data s) == tl_ (ByteArray.data (s0_))))]) (by kernel_rfl) ⟨by (apply name_loopF<;>first|exact el23|exact el22|exact sz28|exact sz25|exact by28|exact by25|exact zr28|exact zr25|exact ag28|exact ag25|exact un9|assumption|rfl|omega|(unfold maxLen;omega)|decide|(simp;done)|(simp;omega)),cFa,claim_b (by exact Bool.eq_false_iff.2 (by assumption)),trivial⟩
theorem name_does (s:ByteArray):ValDoes Try.prog 35 [.s (.str s)] (.s (.bool (nameB s))):=by
 by_cases hs_1:List.all (bytesOf s) lowB=true
 ·by_cases h_2:(Array.toList (ByteArray.data s) == Array.toList (ByteArray.data (ByteArray.mk #[])))=true
  ·exact ValDoes.of_code Try.func35 (by kernel_rfl) (by kernel_rfl) (k:=27) (by kernel_rfl) (fun B=>⟨_,_,.inr rfl,name_1 s hs_1 h_2,Eq.trans (b:=some (AV.s (SV.bool false))) (by kernel_rfl) (congrArg some (show (AV.s (SV.bool false))=(.s (.bool (nameB s))) by refine congrArg (fun b=>AV.s (SV.bool b)) ?_;simp only [nameB];grind))⟩) (by kernel_rfl) (List.all_eq_true.1 (by kernel_rfl))
  ·by_cases h_3:(↑(ByteArray.size s):Int) > 12
   ·exact ValDoes.of_code Try.func35 (by kernel_rfl) (by kernel_rfl) (k:=27) (by kernel_rfl) (fun B=>⟨_,_,.inr rfl,name_2 s hs_1 h_2 h_3,Eq.trans (b:=some (AV.s (SV.bool false))) (by kernel_rfl) (congrArg some (show (AV.s (SV.bool false))=(.s (.bool (nameB s))) by refine congrArg (fun b=>AV.s (SV.bool b)) ?_;simp only [nameB];grind))⟩) (by kernel_rfl) (List.all_eq_true.1 (by kernel_rfl))
   ·exact ValDoes.of_code Try.func35 (by kernel_rfl) (by kernel_rfl) (k:=27) (by kernel_rfl) (fun B=>⟨_,_,.inr rfl,name_3 s hs_1 h_2 h_3,Eq.trans (b:=some (AV.s (SV.bool true))) (by kernel_rfl) (congrArg some (show (AV.s (SV.bool true))=(.s (.bool (nameB s))) by refine congrArg (fun b=>AV.s (SV.bool b)) ?_;simp only [nameB];grind))⟩) (by kernel_rfl) (List.all_eq_true.1 (by kernel_rfl))
 ·by_cases h_2:(Array.toList (ByteArray.data s) == Array.toList (ByteArray.data (ByteArray.mk #[])))=true
  ·exact ValDoes.of_code Try.func35 (by kernel_rfl) (by kernel_rfl) (k:=27) (by kernel_rfl) (fun B=>⟨_,_,.inr rfl,name_4 s hs_1 h_2,Eq.trans (b:=some (AV.s (SV.bool false))) (by kernel_rfl) (congrArg some (show (AV.s (SV.bool false))=(.s (.bool (nameB s))) by refine congrArg (fun b=>AV.s (SV.bool b)) ?_;simp only [nameB];grind))⟩) (by kernel_rfl) (List.all_eq_true.1 (by kernel_rfl))
  ·by_cases h_3:(↑(ByteArray.size s):Int) > 12
   ·exact ValDoes.of_code Try.func35 (by kernel_rfl) (by kernel_rfl) (k:=27) (by kernel_rfl) (fun B=>⟨_,_,.inr rfl,name_5 s hs_1 h_2 h_3,Eq.trans (b:=some (AV.s (SV.bool false))) (by kernel_rfl) (congrArg some (show (AV.s (SV.bool false))=(.s (.bool (nameB s))) by refine congrArg (fun b=>AV.s (SV.bool b)) ?_;simp only [nameB];grind))⟩) (by kernel_rfl) (List.all_eq_true.1 (by kernel_rfl))
   ·exact ValDoes.of_code Try.func35 (by kernel_rfl) (by kernel_rfl) (k:=27) (by kernel_rfl) (fun B=>⟨_,_,.inr rfl,name_6 s hs_1 h_2 h_3,Eq.trans (b:=some (AV.s (SV.bool false))) (by kernel_rfl) (congrArg some (show (AV.s (SV.bool false))=(.s (.bool (nameB s))) by refine congrArg (fun b=>AV.s (SV.bool b)) ?_;simp only [nameB];grind))⟩) (by kernel_rfl) (List.all_eq_true.1 (by kernel_rfl))
theorem name_call {B cc:Nat} (s:ByteArray):CallDoes Try.prog B 35 [.s (.str s)] [] cc (.s (.bool (nameB s))) ([]++[]) cc:=orVal (name_does s)
theorem fine_1 {B:Nat} (c:ByteArray) (k n:Int) (s:ByteArray) (h_1:k=1) (h_2:nameB c=true):CodeDoes Try.prog B (Try.f58.body.getD .skip) ⟨⟨31,[(0,.agg [.str c,sI k,sI n,.str s])]⟩,[],0⟩ Ex.ret ⟨⟨31,[(2,AV.s (SV.bool (Array.toList (ByteArray.data s) == Array.toList (ByteArray.data (ByteArray.mk #[])))))]⟩,[],1⟩ :=
 goA_ok mix (tape:=[(4,aT),(8,aC (AV.s (SV.bool true)) 1)]) (dl:=[2]) (nl:=[]) (C:=[(CD B 35 [AV.s (SV.str c)] [] 1 (AV.s (SV.bool true)) ([]++[]) 1),(IsT (k == 1))]) (by kernel_rfl) ⟨(Eq.mp (congrArg (fun z=>CD B _ _ _ _ (AV.s (SV.bool z)) _ _) (show (nameB c)=true from by assumption)) (show CD B 35 [AV.s (SV.str c)] [] 1 (AV.s (SV.bool (nameB c))) ([]++[]) 1 from by (apply name_call))),cTa,trivial⟩
theorem fine_2 {B:Nat} (c:ByteArray) (k n:Int) (s:ByteArray) (h_1:k=1) (h_2:¬ (nameB c=true)):CodeDoes Try.prog B (Try.f58.body.getD .skip) ⟨⟨31,[(0,.agg [.str c,sI k,sI n,.str s])]⟩,[],0⟩ Ex.ret ⟨⟨31,[(2,AV.s (SV.bool false))]⟩,[],1⟩ :=
 goA_ok mix (tape:=[(4,aT),(8,aC (AV.s (SV.bool false)) 1)]) (dl:=[2]) (nl:=[]) (C:=[(CD B 35 [AV.s (SV.str c)] [] 1 (AV.s (SV.bool false)) ([]++[]) 1),(IsT (k == 1))]) (by kernel_rfl) ⟨(Eq.mp (congrArg (fun z=>CD B _ _ _ _ (AV.s (SV.bool z)) _ _) (show (nameB c)=false from by exact Bool.eq_false_iff.2 (by assumption))) (show CD B 35 [AV.s (SV.str c)] [] 1 (AV.s (SV.bool (nameB c))) ([]++[]) 1 from by (apply name_call))),cTa,trivial⟩
theorem fine_3 {B:Nat} (c:ByteArray) (k n:Int) (s:ByteArray) (h_1:¬ (k=1)) (h_2:k=2) (h_3:nameB c=true) (h_4:n=0):CodeDoes Try.prog B (Try.f58.body.getD .skip) ⟨⟨31,[(0,.agg [.str c,sI k,sI n,.str s])]⟩,[],0⟩ Ex.ret ⟨⟨31,[(2,AV.s (SV.bool (decide ((↑(ByteArray.size s):Int)≤40))))]⟩,[],1⟩ :=
 goA_ok mix (tape:=[(4,aF),(6,aT),(10,aC (AV.s (SV.bool true)) 1),(14,aT)]) (dl:=[2]) (nl:=[]) (C:=[(IsT (n == 0)),(CD B 35 [AV.s (SV.str c)] [] 1 (AV.s (SV.bool true)) ([]++[]) 1),(IsT (k == 2)),(IsF (k == 1))]) (by kernel_rfl) ⟨cTa,(Eq.mp (congrArg (fun z=>CD B _ _ _ _ (AV.s (SV.bool z)) _ _) (show (nameB c)=true from by assumption)) (show CD B 35 [AV.s (SV.str c)] [] 1 (AV.s (SV.bool (nameB c))) ([]++[]) 1 from by (apply name_call))),cTa,cFa,trivial⟩
theorem fine_4 {B:Nat} (c:ByteArray) (k n:Int) (s:ByteArray) (h_1:¬ (k=1)) (h_2:k=2) (h_3:nameB c=true) (h_4:¬ (n=0)):CodeDoes Try.prog B (Try.f58.body.getD .skip) ⟨⟨31,[(0,.agg [.str c,sI k,sI n,.str s])]⟩,[],0⟩ Ex.ret ⟨⟨31,[(2,AV.s (SV.bool false))]⟩,[],1⟩ :=
 goA_ok mix (tape:=[(4,aF),(6,aT),(10,aC (AV.s (SV.bool true)) 1),(14,aF)]) (dl:=[2]) (nl:=[]) (C:=[(IsF (n == 0)),(CD B 35 [AV.s (SV.str c)] [] 1 (AV.s (SV.bool true)) ([]++[]) 1),(IsT (k == 2)),(IsF (k == 1))]) (by kernel_rfl) ⟨cFa,(Eq.mp (congrArg (fun z=>CD B _ _ _ _ (AV.s (SV.bool z)) _ _) (show (nameB c)=true from by assumption)) (show CD B 35 [AV.s (SV.str c)] [] 1 (AV.s (SV.bool (nameB c))) ([]++[]) 1 from by (apply name_call))),cTa,cFa,trivial⟩
theorem fine_5 {B:Nat} (c:ByteArray) (k n:Int) (s:ByteArray) (h_1:¬ (k=1)) (h_2:k=2) (h_3:¬ (nameB c=true)):CodeDoes Try.prog B (Try.f58.body.getD .skip) ⟨⟨31,[(0,.agg [.str c,sI k,sI n,.str s])]⟩,[],0⟩ Ex.ret ⟨⟨31,[(2,AV.s (SV.bool false))]⟩,[],1⟩ :=
 goA_ok mix (tape:=[(4,aF),(6,aT),(10,aC (AV.s (SV.bool false)) 1)]) (dl:=[2]) (nl:=[]) (C:=[(CD B 35 [AV.s (SV.str c)] [] 1 (AV.s (SV.bool false)) ([]++[]) 1),(IsT (k == 2)),(IsF (k == 1))]) (by kernel_rfl) ⟨(Eq.mp (congrArg (fun z=>CD B _ _ _ _ (AV.s (SV.bool z)) _ _) (show (nameB c)=false from by exact Bool.eq_false_iff.2 (by assumption))) (show CD B 35 [AV.s (SV.str c)] [] 1 (AV.s (SV.bool (nameB c))) ([]++[]) 1 from by (apply name_call))),cTa,cFa,trivial⟩
theorem fine_6 {B:Nat} (c:ByteArray) (k n:Int) (s:ByteArray) (h_1:¬ (k=1)) (h_2:¬ (k=2)):CodeDoes Try.prog B (Try.f58.body.getD .skip) ⟨⟨31,[(0,.agg [.str c,sI k,sI n,.str s])]⟩,[],0⟩ Ex.ret ⟨⟨31,[(2,AV.s (SV.bool false))]⟩,[],1⟩ :=
 goA_ok mix (tape:=[(4,aF),(6,aF)]) (dl:=[2]) (nl:=[]) (C:=[(IsF (k == 2)),(IsF (k == 1))]) (by kernel_rfl) ⟨cFa,cFa,trivial⟩
theorem fine_does (c:ByteArray) (k n:Int) (s:ByteArray):ValDoes Try.prog 58 [.agg [.str c,sI k,sI n,.str s]] (.s (.bool (fineB ⟨c,k,n,s⟩))):=by
 by_cases h_1:k=1
 ·by_cases h_2:nameB c=true
  ·exact ValDoes.of_code Try.func58 (by kernel_rfl) (by kernel_rfl) (k:=31) (by kernel_rfl) (fun B=>⟨_,_,.inr rfl,fine_1 c k n s h_1 h_2,Eq.trans (b:=some (AV.s (SV.bool (Array.toList (ByteArray.data s) == Array.toList (ByteArray.data (ByteArray.mk #[])))))) (by kernel_rfl) (congrArg some (show (AV.s (SV.bool (Array.toList (ByteArray.data s) == Array.toList (ByteArray.data (ByteArray.mk #[])))))=(.s (.bool (fineB ⟨c,k,n,s⟩))) by refine congrArg (fun b=>AV.s (SV.bool b)) ?_;simp only [fineB];grind))⟩) (by kernel_rfl) (List.all_eq_true.1 (by kernel_rfl))
  ·exact ValDoes.of_code Try.func58 (by kernel_rfl) (by kernel_rfl) (k:=31) (by kernel_rfl) (fun B=>⟨_,_,.inr rfl,fine_2 c k n s h_1 h_2,Eq.trans (b:=some (AV.s (SV.bool false))) (by kernel_rfl) (congrArg some (show (AV.s (SV.bool false))=(.s (.bool (fineB ⟨c,k,n,s⟩))) by refine congrArg (fun b=>AV.s (SV.bool b)) ?_;simp only [fineB];grind))⟩) (by kernel_rfl) (List.all_eq_true.1 (by kernel_rfl))
 ·by_cases h_2:k=2
  ·by_cases h_3:nameB c=true
   ·by_cases h_4:n=0
    ·exact ValDoes.of_code Try.func58 (by kernel_rfl) (by kernel_rfl) (k:=31) (by kernel_rfl) (fun B=>⟨_,_,.inr rfl,fine_3 c k n s h_1 h_2 h_3 h_4,Eq.trans (b:=some (AV.s (SV.bool (decide ((↑(ByteArray.size s):Int)≤40))))) (by kernel_rfl) (congrArg some (show (AV.s (SV.bool (decide ((↑(ByteArray.size s):Int)≤40))))=(.s (.bool (fineB ⟨c,k,n,s⟩))) by refine congrArg (fun b=>AV.s (SV.bool b)) ?_;simp only [fineB];grind))⟩) (by kernel_rfl) (List.all_eq_true.1 (by kernel_rfl))
    ·exact ValDoes.of_code Try.func58 (by kernel_rfl) (by kernel_rfl) (k:=31) (by kernel_rfl) (fun B=>⟨_,_,.inr rfl,fine_4 c k n s h_1 h_2 h_3 h_4,Eq.trans (b:=some (AV.s (SV.bool false))) (by kernel_rfl) (congrArg some (show (AV.s (SV.bool false))=(.s (.bool (fineB ⟨c,k,n,s⟩))) by refine congrArg (fun b=>AV.s (SV.bool b)) ?_;simp only [fineB];grind))⟩) (by kernel_rfl) (List.all_eq_true.1 (by kernel_rfl))
   ·exact ValDoes.of_code Try.func58 (by kernel_rfl) (by kernel_rfl) (k:=31) (by kernel_rfl) (fun B=>⟨_,_,.inr rfl,fine_5 c k n s h_1 h_2 h_3,Eq.trans (b:=some (AV.s (SV.bool false))) (by kernel_rfl) (congrArg some (show (AV.s (SV.bool false))=(.s (.bool (fineB ⟨c,k,n,s⟩))) by refine congrArg (fun b=>AV.s (SV.bool b)) ?_;simp only [fineB];grind))⟩) (by kernel_rfl) (List.all_eq_true.1 (by kernel_rfl))
  ·exact ValDoes.of_code Try.func58 (by kernel_rfl) (by kernel_rfl) (k:=31) (by kernel_rfl) (fun B=>⟨_,_,.inr rfl,fine_6 c k n s h_1 h_2,Eq.trans (b:=some (AV.s (SV.bool false))) (by kernel_rfl) (congrArg some (show (AV.s (SV.bool false))=(.s (.bool (fineB ⟨c,k,n,s⟩))) by refine congrArg (fun b=>AV.s (SV.bool b)) ?_;simp only [fineB];grind))⟩) (by kernel_rfl) (List.all_eq_true.1 (by kernel_rfl))
theorem fine_call {B cc:Nat} (c:ByteArray) (k n:Int) (s:ByteArray):CallDoes Try.prog B 58 [.agg [.str c,sI k,sI n,.str s]] [] cc (.s (.bool (fineB ⟨c,k,n,s⟩))) ([]++[]) cc:=orVal (fine_does c k n s)
theorem rightR_1 {B:Nat} (t q:Int) (L:List Cl) (k:Nat) (hL:L.length≤8) (h_1:(↑k:Int) < (↑(List.length L):Int)) (h_2:(!fineB (List.getD L k Cl0))=true):CodeDoes Try.prog B (Lf (Lf (Rt (Lf (Rt (Rt (Try.f34.body.getD .skip))))))) ⟨⟨57,[(1,.s (.ptr 0 0)),(30,.s (.slv L.length none 4 (flat Cl.cv L))),(31,.s (sI (L.length:Int))),(32,.s (sI (k:Int)))]⟩,[(0,some ⟨[sI t,sI q,.slv L.length none 4 (flat Cl.cv L)],true⟩)],1⟩ Ex.ret ⟨⟨57,[(2,AV.s (SV.bool false))]⟩,[(0,some (Blk.mk [sI t,sI q,SV.slv (List.length L) none 4 (flat Cl.cv L)] true))],2⟩ :=
 goA_ok mix (tape:=[(0,aT),(2,Ans.val (AV.s (SV.ptv (Cl.cv (List.getD L k Cl0))))),(8,Ans.call [] (AV.s (SV.bool (fineB (List.getD L k Cl0)))) [] 2),(9,aT)]) (dl:=[2]) (nl:=[0]) (C:=[(IsT (!fineB (List.getD L k Cl0))),(CD B 58 [AV.agg [SV.str (Cl.col (List.getD L k Cl0)),sI (Cl.kind (List.getD L k Cl0)),sI (Cl.n (List.getD L k Cl0)),SV.str (Cl.s (List.getD L k Cl0))]] [] 2 (AV.s (SV.bool (fineB (List.getD L k Cl0)))) ([]++[]) 2),((evIndexAddr Try.prog 23 (AV.s (vL Cl.cv 4 L)) (AV.s (sI (↑k:Int))))=some (AV.s (SV.ptv (Cl.cv (List.getD L k Cl0))))),(IsT (decide ((↑k:Int) < (↑(List.length L):Int))))]) (by kernel_rfl) ⟨claim_b (by assumption),by (apply fine_call),by (apply ixCl<;>first|rfl|omega),cTa,trivial⟩
theorem rightR_1p {B:Nat} (t q:Int) (L:List Cl) (k:Nat) (hL:L.length≤8) (h_1:(↑k:Int) < (↑(List.length L):Int)) (h_2:(!fineB (List.getD L k Cl0))=true):CodeDoes Try.prog B (Lf (Lf (Rt (Lf (Rt (Rt (Try.f34.body.getD .skip))))))) ⟨⟨57,[(1,.s (.ptr 0 0)),(30,.s (.slv L.length none 4 (flat Cl.cv L))),(31,.s (sI (L.length:Int))),(32,.s (sI (k:Int)))]⟩,[(0,some ⟨[sI t,sI q,.slv L.length none 4 (flat Cl.cv L)],true⟩)],1⟩ Ex.ret ⟨⟨57,[(2,AV.s (SV.bool false))]⟩,[(0,some (Blk.mk [sI t,sI q,SV.slv (List.length L) none 4 (flat Cl.cv L)] true))],1⟩ :=
 CodeDoes.packU (rightR_1 t q L k hL h_1 h_2) [0] (by simp) (by simp [avNames,svNames]) (fun x hx=>by simp only [List.mem_cons,List.not_mem_nil,or_false] at hx;rcases hx with rfl<;>exact ⟨by simp,fun b h=>by obtain rfl:=Option.some.inj h;first|rfl|exact blk_any _ _⟩) (by simp [avNames,svNames]) (fun x hx=>by simp only [List.mem_cons,List.not_mem_nil,or_false] at hx;rcases hx with rfl<;>exact ⟨by simp,fun b h=>by obtain rfl:=Option.some.inj h;first|rfl|exact blk_any _ _⟩)
theorem rightR_2 {B:Nat} (t q:Int) (L:List Cl) (k:Nat) (hL:L.length≤8) (h_1:(↑k:Int) < (↑(List.length L):Int)) (h_2:¬ ((!fineB (List.getD L k Cl0))=true)) (h_3:(↑k:Int) > 0) (h_4:(!Op.bytesLess (Array.toList (ByteArray.data (Cl.col (List.getD L (k - 1) Cl0)))) (Array.toList (ByteArray.data (Cl.col (List.getD L k Cl0)))))=true):CodeDoes Try.prog B (Lf (Lf (Rt (Lf (Rt (Rt (Try.f34.body.getD .skip))))))) ⟨⟨57,[(1,.s (.ptr 0 0)),(30,.s (.slv L.length none 4 (flat Cl.cv L))),(31,.s (sI (L.length:Int))),(32,.s (sI (k:Int)))]⟩,[(0,some ⟨[sI t,sI q,.slv L.length none 4 (flat Cl.cv L)],true⟩)],1⟩ Ex.ret ⟨⟨57,[(2,AV.s (SV.bool false))]⟩,[(0,some (Blk.mk [sI t,sI q,SV.slv (List.length L) none 4 (flat Cl.cv L)] true))],2⟩ :=
 goA_ok mix (tape:=[(0,aT),(2,Ans.val (AV.s (SV.ptv (Cl.cv (List.getD L k Cl0))))),(8,Ans.call [] (AV.s (SV.bool (fineB (List.getD L k Cl0)))) [] 2),(9,aF),(12,aT),(17,Ans.val (AV.s (sI ((↑k:Int) - 1)))),(18,Ans.val (AV.s (SV.ptv (Cl.cv (List.getD L (k - 1) Cl0))))),(23,aT)]) (dl:=[2]) (nl:=[0]) (C:=[(IsT (!Op.bytesLess (tl_ (ByteArray.data (Cl.col (List.getD L (k - 1) Cl0)))) (tl_ (ByteArray.data (Cl.col (List.getD L k Cl0)))))),((evIndexAddr Try.prog 23 (AV.s (vL Cl.cv 4 L)) (AV.s (sI ((↑k:Int) - 1))))=some (AV.s (SV.ptv (Cl.cv (List.getD L (k - 1) Cl0))))),(some (AV.s (sI (wI ((↑k:Int) - 1))))=some (AV.s (sI ((↑k:Int) - 1)))),(IsT (decide ((↑k:Int) > 0))),(IsF (!fineB (List.getD L k Cl0))),(CD B 58 [AV.agg [SV.str (Cl.col (List.getD L k Cl0)),sI (Cl.kind (List.getD L k Cl0)),sI (Cl.n (List.getD L k Cl0)),SV.str (Cl.s (List.getD L k Cl0))]] [] 2 (AV.s (SV.bool (fineB (List.getD L k Cl0)))) ([]++[]) 2),((evIndexAddr Try.prog 23 (AV.s (vL Cl.cv 4 L)) (AV.s (sI (↑k:Int))))=some (AV.s (SV.ptv (Cl.cv (List.getD L k Cl0))))),(IsT (decide ((↑k:Int) < (↑(List.length L):Int))))]) (by kernel_rfl) ⟨claim_b (by assumption),by (apply ixpCl<;>first|rfl|omega),claim_i (by exact wrap_i64 (by omega) (by omega)),cTa,claim_b (Bool.eq_false_iff.2 (by assumption)),by (apply fine_call),by (apply ixCl<;>first|rfl|omega),claim_b (by exact decide_eq_true (by first|assumption|omega)),trivial⟩
theorem rightR_2p {B:Nat} (t q:Int) (L:List Cl) (k:Nat) (hL:L.length≤8) (h_1:(↑k:Int) < (↑(List.length L):Int)) (h_2:¬ ((!fineB (List.getD L k Cl0))=true)) (h_3:(↑k:Int) > 0) (h_4:(!Op.bytesLess (Array.toList (ByteArray.data (Cl.col (List.getD L (k - 1) Cl0)))) (Array.toList (ByteArray.data (Cl.col (List.getD L k Cl0)))))=true):CodeDoes Try.prog B (Lf (Lf (Rt (Lf (Rt (Rt (Try.f34.body.getD .skip))))))) ⟨⟨57,[(1,.s (.ptr 0 0)),(30,.s (.slv L.length none 4 (flat Cl.cv L))),(31,.s (sI (L.length:Int))),(32,.s (sI (k:Int)))]⟩,[(0,some ⟨[sI t,sI q,.slv L.length none 4 (flat Cl.cv L)],true⟩)],1⟩ Ex.ret ⟨⟨57,[(2,AV.s (SV.bool false))]⟩,[(0,some (Blk.mk [sI t,sI q,SV.slv (List.length L) none 4 (flat Cl.cv L)] true))],1⟩ :=
 CodeDoes.packU (rightR_2 t q L k hL h_1 h_2 h_3 h_4) [0] (by simp) (by simp [avNames,svNames]) (fun x hx=>by simp only [List.mem_cons,List.not_mem_nil,or_false] at hx;rcases hx with rfl<;>exact ⟨by simp,fun b h=>by obtain rfl:=Option.some.inj h;first|rfl|exact blk_any _ _⟩) (by simp [avNames,svNames]) (fun x hx=>by simp only [List.mem_cons,List.not_mem_nil,or_false] at hx;rcases hx with rfl<;>exact ⟨by simp,fun b h=>by obtain rfl:=Option.some.inj h;first|rfl|exact blk_any _ _⟩)
theorem rightR_3 {B:Nat} (t q:Int) (L:List Cl) (k:Nat) (hL:L.length≤8) (h_1:(↑k:Int) < (↑(List.length L):Int)) (h_2:¬ ((!fineB (List.getD L k Cl0))=true)) (h_3:(↑k:Int) > 0) (h_4:¬ ((!Op.bytesLess (Array.toList (ByteArray.data (Cl.col (List.getD L (k - 1) Cl0)))) (Array.toList (ByteArray.data (Cl.col (List.getD L k Cl0)))))=true)):CodeDoes Try.prog B (Lf (Lf (Rt (Lf (Rt (Rt (Try.f34.body.getD .skip))))))) ⟨⟨57,[(1,.s (.ptr 0 0)),(30,.s (.slv L.length none 4 (flat Cl.cv L))),(31,.s (sI (L.length:Int))),(32,.s (sI (k:Int)))]⟩,[(0,some ⟨[sI t,sI q,.slv L.length none 4 (flat Cl.cv L)],true⟩)],1⟩ Ex.normal ⟨⟨57,[(1,AV.s (SV.ptr 0 0)),(30,AV.s (SV.slv (List.length L) none 4 (flat Cl.cv L))),(31,AV.s (sI (↑(List.length L):Int))),(32,AV.s (sI ((↑k:Int)+1)))]⟩,[(0,some (Blk.mk [sI t,sI q,SV.slv (List.length L) none 4 (flat Cl.cv L)] true))],2⟩ :=
 goA_ok mix (tape:=[(0,aT),(2,Ans.val (AV.s (SV.ptv (Cl.cv (List.getD L k Cl0))))),(8,Ans.call [] (AV.s (SV.bool (fineB (List.getD L k Cl0)))) [] 2),(9,aF),(12,aT),(17,Ans.val (AV.s (sI ((↑k:Int) - 1)))),(18,Ans.val (AV.s (SV.ptv (Cl.cv (List.getD L (k - 1) Cl0))))),(23,aF),(26,Ans.val (AV.s (sI ((↑k:Int)+1))))]) (dl:=[1,30,31,32]) (nl:=[0]) (C:=[(some (AV.s (sI (wI ((↑k:Int)+1))))=some (AV.s (sI ((↑k:Int)+1)))),(IsF (!Op.bytesLess (tl_ (ByteArray.data (Cl.col (List.getD L (k - 1) Cl0)))) (tl_ (ByteArray.data (Cl.col (List.getD L k Cl0)))))),((evIndexAddr Try.prog 23 (AV.s (vL Cl.cv 4 L)) (AV.s (sI ((↑k:Int) - 1))))=some (AV.s (SV.ptv (Cl.cv (List.getD L (k - 1) Cl0))))),(some (AV.s (sI (wI ((↑k:Int) - 1))))=some (AV.s (sI ((↑k:Int) - 1)))),(IsT (decide ((↑k:Int) > 0))),(IsF (!fineB (List.getD L k Cl0))),(CD B 58 [AV.agg [SV.str (Cl.col (List.getD L k Cl0)),sI (Cl.kind (List.getD L k Cl0)),sI (Cl.n (List.getD L k Cl0)),SV.str (Cl.s (List.getD L k Cl0))]] [] 2 (AV.s (SV.bool (fineB (List.getD L k Cl0)))) ([]++[]) 2),((evIndexAddr Try.prog 23 (AV.s (vL Cl.cv 4 L)) (AV.s (sI (↑k:Int))))=some (AV.s (SV.ptv (Cl.cv (List.getD L k Cl0))))),(IsT (decide ((↑k:Int) < (↑(List.length L):Int))))]) (by kernel_rfl) ⟨claim_i (by exact wrap_i64 (by omega) (by omega)),claim_b (Bool.eq_false_iff.2 (by assumption)),by (apply ixpCl<;>first|rfl|omega),claim_i (by exact wrap_i64 (by omega) (by omega)),claim_b (by exact decide_eq_true (by first|assumption|omega)),claim_b (Bool.eq_false_iff.2 (by assumption)),by (apply fine_call),by (apply ixCl<;>first|rfl|omega),claim_b (by exact decide_eq_true (by first|assumption|omega)),trivial⟩
theorem rightR_3p {B:Nat} (t q:Int) (L:List Cl) (k:Nat) (hL:L.length≤8) (h_1:(↑k:Int) < (↑(List.length L):Int)) (h_2:¬ ((!fineB (List.getD L k Cl0))=true)) (h_3:(↑k:Int) > 0) (h_4:¬ ((!Op.bytesLess (Array.toList (ByteArray.data (Cl.col (List.getD L (k - 1) Cl0)))) (Array.toList (ByteArray.data (Cl.col (List.getD L k Cl0)))))=true)):CodeDoes Try.prog B (Lf (Lf (Rt (Lf (Rt (Rt (Try.f34.body.getD .skip))))))) ⟨⟨57,[(1,.s (.ptr 0 0)),(30,.s (.slv L.length none 4 (flat Cl.cv L))),(31,.s (sI (L.length:Int))),(32,.s (sI (k:Int)))]⟩,[(0,some ⟨[sI t,sI q,.slv L.length none 4 (flat Cl.cv L)],true⟩)],1⟩ Ex.normal ⟨⟨57,[(1,AV.s (SV.ptr 0 0)),(30,AV.s (SV.slv (List.length L) none 4 (flat Cl.cv L))),(31,AV.s (sI (↑(List.length L):Int))),(32,AV.s (sI ((↑k:Int)+1)))]⟩,[(0,some (Blk.mk [sI t,sI q,SV.slv (List.length L) none 4 (flat Cl.cv L)] true))],1⟩ :=
 CodeDoes.packU (rightR_3 t q L k hL h_1 h_2 h_3 h_4) [0] (by simp) (by simp [avNames,svNames]) (fun x hx=>by simp only [List.mem_cons,List.not_mem_nil,or_false] at hx;rcases hx with rfl<;>exact ⟨by simp,fun b h=>by obtain rfl:=Option.some.inj h;first|rfl|exact blk_any _ _⟩) (by simp [avNames,svNames]) (fun x hx=>by simp only [List.mem_cons,List.not_mem_nil,or_false] at hx;rcases hx with rfl<;>exact ⟨by simp,fun b h=>by obtain rfl:=Option.some.inj h;first|rfl|exact blk_any _ _⟩)
theorem rightR_4 {B:Nat} (t q:Int) (L:List Cl) (k:Nat) (hL:L.length≤8) (h_1:(↑k:Int) < (↑(List.length L):Int)) (h_2:¬ ((!fineB (List.getD L k Cl0))=true)) (h_3:¬ ((↑k:Int) > 0)):CodeDoes Try.prog B (Lf (Lf (Rt (Lf (Rt (Rt (Try.f34.body.getD .skip))))))) ⟨⟨57,[(1,.s (.ptr 0 0)),(30,.s (.slv L.length none 4 (flat Cl.cv L))),(31,.s (sI (L.length:Int))),(32,.s (sI (k:Int)))]⟩,[(0,some ⟨[sI t,sI q,.slv L.length none 4 (flat Cl.cv L)],true⟩)],1⟩ Ex.normal ⟨⟨57,[(1,AV.s (SV.ptr 0 0)),(30,AV.s (SV.slv (List.length L) none 4 (flat Cl.cv L))),(31,AV.s (sI (↑(List.length L):Int))),(32,AV.s (sI ((↑k:Int)+1)))]⟩,[(0,some (Blk.mk [sI t,sI q,SV.slv (List.length L) none 4 (flat Cl.cv L)] true))],2⟩ :=
 goA_ok mix (tape:=[(0,aT),(2,Ans.val (AV.s (SV.ptv (Cl.cv (List.getD L k Cl0))))),(8,Ans.call [] (AV.s (SV.bool (fineB (List.getD L k Cl0)))) [] 2),(9,aF),(12,aF),(16,Ans.val (AV.s (sI ((↑k:Int)+1))))]) (dl:=[1,30,31,32]) (nl:=[0]) (C:=[(some (AV.s (sI (wI ((↑k:Int)+1))))=some (AV.s (sI ((↑k:Int)+1)))),(IsF (decide ((↑k:Int) > 0))),(IsF (!fineB (List.getD L k Cl0))),(CD B 58 [AV.agg [SV.str (Cl.col (List.getD L k Cl0)),sI (Cl.kind (List.getD L k Cl0)),sI (Cl.n (List.getD L k Cl0)),SV.str (Cl.s (List.getD L k Cl0))]] [] 2 (AV.s (SV.bool (fineB (List.getD L k Cl0)))) ([]++[]) 2),((evIndexAddr Try.prog 23 (AV.s (vL Cl.cv 4 L)) (AV.s (sI (↑k:Int))))=some (AV.s (SV.ptv (Cl.cv (List.getD L k Cl0))))),(IsT (decide ((↑k:Int) < (↑(List.length L):Int))))]) (by kernel_rfl) ⟨claim_i (by exact wrap_i64 (by omega) (by omega)),cFa,claim_b (Bool.eq_false_iff.2 (by assumption)),by (apply fine_call),by (apply ixCl<;>first|rfl|omega),claim_b (by exact decide_eq_true (by first|assumption|omega)),trivial⟩
theorem rightR_4p {B:Nat} (t q:Int) (L:List Cl) (k:Nat) (hL:L.length≤8) (h_1:(↑k:Int) < (↑(List.length L):Int)) (h_2:¬ ((!fineB (List.getD L k Cl0))=true)) (h_3:¬ ((↑k:Int) > 0)):CodeDoes Try.prog B (Lf (Lf (Rt (Lf (Rt (Rt (Try.f34.body.getD .skip))))))) ⟨⟨57,[(1,.s (.ptr 0 0)),(30,.s (.slv L.length none 4 (flat Cl.cv L))),(31,.s (sI (L.length:Int))),(32,.s (sI (k:Int)))]⟩,[(0,some ⟨[sI t,sI q,.slv L.length none 4 (flat Cl.cv L)],true⟩)],1⟩ Ex.normal ⟨⟨57,[(1,AV.s (SV.ptr 0 0)),(30,AV.s (SV.slv (List.length L) none 4 (flat Cl.cv L))),(31,AV.s (sI (↑(List.length L):Int))),(32,AV.s (sI ((↑k:Int)+1)))]⟩,[(0,some (Blk.mk [sI t,sI q,SV.slv (List.length L) none 4 (flat Cl.cv L)] true))],1⟩ :=
 CodeDoes.packU (rightR_4 t q L k hL h_1 h_2 h_3) [0] (by simp) (by simp [avNames,svNames]) (fun x hx=>by simp only [List.mem_cons,List.not_mem_nil,or_false] at hx;rcases hx with rfl<;>exact ⟨by simp,fun b h=>by obtain rfl:=Option.some.inj h;first|rfl|exact blk_any _ _⟩) (by simp [avNames,svNames]) (fun x hx=>by simp only [List.mem_cons,List.not_mem_nil,or_false] at hx;rcases hx with rfl<;>exact ⟨by simp,fun b h=>by obtain rfl:=Option.some.inj h;first|rfl|exact blk_any _ _⟩)
theorem rightR_5 {B:Nat} (t q:Int) (L:List Cl) (k:Nat) (hL:L.length≤8) (h_1:¬ ((↑k:Int) < (↑(List.length L):Int))):CodeDoes Try.prog B (Lf (Lf (Rt (Lf (Rt (Rt (Try.f34.body.getD .skip))))))) ⟨⟨57,[(1,.s (.ptr 0 0)),(30,.s (.slv L.length none 4 (flat Cl.cv L))),(31,.s (sI (L.length:Int))),(32,.s (sI (k:Int)))]⟩,[(0,some ⟨[sI t,sI q,.slv L.length none 4 (flat Cl.cv L)],true⟩)],1⟩ (Ex.exit 0) ⟨⟨57,[(2,AV.any)]⟩,[(0,some (Blk.mk [sI t,sI q,SV.slv (List.length L) none 4 (flat Cl.cv L)] true))],1⟩ :=
 goA_ok mix (tape:=[(0,aF)]) (dl:=[2]) (nl:=[0]) (C:=[(IsF (decide ((↑k:Int) < (↑(List.length L):Int))))]) (by kernel_rfl) ⟨cFa,trivial⟩
theorem rightR_5p {B:Nat} (t q:Int) (L:List Cl) (k:Nat) (hL:L.length≤8) (h_1:¬ ((↑k:Int) < (↑(List.length L):Int))):CodeDoes Try.prog B (Lf (Lf (Rt (Lf (Rt (Rt (Try.f34.body.getD .skip))))))) ⟨⟨57,[(1,.s (.ptr 0 0)),(30,.s (.slv L.length none 4 (flat Cl.cv L))),(31,.s (sI (L.length:Int))),(32,.s (sI (k:Int)))]⟩,[(0,some ⟨[sI t,sI q,.slv L.length none 4 (flat Cl.cv L)],true⟩)],1⟩ (Ex.exit 0) ⟨⟨57,[(2,AV.any)]⟩,[(0,some (Blk.mk [sI t,sI q,SV.slv (List.length L) none 4 (flat Cl.cv L)] true))],1⟩ :=
 CodeDoes.packU (rightR_5 t q L k hL h_1) [0] (by simp) (by simp [avNames,svNames]) (fun x hx=>by simp only [List.mem_cons,List.not_mem_nil,or_false] at hx;rcases hx with rfl<;>exact ⟨by simp,fun b h=>by obtain rfl:=Option.some.inj h;first|rfl|exact blk_any _ _⟩) (by simp [avNames,svNames]) (fun x hx=>by simp only [List.mem_cons,List.not_mem_nil,or_false] at hx;rcases hx with rfl<;>exact ⟨by simp,fun b h=>by obtain rfl:=Option.some.inj h;first|rfl|exact blk_any _ _⟩)
theorem rightR_T {B:Nat} (t q:Int) (L:List Cl) (hL:L.length≤8) (hok:∀ k,k < L.length→(cellOk L k)=true):LoopDoes Try.prog B (Lf (Lf (Rt (Lf (Rt (Rt (Try.f34.body.getD .skip))))))) ⟨⟨57,[(1,.s (.ptr 0 0)),(30,.s (.slv L.length none 4 (flat Cl.cv L))),(31,.s (sI (L.length:Int))),(32,.s (sI ((0:Nat):Int)))]⟩,[(0,some ⟨[sI t,sI q,.slv L.length none 4 (flat Cl.cv L)],true⟩)],1⟩ (Ex.exit 0) ⟨⟨57,[(2,AV.any)]⟩,[(0,some (Blk.mk [sI t,sI q,SV.slv (List.length L) none 4 (flat Cl.cv L)] true))],1⟩:=by
 refine LoopDoes.scanAll (fun k=>⟨⟨57,[(1,.s (.ptr 0 0)),(30,.s (.slv L.length none 4 (flat Cl.cv L))),(31,.s (sI (L.length:Int))),(32,.s (sI (k:Int)))]⟩,[(0,some ⟨[sI t,sI q,.slv L.length none 4 (flat Cl.cv L)],true⟩)],1⟩) (L.length) (by simp) (fun k hk=>?_) ?_
 ·have hq:=hok k hk
  by_cases h_1:(↑k:Int) < (↑(List.length L):Int)
  ·by_cases h_2:(!fineB (List.getD L k Cl0))=true
   ·exfalso;simp only [cellOk,geS] at hq;grind
   ·by_cases h_3:(↑k:Int) > 0
    ·by_cases h_4:(!Op.bytesLess (Array.toList (ByteArray.data (Cl.col (List.getD L (k - 1) Cl0)))) (Array.toList (ByteArray.data (Cl.col (List.getD L k Cl0)))))=true
     ·exfalso;simp only [cellOk,geS] at hq;grind
     ·exact rightR_3p t q L k hL h_1 h_2 h_3 h_4
    ·exact rightR_4p t q L k hL h_1 h_2 h_3
  ·exfalso;simp only [cellOk,geS] at hq;grind
 ·exact rightR_5p t q L (L.length) hL (by omega)
theorem rightR_F {B:Nat} (t q:Int) (L:List Cl) (hL:L.length≤8) (k:Nat) (hk:k < L.length) (hbad:(cellOk L k)=false) (hok:∀ i,i < k→(cellOk L i)=true):LoopDoes Try.prog B (Lf (Lf (Rt (Lf (Rt (Rt (Try.f34.body.getD .skip))))))) ⟨⟨57,[(1,.s (.ptr 0 0)),(30,.s (.slv L.length none 4 (flat Cl.cv L))),(31,.s (sI (L.length:Int))),(32,.s (sI ((0:Nat):Int)))]⟩,[(0,some ⟨[sI t,sI q,.slv L.length none 4 (flat Cl.cv L)],true⟩)],1⟩ Ex.ret ⟨⟨57,[(2,AV.s (SV.bool false))]⟩,[(0,some (Blk.mk [sI t,sI q,SV.slv (List.length L) none 4 (flat Cl.cv L)] true))],1⟩:=by
 refine LoopDoes.scanHit (fun k=>⟨⟨57,[(1,.s (.ptr 0 0)),(30,.s (.slv L.length none 4 (flat Cl.cv L))),(31,.s (sI (L.length:Int))),(32,.s (sI (k:Int)))]⟩,[(0,some ⟨[sI t,sI q,.slv L.length none 4 (flat Cl.cv L)],true⟩)],1⟩) k (by simp) (fun i hi=>?_) ?_
 ·have hq:=hok i hi
  have hk:i < L.length:=by omega
  by_cases h_1:(↑i:Int) < (↑(List.length L):Int)
  ·by_cases h_2:(!fineB (List.getD L i Cl0))=true
   ·exfalso;simp only [cellOk,geS] at hq;grind
   ·by_cases h_3:(↑i:Int) > 0
    ·by_cases h_4:(!Op.bytesLess (Array.toList (ByteArray.data (Cl.col (List.getD L (i - 1) Cl0)))) (Array.toList (ByteArray.data (Cl.col (List.getD L i Cl0)))))=true
     ·exfalso;simp only [cellOk,geS] at hq;grind
     ·exact rightR_3p t q L i hL h_1 h_2 h_3 h_4
    ·exact rightR_4p t q L i hL h_1 h_2 h_3
  ·exfalso;simp only [cellOk,geS] at hq;grind
 ·have hq:=hbad
  by_cases h_1:(↑k:Int) < (↑(List.length L):Int)
  ·by_cases h_2:(!fineB (List.getD L k Cl0))=true
   ·exact rightR_1p t q L k hL h_1 h_2
   ·by_cases h_3:(↑k:Int) > 0
    ·by_cases h_4:(!Op.bytesLess (Array.toList (ByteArray.data (Cl.col (List.getD L (k - 1) Cl0)))) (Array.toList (ByteArray.data (Cl.col (List.getD L k Cl0)))))=true
     ·exact rightR_2p t q L k hL h_1 h_2 h_3 h_4
     ·exfalso;simp only [cellOk,geS] at hq;grind
    ·exfalso;simp only [cellOk,geS] at hq;grind
  ·exfalso;simp only [cellOk,geS] at hq;grind
theorem right_loopT {B:Nat} (t q:Int) (L:List Cl) (hL:L.length≤8) (h:(List.range L.length).all (cellOk L)=true):CodeDoes Try.prog B (Lf (Rt (Lf (Rt (Rt (Try.f34.body.getD .skip)))))) ⟨⟨57,[(1,.s (.ptr 0 0)),(30,.s (.slv L.length none 4 (flat Cl.cv L))),(31,.s (sI (L.length:Int))),(32,.s (sI ((0:Nat):Int)))]⟩,[(0,some ⟨[sI t,sI q,.slv L.length none 4 (flat Cl.cv L)],true⟩)],1⟩ (.exit 0) ⟨⟨57,[(2,.any)]⟩,[(0,some ⟨[sI t,sI q,.slv L.length none 4 (flat Cl.cv L)],true⟩)],1⟩ :=
 CodeDoes.loopAt (by kernel_rfl) (rightR_T t q L hL (fun k hk=>(List.all_eq_true.1 h) k (List.mem_range.2 hk)))
theorem right_loopF {B:Nat} (t q:Int) (L:List Cl) (hL:L.length≤8) (h:¬ ((List.range L.length).all (cellOk L)=true)):CodeDoes Try.prog B (Lf (Rt (Lf (Rt (Rt (Try.f34.body.getD .skip)))))) ⟨⟨57,[(1,.s (.ptr 0 0)),(30,.s (.slv L.length none 4 (flat Cl.cv L))),(31,.s (sI (L.length:Int))),(32,.s (sI ((0:Nat):Int)))]⟩,[(0,some ⟨[sI t,sI q,.slv L.length none 4 (flat Cl.cv L)],true⟩)],1⟩ .ret ⟨⟨57,[(2,.s (.bool false))]⟩,[(0,some ⟨[sI t,sI q,.slv L.length none 4 (flat Cl.cv L)],true⟩)],1⟩:=by
 rcases first_bad (cellOk L) L.length with h3|⟨k,h3,h4,h5⟩
 ·exact absurd (List.all_eq_true.2 fun k hk=>h3 k (List.mem_range.1 hk)) h
 ·exact CodeDoes.loopAt (by kernel_rfl) (rightR_F t q L hL k h3 h4 h5)
theorem right_1 {B:Nat} (t q:Int) (L:List Cl) (hL:L.length≤140737488351232) (hs_1:List.all (List.range (List.length L)) (cellOk L)=true) (h_2:t < -1099511627776):CodeDoes Try.prog B (Try.f34.body.getD .skip) ⟨⟨57,[(0,.agg [sI t,sI q,.slv L.length none 4 (flat Cl.cv L)])]⟩,[],0⟩ Ex.ret ⟨⟨57,[(2,AV.s (SV.bool false))]⟩,[],1⟩ :=
 goA_ok mix (tape:=[(4,aT)]) (dl:=[2]) (nl:=[]) (C:=[(IsT (decide (t < -1099511627776)))]) (by kernel_rfl) ⟨cTa,trivial⟩
theorem right_2 {B:Nat} (t q:Int) (L:List Cl) (hL:L.length≤140737488351232) (hs_1:List.all (List.range (List.length L)) (cellOk L)=true) (h_2:¬ (t < -1099511627776)) (h_3:t > 1099511627776):CodeDoes Try.prog B (Try.f34.body.getD .skip) ⟨⟨57,[(0,.agg [sI t,sI q,.slv L.length none 4 (flat Cl.cv L)])]⟩,[],0⟩ Ex.ret ⟨⟨57,[(2,AV.s (SV.bool false))]⟩,[],1⟩ :=
 goA_ok mix (tape:=[(4,aF),(8,aT)]) (dl:=[2]) (nl:=[]) (C:=[(IsT (decide (t > 1099511627776))),(IsF (decide (t < -1099511627776)))]) (by kernel_rfl) ⟨cTa,cFa,trivial⟩
theorem right_3 {B:Nat} (t q:Int) (L:List Cl) (hL:L.length≤140737488351232) (hs_1:List.all (List.range (List.length L)) (cellOk L)=true) (h_2:¬ (t < -1099511627776)) (h_3:¬ (t > 1099511627776)) (h_4:q < 0):CodeDoes Try.prog B (Try.f34.body.getD .skip) ⟨⟨57,[(0,.agg [sI t,sI q,.slv L.length none 4 (flat Cl.cv L)])]⟩,[],0⟩ Ex.ret ⟨⟨57,[(2,AV.s (SV.bool false))]⟩,[],1⟩ :=
 goA_ok mix (tape:=[(4,aF),(8,aF),(13,aT)]) (dl:=[2]) (nl:=[]) (C:=[(IsT (decide (q < 0))),(IsF (decide (t > 1099511627776))),(IsF (decide (t < -1099511627776)))]) (by kernel_rfl) ⟨cTa,cFa,cFa,trivial⟩
theorem right_4 {B:Nat} (t q:Int) (L:List Cl) (hL:L.length≤140737488351232) (hs_1:List.all (List.range (List.length L)) (cellOk L)=true) (h_2:¬ (t < -1099511627776)) (h_3:¬ (t > 1099511627776)) (h_4:¬ (q < 0)) (h_5:q > 1073741824):CodeDoes Try.prog B (Try.f34.body.getD .skip) ⟨⟨57,[(0,.agg [sI t,sI q,.slv L.length none 4 (flat Cl.cv L)])]⟩,[],0⟩ Ex.ret ⟨⟨57,[(2,AV.s (SV.bool false))]⟩,[],1⟩ :=
 goA_ok mix (tape:=[(4,aF),(8,aF),(13,aF),(18,aT)]) (dl:=[2]) (nl:=[]) (C:=[(IsT (decide (q > 1073741824))),(IsF (decide (q < 0))),(IsF (decide (t > 1099511627776))),(IsF (decide (t < -1099511627776)))]) (by kernel_rfl) ⟨cTa,cFa,cFa,cFa,trivial⟩
theorem right_5 {B:Nat} (t q:Int) (L:List Cl) (hL:L.length≤140737488351232) (hs_1:List.all (List.range (List.length L)) (cellOk L)=true) (h_2:¬ (t < -1099511627776)) (h_3:¬ (t > 1099511627776)) (h_4:¬ (q < 0)) (h_5:¬ (q > 1073741824)) (h_6:(↑(List.length L):Int) > 8):CodeDoes Try.prog B (Try.f34.body.getD .skip) ⟨⟨57,[(0,.agg [sI t,sI q,.slv L.length none 4 (flat Cl.cv L)])]⟩,[],0⟩ Ex.ret ⟨⟨57,[(2,AV.s (SV.bool false))]⟩,[],1⟩ :=
 goA_ok mix (tape:=[(4,aF),(8,aF),(13,aF),(18,aF),(24,aT)]) (dl:=[2]) (nl:=[]) (C:=[(IsT (decide ((↑(List.length L):Int) > 8))),(IsF (decide (q > 1073741824))),(IsF (decide (q < 0))),(IsF (decide (t > 1099511627776))),(IsF (decide (t < -1099511627776)))]) (by kernel_rfl) ⟨cTa,cFa,cFa,cFa,cFa,trivial⟩
theorem right_6 {B:Nat} (t q:Int) (L:List Cl) (hL:L.length≤140737488351232) (hs_1:List.all (List.range (List.length L)) (cellOk L)=true) (h_2:¬ (t < -1099511627776)) (h_3:¬ (t > 1099511627776)) (h_4:¬ (q < 0)) (h_5:¬ (q > 1073741824)) (h_6:¬ ((↑(List.length L):Int) > 8)):CodeDoes Try.prog B (Try.f34.body.getD .skip) ⟨⟨57,[(0,.agg [sI t,sI q,.slv L.length none 4 (flat Cl.cv L)])]⟩,[],0⟩ Ex.ret ⟨⟨57,[(2,AV.s (SV.bool true))]⟩,[],1⟩ :=
 goA_ok mix (tape:=[(4,aF),(8,aF),(13,aF),(18,aF),(24,aF),(30,Ans.loop [1,30,31,32] [0] (Ex.exit 0) (St.mk (Tm.mk 57 [(2,AV.any)]) [(0,sB_ [sI t,sI q,vL Cl.cv 4 L])] 1))]) (dl:=[2]) (nl:=[]) (C:=[(KD B (Lf (Rt (Lf (Rt (Rt (Try.f34.body.getD .skip)))))) (St.mk (Tm.mk 57 [(1,AV.s (SV.ptr 0 0)),(30,AV.s (vL Cl.cv 4 L)),(31,AV.s (sI (↑(List.length L):Int))),(32,AV.s (sI (↑0:Int)))]) [(0,sB_ [sI t,sI q,vL Cl.cv 4 L])] 1) (Ex.exit 0) (St.mk (Tm.mk 57 [(2,AV.any)]) [(0,sB_ [sI t,sI q,vL Cl.cv 4 L])] 1)),(IsF (decide ((↑(List.length L):Int) > 8))),(IsF (decide (q > 1073741824))),(IsF (decide (q < 0))),(IsF (decide (t > 1099511627776))),(IsF (decide (t < -1099511627776)))]) (by kernel_rfl) ⟨by (apply right_loopT<;>first|exact el23|exact el22|exact sz28|exact sz25|exact by28|exact by25|exact zr28|exact zr25|exact ag28|exact ag25|exact un9|assumption|rfl|omega|(unfold maxLen;omega)|decide|(simp;done)|(simp;omega)),cFa,cFa,cFa,cFa,cFa,trivial⟩
theorem right_7 {B:Nat} (t q:Int) (L:List Cl) (hL:L.length≤140737488351232) (hs_1:¬ (List.all (List.range (List.length L)) (cellOk L)=true)) (h_2:t < -1099511627776):CodeDoes Try.prog B (Try.f34.body.getD .skip) ⟨⟨57,[(0,.agg [sI t,sI q,.slv L.length none 4 (flat Cl.cv L)])]⟩,[],0⟩ Ex.ret ⟨⟨57,[(2,AV.s (SV.bool false))]⟩,[],1⟩ :=
 goA_ok mix (tape:=[(4,aT)]) (dl:=[2]) (nl:=[]) (C:=[(IsT (decide (t < -1099511627776)))]) (by kernel_rfl) ⟨cTa,trivial⟩
theorem right_8 {B:Nat} (t q:Int) (L:List Cl) (hL:L.length≤140737488351232) (hs_1:¬ (List.all (List.range (List.length L)) (cellOk L)=true)) (h_2:¬ (t < -1099511627776)) (h_3:t > 1099511627776):CodeDoes Try.prog B (Try.f34.body.getD .skip) ⟨⟨57,[(0,.agg [sI t,sI q,.slv L.length none 4 (flat Cl.cv L)])]⟩,[],0⟩ Ex.ret ⟨⟨57,[(2,AV.s (SV.bool false))]⟩,[],1⟩ :=
 goA_ok mix (tape:=[(4,aF),(8,aT)]) (dl:=[2]) (nl:=[]) (C:=[(IsT (decide (t > 1099511627776))),(IsF (decide (t < -1099511627776)))]) (by kernel_rfl) ⟨cTa,cFa,trivial⟩
theorem right_9 {B:Nat} (t q:Int) (L:List Cl) (hL:L.length≤140737488351232) (hs_1:¬ (List.all (List.range (List.length L)) (cellOk L)=true)) (h_2:¬ (t < -1099511627776)) (h_3:¬ (t > 1099511627776)) (h_4:q < 0):CodeDoes Try.prog B (Try.f34.body.getD .skip) ⟨⟨57,[(0,.agg [sI t,sI q,.slv L.length none 4 (flat Cl.cv L)])]⟩,[],0⟩ Ex.ret ⟨⟨57,[(2,AV.s (SV.bool false))]⟩,[],1⟩ :=
 goA_ok mix (tape:=[(4,aF),(8,aF),(13,aT)]) (dl:=[2]) (nl:=[]) (C:=[(IsT (decide (q < 0))),(IsF (decide (t > 1099511627776))),(IsF (decide (t < -1099511627776)))]) (by kernel_rfl) ⟨cTa,cFa,cFa,trivial⟩
theorem right_10 {B:Nat} (t q:Int) (L:List Cl) (hL:L.length≤140737488351232) (hs_1:¬ (List.all (List.range (List.length L)) (cellOk L)=true)) (h_2:¬ (t < -1099511627776)) (h_3:¬ (t > 1099511627776)) (h_4:¬ (q < 0)) (h_5:q > 1073741824):CodeDoes Try.prog B (Try.f34.body.getD .skip) ⟨⟨57,[(0,.agg [sI t,sI q,.slv L.length none 4 (flat Cl.cv L)])]⟩,[],0⟩ Ex.ret ⟨⟨57,[(2,AV.s (SV.bool false))]⟩,[],1⟩ :=
 goA_ok mix (tape:=[(4,aF),(8,aF),(13,aF),(18,aT)]) (dl:=[2]) (nl:=[]) (C:=[(IsT (decide (q > 1073741824))),(IsF (decide (q < 0))),(IsF (decide (t > 1099511627776))),(IsF (decide (t < -1099511627776)))]) (by kernel_rfl) ⟨cTa,cFa,cFa,cFa,trivial⟩
theorem right_11 {B:Nat} (t q:Int) (L:List Cl) (hL:L.length≤140737488351232) (hs_1:¬ (List.all (List.range (List.length L)) (cellOk L)=true)) (h_2:¬ (t < -1099511627776)) (h_3:¬ (t > 1099511627776)) (h_4:¬ (q < 0)) (h_5:¬ (q > 1073741824)) (h_6:(↑(List.length L):Int) > 8):CodeDoes Try.prog B (Try.f34.body.getD .skip) ⟨⟨57,[(0,.agg [sI t,sI q,.slv L.length none 4 (flat Cl.cv L)])]⟩,[],0⟩ Ex.ret ⟨⟨57,[(2,AV.s (SV.bool false))]⟩,[],1⟩ :=
 goA_ok mix (tape:=[(4,aF),(8,aF),(13,aF),(18,aF),(24,aT)]) (dl:=[2]) (nl:=[]) (C:=[(IsT (decide ((↑(List.length L):Int) > 8))),(IsF (decide (q > 1073741824))),(IsF (decide (q < 0))),(IsF (decide (t > 1099511627776))),(IsF (decide (t < -1099511627776)))]) (by kernel_rfl) ⟨cTa,cFa,cFa,cFa,cFa,trivial⟩
theorem right_12 {B:Nat} (t q:Int) (L:List Cl) (hL:L.length≤140737488351232) (hs_1:¬ (List.all (List.range (List.length L)) (cellOk L)=true)) (h_2:¬ (t < -1099511627776)) (h_3:¬ (t > 1099511627776)) (h_4:¬ (q < 0)) (h_5:¬ (q > 1073741824)) (h_6:¬ ((↑(List.length L):Int) > 8)):CodeDoes Try.prog B (Try.f34.body.getD .skip) ⟨⟨57,[(0,.agg [sI t,sI q,.slv L.length none 4 (flat Cl.cv L)])]⟩,[],0⟩ Ex.ret ⟨⟨57,[(2,AV.s (SV.bool false))]⟩,[],1⟩ :=
 goA_ok mix (tape:=[(4,aF),(8,aF),(13,aF),(18,aF),(24,aF),(30,Ans.loop [1,30,31,32] [0] (Ex.ret) (St.mk (Tm.mk 57 [(2,AV.s (SV.bool false))]) [(0,sB_ [sI t,sI q,vL Cl.cv 4 L])] 1))]) (dl:=[2]) (nl:=[]) (C:=[(KD B (Lf (Rt (Lf (Rt (Rt (Try.f34.body.getD .skip)))))) (St.mk (Tm.mk 57 [(1,AV.s (SV.ptr 0 0)),(30,AV.s (vL Cl.cv 4 L)),(31,AV.s (sI (↑(List.length L):Int))),(32,AV.s (sI (↑0:Int)))]) [(0,sB_ [sI t,sI q,vL Cl.cv 4 L])] 1) (Ex.ret) (St.mk (Tm.mk 57 [(2,AV.s (SV.bool false))]) [(0,sB_ [sI t,sI q,vL Cl.cv 4 L])] 1)),(IsF (decide ((↑(List.length L):Int) > 8))),(IsF (decide (q > 1073741824))),(IsF (decide (q < 0))),(IsF (decide (t > 1099511627776))),(IsF (decide (t < -1099511627776)))]) (by kernel_rfl) ⟨by (apply right_loopF<;>first|exact el23|exact el22|exact sz28|exact sz25|exact by28|exact by25|exact zr28|exact zr25|exact ag28|exact ag25|exact un9|assumption|rfl|omega|(unfold maxLen;omega)|decide|(simp;done)|(simp;omega)),cFa,cFa,cFa,cFa,cFa,trivial⟩
theorem right_does (t q:Int) (L:List Cl) (hL:L.length≤140737488351232):ValDoes Try.prog 34 [.agg [sI t,sI q,.slv L.length none 4 (flat Cl.cv L)]] (.s (.bool (rightB ⟨t,q,L⟩))):=by
 by_cases hs_1:List.all (List.range (List.length L)) (cellOk L)=true
 ·by_cases h_2:t < -1099511627776
  ·exact ValDoes.of_code Try.func34 (by kernel_rfl) (by kernel_rfl) (k:=57) (by kernel_rfl) (fun B=>⟨_,_,.inr rfl,right_1 t q L hL hs_1 h_2,Eq.trans (b:=some (AV.s (SV.bool false))) (by kernel_rfl) (congrArg some (show (AV.s (SV.bool false))=(.s (.bool (rightB ⟨t,q,L⟩))) by refine congrArg (fun b=>AV.s (SV.bool b)) ?_;simp only [rightB];grind))⟩) (by kernel_rfl) (List.all_eq_true.1 (by kernel_rfl))
  ·by_cases h_3:t > 1099511627776
   ·exact ValDoes.of_code Try.func34 (by kernel_rfl) (by kernel_rfl) (k:=57) (by kernel_rfl) (fun B=>⟨_,_,.inr rfl,right_2 t q L hL hs_1 h_2 h_3,Eq.trans (b:=some (AV.s (SV.bool false))) (by kernel_rfl) (congrArg some (show (AV.s (SV.bool false))=(.s (.bool (rightB ⟨t,q,L⟩))) by refine congrArg (fun b=>AV.s (SV.bool b)) ?_;simp only [rightB];grind))⟩) (by kernel_rfl) (List.all_eq_true.1 (by kernel_rfl))
   ·by_cases h_4:q < 0
    ·exact ValDoes.of_code Try.func34 (by kernel_rfl) (by kernel_rfl) (k:=57) (by kernel_rfl) (fun B=>⟨_,_,.inr rfl,right_3 t q L hL hs_1 h_2 h_3 h_4,Eq.trans (b:=some (AV.s (SV.bool false))) (by kernel_rfl) (congrArg some (show (AV.s (SV.bool false))=(.s (.bool (rightB ⟨t,q,L⟩))) by refine congrArg (fun b=>AV.s (SV.bool b)) ?_;simp only [rightB];grind))⟩) (by kernel_rfl) (List.all_eq_true.1 (by kernel_rfl))
    ·by_cases h_5:q > 1073741824
     ·exact ValDoes.of_code Try.func34 (by kernel_rfl) (by kernel_rfl) (k:=57) (by kernel_rfl) (fun B=>⟨_,_,.inr rfl,right_4 t q L hL hs_1 h_2 h_3 h_4 h_5,Eq.trans (b:=some (AV.s (SV.bool false))) (by kernel_rfl) (congrArg some (show (AV.s (SV.bool false))=(.s (.bool (rightB ⟨t,q,L⟩))) by refine congrArg (fun b=>AV.s (SV.bool b)) ?_;simp only [rightB];grind))⟩) (by kernel_rfl) (List.all_eq_true.1 (by kernel_rfl))
     ·by_cases h_6:(↑(List.length L):Int) > 8
      ·exact ValDoes.of_code Try.func34 (by kernel_rfl) (by kernel_rfl) (k:=57) (by kernel_rfl) (fun B=>⟨_,_,.inr rfl,right_5 t q L hL hs_1 h_2 h_3 h_4 h_5 h_6,Eq.trans (b:=some (AV.s (SV.bool false))) (by kernel_rfl) (congrArg some (show (AV.s (SV.bool false))=(.s (.bool (rightB ⟨t,q,L⟩))) by refine congrArg (fun b=>AV.s (SV.bool b)) ?_;simp only [rightB];grind))⟩) (by kernel_rfl) (List.all_eq_true.1 (by kernel_rfl))
      ·exact ValDoes.of_code Try.func34 (by kernel_rfl) (by kernel_rfl) (k:=57) (by kernel_rfl) (fun B=>⟨_,_,.inr rfl,right_6 t q L hL hs_1 h_2 h_3 h_4 h_5 h_6,Eq.trans (b:=some (AV.s (SV.bool true))) (by kernel_rfl) (congrArg some (show (AV.s (SV.bool true))=(.s (.bool (rightB ⟨t,q,L⟩))) by refine congrArg (fun b=>AV.s (SV.bool b)) ?_;simp only [rightB];grind))⟩) (by kernel_rfl) (List.all_eq_true.1 (by kernel_rfl))
 ·by_cases h_2:t < -1099511627776
  ·exact ValDoes.of_code Try.func34 (by kernel_rfl) (by kernel_rfl) (k:=57) (by kernel_rfl) (fun B=>⟨_,_,.inr rfl,right_7 t q L hL hs_1 h_2,Eq.trans (b:=some (AV.s (SV.bool false))) (by kernel_rfl) (congrArg some (show (AV.s (SV.bool false))=(.s (.bool (rightB ⟨t,q,L⟩))) by refine congrArg (fun b=>AV.s (SV.bool b)) ?_;simp only [rightB];grind))⟩) (by kernel_rfl) (List.all_eq_true.1 (by kernel_rfl))
  ·by_cases h_3:t > 1099511627776
   ·exact ValDoes.of_code Try.func34 (by kernel_rfl) (by kernel_rfl) (k:=57) (by kernel_rfl) (fun B=>⟨_,_,.inr rfl,right_8 t q L hL hs_1 h_2 h_3,Eq.trans (b:=some (AV.s (SV.bool false))) (by kernel_rfl) (congrArg some (show (AV.s (SV.bool false))=(.s (.bool (rightB ⟨t,q,L⟩))) by refine congrArg (fun b=>AV.s (SV.bool b)) ?_;simp only [rightB];grind))⟩) (by kernel_rfl) (List.all_eq_true.1 (by kernel_rfl))
   ·by_cases h_4:q < 0
    ·exact ValDoes.of_code Try.func34 (by kernel_rfl) (by kernel_rfl) (k:=57) (by kernel_rfl) (fun B=>⟨_,_,.inr rfl,right_9 t q L hL hs_1 h_2 h_3 h_4,Eq.trans (b:=some (AV.s (SV.bool false))) (by kernel_rfl) (congrArg some (show (AV.s (SV.bool false))=(.s (.bool (rightB ⟨t,q,L⟩))) by refine congrArg (fun b=>AV.s (SV.bool b)) ?_;simp only [rightB];grind))⟩) (by kernel_rfl) (List.all_eq_true.1 (by kernel_rfl))
    ·by_cases h_5:q > 1073741824
     ·exact ValDoes.of_code Try.func34 (by kernel_rfl) (by kernel_rfl) (k:=57) (by kernel_rfl) (fun B=>⟨_,_,.inr rfl,right_10 t q L hL hs_1 h_2 h_3 h_4 h_5,Eq.trans (b:=some (AV.s (SV.bool false))) (by kernel_rfl) (congrArg some (show (AV.s (SV.bool false))=(.s (.bool (rightB ⟨t,q,L⟩))) by refine congrArg (fun b=>AV.s (SV.bool b)) ?_;simp only [rightB];grind))⟩) (by kernel_rfl) (List.all_eq_true.1 (by kernel_rfl))
     ·by_cases h_6:(↑(List.length L):Int) > 8
      ·exact ValDoes.of_code Try.func34 (by kernel_rfl) (by kernel_rfl) (k:=57) (by kernel_rfl) (fun B=>⟨_,_,.inr rfl,right_11 t q L hL hs_1 h_2 h_3 h_4 h_5 h_6,Eq.trans (b:=some (AV.s (SV.bool false))) (by kernel_rfl) (congrArg some (show (AV.s (SV.bool false))=(.s (.bool (rightB ⟨t,q,L⟩))) by refine congrArg (fun b=>AV.s (SV.bool b)) ?_;simp only [rightB];grind))⟩) (by kernel_rfl) (List.all_eq_true.1 (by kernel_rfl))
      ·exact ValDoes.of_code Try.func34 (by kernel_rfl) (by kernel_rfl) (k:=57) (by kernel_rfl) (fun B=>⟨_,_,.inr rfl,right_12 t q L hL hs_1 h_2 h_3 h_4 h_5 h_6,Eq.trans (b:=some (AV.s (SV.bool false))) (by kernel_rfl) (congrArg some (show (AV.s (SV.bool false))=(.s (.bool (rightB ⟨t,q,L⟩))) by refine congrArg (fun b=>AV.s (SV.bool b)) ?_;simp only [rightB];grind))⟩) (by kernel_rfl) (List.all_eq_true.1 (by kernel_rfl))
end Go.Proofs.Ytaelliigpclipaa.V
namespace Go.Proofs.Ytaelliigpclipaa.V
open Go Go.RowKit Go.Proofs Go.Proofs.Ytaelliigpclipaa.Eng Go.Proofs.Ytaelliigpclipaa.VPl
set_option maxRecDepth 100000
set_option linter.unusedVariables false
set_option linter.unusedSimpArgs false
theorem zn_get {x:Option Blk} {k n:Nat} {b:Blk} (h:get [(k,x)] n=some b):k=n∧x=some b:=by
 rcases get_cons_some h with h|h
 ·exact h
 ·cases h
theorem call_fresh {B : Nat} {f : FuncId} {fn : Func} {body : Code} {args0 args : List AV} {b r : Blk} {len sz : Nat} {e : Ex} {s' : St} {n c k : Nat} (hf : Try.prog.funcs[f]? = some fn) (hb : fn.body = some body) (hname : (fn.name == "runtime.NumGoroutine") = false) (hk : args0.length + (fn.ntmps - args0.length) = k)
  (h:CodeDoes Try.prog B body ⟨⟨k,enum 0 args0⟩,[(0,some b)],1⟩ e s') (he:e=.normal∨e=.ret) (hr:evResults Try.prog fn s'=some (.s (.sl 1 0 len none sz))) (hs':get s'.m 0=some b) (hs1:get s'.m 1=some r) (hc':1 < s'.c) (hb0:blkN b=[]) (hbr:∀ σ,rnB σ b=b) (hr0:blkN r=[]) (hrr:∀ σ,rnB σ r=r)
  (ha:∀ x∈args0,∀ n∈avNames x,n=0) (har:args0.map (rnX (fun j=>if j=0 then n else c))=args) (hn:n < c):CallDoes Try.prog B f args [(n,some b)] c (.s (.sl c 0 len none sz)) ([(c,some r),(n,some b)]++[(n,some b)]) (c+1):=by
 have two:∀ {n:Nat} {b':Blk},get [(1,some r),(0,some b)] n=some b'→(n=1∧r=b')∨(n=0∧b=b'):=by
  intro n b' h
  rcases get_cons_some h with ⟨rfl,h⟩|h
  ·exact .inl ⟨rfl,Option.some.inj h⟩
  ·obtain ⟨rfl,h⟩:=zn_get h
   exact .inr ⟨rfl,Option.some.inj h⟩
 have h1:=CallDoes.of_code hf hb hname hk h he hr [(1,some r),(0,some b)] (fun n b' h=>by
  rcases two h with ⟨rfl,rfl⟩|⟨rfl,rfl⟩
  ·exact hs1
  ·exact hs') (fun n b' h=>⟨(0,some b),by simp,(zn_get h).1⟩) (fun x hx=>by
  simp only [List.mem_cons,List.not_mem_nil,or_false] at hx
  rcases hx with rfl|rfl
  ·exact .inr ⟨by simp,hc'⟩
  ·exact .inl ⟨_,rfl⟩)
 have h2:=h1.names (D0:=[(1,some r),(0,some b)]) (fun j=>if j=0 then n else c) [0,1] (c:=c) (c':=c+1) ⟨by simp;omega,by simp;omega,by simp;omega,by omega⟩
  (fun x hx n hn=>by obtain rfl:=ha x hx n hn;exact ⟨by simp,by omega⟩) (by simp) (names_get (by simp [hb0])) (by simp [avNames,svNames]) (by simp) (names_get' (by simp [hb0,hr0])) (fun n b' h=>by
   rcases two h with ⟨rfl,rfl⟩|⟨rfl,rfl⟩<;>rfl)
  (fun e he hlt _=>by
   simp only [List.mem_cons,List.not_mem_nil,or_false] at he
   rcases he with rfl|rfl
   ·exact ⟨(1,some r),by simp,rfl⟩
   ·exact ⟨(0,some b),by simp,rfl⟩) (fun x hx hlt=>by
   simp only [List.mem_cons,List.not_mem_nil,or_false] at hx
   rcases hx with rfl|rfl
   ·exact absurd hlt (by simp)
   ·exact ⟨_,rfl⟩)
 rw [har] at h2
 simp only [rnM,List.map_cons,List.map_nil,Option.map_some,hbr,hrr] at h2
 exact h2
theorem call_arg {B : Nat} {f : FuncId} {fn : Func} {body : Code} {args0 args : List AV} {v : AV} {e : Ex} {s' : St} {n c k : Nat} (hf : Try.prog.funcs[f]? = some fn) (hb : fn.body = some body) (hname : (fn.name == "runtime.NumGoroutine") = false) (hk : args0.length + (fn.ntmps - args0.length) = k)
  (h:CodeDoes Try.prog B body ⟨⟨k,enum 0 args0⟩,[],1⟩ e s') (he:e=.normal∨e=.ret) (hr:evResults Try.prog fn s'=some v) (hv:avNames v=[]) (hvr:∀ σ,rnX σ v=v)
  (ha:∀ x∈args0,∀ n∈avNames x,n=0) (har:args0.map (rnX (fun _=>n))=args) (hn:n < c):CallDoes Try.prog B f args [] c v ([]++[]) c:=by
 have h1:=CallDoes.of_code hf hb hname hk h he hr [] (fun n b' h=>by cases h) (fun n b' h=>by cases h) (fun x hx=>by cases hx)
 have h2:=h1.names (D0:=[]) (fun _=>n) [0] (c:=c) (c':=c) ⟨by simp,by simp;omega,by simp,by omega⟩ (fun x hx n hn=>by obtain rfl:=ha x hx n hn;exact ⟨by simp,by omega⟩) (by simp) (fun n b h=>by cases h) (by simp [hv]) (by simp) (fun n b h=>by cases h) (fun n b h=>by cases h) (fun e he=>by cases he) (fun x hx=>by cases hx)
 rw [har,hvr] at h2
 exact h2
theorem callRes' {P:Program} {B:Nat} {f:FuncId} {args:List AV} {x y:AV} {m m':Mem} {c c':Nat} (h:CallDoes P B f args m c x m' c') (hxy:∀ ρ u,VR ρ x u→VR ρ y u):CallDoes P B f args m c y m' c':=by
 obtain ⟨h1,h2,δ,h3,h4,h5⟩:=h
 exact ⟨h1,h2,δ,h3,h4,fun ρ M args' w hA hM hfr hs=>(h5 ρ M args' w hA hM hfr hs).mono fun e w' ⟨v',he,ρ',p1,p2,p3,p4⟩=>⟨v',he,ρ',p1,hxy _ _ p2,p3,p4⟩⟩
theorem vr_nil1 {sz:Nat}:∀ (ρ:Rho) (u:Value),VR ρ (.s .sl0) u→VR ρ (.s (.slv 0 none sz [])) u:=fun ρ u h=>by
 have h:u=.slice none 0 0:=h
 exact .inl ⟨h,rfl,rfl,fun k hk=>(by cases hk)⟩
theorem orNil {P:Program} {B:Nat} {f:FuncId} {v:AV} {sz c:Nat} (h0:CallDoes P B f [.s .sl0] [] c v ([]++[]) c) (h1:CallDoes P B f [.s (.slE 0)] [] c v ([]++[]) c):CallDoes P B f [.s (.slv 0 none sz [])] [] c v ([]++[]) c:=by
 obtain ⟨a1,a2,δ,a3,a4,a5⟩:=h0
 obtain ⟨b1,b2,ε,b3,b4,b5⟩:=h1
 have e1:δ=[]:=by simpa using a3.symm
 have e2:ε=[]:=by simpa using b3.symm
 subst e1 e2
 refine ⟨a1,a2,[],rfl,a4,fun ρ M args' w hA hM hfr hs=>?_⟩
 obtain ⟨l1,l2⟩:=hA
 have hu:∃ u,args'[0]?=some u:=by
  have:0 < args'.size:=by simp at l1;omega
  exact ⟨args'[0],by simp [this]⟩
 obtain ⟨u,hu⟩:=hu
 have hv:FR ρ.fz (.slv 0 none sz []) u:=l2 0 _ u rfl hu
 rcases hv with ⟨e,_,_,_⟩|⟨ad,cp,e,_,_,hcp,_⟩|⟨b,o,cp,e,h2,h3,_⟩
 ·exact a5 ρ M args' w ⟨l1,fun i x y hx hy=>by
   cases i with
   | zero=>obtain rfl:=Option.some.inj hx;rw [hu] at hy;obtain rfl:=Option.some.inj hy;exact e
   | succ i=>simp at hx⟩ hM hfr hs
 ·refine b5 ρ M args' w ⟨l1,fun i x y hx hy=>?_⟩ hM hfr hs
  cases i with
  | zero=>obtain rfl:=Option.some.inj hx;rw [hu] at hy;obtain rfl:=Option.some.inj hy;exact ⟨ad,cp,e,hcp⟩
  | succ i=>simp at hx
 ·refine b5 ρ M args' w ⟨l1,fun i x y hx hy=>?_⟩ hM hfr hs
  cases i with
  | zero=>obtain rfl:=Option.some.inj hx;rw [hu] at hy;obtain rfl:=Option.some.inj hy;exact ⟨_,cp,e,h3⟩
  | succ i=>simp at hx
theorem appOwn {n n2 len k c:Nat} {A X:List Rw} {own2:Bool} (hne:n≠n2) (hl:len=A.length) (hk:k=X.length) (h0:0 < k) (hmax:A.length+X.length≤100000):less 2 (evAppend Try.prog 22 22 (.s (.sl n 0 len none 3)) (.s (.sl n2 0 k none 3)) [(n,some ⟨flat Rw.cv A,true⟩),(n2,some ⟨flat Rw.cv X,own2⟩)] c)=some (.s (.sl c 0 (len+k) none 3),[(c,some ⟨flat Rw.cv (A++X),true⟩),(n,none)],c+1):=by
 subst hl;subst hk
 have hk':¬ X.length=0:=by omega
 have h1:A.length+X.length≤maxLen:=by unfold maxLen;omega
 have h2:(A.length+X.length)*40≤140737488355328:=by omega
 have hsub:sub (flat Rw.cv A) 0 (A.length*3)=some (flat Rw.cv A):=subRw A
 have hsub2:sub (flat Rw.cv X) 0 (X.length*3)=some (flat Rw.cv X):=subRw X
 rw [flat_append]
 simp [evAppend,evAppend1,evSrc,el22,sz25,by25,zr25,hk',hne,Eng.get,hsub,hsub2,Rw_flen,h1,h2,less,newBlk]
theorem appOwn0 {n n2 k c:Nat} {X:List Rw} {own2:Bool} (hne:n≠n2) (hk:k=X.length) (h0:0 < k) (hmax:X.length≤100000):less 2 (evAppend Try.prog 22 22 (.s (.sl n 0 0 none 3)) (.s (.sl n2 0 k none 3)) [(n,some ⟨[],true⟩),(n2,some ⟨flat Rw.cv X,own2⟩)] c)=some (.s (.sl c 0 k none 3),[(c,some ⟨flat Rw.cv X,true⟩),(n,none)],c+1):=by
 have:=appOwn (n:=n) (n2:=n2) (len:=0) (A:=[]) (X:=X) (own2:=own2) (c:=c) hne rfl hk h0 (by simpa using hmax)
 rw [Nat.zero_add] at this
 exact this
attribute [local irreducible] Eng.evAppend Eng.evSlice Eng.less CallDoes Eng.loadG Eng.evIndexAddr Eng.evBin
theorem clE_1 {B:Nat}  :CodeDoes Try.prog B (Try.f49.body.getD .skip) ⟨⟨8,[(0,.s (.slE 0))]⟩,[],1⟩ Ex.ret ⟨⟨8,[(2,AV.s (SV.sl 2 0 0 none 4))]⟩,[(2,some (Blk.mk [] true))],3⟩ :=
 goA_ok mix (tape:=[]) (dl:=[2]) (nl:=[2]) (C:=[]) (by kernel_rfl) trivial
theorem clN_1 {B:Nat}  :CodeDoes Try.prog B (Try.f49.body.getD .skip) ⟨⟨8,[(0,.s .sl0)]⟩,[],0⟩ Ex.ret ⟨⟨8,[(2,AV.s SV.sl0)]⟩,[],0⟩ :=
 goA_ok mix (tape:=[]) (dl:=[2]) (nl:=[]) (C:=[]) (by kernel_rfl) trivial
theorem clRo_1 {B:Nat} (L:List Rw) (h0:0 < L.length) (hL:L.length≤1000) :CodeDoes Try.prog B (Try.f48.body.getD .skip) ⟨⟨8,[(0,.s (.sl 0 0 L.length none 3))]⟩,[(0,some ⟨flat Rw.cv L,true⟩)],1⟩ Ex.ret ⟨⟨8,[(2,AV.s (SV.sl 2 0 (List.length L) none 3))]⟩,[(0,some (Blk.mk (flat Rw.cv L) true)),(2,some (Blk.mk (flat Rw.cv L) true))],3⟩ :=
 goA_ok mix (tape:=[(5,Ans.mem (AV.s (SV.sl 2 0 (List.length L) none 3)) [(2,sB_ (flat Rw.cv L)),(1,none)] 3)]) (dl:=[2]) (nl:=[0,2]) (C:=[((less 2 (evAppend Try.prog 22 22 (AV.s (SV.sl 1 0 0 none 3)) (AV.s (SV.sl 0 0 (List.length L) none 3)) [(1,sB_ []),(0,sB_ (flat Rw.cv L))] 2))=some (AV.s (SV.sl 2 0 (List.length L) none 3),[(2,sB_ (flat Rw.cv L)),(1,none)],3))]) (by kernel_rfl) ⟨by (apply appOwn0<;>first|assumption|rfl|omega),trivial⟩
theorem clN_c {B c:Nat}:CallDoes Try.prog B 49 [.s .sl0] [] c (.s (.slv 0 none 4 [])) ([]++[]) c :=
 callRes' ((ValDoes.of_code Try.func49 (by kernel_rfl) (by kernel_rfl) (k:=8) (by kernel_rfl) (fun B=>⟨_,_,.inr rfl,clN_1,by kernel_rfl⟩) (by kernel_rfl) (List.all_eq_true.1 (by kernel_rfl)):ValDoes Try.prog 49 [.s .sl0] (.s .sl0)) B c) vr_nil1
theorem clE_c {B c:Nat} (hc:0 < c):CallDoes Try.prog B 49 [.s (.slE 0)] [] c (.s (.slv 0 none 4 [])) ([]++[]) c :=
 call_arg (args0:=[.s (.slE 0)]) (n:=0) Try.func49 (by kernel_rfl) (by kernel_rfl) (k:=8) (by kernel_rfl) (clE_1.freeze 2 (l':=[(2,.s (.slv 0 none 4 []))]) (m':=[(2,none)]) rfl (fun v hv=>by cases hv) (.cons (.s (.sl (by rfl))) .nil) (.gone .nil)) (.inr rfl) (by kernel_rfl) rfl (fun _=>rfl) (by simp [avNames,svNames]) rfl hc
theorem clC_any {B c len:Nat} {C:List Cl} (hc:0 < c) (hl:len=C.length) (hC:C.length≤2932031007317):CallDoes Try.prog B 49 [.s (.slv len none 4 (flat Cl.cv C))] [] c (.s (.slv C.length none 4 (flat Cl.cv C))) ([]++[]) c:=by
 subst hl
 cases C with
 | nil=>exact orNil clN_c (clE_c hc)
 | cons x r=>exact clC_c rfl (by simp) hC
theorem clRo_c {B n c len:Nat} {L:List Rw} (hn:n < c) (hl:len=L.length) (h0:0 < L.length) (hL:L.length≤1000):CallDoes Try.prog B 48 [.s (.sl n 0 len none 3)] [(n,some ⟨flat Rw.cv L,true⟩)] c (.s (.sl c 0 len none 3)) ([(c,some ⟨flat Rw.cv L,true⟩),(n,some ⟨flat Rw.cv L,true⟩)]++[(n,some ⟨flat Rw.cv L,true⟩)]) (c+1):=by
 subst hl
 have h:=(clRo_1 (B:=B) L h0 hL).lift (fun k=>if k=0 then 0 else 1) [0,2] (c:=1) (c':=2) ⟨by simp,by simp,by simp,by omega⟩ (by simp [avNames,svNames]) (by simp [Rw_blk]) (by simp [avNames,svNames]) (by simp [Rw_blk])
 exact call_fresh (args0:=[.s (.sl 0 0 L.length none 3)]) Try.func48 (by kernel_rfl) (by kernel_rfl) (k:=8) (by kernel_rfl) h (.inr rfl) (by kernel_rfl) rfl rfl (show 1 < 2 by decide) (Rw_blk _ _) (fun σ=>rnB_nil (Rw_blk _ _)) (Rw_blk _ _) (fun σ=>rnB_nil (Rw_blk _ _)) (by simp [avNames,svNames]) rfl hn
theorem cqS_1 {B:Nat} (L:List Rw) (len i:Nat) (hl:len=L.length) (hL:L.length≤1000) (hi:i < len) (hC:(L.getD i Rw0).cells.length≤2932031007317) :CodeDoes Try.prog B (Lf (Lf (Rt (Lf (Rt (Rt (Try.f28.body.getD .skip))))))) ⟨⟨24,[(3,.s (.sl 0 0 len none 3)),(8,.s (sI (len:Int))),(9,.s (sI (i:Int)))]⟩,[(0,some ⟨flat Rw.cv L,true⟩)],1⟩ Ex.normal ⟨⟨24,[(3,AV.s (SV.sl 0 0 len none 3)),(8,AV.s (sI (↑len:Int))),(9,AV.s (sI ((↑i:Int)+1)))]⟩,[(0,some (Blk.mk (flat Rw.cv (List.set L i (Rw.mk (Rw.time (List.getD L i Rw0)) (Rw.seq (List.getD L i Rw0)) (Rw.cells (List.getD L i Rw0))))) true))],1⟩ :=
 goA_ok mix (tape := [(0, aT), (7, Ans.val (AV.s (SV.ptr 0 (0 + i * 3)))), (9, Ans.val (AV.s (vL Cl.cv 4 (Rw.cells (List.getD L i Rw0))))), (10, Ans.call [] (AV.s (vL Cl.cv 4 (Rw.cells (List.getD L i Rw0)))) [] 1), (11, Ans.val (AV.s (SV.ptr 0 (0 + i * 3)))), (13, Ans.mem (AV.any) [(0, sB_ (flat Rw.cv (List.set L i (Rw.mk (Rw.time (List.getD L i Rw0)) (Rw.seq (List.getD L i Rw0)) (Rw.cells (List.getD L i Rw0))))))] 1), (14, Ans.val (AV.s (sI ((↑i : Int) + 1))))]) (dl := [3, 8, 9]) (nl := [0]) (C := [(some (AV.s (sI (wI ((↑i : Int) + 1)))) = some (AV.s (sI ((↑i : Int) + 1)))), ((storeR (storeG Try.prog 23 (AV.s (SV.ptr 0 (0 + i * 3 + Field.offset #[Field.mk "Time" 2 0 false "" "" 0, Field.mk "Seq" 3 1 false "" "" 8, Field.mk "Cells" 23 2 false "" "" 16][2]))) (AV.s (vL Cl.cv 4 (Rw.cells (List.getD L i Rw0)))) fun (x : Nat) => sB_ (flat Rw.cv L)) 1) = some (AV.any, [(0, sB_ (flat Rw.cv (List.set L i (Rw.mk (Rw.time (List.getD L i Rw0)) (Rw.seq (List.getD L i Rw0)) (Rw.cells (List.getD L i Rw0))))))], 1)), ((evIndexAddr Try.prog 22 (AV.s (SV.sl 0 0 len none 3)) (AV.s (sI (↑i : Int)))) = some (AV.s (SV.ptr 0 (0 + i * 3)))), (CD B 49 [AV.s (vL Cl.cv 4 (Rw.cells (List.getD L i Rw0)))] [] 1 (AV.s (vL Cl.cv 4 (Rw.cells (List.getD L i Rw0)))) ([] ++ []) 1), ((loadG Try.prog 23 (AV.s (SV.ptr 0 (0 + i * 3 + Field.offset #[Field.mk "Time" 2 0 false "" "" 0, Field.mk "Seq" 3 1 false "" "" 8, Field.mk "Cells" 23 2 false "" "" 16][2]))) fun (x : Nat) => sB_ (flat Rw.cv L)) = some (AV.s (vL Cl.cv 4 (Rw.cells (List.getD L i Rw0))))), ((evIndexAddr Try.prog 22 (AV.s (SV.sl 0 0 len none 3)) (AV.s (sI (↑i : Int)))) = some (AV.s (SV.ptr 0 (0 + i * 3)))), (IsT (decide ((↑i : Int) < (↑len : Int))))]) (by kernel_rfl) ⟨claim_i (by exact wrap_i64 (by omega) (by omega)), by (apply stRw_cells <;> first | rfl | omega), by (apply ixsRw <;> first | assumption | rfl), by (apply clC_any <;> first | assumption | rfl | omega), by (apply ldRw_cells <;> first | omega), by (apply ixsRw <;> first | assumption | rfl), cTa, trivial⟩
theorem crS_1 {B:Nat} (L:List Rw) (len i:Nat) (hl:len=L.length) (hL:L.length≤1000) (hi:i < len) (hC:(L.getD i Rw0).cells.length≤2932031007317) :CodeDoes Try.prog B (Lf (Lf (Rt (Lf (Rt (Rt (Try.f28.body.getD .skip))))))) ⟨⟨24,[(3,.s (.sl 1 0 len none 3)),(8,.s (sI (len:Int))),(9,.s (sI (i:Int)))]⟩,[(0,some ⟨flat Rw.cv L,true⟩),(1,some ⟨flat Rw.cv L,true⟩)],2⟩ Ex.normal ⟨⟨24,[(3,AV.s (SV.sl 1 0 len none 3)),(8,AV.s (sI (↑len:Int))),(9,AV.s (sI ((↑i:Int)+1)))]⟩,[(0,some (Blk.mk (flat Rw.cv L) true)),(1,some (Blk.mk (flat Rw.cv (List.set L i (Rw.mk (Rw.time (List.getD L i Rw0)) (Rw.seq (List.getD L i Rw0)) (Rw.cells (List.getD L i Rw0))))) true))],2⟩ :=
 goA_ok mix (tape := [(0, aT), (7, Ans.val (AV.s (SV.ptr 1 (0 + i * 3)))), (9, Ans.val (AV.s (vL Cl.cv 4 (Rw.cells (List.getD L i Rw0))))), (10, Ans.call [] (AV.s (vL Cl.cv 4 (Rw.cells (List.getD L i Rw0)))) [] 2), (11, Ans.val (AV.s (SV.ptr 1 (0 + i * 3)))), (13, Ans.mem (AV.any) [(1, sB_ (flat Rw.cv (List.set L i (Rw.mk (Rw.time (List.getD L i Rw0)) (Rw.seq (List.getD L i Rw0)) (Rw.cells (List.getD L i Rw0))))))] 2), (14, Ans.val (AV.s (sI ((↑i : Int) + 1))))]) (dl := [3, 8, 9]) (nl := [0, 1]) (C := [(some (AV.s (sI (wI ((↑i : Int) + 1)))) = some (AV.s (sI ((↑i : Int) + 1)))), ((storeR (storeG Try.prog 23 (AV.s (SV.ptr 1 (0 + i * 3 + Field.offset #[Field.mk "Time" 2 0 false "" "" 0, Field.mk "Seq" 3 1 false "" "" 8, Field.mk "Cells" 23 2 false "" "" 16][2]))) (AV.s (vL Cl.cv 4 (Rw.cells (List.getD L i Rw0)))) fun (x : Nat) => sB_ (flat Rw.cv L)) 2) = some (AV.any, [(1, sB_ (flat Rw.cv (List.set L i (Rw.mk (Rw.time (List.getD L i Rw0)) (Rw.seq (List.getD L i Rw0)) (Rw.cells (List.getD L i Rw0))))))], 2)), ((evIndexAddr Try.prog 22 (AV.s (SV.sl 1 0 len none 3)) (AV.s (sI (↑i : Int)))) = some (AV.s (SV.ptr 1 (0 + i * 3)))), (CD B 49 [AV.s (vL Cl.cv 4 (Rw.cells (List.getD L i Rw0)))] [] 2 (AV.s (vL Cl.cv 4 (Rw.cells (List.getD L i Rw0)))) ([] ++ []) 2), ((loadG Try.prog 23 (AV.s (SV.ptr 1 (0 + i * 3 + Field.offset #[Field.mk "Time" 2 0 false "" "" 0, Field.mk "Seq" 3 1 false "" "" 8, Field.mk "Cells" 23 2 false "" "" 16][2]))) fun (x : Nat) => sB_ (flat Rw.cv L)) = some (AV.s (vL Cl.cv 4 (Rw.cells (List.getD L i Rw0))))), ((evIndexAddr Try.prog 22 (AV.s (SV.sl 1 0 len none 3)) (AV.s (sI (↑i : Int)))) = some (AV.s (SV.ptr 1 (0 + i * 3)))), (IsT (decide ((↑i : Int) < (↑len : Int))))]) (by kernel_rfl) ⟨claim_i (by exact wrap_i64 (by omega) (by omega)), by (apply stRw_cells <;> first | rfl | omega), by (apply ixsRw <;> first | assumption | rfl), by (apply clC_any <;> first | assumption | rfl | omega), by (apply ldRw_cells <;> first | omega), by (apply ixsRw <;> first | assumption | rfl), cTa, trivial⟩
theorem crE_1 {B:Nat} (L:List Rw) (len i:Nat) (hi:¬ i < len) :CodeDoes Try.prog B (Lf (Lf (Rt (Lf (Rt (Rt (Try.f28.body.getD .skip))))))) ⟨⟨24,[(3,.s (.sl 1 0 len none 3)),(8,.s (sI (len:Int))),(9,.s (sI (i:Int)))]⟩,[(0,some ⟨flat Rw.cv L,true⟩),(1,some ⟨flat Rw.cv L,true⟩)],2⟩ (Ex.exit 0) ⟨⟨24,[(3,AV.s (SV.sl 1 0 len none 3)),(8,AV.s (sI (↑len:Int))),(9,AV.s (sI (↑i:Int)))]⟩,[(0,some (Blk.mk (flat Rw.cv L) true)),(1,some (Blk.mk (flat Rw.cv L) true))],2⟩ :=
 goA_ok mix (tape:=[(0,aF)]) (dl:=[3,8,9]) (nl:=[0,1]) (C:=[(IsF (decide ((↑i:Int) < (↑len:Int))))]) (by kernel_rfl) ⟨cFa,trivial⟩
def Room2 (L:List Rw):Prop:=∀ x∈L,x.cells.length≤2932031007317
theorem cq_loop {B:Nat} {L:List Rw} {len:Nat} (hl:len=L.length) (hL:L.length≤1000) (hr:Room2 L):CodeDoes Try.prog B (Lf (Rt (Lf (Rt (Rt (Try.f28.body.getD .skip)))))) ⟨⟨24,[(3,.s (.sl 0 0 len none 3)),(8,.s (sI (len:Int))),(9,.s (sI ((0:Nat):Int)))]⟩,[(0,some ⟨flat Rw.cv L,true⟩)],1⟩ (.exit 0) ⟨⟨24,[(3,.s (.sl 0 0 len none 3)),(8,.s (sI (len:Int))),(9,.s (sI (len:Int)))]⟩,[(0,some ⟨flat Rw.cv L,true⟩)],1⟩:=by
 refine CodeDoes.loopAt (by kernel_rfl) (LoopDoes.scanAll (fun i=>⟨⟨24,[(3,.s (.sl 0 0 len none 3)),(8,.s (sI (len:Int))),(9,.s (sI (i:Int)))]⟩,[(0,some ⟨flat Rw.cv L,true⟩)],1⟩) len (by simp) (fun i hi=>?_) (cpE_1 L len len (by omega)))
 have hm:L.getD i Rw0∈L:=by simp [show i < L.length by omega]
 have h:=cqS_1 (B:=B) L len i hl hL hi (hr _ hm)
 rw [set_same (by omega)] at h
 exact h
theorem cr_loop {B:Nat} {L:List Rw} {len:Nat} (hl:len=L.length) (hL:L.length≤1000) (hr:Room2 L):CodeDoes Try.prog B (Lf (Rt (Lf (Rt (Rt (Try.f28.body.getD .skip)))))) ⟨⟨24,[(3,.s (.sl 1 0 len none 3)),(8,.s (sI (len:Int))),(9,.s (sI ((0:Nat):Int)))]⟩,[(0,some ⟨flat Rw.cv L,true⟩),(1,some ⟨flat Rw.cv L,true⟩)],2⟩ (.exit 0) ⟨⟨24,[(3,.s (.sl 1 0 len none 3)),(8,.s (sI (len:Int))),(9,.s (sI (len:Int)))]⟩,[(0,some ⟨flat Rw.cv L,true⟩),(1,some ⟨flat Rw.cv L,true⟩)],2⟩:=by
 refine CodeDoes.loopAt (by kernel_rfl) (LoopDoes.scanAll (fun i=>⟨⟨24,[(3,.s (.sl 1 0 len none 3)),(8,.s (sI (len:Int))),(9,.s (sI (i:Int)))]⟩,[(0,some ⟨flat Rw.cv L,true⟩),(1,some ⟨flat Rw.cv L,true⟩)],2⟩) len (by simp) (fun i hi=>?_) (crE_1 L len len (by omega)))
 have hm:L.getD i Rw0∈L:=by simp [show i < L.length by omega]
 have h:=crS_1 (B:=B) L len i hl hL hi (hr _ hm)
 rw [set_same (by omega)] at h
 exact h
theorem cqA_1 {B:Nat} (L:List Rw) (h0:0 < L.length) (hL:L.length≤1000) (hr:Room2 L) :CodeDoes Try.prog B (Try.f28.body.getD .skip) ⟨⟨24,[(0,.s (.slv L.length none 3 (flat Rw.cv L)))]⟩,[],0⟩ Ex.ret ⟨⟨24,[(2,AV.s (SV.sl 0 0 (List.length L) none 3))]⟩,[(0,some (Blk.mk (flat Rw.cv L) true))],1⟩ :=
 goA_ok mix (tape:=[(2,Ans.call [] (AV.s (SV.sl 0 0 (List.length L) none 3)) [(0,sB_ (flat Rw.cv L))] 1),(7,Ans.loop [3,8,9] [0] (Ex.exit 0) (St.mk (Tm.mk 24 [(3,AV.s (SV.sl 0 0 (List.length L) none 3)),(8,AV.s (sI (↑(List.length L):Int))),(9,AV.s (sI (↑(List.length L):Int)))]) [(0,sB_ (flat Rw.cv L))] 1))]) (dl:=[2]) (nl:=[0]) (C:=[(KD B (Lf (Rt (Lf (Rt (Rt (Try.f28.body.getD .skip)))))) (St.mk (Tm.mk 24 [(3,AV.s (SV.sl 0 0 (List.length L) none 3)),(8,AV.s (sI (↑(List.length L):Int))),(9,AV.s (sI (↑0:Int)))]) [(0,sB_ (flat Rw.cv L))] 1) (Ex.exit 0) (St.mk (Tm.mk 24 [(3,AV.s (SV.sl 0 0 (List.length L) none 3)),(8,AV.s (sI (↑(List.length L):Int))),(9,AV.s (sI (↑(List.length L):Int)))]) [(0,sB_ (flat Rw.cv L))] 1)),(CD B 48 [AV.s (vL Rw.cv 3 L)] [] 0 (AV.s (SV.sl 0 0 (List.length L) none 3)) ([(0,sB_ (flat Rw.cv L))]++[]) 1)]) (by kernel_rfl) ⟨by (apply cq_loop<;>first|exact hr|exact el23|exact el22|exact sz28|exact sz25|exact by28|exact by25|exact zr28|exact zr25|exact ag28|exact ag25|exact un9|assumption|rfl|omega|(unfold maxLen;omega)|decide|(simp;done)|(simp;omega)),by (apply clR_c<;>first|assumption|rfl),trivial⟩
theorem crA_1 {B:Nat} (L:List Rw) (h0:0 < L.length) (hL:L.length≤1000) (hr:Room2 L) :CodeDoes Try.prog B (Try.f28.body.getD .skip) ⟨⟨24,[(0,.s (.sl 0 0 L.length none 3))]⟩,[(0,some ⟨flat Rw.cv L,true⟩)],1⟩ Ex.ret ⟨⟨24,[(2,AV.s (SV.sl 1 0 (List.length L) none 3))]⟩,[(0,some (Blk.mk (flat Rw.cv L) true)),(1,some (Blk.mk (flat Rw.cv L) true))],2⟩ :=
 goA_ok mix (tape:=[(2,Ans.call [0] (AV.s (SV.sl 1 0 (List.length L) none 3)) [(1,sB_ (flat Rw.cv L)),(0,sB_ (flat Rw.cv L))] 2),(7,Ans.loop [3,8,9] [0,1] (Ex.exit 0) (St.mk (Tm.mk 24 [(3,AV.s (SV.sl 1 0 (List.length L) none 3)),(8,AV.s (sI (↑(List.length L):Int))),(9,AV.s (sI (↑(List.length L):Int)))]) [(0,sB_ (flat Rw.cv L)),(1,sB_ (flat Rw.cv L))] 2))]) (dl:=[2]) (nl:=[0,1]) (C:=[(KD B (Lf (Rt (Lf (Rt (Rt (Try.f28.body.getD .skip)))))) (St.mk (Tm.mk 24 [(3,AV.s (SV.sl 1 0 (List.length L) none 3)),(8,AV.s (sI (↑(List.length L):Int))),(9,AV.s (sI (↑0:Int)))]) [(0,sB_ (flat Rw.cv L)),(1,sB_ (flat Rw.cv L))] 2) (Ex.exit 0) (St.mk (Tm.mk 24 [(3,AV.s (SV.sl 1 0 (List.length L) none 3)),(8,AV.s (sI (↑(List.length L):Int))),(9,AV.s (sI (↑(List.length L):Int)))]) [(0,sB_ (flat Rw.cv L)),(1,sB_ (flat Rw.cv L))] 2)),(CD B 48 [AV.s (SV.sl 0 0 (List.length L) none 3)] [(0,sB_ (flat Rw.cv L))] 1 (AV.s (SV.sl 1 0 (List.length L) none 3)) ([(1,sB_ (flat Rw.cv L)),(0,sB_ (flat Rw.cv L))]++[(0,sB_ (flat Rw.cv L))]) 2)]) (by kernel_rfl) ⟨by (apply cr_loop<;>first|exact hr|exact el23|exact el22|exact sz28|exact sz25|exact by28|exact by25|exact zr28|exact zr25|exact ag28|exact ag25|exact un9|assumption|rfl|omega|(unfold maxLen;omega)|decide|(simp;done)|(simp;omega)),by (apply clRo_c<;>first|assumption|rfl|omega),trivial⟩
end Go.Proofs.Ytaelliigpclipaa.V
namespace Go.Proofs.Ytaelliigpclipaa.V
open Go Go.RowKit Go.Proofs Go.Proofs.Ytaelliigpclipaa.Eng Go.Proofs.Ytaelliigpclipaa.VPl
set_option maxRecDepth 100000
set_option linter.unusedVariables false
set_option linter.unusedSimpArgs false
theorem v1_c {B c f:Nat} {x0 y:AV} (h:ValDoes Try.prog f [x0] y):CallDoes Try.prog B f [x0] [] c y ([]++[]) c:=h B c
theorem v2_c {B c f:Nat} {x0 x1 y:AV} (h:ValDoes Try.prog f [x0,x1] y):CallDoes Try.prog B f [x0,x1] [] c y ([]++[]) c:=h B c
theorem getD_mem {α:Type} {L:List α} {k:Nat} {d:α} (h:k < L.length):L.getD k d∈L:=by simp [h]
theorem right_cv (x:Rw) (h:x.cells.length≤140737488351232):ValDoes Try.prog 34 [.agg x.cv] (.s (.bool (rightB x))):=right_does x.time x.seq x.cells h
abbrev ltB (x y:Rw):Bool:=decide (cmpRw x.time x.seq y.time y.seq < 0)
def risesB (L:List Rw):Bool:=(List.range (L.length - 1)).all (fun k=>ltB (L.getD k Rw0) (L.getD (k+1) Rw0))
theorem less_cv (x y:Rw):ValDoes Try.prog 12 [.agg x.cv,.agg y.cv] (.s (.bool (ltB x y))):=lessR_does x.time x.seq y.time y.seq x.cells y.cells
theorem ixRwp {kd:IntKind} {k len:Nat} {cap:Option Nat} {L:List Rw} {q:Int} (hq:q=((k+1:Nat):Int) - 1) (h1:k < L.length) (hl:len=L.length):evIndexAddr Try.prog 22 (.s (.slv len cap 3 (flat Rw.cv L))) (.s (.int kd q))=some (.s (.ptv (L.getD k Rw0).cv)):=ixRw (by omega) h1 hl
attribute [local irreducible] Eng.evAppend Eng.evSlice Eng.less CallDoes Eng.loadG Eng.evIndexAddr Eng.evBin
attribute [local irreducible] ValDoes
theorem a1_1 {B:Nat} (x:Rw) (b:Bool) (hb:ValDoes Try.prog 34 [.agg x.cv] (.s (.bool b))) :CodeDoes Try.prog B (Try.f37.body.getD .skip) ⟨⟨6,[(0,.agg x.cv)]⟩,[],0⟩ Ex.ret ⟨⟨6,[(2,AV.s (SV.bool !b))]⟩,[],1⟩ :=
 goA_ok mix (tape:=[(3,aC (AV.s (SV.bool b)) 1)]) (dl:=[2]) (nl:=[]) (C:=[(CD B 34 [AV.agg [sI (Rw.time x),sI (Rw.seq x),vL Cl.cv 4 (Rw.cells x)]] [] 1 (AV.s (SV.bool b)) ([]++[]) 1)]) (by kernel_rfl) ⟨by (apply v1_c<;>first|exact hb),trivial⟩
theorem rsG_1 {B:Nat} (L:List Rw) (k:Nat) (hL:L.length≤100000) (hk:k+1 < L.length) (hl:ValDoes Try.prog 12 [.agg (L.getD k Rw0).cv,.agg (L.getD (k+1) Rw0).cv] (.s (.bool true))) :CodeDoes Try.prog B (Lf (Lf (Rt (Lf (Rt (Try.f39.body.getD .skip)))))) ⟨⟨21,[(0,.s (.slv L.length none 3 (flat Rw.cv L))),(3,.s (sI (((k+1:Nat):Int))))]⟩,[],0⟩ Ex.normal ⟨⟨21,[(0,AV.s (SV.slv (List.length L) none 3 (flat Rw.cv L))),(3,AV.s (sI ((↑(k+1):Int)+1)))]⟩,[],0⟩ :=
 goA_ok mix (tape:=[(3,aT),(6,Ans.val (AV.s (sI ((↑(k+1):Int) - 1)))),(7,Ans.val (AV.s (SV.ptv (Rw.cv (List.getD L k Rw0))))),(11,Ans.val (AV.s (SV.ptv (Rw.cv (List.getD L (k+1) Rw0))))),(13,aC (AV.s (SV.bool true)) 0),(16,Ans.val (AV.s (sI ((↑(k+1):Int)+1))))]) (dl:=[0,3]) (nl:=[]) (C:=[(some (AV.s (sI (wI ((↑(k+1):Int)+1))))=some (AV.s (sI ((↑(k+1):Int)+1)))),(CD B 12 [AV.agg [sI (Rw.time (List.getD L k Rw0)),sI (Rw.seq (List.getD L k Rw0)),vL Cl.cv 4 (Rw.cells (List.getD L k Rw0))],AV.agg [sI (Rw.time (List.getD L (k+1) Rw0)),sI (Rw.seq (List.getD L (k+1) Rw0)),vL Cl.cv 4 (Rw.cells (List.getD L (k+1) Rw0))]] [] 0 (AV.s (SV.bool true)) ([]++[]) 0),((evIndexAddr Try.prog 22 (AV.s (vL Rw.cv 3 L)) (AV.s (sI (↑(k+1):Int))))=some (AV.s (SV.ptv (Rw.cv (List.getD L (k+1) Rw0))))),((evIndexAddr Try.prog 22 (AV.s (vL Rw.cv 3 L)) (AV.s (sI ((↑(k+1):Int) - 1))))=some (AV.s (SV.ptv (Rw.cv (List.getD L k Rw0))))),(some (AV.s (sI (wI ((↑(k+1):Int) - 1))))=some (AV.s (sI ((↑(k+1):Int) - 1)))),(IsT (decide ((↑(k+1):Int) < (↑(List.length L):Int))))]) (by kernel_rfl) ⟨claim_i (by exact wrap_i64 (by omega) (by omega)),by (apply v2_c<;>first|exact hl),by (apply ixRw<;>first|assumption|rfl),by (apply ixRwp<;>first|rfl|omega),claim_i (by exact wrap_i64 (by omega) (by omega)),cTa,trivial⟩
theorem rsH_1 {B:Nat} (L:List Rw) (k:Nat) (hL:L.length≤100000) (hk:k+1 < L.length) (hl:ValDoes Try.prog 12 [.agg (L.getD k Rw0).cv,.agg (L.getD (k+1) Rw0).cv] (.s (.bool false))) :CodeDoes Try.prog B (Lf (Lf (Rt (Lf (Rt (Try.f39.body.getD .skip)))))) ⟨⟨21,[(0,.s (.slv L.length none 3 (flat Rw.cv L))),(3,.s (sI (((k+1:Nat):Int))))]⟩,[],0⟩ Ex.ret ⟨⟨21,[(2,AV.s (SV.bool false))]⟩,[],0⟩ :=
 goA_ok mix (tape:=[(3,aT),(6,Ans.val (AV.s (sI ((↑(k+1):Int) - 1)))),(7,Ans.val (AV.s (SV.ptv (Rw.cv (List.getD L k Rw0))))),(11,Ans.val (AV.s (SV.ptv (Rw.cv (List.getD L (k+1) Rw0))))),(13,aC (AV.s (SV.bool false)) 0)]) (dl:=[2]) (nl:=[]) (C:=[(CD B 12 [AV.agg [sI (Rw.time (List.getD L k Rw0)),sI (Rw.seq (List.getD L k Rw0)),vL Cl.cv 4 (Rw.cells (List.getD L k Rw0))],AV.agg [sI (Rw.time (List.getD L (k+1) Rw0)),sI (Rw.seq (List.getD L (k+1) Rw0)),vL Cl.cv 4 (Rw.cells (List.getD L (k+1) Rw0))]] [] 0 (AV.s (SV.bool false)) ([]++[]) 0),((evIndexAddr Try.prog 22 (AV.s (vL Rw.cv 3 L)) (AV.s (sI (↑(k+1):Int))))=some (AV.s (SV.ptv (Rw.cv (List.getD L (k+1) Rw0))))),((evIndexAddr Try.prog 22 (AV.s (vL Rw.cv 3 L)) (AV.s (sI ((↑(k+1):Int) - 1))))=some (AV.s (SV.ptv (Rw.cv (List.getD L k Rw0))))),(some (AV.s (sI (wI ((↑(k+1):Int) - 1))))=some (AV.s (sI ((↑(k+1):Int) - 1)))),(IsT (decide ((↑(k+1):Int) < (↑(List.length L):Int))))]) (by kernel_rfl) ⟨by (apply v2_c<;>first|exact hl),by (apply ixRw<;>first|assumption|rfl),by (apply ixRwp<;>first|rfl|omega),claim_i (by exact wrap_i64 (by omega) (by omega)),cTa,trivial⟩
theorem rsE_1 {B:Nat} (L:List Rw) (k:Nat) (hk:¬ k+1 < L.length) :CodeDoes Try.prog B (Lf (Lf (Rt (Lf (Rt (Try.f39.body.getD .skip)))))) ⟨⟨21,[(0,.s (.slv L.length none 3 (flat Rw.cv L))),(3,.s (sI (((k+1:Nat):Int))))]⟩,[],0⟩ (Ex.exit 0) ⟨⟨21,[(0,AV.s (SV.slv (List.length L) none 3 (flat Rw.cv L)))]⟩,[],0⟩ :=
 goA_ok mix (tape:=[(3,aF)]) (dl:=[0]) (nl:=[]) (C:=[(IsF (decide ((↑(k+1):Int) < (↑(List.length L):Int))))]) (by kernel_rfl) ⟨cFa,trivial⟩
theorem a1_does (x:Rw) (h:x.cells.length≤140737488351232):ValDoes Try.prog 37 [.agg x.cv] (.s (.bool (!rightB x))):=ValDoes.of_code Try.func37 (by kernel_rfl) (by kernel_rfl) (k:=6) (by kernel_rfl) (fun B=>⟨_,_,.inr rfl,a1_1 x _ (right_cv x h),by kernel_rfl⟩) (by kernel_rfl) (List.all_eq_true.1 (by kernel_rfl))
theorem rs_loopT {B:Nat} {L:List Rw} (hL:L.length≤100000) (h:risesB L=true):CodeDoes Try.prog B (Lf (Rt (Lf (Rt (Try.f39.body.getD .skip))))) ⟨⟨21,[(0,.s (.slv L.length none 3 (flat Rw.cv L))),(3,.s (sI (1)))]⟩,[],0⟩ (.exit 0) ⟨⟨21,[(0,.s (.slv L.length none 3 (flat Rw.cv L)))]⟩,[],0⟩:=by
 refine CodeDoes.loopAt (by kernel_rfl) (LoopDoes.scanAll (fun k=>⟨⟨21,[(0,.s (.slv L.length none 3 (flat Rw.cv L))),(3,.s (sI (((k+1:Nat):Int))))]⟩,[],0⟩) (L.length - 1) (by simp) (fun k hk=>?_) (rsE_1 L (L.length - 1) (by omega)))
 have hq:=(List.all_eq_true.1 h) k (List.mem_range.2 hk)
 exact rsG_1 L k hL (by omega) (by have:=less_cv (L.getD k Rw0) (L.getD (k+1) Rw0);rwa [hq] at this)
theorem rs_loopF {B:Nat} {L:List Rw} (hL:L.length≤100000) (h:risesB L=false):CodeDoes Try.prog B (Lf (Rt (Lf (Rt (Try.f39.body.getD .skip))))) ⟨⟨21,[(0,.s (.slv L.length none 3 (flat Rw.cv L))),(3,.s (sI (1)))]⟩,[],0⟩ .ret ⟨⟨21,[(2,.s (.bool false))]⟩,[],0⟩:=by
 rcases first_bad (fun k=>ltB (L.getD k Rw0) (L.getD (k+1) Rw0)) (L.length - 1) with h3|⟨k,h3,h4,h5⟩
 ·exfalso
  have:risesB L=true:=List.all_eq_true.2 fun k hk=>h3 k (List.mem_range.1 hk)
  rw [this] at h;cases h
 ·have go:∀ k,k < L.length - 1→∀ b,ltB (L.getD k Rw0) (L.getD (k+1) Rw0)=b→ValDoes Try.prog 12 [.agg (L.getD k Rw0).cv,.agg (L.getD (k+1) Rw0).cv] (.s (.bool b)):=fun k hk b hb=>by
   have:=less_cv (L.getD k Rw0) (L.getD (k+1) Rw0);rwa [hb] at this
  exact CodeDoes.loopAt (by kernel_rfl) (LoopDoes.scanHit (fun k=>⟨⟨21,[(0,.s (.slv L.length none 3 (flat Rw.cv L))),(3,.s (sI (((k+1:Nat):Int))))]⟩,[],0⟩) k (by simp) (fun i hi=>rsG_1 L i hL (by omega) (go i (by omega) _ (h5 i hi))) (rsH_1 L k hL (by omega) (go k h3 _ h4)))
theorem rsT_1 {B:Nat} (L:List Rw) (hL:L.length≤100000) (h:risesB L=true) :CodeDoes Try.prog B (Try.f39.body.getD .skip) ⟨⟨21,[(0,.s (.slv L.length none 3 (flat Rw.cv L)))]⟩,[],0⟩ Ex.ret ⟨⟨21,[(2,AV.s (SV.bool true))]⟩,[],0⟩ :=
 goA_ok mix (tape:=[(2,Ans.loop [0,3] [] (Ex.exit 0) (St.mk (Tm.mk 21 [(0,AV.s (vL Rw.cv 3 L))]) [] 0))]) (dl:=[2]) (nl:=[]) (C:=[(KD B (Lf (Rt (Lf (Rt (Try.f39.body.getD .skip))))) (St.mk (Tm.mk 21 [(0,AV.s (vL Rw.cv 3 L)),(3,AV.s (sI 1))]) [] 0) (Ex.exit 0) (St.mk (Tm.mk 21 [(0,AV.s (vL Rw.cv 3 L))]) [] 0))]) (by kernel_rfl) ⟨by (apply rs_loopT<;>first|exact hL|exact h|exact el23|exact el22|exact sz28|exact sz25|exact by28|exact by25|exact zr28|exact zr25|exact ag28|exact ag25|exact un9|assumption|rfl|omega|(unfold maxLen;omega)|decide|(simp;done)|(simp;omega)),trivial⟩
theorem rsF_1 {B:Nat} (L:List Rw) (hL:L.length≤100000) (h:risesB L=false) :CodeDoes Try.prog B (Try.f39.body.getD .skip) ⟨⟨21,[(0,.s (.slv L.length none 3 (flat Rw.cv L)))]⟩,[],0⟩ Ex.ret ⟨⟨21,[(2,AV.s (SV.bool false))]⟩,[],0⟩ :=
 goA_ok mix (tape:=[(2,Ans.loop [0,3] [] (Ex.ret) (St.mk (Tm.mk 21 [(2,AV.s (SV.bool false))]) [] 0))]) (dl:=[2]) (nl:=[]) (C:=[(KD B (Lf (Rt (Lf (Rt (Try.f39.body.getD .skip))))) (St.mk (Tm.mk 21 [(0,AV.s (vL Rw.cv 3 L)),(3,AV.s (sI 1))]) [] 0) (Ex.ret) (St.mk (Tm.mk 21 [(2,AV.s (SV.bool false))]) [] 0))]) (by kernel_rfl) ⟨by (apply rs_loopF<;>first|exact hL|exact h|exact el23|exact el22|exact sz28|exact sz25|exact by28|exact by25|exact zr28|exact zr25|exact ag28|exact ag25|exact un9|assumption|rfl|omega|(unfold maxLen;omega)|decide|(simp;done)|(simp;omega)),trivial⟩
theorem rises_does (L:List Rw) (hL:L.length≤100000):ValDoes Try.prog 39 [.s (.slv L.length none 3 (flat Rw.cv L))] (.s (.bool (risesB L))):=by
 cases h:risesB L with
 | true=>exact ValDoes.of_code Try.func39 (by kernel_rfl) (by kernel_rfl) (k:=21) (by kernel_rfl) (fun B=>⟨_,_,.inr rfl,rsT_1 L hL h,by kernel_rfl⟩) (by kernel_rfl) (List.all_eq_true.1 (by kernel_rfl))
 | false=>exact ValDoes.of_code Try.func39 (by kernel_rfl) (by kernel_rfl) (k:=21) (by kernel_rfl) (fun B=>⟨_,_,.inr rfl,rsF_1 L hL h,by kernel_rfl⟩) (by kernel_rfl) (List.all_eq_true.1 (by kernel_rfl))
theorem rises_own {B c n0 len0:Nat} {o0:Bool} {L:List Rw} (hL:L.length≤100000) (hl0:len0=L.length):CallDoes Try.prog B 39 [.s (.sl n0 0 len0 none 3)] [(n0,some ⟨flat Rw.cv L,o0⟩)] c (.s (.bool (risesB L))) ([]++[(n0,some ⟨flat Rw.cv L,o0⟩)]) c:=by
 subst hl0
 exact (rises_does L hL).peek rfl (.cons (.s (.sl (b:=⟨flat Rw.cv L,o0⟩) (by simp [Eng.get]) (subRw L) (Rw_flat L))) .nil) B c
theorem conXg_1 {B:Nat} (p:Rw→Bool) (L:List Rw)  (hcl:∀ x∈L,ValDoes Try.prog 37 [.agg (Rw.cv x)] (.s (.bool (p x)))) (hL:L.length≤100000) (k:Nat) (hk:k < L.length) (hq:p (L.getD k Rw0)=false) :CodeDoes Try.prog B (Lf (Lf (Rt (Lf (Rt (Try.f59.body.getD .skip)))))) ⟨⟨19,[(0,.s (.slv L.length none 3 (flat Rw.cv L))),(1,.s (.fn 37 [])),(7,.s (sI (L.length:Int))),(8,.s (sI (k:Int)))]⟩,[],0⟩ Ex.normal ⟨⟨19,[(0,AV.s (SV.slv (List.length L) none 3 (flat Rw.cv L))),(1,AV.s (SV.fn 37 [])),(7,AV.s (sI (↑(List.length L):Int))),(8,AV.s (sI ((↑k:Int)+1)))]⟩,[],0⟩ :=
 goA_ok mix (tape:=[(0,aT),(6,Ans.val (AV.s (SV.ptv (Rw.cv (List.getD L k Rw0))))),(8,aC (AV.s (SV.bool false)) 0),(9,Ans.val (AV.s (sI ((↑k:Int)+1))))]) (dl:=[0,1,7,8]) (nl:=[]) (C:=[(some (AV.s (sI (wI ((↑k:Int)+1))))=some (AV.s (sI ((↑k:Int)+1)))),(CD B 37 [AV.agg [sI (Rw.time (List.getD L k Rw0)),sI (Rw.seq (List.getD L k Rw0)),vL Cl.cv 4 (Rw.cells (List.getD L k Rw0))]] [] 0 (AV.s (SV.bool false)) ([]++[]) 0),((evIndexAddr Try.prog 22 (AV.s (vL Rw.cv 3 L)) (AV.s (sI (↑k:Int))))=some (AV.s (SV.ptv (Rw.cv (List.getD L k Rw0))))),(IsT (decide ((↑k:Int) < (↑(List.length L):Int))))]) (by kernel_rfl) ⟨claim_i (by exact wrap_i64 (by omega) (by omega)),(Eq.mp (congrArg (fun z=>CD B _ _ _ _ (AV.s (SV.bool z)) _ _) (show (p (List.getD L k Rw0))=false from by assumption)) (show CD B 37 [AV.agg [sI (Rw.time (List.getD L k Rw0)),sI (Rw.seq (List.getD L k Rw0)),vL Cl.cv 4 (Rw.cells (List.getD L k Rw0))]] [] 0 (AV.s (SV.bool (p (List.getD L k Rw0)))) ([]++[]) 0 from by (apply v1_c<;>first|exact hcl _ (getD_mem (by assumption))))),by (apply ixRw<;>first|assumption|rfl),cTa,trivial⟩
theorem conXh_1 {B:Nat} (p:Rw→Bool) (L:List Rw)  (hcl:∀ x∈L,ValDoes Try.prog 37 [.agg (Rw.cv x)] (.s (.bool (p x)))) (hL:L.length≤100000) (k:Nat) (hk:k < L.length) (hq:p (L.getD k Rw0)=true) :CodeDoes Try.prog B (Lf (Lf (Rt (Lf (Rt (Try.f59.body.getD .skip)))))) ⟨⟨19,[(0,.s (.slv L.length none 3 (flat Rw.cv L))),(1,.s (.fn 37 [])),(7,.s (sI (L.length:Int))),(8,.s (sI (k:Int)))]⟩,[],0⟩ Ex.ret ⟨⟨19,[(4,AV.s (sI (↑k:Int)))]⟩,[],0⟩ :=
 goA_ok mix (tape:=[(0,aT),(6,Ans.val (AV.s (SV.ptv (Rw.cv (List.getD L k Rw0))))),(8,aC (AV.s (SV.bool true)) 0)]) (dl:=[4]) (nl:=[]) (C:=[(CD B 37 [AV.agg [sI (Rw.time (List.getD L k Rw0)),sI (Rw.seq (List.getD L k Rw0)),vL Cl.cv 4 (Rw.cells (List.getD L k Rw0))]] [] 0 (AV.s (SV.bool true)) ([]++[]) 0),((evIndexAddr Try.prog 22 (AV.s (vL Rw.cv 3 L)) (AV.s (sI (↑k:Int))))=some (AV.s (SV.ptv (Rw.cv (List.getD L k Rw0))))),(IsT (decide ((↑k:Int) < (↑(List.length L):Int))))]) (by kernel_rfl) ⟨(Eq.mp (congrArg (fun z=>CD B _ _ _ _ (AV.s (SV.bool z)) _ _) (show (p (List.getD L k Rw0))=true from by assumption)) (show CD B 37 [AV.agg [sI (Rw.time (List.getD L k Rw0)),sI (Rw.seq (List.getD L k Rw0)),vL Cl.cv 4 (Rw.cells (List.getD L k Rw0))]] [] 0 (AV.s (SV.bool (p (List.getD L k Rw0)))) ([]++[]) 0 from by (apply v1_c<;>first|exact hcl _ (getD_mem (by assumption))))),by (apply ixRw<;>first|assumption|rfl),cTa,trivial⟩
theorem conXe_1 {B:Nat} (p:Rw→Bool) (L:List Rw)  (k:Nat) (hk:k=L.length) :CodeDoes Try.prog B (Lf (Lf (Rt (Lf (Rt (Try.f59.body.getD .skip)))))) ⟨⟨19,[(0,.s (.slv L.length none 3 (flat Rw.cv L))),(1,.s (.fn 37 [])),(7,.s (sI (L.length:Int))),(8,.s (sI (k:Int)))]⟩,[],0⟩ (Ex.exit 0) ⟨⟨19,[(0,AV.s (SV.slv (List.length L) none 3 (flat Rw.cv L)))]⟩,[],0⟩ :=
 goA_ok mix (tape:=[(0,aF)]) (dl:=[0]) (nl:=[]) (C:=[(IsF (decide ((↑k:Int) < (↑(List.length L):Int))))]) (by kernel_rfl) ⟨cFa,trivial⟩
@[irreducible] def con_ix (p:Rw→Bool) (L:List Rw):Int:=if ∀ k,k < L.length→p (L.getD k Rw0)=false then -1 else (((List.range L.length).find? (fun k=>p (L.getD k Rw0))).getD 0:Nat)
theorem con_ix_none {p:Rw→Bool} {L:List Rw} (h:∀ k,k < L.length→p (L.getD k Rw0)=false):con_ix p L=-1:=by unfold con_ix;rw [if_pos h]
theorem con_ix_some {p:Rw→Bool} {L:List Rw} {k:Nat} (hk:k < L.length) (h1:p (L.getD k Rw0)=true) (h2:∀ i,i < k→p (L.getD i Rw0)=false):con_ix p L=(k:Int):=by
 unfold con_ix
 rw [if_neg (fun h=>by have:=h k hk;rw [h1] at this;cases this)]
 have:(List.range L.length).find? (fun k=>p (L.getD k Rw0))=some k:=by
  rw [List.find?_range_eq_some]
  exact ⟨h1,by simpa using hk,fun j hj=>by simp only [h2 j hj,Bool.not_false]⟩
 rw [this];rfl
theorem con_ix_any {p:Rw→Bool} (L:List Rw):decide (con_ix p L≥0)=L.any (fun x=>p x):=by
 rcases first_bad (fun k=>!(p (L.getD k Rw0))) L.length with h|⟨k,h1,h2,h3⟩
 ·have h':∀ k,k < L.length→p (L.getD k Rw0)=false:=fun k hk=>by simpa using h k hk
  rw [con_ix_none h']
  have:L.any (fun x=>p x)=false:=by
   rw [List.any_eq_false]
   intro x hx
   obtain ⟨i,hi,rfl⟩:=List.getElem_of_mem hx
   have:=h' i hi
   simpa [hi] using this
  rw [this];rfl
 ·have g1:p (L.getD k Rw0)=true:=by simpa using h2
  rw [con_ix_some h1 g1 (fun i hi=>by simpa using h3 i hi)]
  have:L.any (fun x=>p x)=true:=by
   rw [List.any_eq_true]
   exact ⟨L[k],List.getElem_mem h1,by simpa [h1] using g1⟩
  rw [this];simp
theorem con_loopT {B:Nat} {p:Rw→Bool} {L:List Rw}  (hcl:∀ x∈L,ValDoes Try.prog 37 [.agg (Rw.cv x)] (.s (.bool (p x)))) (hL:L.length≤100000) (hq:∀ k,k < L.length→p (L.getD k Rw0)=false):CodeDoes Try.prog B (Lf (Rt (Lf (Rt (Try.f59.body.getD .skip))))) ⟨⟨19,[(0,.s (.slv L.length none 3 (flat Rw.cv L))),(1,.s (.fn 37 [])),(7,.s (sI (L.length:Int))),(8,.s (sI ((0:Nat):Int)))]⟩,[],0⟩ (.exit 0) ⟨⟨19,[(0,.s (.slv L.length none 3 (flat Rw.cv L)))]⟩,[],0⟩ :=
 CodeDoes.loopAt (by kernel_rfl) (LoopDoes.scanAll (fun k=>⟨⟨19,[(0,.s (.slv L.length none 3 (flat Rw.cv L))),(1,.s (.fn 37 [])),(7,.s (sI (L.length:Int))),(8,.s (sI (k:Int)))]⟩,[],0⟩) L.length (by simp) (fun k hk=>conXg_1 p L  hcl hL k hk (hq k hk)) (conXe_1 p L  L.length rfl))
theorem con_loopF {B:Nat} {p:Rw→Bool} {L:List Rw}  (hcl:∀ x∈L,ValDoes Try.prog 37 [.agg (Rw.cv x)] (.s (.bool (p x)))) (hL:L.length≤100000) (hx:∃ j,j < L.length∧p (L.getD j Rw0)=true∧∀ i,i < j→p (L.getD i Rw0)=false):CodeDoes Try.prog B (Lf (Rt (Lf (Rt (Try.f59.body.getD .skip))))) ⟨⟨19,[(0,.s (.slv L.length none 3 (flat Rw.cv L))),(1,.s (.fn 37 [])),(7,.s (sI (L.length:Int))),(8,.s (sI ((0:Nat):Int)))]⟩,[],0⟩ .ret ⟨⟨19,[(4,.s (sI (con_ix p L)))]⟩,[],0⟩:=by
 obtain ⟨k,h1,h2,h3⟩:=hx
 rw [con_ix_some h1 h2 h3]
 exact CodeDoes.loopAt (by kernel_rfl) (LoopDoes.scanHit (fun k=>⟨⟨19,[(0,.s (.slv L.length none 3 (flat Rw.cv L))),(1,.s (.fn 37 [])),(7,.s (sI (L.length:Int))),(8,.s (sI (k:Int)))]⟩,[],0⟩) k (by simp) (fun i hi=>conXg_1 p L  hcl hL i (by omega) (h3 i hi)) (conXh_1 p L  hcl hL k h1 h2))
theorem conT_1 {B:Nat} (p:Rw→Bool) (L:List Rw)  (hcl:∀ x∈L,ValDoes Try.prog 37 [.agg (Rw.cv x)] (.s (.bool (p x)))) (hL:L.length≤100000) (hq:∀ k,k < L.length→p (L.getD k Rw0)=false) :CodeDoes Try.prog B (Try.f59.body.getD .skip) ⟨⟨19,[(0,.s (.slv L.length none 3 (flat Rw.cv L))),(1,.s (.fn 37 []))]⟩,[],0⟩ Ex.ret ⟨⟨19,[(4,AV.s (sI (-1)))]⟩,[],0⟩ :=
 goA_ok mix (tape:=[(4,Ans.loop [0,1,7,8] [] (Ex.exit 0) (St.mk (Tm.mk 19 [(0,AV.s (vL Rw.cv 3 L))]) [] 0))]) (dl:=[4]) (nl:=[]) (C:=[(KD B (Lf (Rt (Lf (Rt (Try.f59.body.getD .skip))))) (St.mk (Tm.mk 19 [(0,AV.s (vL Rw.cv 3 L)),(1,AV.s (SV.fn 37 [])),(7,AV.s (sI (↑(List.length L):Int))),(8,AV.s (sI (↑0:Int)))]) [] 0) (Ex.exit 0) (St.mk (Tm.mk 19 [(0,AV.s (vL Rw.cv 3 L))]) [] 0))]) (by kernel_rfl) ⟨by (apply con_loopT<;>first|exact hcl|exact hq|exact el23|exact el22|exact sz28|exact sz25|exact by28|exact by25|exact zr28|exact zr25|exact ag28|exact ag25|exact un9|assumption|rfl|omega|(unfold maxLen;omega)|decide|(simp;done)|(simp;omega)),trivial⟩
theorem conF_1 {B:Nat} (p:Rw→Bool) (L:List Rw)  (hcl:∀ x∈L,ValDoes Try.prog 37 [.agg (Rw.cv x)] (.s (.bool (p x)))) (hL:L.length≤100000) (hq:∃ j,j < L.length∧p (L.getD j Rw0)=true∧∀ i,i < j→p (L.getD i Rw0)=false) :CodeDoes Try.prog B (Try.f59.body.getD .skip) ⟨⟨19,[(0,.s (.slv L.length none 3 (flat Rw.cv L))),(1,.s (.fn 37 []))]⟩,[],0⟩ Ex.ret ⟨⟨19,[(4,AV.s (sI (con_ix p L)))]⟩,[],0⟩ :=
 goA_ok mix (tape:=[(4,Ans.loop [0,1,7,8] [] (Ex.ret) (St.mk (Tm.mk 19 [(4,AV.s (sI (con_ix p L)))]) [] 0))]) (dl:=[4]) (nl:=[]) (C:=[(KD B (Lf (Rt (Lf (Rt (Try.f59.body.getD .skip))))) (St.mk (Tm.mk 19 [(0,AV.s (vL Rw.cv 3 L)),(1,AV.s (SV.fn 37 [])),(7,AV.s (sI (↑(List.length L):Int))),(8,AV.s (sI (↑0:Int)))]) [] 0) (Ex.ret) (St.mk (Tm.mk 19 [(4,AV.s (sI (con_ix p L)))]) [] 0))]) (by kernel_rfl) ⟨by (apply con_loopF<;>first|exact hcl|exact hq|exact el23|exact el22|exact sz28|exact sz25|exact by28|exact by25|exact zr28|exact zr25|exact ag28|exact ag25|exact un9|assumption|rfl|omega|(unfold maxLen;omega)|decide|(simp;done)|(simp;omega)),trivial⟩
theorem con_ix_does (p:Rw→Bool) (L:List Rw)  (hcl:∀ x∈L,ValDoes Try.prog 37 [.agg (Rw.cv x)] (.s (.bool (p x)))) (hL:L.length≤100000):ValDoes Try.prog 59 [.s (.slv L.length none 3 (flat Rw.cv L)),.s (.fn 37 [])] (.s (sI (con_ix p L))):=by
 rcases first_bad (fun k=>!(p (L.getD k Rw0))) L.length with h|⟨k,h1,h2,h3⟩
 ·have h':∀ k,k < L.length→p (L.getD k Rw0)=false:=fun k hk=>by simpa using h k hk
  rw [con_ix_none h']
  exact ValDoes.of_code Try.func59 (by kernel_rfl) (by kernel_rfl) (k:=19) (by kernel_rfl) (fun B=>⟨_,_,.inr rfl,conT_1 p L  hcl hL h',by kernel_rfl⟩) (by kernel_rfl) (List.all_eq_true.1 (by kernel_rfl))
 ·exact ValDoes.of_code Try.func59 (by kernel_rfl) (by kernel_rfl) (k:=19) (by kernel_rfl) (fun B=>⟨_,_,.inr rfl,conF_1 p L  hcl hL ⟨k,h1,(by simpa using h2),fun i hi=>(by simpa using h3 i hi)⟩,by kernel_rfl⟩) (by kernel_rfl) (List.all_eq_true.1 (by kernel_rfl))
theorem conC_1 {B:Nat} (p:Rw→Bool) (L:List Rw)  (j:Int) (hix:ValDoes Try.prog 59 [.s (.slv L.length none 3 (flat Rw.cv L)),.s (.fn 37 [])] (.s (sI j)))  :CodeDoes Try.prog B (Try.f36.body.getD .skip) ⟨⟨9,[(0,.s (.slv L.length none 3 (flat Rw.cv L))),(1,.s (.fn 37 []))]⟩,[],0⟩ Ex.ret ⟨⟨9,[(4,AV.s (SV.bool (decide (j≥0))))]⟩,[],0⟩ :=
 goA_ok mix (tape:=[(3,aC (AV.s (sI j)) 0)]) (dl:=[4]) (nl:=[]) (C:=[(CD B 59 [AV.s (vL Rw.cv 3 L),AV.s (SV.fn 37 [])] [] 0 (AV.s (sI j)) ([]++[]) 0)]) (by kernel_rfl) ⟨by (apply v2_c<;>first|exact hix),trivial⟩
theorem con_does (p:Rw→Bool) (L:List Rw)  (hcl:∀ x∈L,ValDoes Try.prog 37 [.agg (Rw.cv x)] (.s (.bool (p x)))) (hL:L.length≤100000):ValDoes Try.prog 36 [.s (.slv L.length none 3 (flat Rw.cv L)),.s (.fn 37 [])] (.s (.bool (L.any (fun x=>p x)))):=by
 rw [← con_ix_any (p:=p) L]
 exact ValDoes.of_code Try.func36 (by kernel_rfl) (by kernel_rfl) (k:=9) (by kernel_rfl) (fun B=>⟨_,_,.inr rfl,conC_1 p L  _ (con_ix_does p L  hcl hL),by kernel_rfl⟩) (by kernel_rfl) (List.all_eq_true.1 (by kernel_rfl))
end Go.Proofs.Ytaelliigpclipaa.V
namespace Go.Proofs.Ytaelliigpclipaa.V
open Go Go.RowKit Go.Proofs Go.Proofs.Ytaelliigpclipaa.Eng Go.Proofs.Ytaelliigpclipaa.VPl
set_option maxRecDepth 100000
set_option linter.unusedVariables false
set_option linter.unusedSimpArgs false
theorem un3i:Try.prog.underlying 3=some (.int .i64):=by kernel_rfl
theorem zerosR {n:Int} {c:Nat} (h0:0 < n) (hn:n≤1000000):less 0 (evAppend Try.prog 22 3 (.s .sl0) (.s (sI n)) [] c)=some (.s (.sl c 0 n.toNat none 3),[(c,some ⟨repeated [sI 0,sI 0,.sl0] n.toNat,true⟩)],c+1):=by
 have h1:n≤9223372036854775807:=by omega
 have h2:40*n≤140737488355328:=by omega
 simp [evAppend,evZeros,el22,sz25,by25,zr25,un3i,h0,h1,h2,less,newBlk]
attribute [local irreducible] Eng.evAppend Eng.evSlice Eng.less CallDoes Eng.loadG Eng.evIndexAddr Eng.evBin
theorem gwA_1 {B:Nat} (n:Nat) (h0:0 < n) (hn:n≤1000000) :CodeDoes Try.prog B (Try.f60.body.getD .skip) ⟨⟨27,[(0,.s .sl0),(1,.s (sI (n:Int)))]⟩,[],0⟩ Ex.ret ⟨⟨27,[(4,AV.s (SV.sl 0 0 0 none 3))]⟩,[(0,some (Blk.mk (repeated [sI 0,sI 0,SV.sl0] (Int.toNat ((↑n:Int) - 0))) true))],1⟩ :=
 goA_ok mix (tape:=[(9,Ans.val (AV.s (sI ((↑n:Int) - 0)))),(12,aT),(18,Ans.mem (AV.s (SV.sl 0 0 (Int.toNat ((↑n:Int) - 0)) none 3)) [(0,sB_ (repeated [sI 0,sI 0,SV.sl0] (Int.toNat ((↑n:Int) - 0))))] 1)]) (dl:=[4]) (nl:=[0]) (C:=[((less 0 (evAppend Try.prog 22 3 (AV.s SV.sl0) (AV.s (sI ((↑n:Int) - 0))) [] 0))=some (AV.s (SV.sl 0 0 (Int.toNat ((↑n:Int) - 0)) none 3),[(0,sB_ (repeated [sI 0,sI 0,SV.sl0] (Int.toNat ((↑n:Int) - 0))))],1)),(IsT (decide ((↑n:Int) - 0 > 0))),(some (AV.s (sI (wI ((↑n:Int) - 0))))=some (AV.s (sI ((↑n:Int) - 0))))]) (by kernel_rfl) ⟨by (apply zerosR<;>first|omega),cTa,claim_i (by exact wrap_i64 (by omega) (by omega)),trivial⟩
theorem gw_c {B c:Nat} {n:Int} {m:Nat} (hm:n=(m:Int)) (h0:0 < m) (hn:m≤1000000):CallDoes Try.prog B 60 [.s .sl0,.s (sI n)] [] c (.s (.sl c 0 0 none 3)) ([(c,some ⟨[],true⟩)]++[]) (c+1):=by
 subst hm
 exact (NewDoes.of_code Try.func60 (by kernel_rfl) (by kernel_rfl) (k:=27) (by kernel_rfl) (fun B=>⟨_,_,0,.inr rfl,(gwA_1 m h0 hn).trunc 0 (pre:=[]) rfl,by kernel_rfl,rfl,by show 0 < 1;decide⟩) rfl (List.all_eq_true.1 (by kernel_rfl)):NewDoes Try.prog 60 [.s .sl0,.s (sI (m:Int))] 0 3 []) B c
theorem ccF_1 {B:Nat} (A L:List Rw) (h0:0 < A.length+L.length) (hn:A.length+L.length≤10000) :CodeDoes Try.prog B (Try.f38.body.getD .skip) ⟨⟨36,[(0,.s (.sl 0 0 2 none 1))]⟩,[(0,some ⟨[.slv A.length none 3 (flat Rw.cv A),.slv L.length none 3 (flat Rw.cv L)],true⟩)],1⟩ Ex.ret ⟨⟨36,[(2,AV.s (SV.sl 3 0 (List.length A+List.length L) none 3))]⟩,[(0,some (Blk.mk [SV.slv (List.length A) none 3 (flat Rw.cv A),SV.slv (List.length L) none 3 (flat Rw.cv L)] true)),(3,some (Blk.mk (flat Rw.cv (A++L)) true))],4⟩ :=
 goA_ok mix (tape:=[(5,Ans.rounds 3),(13,Ans.val (AV.s (sI (0+(↑(List.length A):Int))))),(26,Ans.val (AV.s (sI (0+(↑(List.length A):Int)+(↑(List.length L):Int))))),(34,Ans.call [] (AV.s (SV.sl 1 0 0 none 3)) [(1,sB_ [])] 2),(39,Ans.rounds 3),(46,Ans.mem (AV.s (SV.sl 2 0 (List.length A) none 3)) [(2,sB_ (flat Rw.cv A)),(1,none)] 3),(56,Ans.mem (AV.s (SV.sl 3 0 (List.length A+List.length L) none 3)) [(3,sB_ (flat Rw.cv (A++L))),(2,none)] 4)]) (dl:=[2]) (nl:=[0,3]) (C:=[((less 1 (evAppend Try.prog 22 22 (AV.s (SV.sl 2 0 (List.length A) none 3)) (AV.s (vL Rw.cv 3 L)) [(2,sB_ (flat Rw.cv A))] 3))=some (AV.s (SV.sl 3 0 (List.length A+List.length L) none 3),[(3,sB_ (flat Rw.cv (A++L))),(2,none)],4)),((less 1 (evAppend Try.prog 22 22 (AV.s (SV.sl 1 0 0 none 3)) (AV.s (vL Rw.cv 3 A)) [(1,sB_ [])] 2))=some (AV.s (SV.sl 2 0 (List.length A) none 3),[(2,sB_ (flat Rw.cv A)),(1,none)],3)),(CD B 60 [AV.s SV.sl0,AV.s (sI (0+(↑(List.length A):Int)+(↑(List.length L):Int)))] [] 1 (AV.s (SV.sl 1 0 0 none 3)) ([(1,sB_ [])]++[]) 2),(some (AV.s (sI (wI (0+(↑(List.length A):Int)+(↑(List.length L):Int)))))=some (AV.s (sI (0+(↑(List.length A):Int)+(↑(List.length L):Int))))),(some (AV.s (sI (wI (0+(↑(List.length A):Int)))))=some (AV.s (sI (0+(↑(List.length A):Int)))))]) (by kernel_rfl) ⟨by (apply appRw<;>first|exact el22|rfl|omega|(unfold maxLen;omega)),by (apply app0Rw<;>first|exact el22|rfl|omega|(unfold maxLen;omega)),by (apply gw_c<;>first|rfl|omega|(simp;omega)),claim_i (by exact wrap_i64 (by omega) (by omega)),claim_i (by exact wrap_i64 (by omega) (by omega)),trivial⟩
theorem ccO_1 {B:Nat} (A L:List Rw) (h0:0 < A.length) (hn:A.length+L.length≤10000) :CodeDoes Try.prog B (Try.f38.body.getD .skip) ⟨⟨36,[(0,.s (.sl 0 0 2 none 1))]⟩,[(0,some ⟨[.sl 1 0 A.length none 3,.slv L.length none 3 (flat Rw.cv L)],true⟩),(1,some ⟨flat Rw.cv A,true⟩)],2⟩ Ex.ret ⟨⟨36,[(2,AV.s (SV.sl 4 0 (List.length A+List.length L) none 3))]⟩,[(0,some (Blk.mk [SV.sl 1 0 (List.length A) none 3,SV.slv (List.length L) none 3 (flat Rw.cv L)] true)),(1,some (Blk.mk (flat Rw.cv A) true)),(4,some (Blk.mk (flat Rw.cv (A++L)) true))],5⟩ :=
 goA_ok mix (tape:=[(5,Ans.rounds 3),(13,Ans.val (AV.s (sI (0+(↑(List.length A):Int))))),(26,Ans.val (AV.s (sI (0+(↑(List.length A):Int)+(↑(List.length L):Int))))),(34,Ans.call [] (AV.s (SV.sl 2 0 0 none 3)) [(2,sB_ [])] 3),(39,Ans.rounds 3),(46,Ans.mem (AV.s (SV.sl 3 0 (List.length A) none 3)) [(3,sB_ (flat Rw.cv A)),(2,none)] 4),(56,Ans.mem (AV.s (SV.sl 4 0 (List.length A+List.length L) none 3)) [(4,sB_ (flat Rw.cv (A++L))),(3,none)] 5)]) (dl:=[2]) (nl:=[0,1,4]) (C:=[((less 1 (evAppend Try.prog 22 22 (AV.s (SV.sl 3 0 (List.length A) none 3)) (AV.s (vL Rw.cv 3 L)) [(3,sB_ (flat Rw.cv A))] 4))=some (AV.s (SV.sl 4 0 (List.length A+List.length L) none 3),[(4,sB_ (flat Rw.cv (A++L))),(3,none)],5)),((less 2 (evAppend Try.prog 22 22 (AV.s (SV.sl 2 0 0 none 3)) (AV.s (SV.sl 1 0 (List.length A) none 3)) [(2,sB_ []),(1,sB_ (flat Rw.cv A))] 3))=some (AV.s (SV.sl 3 0 (List.length A) none 3),[(3,sB_ (flat Rw.cv A)),(2,none)],4)),(CD B 60 [AV.s SV.sl0,AV.s (sI (0+(↑(List.length A):Int)+(↑(List.length L):Int)))] [] 2 (AV.s (SV.sl 2 0 0 none 3)) ([(2,sB_ [])]++[]) 3),(some (AV.s (sI (wI (0+(↑(List.length A):Int)+(↑(List.length L):Int)))))=some (AV.s (sI (0+(↑(List.length A):Int)+(↑(List.length L):Int))))),(some (AV.s (sI (wI (0+(↑(List.length A):Int)))))=some (AV.s (sI (0+(↑(List.length A):Int)))))]) (by kernel_rfl) ⟨by (apply appRw<;>first|exact el22|rfl|omega|(unfold maxLen;omega)),by (apply appOwn0<;>first|assumption|rfl|omega),by (apply gw_c<;>first|rfl|omega|(simp;omega)),claim_i (by exact wrap_i64 (by omega) (by omega)),claim_i (by exact wrap_i64 (by omega) (by omega)),trivial⟩
end Go.Proofs.Ytaelliigpclipaa.V
namespace Go.Proofs.Ytaelliigpclipaa.V
open Go Go.RowKit Go.Proofs Go.Proofs.Ytaelliigpclipaa.Eng Go.Proofs.Ytaelliigpclipaa.VPl
set_option maxRecDepth 100000
set_option linter.unusedVariables false
set_option linter.unusedSimpArgs false
theorem cc_F {B c t:Nat} {A L:List Rw} {la ll:Nat} (hla:la=A.length) (hll:ll=L.length) (h0:0 < A.length+L.length) (hn:A.length+L.length≤10000) (ht:t < c) :CallDoes Try.prog B 38 [.s (.sl t 0 2 none 1)] [(t,some ⟨[.slv la none 3 (flat Rw.cv A),.slv ll none 3 (flat Rw.cv L)],true⟩)] c (.s (.sl c 0 (A.length+L.length) none 3)) ([(c,some ⟨flat Rw.cv (A++L),true⟩),(t,some ⟨[.slv la none 3 (flat Rw.cv A),.slv ll none 3 (flat Rw.cv L)],true⟩)]++[(t,some ⟨[.slv la none 3 (flat Rw.cv A),.slv ll none 3 (flat Rw.cv L)],true⟩)]) (c+1):=by
 subst hla;subst hll
 exact call_gen (args0:=[.s (.sl 0 0 2 none 1)]) (m0:=[(0,some ⟨[.slv A.length none 3 (flat Rw.cv A),.slv L.length none 3 (flat Rw.cv L)],true⟩)]) (D:=[(3,some ⟨flat Rw.cv (A++L),true⟩),(0,some ⟨[.slv A.length none 3 (flat Rw.cv A),.slv L.length none 3 (flat Rw.cv L)],true⟩)]) (v0:=.s (.sl 3 0 (A.length+L.length) none 3)) (c':=c+1) Try.func38 (by kernel_rfl) (by kernel_rfl) (k:=36) (by kernel_rfl) (ccF_1 A L h0 hn) (.inr rfl) (by kernel_rfl) (fun j=>if j=0 then t else c) [0,3] ⟨by first|(simp;done)|(simp;omega),by first|(simp;done)|(simp;omega),by first|(simp;done)|(simp;omega),by omega⟩
  (hD_of (fun x hx=>by simp only [List.mem_cons,List.not_mem_nil,or_false] at hx;rcases hx with rfl|rfl<;>first|exact .inl rfl|exact .inr rfl)) (by simp) (fun x hx=>by simp only [List.mem_cons,List.not_mem_nil,or_false] at hx;rcases hx with rfl|rfl<;>first|exact .inl ⟨_,rfl⟩|exact .inr ⟨of_decide_eq_true rfl,of_decide_eq_true rfl⟩) (by simp) (by simp [avNames,svNames]) (fun x hx=>by simp only [List.mem_cons,List.not_mem_nil,or_false] at hx;rcases hx with rfl<;>exact ⟨⟨by simp,of_decide_eq_true rfl⟩,fun b hb=>by (first|(cases hb;done)|(obtain rfl:=Option.some.inj hb;first|(simp [blkN,svNames];done)|(simp only [Rw_blk];simp;done)|(simp only [Cl_blk];simp;done)|(simp [blkN,svNames,List.flatMap];done)))⟩) (fun x hx=>by simp only [List.mem_cons,List.not_mem_nil,or_false] at hx;rcases hx with rfl|rfl<;>exact fun b hb=>by (first|(cases hb;done)|(obtain rfl:=Option.some.inj hb;first|(simp [blkN,svNames];done)|(simp only [Rw_blk];simp;done)|(simp only [Cl_blk];simp;done)|(simp [blkN,svNames,List.flatMap];done)))) (by simp [avNames,svNames]) rfl (by (first|rfl|(simp only [rnM,List.map_cons,List.map_nil,Option.map_some,Option.map_none,rnB_nil (Rw_blk _ _),rnB_nil (Cl_blk _ _)];first|done|rfl))) (by (first|rfl|(simp only [rnM,List.map_cons,List.map_nil,Option.map_some,Option.map_none,rnB_nil (Rw_blk _ _),rnB_nil (Cl_blk _ _)];first|done|rfl))) rfl
theorem cc_O {B c t q:Nat} {A L:List Rw} {la ll:Nat} (hla:la=A.length) (hll:ll=L.length) (h0:0 < A.length) (hn:A.length+L.length≤10000) (ht:t < c) (hq:q < c) (hne01:t≠q):CallDoes Try.prog B 38 [.s (.sl t 0 2 none 1)] [(t,some ⟨[.sl q 0 la none 3,.slv ll none 3 (flat Rw.cv L)],true⟩),(q,some ⟨flat Rw.cv A,true⟩)] c (.s (.sl c 0 (A.length+L.length) none 3)) ([(c,some ⟨flat Rw.cv (A++L),true⟩),(t,some ⟨[.sl q 0 la none 3,.slv ll none 3 (flat Rw.cv L)],true⟩),(q,some ⟨flat Rw.cv A,true⟩)]++[(t,some ⟨[.sl q 0 la none 3,.slv ll none 3 (flat Rw.cv L)],true⟩),(q,some ⟨flat Rw.cv A,true⟩)]) (c+1):=by
 subst hla;subst hll
 exact call_gen (args0:=[.s (.sl 0 0 2 none 1)]) (m0:=[(0,some ⟨[.sl 1 0 A.length none 3,.slv L.length none 3 (flat Rw.cv L)],true⟩),(1,some ⟨flat Rw.cv A,true⟩)]) (D:=[(4,some ⟨flat Rw.cv (A++L),true⟩),(0,some ⟨[.sl 1 0 A.length none 3,.slv L.length none 3 (flat Rw.cv L)],true⟩),(1,some ⟨flat Rw.cv A,true⟩)]) (v0:=.s (.sl 4 0 (A.length+L.length) none 3)) (c':=c+1) Try.func38 (by kernel_rfl) (by kernel_rfl) (k:=36) (by kernel_rfl) (ccO_1 A L h0 hn) (.inr rfl) (by kernel_rfl) (fun j=>if j=0 then t else if j=1 then q else c) [0,1,4] ⟨by first|(simp;done)|(simp;omega),by first|(simp;done)|(simp;omega),by first|(simp;done)|(simp;omega),by omega⟩
  (hD_of (fun x hx=>by simp only [List.mem_cons,List.not_mem_nil,or_false] at hx;rcases hx with rfl|rfl|rfl<;>first|exact .inl rfl|exact .inr rfl)) (by simp) (fun x hx=>by simp only [List.mem_cons,List.not_mem_nil,or_false] at hx;rcases hx with rfl|rfl|rfl<;>first|exact .inl ⟨_,rfl⟩|exact .inr ⟨of_decide_eq_true rfl,of_decide_eq_true rfl⟩) (by simp) (by simp [avNames,svNames]) (fun x hx=>by simp only [List.mem_cons,List.not_mem_nil,or_false] at hx;rcases hx with rfl|rfl<;>exact ⟨⟨by simp,of_decide_eq_true rfl⟩,fun b hb=>by (first|(cases hb;done)|(obtain rfl:=Option.some.inj hb;first|(simp [blkN,svNames];done)|(simp only [Rw_blk];simp;done)|(simp only [Cl_blk];simp;done)|(simp [blkN,svNames,List.flatMap];done)))⟩) (fun x hx=>by simp only [List.mem_cons,List.not_mem_nil,or_false] at hx;rcases hx with rfl|rfl|rfl<;>exact fun b hb=>by (first|(cases hb;done)|(obtain rfl:=Option.some.inj hb;first|(simp [blkN,svNames];done)|(simp only [Rw_blk];simp;done)|(simp only [Cl_blk];simp;done)|(simp [blkN,svNames,List.flatMap];done)))) (by simp [avNames,svNames]) rfl (by (first|rfl|(simp only [rnM,List.map_cons,List.map_nil,Option.map_some,Option.map_none,rnB_nil (Rw_blk _ _),rnB_nil (Cl_blk _ _)];first|done|rfl))) (by (first|rfl|(simp only [rnM,List.map_cons,List.map_nil,Option.map_some,Option.map_none,rnB_nil (Rw_blk _ _),rnB_nil (Cl_blk _ _)];first|done|rfl))) rfl
theorem cr_c {B c t:Nat} {L:List Rw} {len:Nat} (hl:len=L.length) (h0:0 < L.length) (hL:L.length≤1000) (hr:Room2 L) (ht:t < c) :CallDoes Try.prog B 28 [.s (.sl t 0 len none 3)] [(t,some ⟨flat Rw.cv L,true⟩)] c (.s (.sl c 0 len none 3)) ([(c,some ⟨flat Rw.cv L,true⟩),(t,some ⟨flat Rw.cv L,true⟩)]++[(t,some ⟨flat Rw.cv L,true⟩)]) (c+1):=by
 subst hl
 exact call_gen (args0:=[.s (.sl 0 0 L.length none 3)]) (m0:=[(0,some ⟨flat Rw.cv L,true⟩)]) (D:=[(1,some ⟨flat Rw.cv L,true⟩),(0,some ⟨flat Rw.cv L,true⟩)]) (v0:=.s (.sl 1 0 L.length none 3)) (c':=c+1) Try.func28 (by kernel_rfl) (by kernel_rfl) (k:=24) (by kernel_rfl) (crA_1 L h0 hL hr) (.inr rfl) (by kernel_rfl) (fun j=>if j=0 then t else c) [0,1] ⟨by first|(simp;done)|(simp;omega),by first|(simp;done)|(simp;omega),by first|(simp;done)|(simp;omega),by omega⟩
  (hD_of (fun x hx=>by simp only [List.mem_cons,List.not_mem_nil,or_false] at hx;rcases hx with rfl|rfl<;>first|exact .inl rfl|exact .inr rfl)) (by simp) (fun x hx=>by simp only [List.mem_cons,List.not_mem_nil,or_false] at hx;rcases hx with rfl|rfl<;>first|exact .inl ⟨_,rfl⟩|exact .inr ⟨of_decide_eq_true rfl,of_decide_eq_true rfl⟩) (by simp) (by simp [avNames,svNames]) (fun x hx=>by simp only [List.mem_cons,List.not_mem_nil,or_false] at hx;rcases hx with rfl<;>exact ⟨⟨by simp,of_decide_eq_true rfl⟩,fun b hb=>by (first|(cases hb;done)|(obtain rfl:=Option.some.inj hb;first|(simp [blkN,svNames];done)|(simp only [Rw_blk];simp;done)|(simp only [Cl_blk];simp;done)|(simp [blkN,svNames,List.flatMap];done)))⟩) (fun x hx=>by simp only [List.mem_cons,List.not_mem_nil,or_false] at hx;rcases hx with rfl|rfl<;>exact fun b hb=>by (first|(cases hb;done)|(obtain rfl:=Option.some.inj hb;first|(simp [blkN,svNames];done)|(simp only [Rw_blk];simp;done)|(simp only [Cl_blk];simp;done)|(simp [blkN,svNames,List.flatMap];done)))) (by simp [avNames,svNames]) rfl (by (first|rfl|(simp only [rnM,List.map_cons,List.map_nil,Option.map_some,Option.map_none,rnB_nil (Rw_blk _ _),rnB_nil (Cl_blk _ _)];first|done|rfl))) (by (first|rfl|(simp only [rnM,List.map_cons,List.map_nil,Option.map_some,Option.map_none,rnB_nil (Rw_blk _ _),rnB_nil (Cl_blk _ _)];first|done|rfl))) rfl
theorem cq_c {B c len:Nat} {L:List Rw} (hl:len=L.length) (h0:0 < L.length) (hL:L.length≤1000) (hr:Room2 L):CallDoes Try.prog B 28 [.s (.slv len none 3 (flat Rw.cv L))] [] c (.s (.sl c 0 len none 3)) ([(c,some ⟨flat Rw.cv L,true⟩)]++[]) (c+1):=by
 subst hl
 exact (NewDoes.of_code Try.func28 (by kernel_rfl) (by kernel_rfl) (k:=24) (by kernel_rfl) (fun B=>⟨_,_,0,.inr rfl,cqA_1 L h0 hL hr,by kernel_rfl,rfl,by show 0 < 1;decide⟩) (Rw_blk _ _) (List.all_eq_true.1 (by kernel_rfl)):NewDoes Try.prog 28 [.s (.slv L.length none 3 (flat Rw.cv L))] L.length 3 (flat Rw.cv L)) B c
attribute [local irreducible] Eng.evAppend Eng.evSlice Eng.less CallDoes Eng.loadG Eng.evIndexAddr Eng.evBin
attribute [local irreducible] ValDoes
theorem soB_1 {B:Nat} (L M:List Rw) (h0:0 < L.length) (hL:L.length≤20) (hr:Room2 L) (hM:isort0 L=M) :CodeDoes Try.prog B (Try.f10.body.getD .skip) ⟨⟨9,[(0,.s (.slv L.length none 3 (flat Rw.cv L)))]⟩,[],0⟩ Ex.ret ⟨⟨9,[(2,AV.s (SV.sl 0 0 (List.length L) none 3))]⟩,[(0,some (Blk.mk (flat Rw.cv M) true))],1⟩ :=
 goA_ok mix (tape:=[(2,Ans.call [] (AV.s (SV.sl 0 0 (List.length L) none 3)) [(0,sB_ (flat Rw.cv L))] 1),(5,Ans.call [0] (AV.tup []) [(0,sB_ (flat Rw.cv M))] 1)]) (dl:=[2]) (nl:=[0]) (C:=[(CD B 29 [AV.s (SV.sl 0 0 (List.length L) none 3),AV.s (SV.fn 30 [])] [(0,sB_ (flat Rw.cv L))] 1 (AV.tup []) ([(0,sB_ (flat Rw.cv M))]++[(0,sB_ (flat Rw.cv L))]) 1),(CD B 28 [AV.s (vL Rw.cv 3 L)] [] 0 (AV.s (SV.sl 0 0 (List.length L) none 3)) ([(0,sB_ (flat Rw.cv L))]++[]) 1)]) (by kernel_rfl) ⟨by (apply ss_c<;>first|exact hM|assumption|rfl|omega),by (apply cq_c<;>first|exact hr|assumption|rfl|omega),trivial⟩
theorem so_new (L M:List Rw) (h0:0 < L.length) (hL:L.length≤20) (hr:Room2 L) (hM:isort0 L=M):NewDoes Try.prog 10 [.s (.slv L.length none 3 (flat Rw.cv L))] L.length 3 (flat Rw.cv M) :=
 NewDoes.of_code Try.func10 (by kernel_rfl) (by kernel_rfl) (k:=9) (by kernel_rfl) (fun B=>⟨_,_,0,.inr rfl,soB_1 L M h0 hL hr hM,by kernel_rfl,rfl,by show 0 < 1;decide⟩) (Rw_blk _ _) (List.all_eq_true.1 (by kernel_rfl))
theorem so_thaw {B c n len:Nat} {L M:List Rw} (hM:isort0 L=M) (hr:Room2 L) (hl:len=L.length) (h0:0 < len) (hL:len≤20):CallDoes Try.prog B 10 [.s (.sl n 0 len none 3)] [(n,some ⟨flat Rw.cv L,true⟩)] c (.s (.sl c 0 len none 3)) (([(c,some ⟨flat Rw.cv M,true⟩)]++[(n,none)])++[(n,some ⟨flat Rw.cv L,true⟩)]) (c+1):=by
 subst hl
 exact (so_new L M h0 hL hr hM B c).thaw (n:=n) (cells:=flat Rw.cv L) (Rw_flat L) (.cons (.s (.sl (subRw L))) .nil) (fun b hb=>by cases hb)
theorem adFT_1 {B:Nat} (A L M:List Rw) (h0:0 < L.length) (hn:A.length+L.length≤20) (hr:Room2 (A++L)) (hM:isort0 (A++L)=M) (hml:A.length+L.length=M.length) (hcon:ValDoes Try.prog 36 [.s (.slv L.length none 3 (flat Rw.cv L)),.s (.fn 37 [])] (.s (.bool false))) (hri:risesB M=true) :CodeDoes Try.prog B (Try.f17.body.getD .skip) ⟨⟨23,[(0,.s (.ptr 0 0)),(1,.s (.slv L.length none 3 (flat Rw.cv L)))]⟩,[(0,some ⟨[.slv A.length none 3 (flat Rw.cv A)],true⟩)],1⟩ Ex.ret ⟨⟨23,[(4,AV.s (sI 0))]⟩,[(0,some (Blk.mk [SV.sl 3 0 (List.length A+List.length L) none 3] true)),(1,some (Blk.mk [SV.slv (List.length A) none 3 (flat Rw.cv A),SV.slv (List.length L) none 3 (flat Rw.cv L)] true)),(3,some (Blk.mk (flat Rw.cv M) true))],4⟩ :=
 goA_ok mix (tape:=[(2,aC (AV.s (SV.bool false)) 1),(9,Ans.call [1] (AV.s (SV.sl 2 0 (List.length A+List.length L) none 3)) [(2,sB_ (flat Rw.cv (A++L))),(1,sB_ [vL Rw.cv 3 A,vL Rw.cv 3 L])] 3),(10,Ans.call [2] (AV.s (SV.sl 3 0 (List.length A+List.length L) none 3)) [(3,sB_ (flat Rw.cv M)),(2,none)] 4),(13,Ans.call [3] (AV.s (SV.bool true)) [] 4)]) (dl:=[4]) (nl:=[0,1,3]) (C:=[(CD B 39 [AV.s (SV.sl 3 0 (List.length A+List.length L) none 3)] [(3,sB_ (flat Rw.cv M))] 4 (AV.s (SV.bool true)) ([]++[(3,sB_ (flat Rw.cv M))]) 4),(CD B 10 [AV.s (SV.sl 2 0 (List.length A+List.length L) none 3)] [(2,sB_ (flat Rw.cv (A++L)))] 3 (AV.s (SV.sl 3 0 (List.length A+List.length L) none 3)) ([(3,sB_ (flat Rw.cv M)),(2,none)]++[(2,sB_ (flat Rw.cv (A++L)))]) 4),(CD B 38 [AV.s (SV.sl 1 0 2 none 1)] [(1,sB_ [vL Rw.cv 3 A,vL Rw.cv 3 L])] 2 (AV.s (SV.sl 2 0 (List.length A+List.length L) none 3)) ([(2,sB_ (flat Rw.cv (A++L))),(1,sB_ [vL Rw.cv 3 A,vL Rw.cv 3 L])]++[(1,sB_ [vL Rw.cv 3 A,vL Rw.cv 3 L])]) 3),(CD B 36 [AV.s (vL Rw.cv 3 L),AV.s (SV.fn 37 [])] [] 1 (AV.s (SV.bool false)) ([]++[]) 1)]) (by kernel_rfl) ⟨(Eq.mp (congrArg (fun z=>CD B _ _ _ _ (AV.s (SV.bool z)) _ _) (show (risesB M)=true from by assumption)) (show CD B 39 [AV.s (SV.sl 3 0 (List.length A+List.length L) none 3)] [(3,sB_ (flat Rw.cv M))] 4 (AV.s (SV.bool (risesB M))) ([]++[(3,sB_ (flat Rw.cv M))]) 4 from by (apply rises_own<;>first|exact hml|omega))),by (apply so_thaw<;>first|exact hr|exact hM|assumption|omega|(simp;done)),by (apply cc_F<;>first|rfl|omega),by (apply v2_c<;>first|exact hcon),trivial⟩
theorem adOT_1 {B:Nat} (A L M:List Rw) (h0:0 < L.length) (hn:A.length+L.length≤20) (hr:Room2 (A++L)) (hM:isort0 (A++L)=M) (hml:A.length+L.length=M.length) (ha:0 < A.length) (hcon:ValDoes Try.prog 36 [.s (.slv L.length none 3 (flat Rw.cv L)),.s (.fn 37 [])] (.s (.bool false))) (hri:risesB M=true) :CodeDoes Try.prog B (Try.f17.body.getD .skip) ⟨⟨23,[(0,.s (.ptr 0 0)),(1,.s (.slv L.length none 3 (flat Rw.cv L)))]⟩,[(0,some ⟨[.sl 1 0 A.length none 3],true⟩),(1,some ⟨flat Rw.cv A,true⟩)],2⟩ Ex.ret ⟨⟨23,[(4,AV.s (sI 0))]⟩,[(0,some (Blk.mk [SV.sl 4 0 (List.length A+List.length L) none 3] true)),(1,some (Blk.mk (flat Rw.cv A) true)),(2,some (Blk.mk [SV.sl 1 0 (List.length A) none 3,SV.slv (List.length L) none 3 (flat Rw.cv L)] true)),(4,some (Blk.mk (flat Rw.cv M) true))],5⟩ :=
 goA_ok mix (tape:=[(2,aC (AV.s (SV.bool false)) 2),(9,Ans.call [2,1] (AV.s (SV.sl 3 0 (List.length A+List.length L) none 3)) [(3,sB_ (flat Rw.cv (A++L))),(2,sB_ [SV.sl 1 0 (List.length A) none 3,vL Rw.cv 3 L]),(1,sB_ (flat Rw.cv A))] 4),(10,Ans.call [3] (AV.s (SV.sl 4 0 (List.length A+List.length L) none 3)) [(4,sB_ (flat Rw.cv M)),(3,none)] 5),(13,Ans.call [4] (AV.s (SV.bool true)) [] 5)]) (dl:=[4]) (nl:=[0,1,2,4]) (C:=[(CD B 39 [AV.s (SV.sl 4 0 (List.length A+List.length L) none 3)] [(4,sB_ (flat Rw.cv M))] 5 (AV.s (SV.bool true)) ([]++[(4,sB_ (flat Rw.cv M))]) 5),(CD B 10 [AV.s (SV.sl 3 0 (List.length A+List.length L) none 3)] [(3,sB_ (flat Rw.cv (A++L)))] 4 (AV.s (SV.sl 4 0 (List.length A+List.length L) none 3)) ([(4,sB_ (flat Rw.cv M)),(3,none)]++[(3,sB_ (flat Rw.cv (A++L)))]) 5),(CD B 38 [AV.s (SV.sl 2 0 2 none 1)] [(2,sB_ [SV.sl 1 0 (List.length A) none 3,vL Rw.cv 3 L]),(1,sB_ (flat Rw.cv A))] 3 (AV.s (SV.sl 3 0 (List.length A+List.length L) none 3)) ([(3,sB_ (flat Rw.cv (A++L))),(2,sB_ [SV.sl 1 0 (List.length A) none 3,vL Rw.cv 3 L]),(1,sB_ (flat Rw.cv A))]++[(2,sB_ [SV.sl 1 0 (List.length A) none 3,vL Rw.cv 3 L]),(1,sB_ (flat Rw.cv A))]) 4),(CD B 36 [AV.s (vL Rw.cv 3 L),AV.s (SV.fn 37 [])] [] 2 (AV.s (SV.bool false)) ([]++[]) 2)]) (by kernel_rfl) ⟨(Eq.mp (congrArg (fun z=>CD B _ _ _ _ (AV.s (SV.bool z)) _ _) (show (risesB M)=true from by assumption)) (show CD B 39 [AV.s (SV.sl 4 0 (List.length A+List.length L) none 3)] [(4,sB_ (flat Rw.cv M))] 5 (AV.s (SV.bool (risesB M))) ([]++[(4,sB_ (flat Rw.cv M))]) 5 from by (apply rises_own<;>first|exact hml|omega))),by (apply so_thaw<;>first|exact hr|exact hM|assumption|omega|(simp;done)),by (apply cc_O<;>first|assumption|rfl|omega),by (apply v2_c<;>first|exact hcon),trivial⟩
end Go.Proofs.Ytaelliigpclipaa.V
namespace Go.Proofs.Ytaelliigpclipaa.V
open Go Go.RowKit Go.Proofs Go.Proofs.Ytaelliigpclipaa.Eng Go.Proofs.Ytaelliigpclipaa.VPl
set_option maxRecDepth 100000
set_option linter.unusedVariables false
set_option linter.unusedSimpArgs false
@[irreducible] def sameC (x y:Cl):Bool:=allB [(x.col.data.toList == y.col.data.toList),(x.kind == y.kind),(x.n == y.n),(x.s.data.toList == y.s.data.toList)]
theorem neClG {x y:Cl} {b:Bool} (h:sameC x y=b):Option.map AV.s (evBin Try.prog .neq 28 (.agg [.str x.col,sI x.kind,sI x.n,.str x.s]) (.agg [.str y.col,sI y.kind,sI y.n,.str y.s]))=some (.s (.bool (!b))):=by
 subst h;unfold sameC;exact neCl
attribute [local irreducible] Eng.evAppend Eng.evSlice Eng.less CallDoes Eng.loadG Eng.evIndexAddr Eng.evBin
theorem csT_1 {B:Nat} (L M:List Cl) (k:Nat) (hl:L.length=M.length) (hL:L.length≤140737488351232) (hk:k < L.length) (hc:sameC (L.getD k Cl0) (M.getD k Cl0)=true) :CodeDoes Try.prog B (Lf (Lf (Rt (Lf (Rt (Rt (Try.f31.body.getD .skip))))))) ⟨⟨26,[(0,.s (.slv L.length none 4 (flat Cl.cv L))),(1,.s (.slv M.length none 4 (flat Cl.cv M))),(5,.s (sI (k:Int)))]⟩,[],0⟩ Ex.normal ⟨⟨26,[(0,AV.s (SV.slv (List.length L) none 4 (flat Cl.cv L))),(1,AV.s (SV.slv (List.length M) none 4 (flat Cl.cv M))),(5,AV.s (sI ((↑k:Int)+1)))]⟩,[],0⟩ :=
 goA_ok mix (tape:=[(3,aT),(6,Ans.val (AV.s (SV.ptv (Cl.cv (List.getD L k Cl0))))),(10,Ans.val (AV.s (SV.ptv (Cl.cv (List.getD M k Cl0))))),(12,Ans.val (AV.s (SV.bool !true))),(14,Ans.val (AV.s (sI ((↑k:Int)+1))))]) (dl:=[0,1,5]) (nl:=[]) (C:=[(some (AV.s (sI (wI ((↑k:Int)+1))))=some (AV.s (sI ((↑k:Int)+1)))),((Option.map AV.s (evBin Try.prog BinOp.neq 28 (AV.agg [SV.str (Cl.col (List.getD L k Cl0)),sI (Cl.kind (List.getD L k Cl0)),sI (Cl.n (List.getD L k Cl0)),SV.str (Cl.s (List.getD L k Cl0))]) (AV.agg [SV.str (Cl.col (List.getD M k Cl0)),sI (Cl.kind (List.getD M k Cl0)),sI (Cl.n (List.getD M k Cl0)),SV.str (Cl.s (List.getD M k Cl0))])))=some (AV.s (SV.bool !true))),((evIndexAddr Try.prog 23 (AV.s (vL Cl.cv 4 M)) (AV.s (sI (↑k:Int))))=some (AV.s (SV.ptv (Cl.cv (List.getD M k Cl0))))),((evIndexAddr Try.prog 23 (AV.s (vL Cl.cv 4 L)) (AV.s (sI (↑k:Int))))=some (AV.s (SV.ptv (Cl.cv (List.getD L k Cl0))))),(IsT (decide ((↑k:Int) < (↑(List.length L):Int))))]) (by kernel_rfl) ⟨claim_i (by exact wrap_i64 (by omega) (by omega)),by (apply neClG<;>first|exact hc),by (apply ixCl<;>first|rfl|omega),by (apply ixCl<;>first|assumption|rfl),cTa,trivial⟩
theorem csF_1 {B:Nat} (L M:List Cl) (k:Nat) (hl:L.length=M.length) (hL:L.length≤140737488351232) (hk:k < L.length) (hc:sameC (L.getD k Cl0) (M.getD k Cl0)=false) :CodeDoes Try.prog B (Lf (Lf (Rt (Lf (Rt (Rt (Try.f31.body.getD .skip))))))) ⟨⟨26,[(0,.s (.slv L.length none 4 (flat Cl.cv L))),(1,.s (.slv M.length none 4 (flat Cl.cv M))),(5,.s (sI (k:Int)))]⟩,[],0⟩ Ex.ret ⟨⟨26,[(4,AV.s (SV.bool false))]⟩,[],0⟩ :=
 goA_ok mix (tape:=[(3,aT),(6,Ans.val (AV.s (SV.ptv (Cl.cv (List.getD L k Cl0))))),(10,Ans.val (AV.s (SV.ptv (Cl.cv (List.getD M k Cl0))))),(12,Ans.val (AV.s (SV.bool !false)))]) (dl:=[4]) (nl:=[]) (C:=[((Option.map AV.s (evBin Try.prog BinOp.neq 28 (AV.agg [SV.str (Cl.col (List.getD L k Cl0)),sI (Cl.kind (List.getD L k Cl0)),sI (Cl.n (List.getD L k Cl0)),SV.str (Cl.s (List.getD L k Cl0))]) (AV.agg [SV.str (Cl.col (List.getD M k Cl0)),sI (Cl.kind (List.getD M k Cl0)),sI (Cl.n (List.getD M k Cl0)),SV.str (Cl.s (List.getD M k Cl0))])))=some (AV.s (SV.bool !false))),((evIndexAddr Try.prog 23 (AV.s (vL Cl.cv 4 M)) (AV.s (sI (↑k:Int))))=some (AV.s (SV.ptv (Cl.cv (List.getD M k Cl0))))),((evIndexAddr Try.prog 23 (AV.s (vL Cl.cv 4 L)) (AV.s (sI (↑k:Int))))=some (AV.s (SV.ptv (Cl.cv (List.getD L k Cl0))))),(IsT (decide ((↑k:Int) < (↑(List.length L):Int))))]) (by kernel_rfl) ⟨by (apply neClG<;>first|exact hc),by (apply ixCl<;>first|rfl|omega),by (apply ixCl<;>first|assumption|rfl),cTa,trivial⟩
theorem csE_1 {B:Nat} (L M:List Cl) (k:Nat) (hk:¬ k < L.length) :CodeDoes Try.prog B (Lf (Lf (Rt (Lf (Rt (Rt (Try.f31.body.getD .skip))))))) ⟨⟨26,[(0,.s (.slv L.length none 4 (flat Cl.cv L))),(1,.s (.slv M.length none 4 (flat Cl.cv M))),(5,.s (sI (k:Int)))]⟩,[],0⟩ (Ex.exit 0) ⟨⟨26,[(0,AV.s (SV.slv (List.length L) none 4 (flat Cl.cv L))),(1,AV.s (SV.slv (List.length M) none 4 (flat Cl.cv M))),(5,AV.s (sI (↑k:Int)))]⟩,[],0⟩ :=
 goA_ok mix (tape:=[(3,aF)]) (dl:=[0,1,5]) (nl:=[]) (C:=[(IsF (decide ((↑k:Int) < (↑(List.length L):Int))))]) (by kernel_rfl) ⟨cFa,trivial⟩
@[irreducible] def cellsEq (L M:List Cl):Bool:=decide (L.length=M.length)&&(List.range L.length).all (fun k=>sameC (L.getD k Cl0) (M.getD k Cl0))
theorem str_ext {s t:ByteArray} (h:s.data.toList=t.data.toList):s=t:=by
 obtain ⟨⟨l⟩⟩:=s;obtain ⟨⟨m⟩⟩:=t
 simp at h;subst h;rfl
theorem sameC_iff (x y:Cl):sameC x y=true↔x=y:=by
 unfold sameC
 constructor
 ·intro h
  simp [allB] at h
  obtain ⟨c,k,n,s⟩:=x
  obtain ⟨c',k',n',s'⟩:=y
  simp only at h
  obtain ⟨h1,h2,h3,h4⟩:=h
  simp only [Cl.mk.injEq]
  refine ⟨?_,h2,h3,?_⟩<;>(apply str_ext;grind)
 ·rintro rfl;simp [allB]
theorem cellsEq_iff (L M:List Cl):cellsEq L M=true↔L=M:=by
 unfold cellsEq
 simp only [Bool.and_eq_true,decide_eq_true_eq,List.all_eq_true,List.mem_range,sameC_iff]
 constructor
 ·rintro ⟨h1,h2⟩
  refine List.ext_getElem h1 fun i hi hi'=>?_
  have:=h2 i hi
  simpa [hi,hi'] using this
 ·rintro rfl;exact ⟨rfl,fun _ _=>rfl⟩
theorem cs_loopT {B:Nat} {L M:List Cl} (hl:L.length=M.length) (h:cellsEq L M=true) (hL:L.length≤140737488351232):CodeDoes Try.prog B (Lf (Rt (Lf (Rt (Rt (Try.f31.body.getD .skip)))))) ⟨⟨26,[(0,.s (.slv L.length none 4 (flat Cl.cv L))),(1,.s (.slv M.length none 4 (flat Cl.cv M))),(5,.s (sI ((0:Nat):Int)))]⟩,[],0⟩ (.exit 0) ⟨⟨26,[(0,.s (.slv L.length none 4 (flat Cl.cv L))),(1,.s (.slv M.length none 4 (flat Cl.cv M))),(5,.s (sI (L.length:Int)))]⟩,[],0⟩:=by
 refine CodeDoes.loopAt (by kernel_rfl) (LoopDoes.scanAll (fun k=>⟨⟨26,[(0,.s (.slv L.length none 4 (flat Cl.cv L))),(1,.s (.slv M.length none 4 (flat Cl.cv M))),(5,.s (sI (k:Int)))]⟩,[],0⟩) L.length (by simp) (fun k hk=>?_) (csE_1 L M L.length (by omega)))
 exact csT_1 L M k hl hL hk (by
  unfold cellsEq at h
  simp only [Bool.and_eq_true,List.all_eq_true,List.mem_range] at h
  exact h.2 k hk)
theorem cs_loopF {B:Nat} {L M:List Cl} (hl:L.length=M.length) (h:cellsEq L M=false) (hL:L.length≤140737488351232):CodeDoes Try.prog B (Lf (Rt (Lf (Rt (Rt (Try.f31.body.getD .skip)))))) ⟨⟨26,[(0,.s (.slv L.length none 4 (flat Cl.cv L))),(1,.s (.slv M.length none 4 (flat Cl.cv M))),(5,.s (sI ((0:Nat):Int)))]⟩,[],0⟩ .ret ⟨⟨26,[(4,.s (.bool false))]⟩,[],0⟩:=by
 rcases first_bad (fun k=>sameC (L.getD k Cl0) (M.getD k Cl0)) L.length with h3|⟨k,h3,h4,h5⟩
 ·exfalso
  have:cellsEq L M=true:=by
   unfold cellsEq
   simp only [Bool.and_eq_true,List.all_eq_true,List.mem_range,decide_eq_true_eq]
   exact ⟨hl,h3⟩
  rw [this] at h;cases h
 ·exact CodeDoes.loopAt (by kernel_rfl) (LoopDoes.scanHit (fun k=>⟨⟨26,[(0,.s (.slv L.length none 4 (flat Cl.cv L))),(1,.s (.slv M.length none 4 (flat Cl.cv M))),(5,.s (sI (k:Int)))]⟩,[],0⟩) k (by simp) (fun i hi=>csT_1 L M i hl hL (by omega) (h5 i hi)) (csF_1 L M k hl hL h3 h4))
theorem ckN_1 {B:Nat} (L M:List Cl) (hl:¬ L.length=M.length) :CodeDoes Try.prog B (Try.f31.body.getD .skip) ⟨⟨26,[(0,.s (.slv L.length none 4 (flat Cl.cv L))),(1,.s (.slv M.length none 4 (flat Cl.cv M)))]⟩,[],0⟩ Ex.ret ⟨⟨26,[(4,AV.s (SV.bool false))]⟩,[],0⟩ :=
 goA_ok mix (tape:=[(5,aT)]) (dl:=[4]) (nl:=[]) (C:=[(IsT ((↑(List.length L):Int) != (↑(List.length M):Int)))]) (by kernel_rfl) ⟨claim_b (bne_iff_ne.2 (by first|assumption|omega)),trivial⟩
theorem ckT_1 {B:Nat} (L M:List Cl) (hl:L.length=M.length) (h:cellsEq L M=true) (hL:L.length≤140737488351232) :CodeDoes Try.prog B (Try.f31.body.getD .skip) ⟨⟨26,[(0,.s (.slv L.length none 4 (flat Cl.cv L))),(1,.s (.slv M.length none 4 (flat Cl.cv M)))]⟩,[],0⟩ Ex.ret ⟨⟨26,[(4,AV.s (SV.bool true))]⟩,[],0⟩ :=
 goA_ok mix (tape:=[(5,aF),(7,Ans.loop [0,1,5] [] (Ex.exit 0) (St.mk (Tm.mk 26 [(0,AV.s (vL Cl.cv 4 L)),(1,AV.s (vL Cl.cv 4 M)),(5,AV.s (sI (↑(List.length L):Int)))]) [] 0))]) (dl:=[4]) (nl:=[]) (C:=[(KD B (Lf (Rt (Lf (Rt (Rt (Try.f31.body.getD .skip)))))) (St.mk (Tm.mk 26 [(0,AV.s (vL Cl.cv 4 L)),(1,AV.s (vL Cl.cv 4 M)),(5,AV.s (sI (↑0:Int)))]) [] 0) (Ex.exit 0) (St.mk (Tm.mk 26 [(0,AV.s (vL Cl.cv 4 L)),(1,AV.s (vL Cl.cv 4 M)),(5,AV.s (sI (↑(List.length L):Int)))]) [] 0)),(IsF ((↑(List.length L):Int) != (↑(List.length M):Int)))]) (by kernel_rfl) ⟨by (apply cs_loopT<;>first|assumption),claim_b (bne_eq_false_iff_eq.2 (by first|assumption|omega)),trivial⟩
theorem ckF_1 {B:Nat} (L M:List Cl) (hl:L.length=M.length) (h:cellsEq L M=false) (hL:L.length≤140737488351232) :CodeDoes Try.prog B (Try.f31.body.getD .skip) ⟨⟨26,[(0,.s (.slv L.length none 4 (flat Cl.cv L))),(1,.s (.slv M.length none 4 (flat Cl.cv M)))]⟩,[],0⟩ Ex.ret ⟨⟨26,[(4,AV.s (SV.bool false))]⟩,[],0⟩ :=
 goA_ok mix (tape:=[(5,aF),(7,Ans.loop [0,1,5] [] (Ex.ret) (St.mk (Tm.mk 26 [(4,AV.s (SV.bool false))]) [] 0))]) (dl:=[4]) (nl:=[]) (C:=[(KD B (Lf (Rt (Lf (Rt (Rt (Try.f31.body.getD .skip)))))) (St.mk (Tm.mk 26 [(0,AV.s (vL Cl.cv 4 L)),(1,AV.s (vL Cl.cv 4 M)),(5,AV.s (sI (↑0:Int)))]) [] 0) (Ex.ret) (St.mk (Tm.mk 26 [(4,AV.s (SV.bool false))]) [] 0)),(IsF ((↑(List.length L):Int) != (↑(List.length M):Int)))]) (by kernel_rfl) ⟨by (apply cs_loopF<;>first|assumption),claim_b (bne_eq_false_iff_eq.2 (by first|assumption|omega)),trivial⟩
theorem ck_does (L M:List Cl) (hL:L.length≤140737488351232):ValDoes Try.prog 31 [.s (.slv L.length none 4 (flat Cl.cv L)),.s (.slv M.length none 4 (flat Cl.cv M))] (.s (.bool (cellsEq L M))):=by
 by_cases hl:L.length=M.length
 ·cases h:cellsEq L M with
  | true=>exact ValDoes.of_code Try.func31 (by kernel_rfl) (by kernel_rfl) (k:=26) (by kernel_rfl) (fun B=>⟨_,_,.inr rfl,ckT_1 L M hl h hL,by kernel_rfl⟩) (by kernel_rfl) (List.all_eq_true.1 (by kernel_rfl))
  | false=>exact ValDoes.of_code Try.func31 (by kernel_rfl) (by kernel_rfl) (k:=26) (by kernel_rfl) (fun B=>⟨_,_,.inr rfl,ckF_1 L M hl h hL,by kernel_rfl⟩) (by kernel_rfl) (List.all_eq_true.1 (by kernel_rfl))
 ·have h:cellsEq L M=false:=by unfold cellsEq;simp [hl]
  rw [h]
  exact ValDoes.of_code Try.func31 (by kernel_rfl) (by kernel_rfl) (k:=26) (by kernel_rfl) (fun B=>⟨_,_,.inr rfl,ckN_1 L M hl,by kernel_rfl⟩) (by kernel_rfl) (List.all_eq_true.1 (by kernel_rfl))
theorem ck_c {B c:Nat} {L M:List Cl} {b:Bool} {l m:Nat} (hb:cellsEq L M=b) (hl:l=L.length) (hm:m=M.length) (hL:L.length≤140737488351232):CallDoes Try.prog B 31 [.s (.slv l none 4 (flat Cl.cv L)),.s (.slv m none 4 (flat Cl.cv M))] [] c (.s (.bool b)) ([]++[]) c:=by
 subst hb;subst hl;subst hm;exact ck_does L M hL B c
theorem kr_1 {B:Nat} (t q u p:Int) (L M:List Cl) (b:Bool) (hb:cellsEq L M=b) (hL:L.length≤140737488351232) (h_1:t=u) (h_2:q=p):CodeDoes Try.prog B (Try.f11.body.getD .skip) ⟨⟨24,[(0,.agg [sI t,sI q,.slv L.length none 4 (flat Cl.cv L)]),(1,.agg [sI u,sI p,.slv M.length none 4 (flat Cl.cv M)])]⟩,[],0⟩ Ex.ret ⟨⟨24,[(4,AV.s (SV.bool b))]⟩,[],2⟩ :=
 goA_ok mix (tape:=[(7,aT),(13,aT),(20,aC (AV.s (SV.bool b)) 2)]) (dl:=[4]) (nl:=[]) (C:=[(CD B 31 [AV.s (vL Cl.cv 4 L),AV.s (vL Cl.cv 4 M)] [] 2 (AV.s (SV.bool b)) ([]++[]) 2),(IsT (q == p)),(IsT (t == u))]) (by kernel_rfl) ⟨by (apply ck_c<;>first|exact hb|assumption|with_reducible rfl),cTa,cTa,trivial⟩
theorem kr_2 {B:Nat} (t q u p:Int) (L M:List Cl) (b:Bool) (hb:cellsEq L M=b) (hL:L.length≤140737488351232) (h_1:t=u) (h_2:¬ (q=p)):CodeDoes Try.prog B (Try.f11.body.getD .skip) ⟨⟨24,[(0,.agg [sI t,sI q,.slv L.length none 4 (flat Cl.cv L)]),(1,.agg [sI u,sI p,.slv M.length none 4 (flat Cl.cv M)])]⟩,[],0⟩ Ex.ret ⟨⟨24,[(4,AV.s (SV.bool false))]⟩,[],2⟩ :=
 goA_ok mix (tape:=[(7,aT),(13,aF)]) (dl:=[4]) (nl:=[]) (C:=[(IsF (q == p)),(IsT (t == u))]) (by kernel_rfl) ⟨cFa,cTa,trivial⟩
theorem kr_3 {B:Nat} (t q u p:Int) (L M:List Cl) (b:Bool) (hb:cellsEq L M=b) (hL:L.length≤140737488351232) (h_1:¬ (t=u)):CodeDoes Try.prog B (Try.f11.body.getD .skip) ⟨⟨24,[(0,.agg [sI t,sI q,.slv L.length none 4 (flat Cl.cv L)]),(1,.agg [sI u,sI p,.slv M.length none 4 (flat Cl.cv M)])]⟩,[],0⟩ Ex.ret ⟨⟨24,[(4,AV.s (SV.bool false))]⟩,[],2⟩ :=
 goA_ok mix (tape:=[(7,aF)]) (dl:=[4]) (nl:=[]) (C:=[(IsF (t == u))]) (by kernel_rfl) ⟨cFa,trivial⟩
def rowEq (r s:Rw):Bool:=decide (r.time=s.time)&&(decide (r.seq=s.seq)&&cellsEq r.cells s.cells)
theorem rowEq_iff (r s:Rw):rowEq r s=true↔r=s:=by
 unfold rowEq
 simp only [Bool.and_eq_true,decide_eq_true_eq,cellsEq_iff]
 obtain ⟨t,q,L⟩:=r
 obtain ⟨u,p,M⟩:=s
 simp
theorem kr_c {B c l m:Nat} {t q u p:Int} {L M:List Cl} {b:Bool} (hb:rowEq ⟨t,q,L⟩ ⟨u,p,M⟩=b) (hl:l=L.length) (hm:m=M.length) (hL:L.length≤140737488351232):CallDoes Try.prog B 11 [.agg [sI t,sI q,.slv l none 4 (flat Cl.cv L)],.agg [sI u,sI p,.slv m none 4 (flat Cl.cv M)]] [] c (.s (.bool b)) ([]++[]) c:=by
 subst hl;subst hm
 have key:ValDoes Try.prog 11 [.agg [sI t,sI q,.slv L.length none 4 (flat Cl.cv L)],.agg [sI u,sI p,.slv M.length none 4 (flat Cl.cv M)]] (.s (.bool b)):=by
  unfold rowEq at hb
  simp only at hb
  by_cases h1:t=u
  ·by_cases h2:q=p
   ·simp only [h1,h2,decide_true,Bool.true_and] at hb
    exact ValDoes.of_code Try.func11 (by kernel_rfl) (by kernel_rfl) (k:=24) (by kernel_rfl) (fun B=>⟨_,_,.inr rfl,kr_1 t q u p L M b hb hL h1 h2,by kernel_rfl⟩) (by kernel_rfl) (List.all_eq_true.1 (by kernel_rfl))
   ·simp only [h2,decide_false,Bool.false_and,Bool.and_false] at hb
    subst hb
    exact ValDoes.of_code Try.func11 (by kernel_rfl) (by kernel_rfl) (k:=24) (by kernel_rfl) (fun B=>⟨_,_,.inr rfl,kr_2 t q u p L M _ rfl hL h1 h2,by kernel_rfl⟩) (by kernel_rfl) (List.all_eq_true.1 (by kernel_rfl))
  ·simp only [h1,decide_false,Bool.false_and] at hb
   subst hb
   exact ValDoes.of_code Try.func11 (by kernel_rfl) (by kernel_rfl) (k:=24) (by kernel_rfl) (fun B=>⟨_,_,.inr rfl,kr_3 t q u p L M _ rfl hL h1,by kernel_rfl⟩) (by kernel_rfl) (List.all_eq_true.1 (by kernel_rfl))
 exact key B c
end Go.Proofs.Ytaelliigpclipaa.V
namespace Go.Proofs.Ytaelliigpclipaa.V
open Go Go.RowKit Go.Proofs Go.Proofs.Ytaelliigpclipaa.Eng Go.Proofs.Ytaelliigpclipaa.VPl
set_option maxRecDepth 100000
set_option linter.unusedVariables false
set_option linter.unusedSimpArgs false
theorem row_c {B c:Nat} {x y:List SV} {b:Bool} (h:ValDoes Try.prog 11 [.agg x,.agg y] (.s (.bool b))):CallDoes Try.prog B 11 [.agg x,.agg y] [] c (.s (.bool b)) ([]++[]) c:=h B c
attribute [local irreducible] Eng.evAppend Eng.evSlice Eng.less CallDoes Eng.loadG Eng.evIndexAddr Eng.evBin
theorem num_1 {B:Nat} (a:ByteArray) (n:Int) :CodeDoes Try.prog B (Try.f9.body.getD .skip) ⟨⟨8,[(0,.s (.str a)),(1,.s (sI n))]⟩,[],0⟩ Ex.ret ⟨⟨8,[(4,AV.s (SV.ptr 0 0))]⟩,[(0,some (Blk.mk [SV.str a,sI 1,sI n,SV.str (ByteArray.mk #[])] true))],1⟩ :=
 goA_ok mix (tape:=[]) (dl:=[4]) (nl:=[0]) (C:=[]) (by kernel_rfl) trivial
theorem num_does (a:ByteArray) (n:Int):ValDoes Try.prog 9 [.s (.str a),.s (sI n)] (.agg [.str a,sI 1,sI n,.str ⟨#[]⟩]):=by
 exact ValDoes.of_code Try.func9 (by kernel_rfl) (by kernel_rfl) (k:=8) (by kernel_rfl) (fun B=>⟨_,_,.inr rfl,num_1 a n,Eq.trans (b:=some (AV.agg [SV.str a,sI 1,sI n,SV.str (ByteArray.mk #[])])) (by kernel_rfl) (congrArg some (show (AV.agg [SV.str a,sI 1,sI n,SV.str (ByteArray.mk #[])])=(.agg [.str a,sI 1,sI n,.str ⟨#[]⟩]) by rfl))⟩) (by kernel_rfl) (List.all_eq_true.1 (by kernel_rfl))
theorem num_call {B cc:Nat} (a:ByteArray) (n:Int):CallDoes Try.prog B 9 [.s (.str a),.s (sI n)] [] cc (.agg [.str a,sI 1,sI n,.str ⟨#[]⟩]) ([]++[]) cc:=orVal (num_does a n)
theorem rwS_1 {B:Nat} (A:List Rw) (i:Nat) (hi:i < A.length) (hA:A.length≤1000) (hr:ValDoes Try.prog 11 [.agg (A.getD i Rw0).cv,.agg (A.getD i Rw0).cv] (.s (.bool true))) :CodeDoes Try.prog B (Lf (Lf (Rt (Lf (Rt (Rt (Try.f13.body.getD .skip))))))) ⟨⟨27,[(0,.s (.slv A.length none 3 (flat Rw.cv A))),(1,.s (.slv A.length none 3 (flat Rw.cv A))),(5,.s (sI (i:Int)))]⟩,[],0⟩ Ex.normal ⟨⟨27,[(0,AV.s (SV.slv (List.length A) none 3 (flat Rw.cv A))),(1,AV.s (SV.slv (List.length A) none 3 (flat Rw.cv A))),(5,AV.s (sI ((↑i:Int)+1)))]⟩,[],0⟩ :=
 goA_ok mix (tape:=[(3,aT),(6,Ans.val (AV.s (SV.ptv (Rw.cv (List.getD A i Rw0))))),(10,Ans.val (AV.s (SV.ptv (Rw.cv (List.getD A i Rw0))))),(12,aC (AV.s (SV.bool true)) 0),(15,Ans.val (AV.s (sI ((↑i:Int)+1))))]) (dl:=[0,1,5]) (nl:=[]) (C:=[(some (AV.s (sI (wI ((↑i:Int)+1))))=some (AV.s (sI ((↑i:Int)+1)))),(CD B 11 [AV.agg [sI (Rw.time (List.getD A i Rw0)),sI (Rw.seq (List.getD A i Rw0)),vL Cl.cv 4 (Rw.cells (List.getD A i Rw0))],AV.agg [sI (Rw.time (List.getD A i Rw0)),sI (Rw.seq (List.getD A i Rw0)),vL Cl.cv 4 (Rw.cells (List.getD A i Rw0))]] [] 0 (AV.s (SV.bool true)) ([]++[]) 0),((evIndexAddr Try.prog 22 (AV.s (vL Rw.cv 3 A)) (AV.s (sI (↑i:Int))))=some (AV.s (SV.ptv (Rw.cv (List.getD A i Rw0))))),((evIndexAddr Try.prog 22 (AV.s (vL Rw.cv 3 A)) (AV.s (sI (↑i:Int))))=some (AV.s (SV.ptv (Rw.cv (List.getD A i Rw0))))),(IsT (decide ((↑i:Int) < (↑(List.length A):Int))))]) (by kernel_rfl) ⟨claim_i (by exact wrap_i64 (by omega) (by omega)),by (apply row_c<;>first|assumption),by (apply ixRw<;>first|assumption|rfl),by (apply ixRw<;>first|assumption|rfl),cTa,trivial⟩
theorem rwE_1 {B:Nat} (A:List Rw) (i:Nat) (hi:¬ i < A.length) :CodeDoes Try.prog B (Lf (Lf (Rt (Lf (Rt (Rt (Try.f13.body.getD .skip))))))) ⟨⟨27,[(0,.s (.slv A.length none 3 (flat Rw.cv A))),(1,.s (.slv A.length none 3 (flat Rw.cv A))),(5,.s (sI (i:Int)))]⟩,[],0⟩ (Ex.exit 0) ⟨⟨27,[(0,AV.s (SV.slv (List.length A) none 3 (flat Rw.cv A))),(1,AV.s (SV.slv (List.length A) none 3 (flat Rw.cv A))),(5,AV.s (sI (↑i:Int)))]⟩,[],0⟩ :=
 goA_ok mix (tape:=[(3,aF)]) (dl:=[0,1,5]) (nl:=[]) (C:=[(IsF (decide ((↑i:Int) < (↑(List.length A):Int))))]) (by kernel_rfl) ⟨cFa,trivial⟩
def mkR (L:List Rw) (i:Nat):Rw:=⟨(L.getD i Rw0).time.tmod 4,((i:Nat):Int).tmod 2,[⟨⟨#[110]⟩,1,(i:Int),⟨#[]⟩⟩]⟩
@[irreducible] def someL (L:List Rw):List Rw:=(List.range (min L.length 20)).map (mkR L)
theorem kr_same (x:Rw) (hx:x.cells.length≤140737488351232):ValDoes Try.prog 11 [.agg x.cv,.agg x.cv] (.s (.bool true)):=fun B c=>kr_c (b:=true) ((rowEq_iff _ _).2 rfl) rfl rfl hx
theorem rw_loop {B:Nat} {A:List Rw} (hA:A.length≤1000) (hr:∀ x∈A,x.cells.length≤140737488351232):CodeDoes Try.prog B (Lf (Rt (Lf (Rt (Rt (Try.f13.body.getD .skip)))))) ⟨⟨27,[(0,.s (.slv A.length none 3 (flat Rw.cv A))),(1,.s (.slv A.length none 3 (flat Rw.cv A))),(5,.s (sI ((0:Nat):Int)))]⟩,[],0⟩ (.exit 0) ⟨⟨27,[(0,.s (.slv A.length none 3 (flat Rw.cv A))),(1,.s (.slv A.length none 3 (flat Rw.cv A))),(5,.s (sI (A.length:Int)))]⟩,[],0⟩:=by
 refine CodeDoes.loopAt (by kernel_rfl) (LoopDoes.scanAll (fun i=>⟨⟨27,[(0,.s (.slv A.length none 3 (flat Rw.cv A))),(1,.s (.slv A.length none 3 (flat Rw.cv A))),(5,.s (sI (i:Int)))]⟩,[],0⟩) A.length (by simp) (fun i hi=>?_) (rwE_1 A A.length (by omega)))
 have hm:A.getD i Rw0∈A:=by simp [hi]
 exact rwS_1 A i hi hA (kr_same _ (hr _ hm))
theorem rwA_1 {B:Nat} (A:List Rw) (hA:A.length≤1000) (hr:∀ x∈A,x.cells.length≤140737488351232) :CodeDoes Try.prog B (Try.f13.body.getD .skip) ⟨⟨27,[(0,.s (.slv A.length none 3 (flat Rw.cv A))),(1,.s (.slv A.length none 3 (flat Rw.cv A)))]⟩,[],0⟩ Ex.ret ⟨⟨27,[(4,AV.s (SV.bool true))]⟩,[],0⟩ :=
 goA_ok mix (tape:=[(5,aF),(7,Ans.loop [0,1,5] [] (Ex.exit 0) (St.mk (Tm.mk 27 [(0,AV.s (vL Rw.cv 3 A)),(1,AV.s (vL Rw.cv 3 A)),(5,AV.s (sI (↑(List.length A):Int)))]) [] 0))]) (dl:=[4]) (nl:=[]) (C:=[(KD B (Lf (Rt (Lf (Rt (Rt (Try.f13.body.getD .skip)))))) (St.mk (Tm.mk 27 [(0,AV.s (vL Rw.cv 3 A)),(1,AV.s (vL Rw.cv 3 A)),(5,AV.s (sI (↑0:Int)))]) [] 0) (Ex.exit 0) (St.mk (Tm.mk 27 [(0,AV.s (vL Rw.cv 3 A)),(1,AV.s (vL Rw.cv 3 A)),(5,AV.s (sI (↑(List.length A):Int)))]) [] 0)),(IsF ((↑(List.length A):Int) != (↑(List.length A):Int)))]) (by kernel_rfl) ⟨by (apply rw_loop<;>first|exact hr|exact el23|exact el22|exact sz28|exact sz25|exact by28|exact by25|exact zr28|exact zr25|exact ag28|exact ag25|exact un9|assumption|rfl|omega|(unfold maxLen;omega)|decide|(simp;done)|(simp;omega)),claim_b (bne_eq_false_iff_eq.2 (by first|assumption|omega)),trivial⟩
theorem rows_c {B c len:Nat} {A:List Rw} (hl:len=A.length) (hA:A.length≤1000) (hr:∀ x∈A,x.cells.length≤140737488351232):CallDoes Try.prog B 13 [.s (.slv len none 3 (flat Rw.cv A)),.s (.slv len none 3 (flat Rw.cv A))] [] c (.s (.bool true)) ([]++[]) c:=by
 subst hl
 exact (ValDoes.of_code Try.func13 (by kernel_rfl) (by kernel_rfl) (k:=27) (by kernel_rfl) (fun B=>⟨_,_,.inr rfl,rwA_1 A hA hr,by kernel_rfl⟩) (by kernel_rfl) (List.all_eq_true.1 (by kernel_rfl)):ValDoes Try.prog 13 [.s (.slv A.length none 3 (flat Rw.cv A)),.s (.slv A.length none 3 (flat Rw.cv A))] (.s (.bool true))) B c
end Go.Proofs.Ytaelliigpclipaa.V
