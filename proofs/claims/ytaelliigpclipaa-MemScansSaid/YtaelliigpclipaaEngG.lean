/- The reckoner: copies,comparisons,conversions;all that calls nothing. -/
import Derived.Test.YtaelliigpclipaaEngF
namespace Go.Proofs.Ytaelliigpclipaa.Eng
set_option linter.unusedVariables false
set_option linter.unusedSimpArgs false
open Go Go.RowKit
variable {P:Program}
theorem src_take {B:Nat} {ρ:Rho} {M:MemF} {m:Mem} {w:World} {sz k:Nat} {tx:TypeId} {x:AV} {x':Value} {news:List SV} (hev:evSrc P sz tx x m=some (k,news)) (hx:VR ρ x x') (hm:Agree m M) (hs:Sat B ρ M w) :
  (∀ w',(Builtin.lenOf x').run P w'=.ok k w')∧∀ q,q≤k→∃ us,CR ρ (news.take (q*sz)) us∧us.length=q*sz∧(Builtin.firstCells sz q x').run P w=.ok us.toArray w:=by
 have hz0:∀ (a:Option Addr) (l cp:Nat),(Builtin.firstCells sz 0 (.slice a l cp)).run P w=.ok #[] w:=by
  intro a l cp;cases a<;>simp [Builtin.firstCells,loadCells,loadCellsFrom]
 unfold evSrc at hev
 split at hev
 ·obtain rfl:x'=.slice none 0 0:=hx
  cases he:elemOf P tx with
  | none=>simp [he] at hev
  | some e =>
   simp only [he,Option.map_some,Option.some.injEq,Prod.mk.injEq] at hev
   obtain ⟨rfl,rfl⟩:=hev
   refine ⟨fun _=>rfl,fun q hq=>⟨[],by simpa using CR.nil ρ,(by obtain rfl:q=0:=(by omega);simp),?_⟩⟩
   obtain rfl:q=0:=by omega
   exact hz0 _ _ _
 ·obtain ⟨a,cp,rfl,_⟩:=hx
  cases he:elemOf P tx with
  | none=>simp [he] at hev
  | some e =>
   simp only [he,Option.map_some,Option.some.injEq,Prod.mk.injEq] at hev
   obtain ⟨rfl,rfl⟩:=hev
   refine ⟨fun _=>rfl,fun q hq=>⟨[],by simpa using CR.nil ρ,(by obtain rfl:q=0:=(by omega);simp),?_⟩⟩
   obtain rfl:q=0:=by omega
   exact hz0 _ _ _
 ·rename_i n off len cap z
  obtain ⟨l,cp,hl,rfl,_⟩:=hx
  cases he:elemOf P tx with
  | none=>simp [he] at hev
  | some e =>
   cases hg:get m n with
   | none=>simp [he,hg] at hev
   | some b =>
    cases hsb:sub b.cells off (len*sz) with
    | none=>simp [he,hg,hsb] at hev
    | some cs =>
     simp only [he,hg,hsb,Option.bind_eq_bind,Option.bind_some,Option.some.injEq,Prod.mk.injEq] at hev
     obtain ⟨rfl,rfl⟩:=hev
     obtain ⟨hle,rfl⟩:=sub_some hsb
     obtain ⟨cs,hcr,hr⟩:=(hs.here n b (hm n b hg)).range hl
     refine ⟨fun _=>rfl,fun q hq=>?_⟩
     have hqs:q*sz≤len*sz:=Nat.mul_le_mul_right _ hq
     have hcr2:=(hcr.drop off).take (q*sz)
     have hr2:=rangeAt_sub hr off (q*sz)
     have hlen:((cs.drop off).take (q*sz)).length=q*sz:=by rw [← hcr2.1,List.length_take,List.length_drop];omega
     refine ⟨_,?_,hlen,run_firstCells_some w sz q _ len cp _ hlen (fun j u h=>by rw [add_addr];exact hr2 j u h)⟩
     rw [List.take_take,Nat.min_eq_left hqs]
     exact hcr2
 ·rename_i len cap z cs
  have hx:FR ρ.fz (.slv len cap z cs) x':=hx
  cases he:elemOf P tx with
  | none=>simp [he] at hev
  | some e =>
   simp only [he,Option.bind_eq_bind,Option.bind_some] at hev
   split at hev
   ·rename_i hzz
    subst hzz
    simp only [Option.some.injEq,Prod.mk.injEq] at hev
    obtain ⟨rfl,rfl⟩:=hev
    rcases hx with ⟨rfl,rfl,rfl,_⟩|⟨a,cp,rfl,rfl,rfl,_⟩|⟨b,o,cp,rfl,h1,h2,h3,h4,hf⟩
    ·refine ⟨fun _=>rfl,fun q hq=>⟨[],by simpa using CR.nil ρ,(by obtain rfl:q=0:=(by omega);simp),?_⟩⟩
     obtain rfl:q=0:=by omega
     exact hz0 _ _ _
    ·refine ⟨fun _=>rfl,fun q hq=>⟨[],by simpa using CR.nil ρ,(by obtain rfl:q=0:=(by omega);simp),?_⟩⟩
     obtain rfl:q=0:=by omega
     exact hz0 _ _ _
    ·obtain ⟨us,hcr,hr⟩:=FRL.range hs hf
     refine ⟨fun _=>rfl,fun q hq=>?_⟩
     have hqs:q*z≤len*z:=Nat.mul_le_mul_right _ hq
     have hcr2:=hcr.take (q*z)
     have hr2:=rangeAt_sub hr 0 (q*z)
     rw [List.drop_zero] at hr2
     have hlen:(us.take (q*z)).length=q*z:=by rw [← hcr2.1,List.length_take];omega
     exact ⟨_,hcr2,hlen,run_firstCells_some w z q _ len cp _ hlen (fun j u h=>by rw [add_addr];exact hr2 j u h)⟩
   ·cases hev
 ·rename_i s
  obtain rfl:x'=.string s:=hx
  split at hev
  ·rename_i hu
   split at hev
   ·rename_i hz
    subst hz
    simp only [Option.some.injEq,Prod.mk.injEq] at hev
    obtain ⟨rfl,rfl⟩:=hev
    refine ⟨fun _=>rfl,fun q hq=>⟨(byteCells s).take (q*1),(strCells_ok ρ s).take _,by rw [List.length_take,byteCells_length];omega,?_⟩⟩
    simp only [Builtin.firstCells,Sem.run_pure,Nat.mul_one]
    congr 1
    apply Array.ext'
    simp [byteCells,ByteArray.data_extract]
   ·cases hev
  ·cases hev
 ·cases hev
theorem copy_ok {B:Nat} {ρ:Rho} {M:MemF} {m m':Mem} {w:World} {td tx ty:TypeId} {d x v:AV} {d' x':Value} (hev:evCopy P td tx d x m=some (v,m')) (hd:VR ρ d d') (hx:VR ρ x x') (hm:Agree m M) (hs:Sat B ρ M w) :
  ∃ δ v' w',m'=δ++m∧(Builtin.copy_ #[td,tx] ty #[d',x']).run P w=.ok v' w'∧VR ρ v v'∧Sat B ρ (upd δ M) w'∧Below B w w':=by
 unfold evCopy at hev
 cases he:elemOf P td with
 | none=>simp [he] at hev
 | some e =>
  cases hz:tsize P e with
  | none=>simp [he,hz] at hev
  | some sz =>
   cases hsr:evSrc P sz tx x m with
   | none=>simp [he,hz,hsr] at hev
   | some p =>
    obtain ⟨k,news⟩:=p
    simp only [he,hz,hsr,Option.bind_eq_bind,Option.bind_some] at hev
    obtain ⟨hlen,htake⟩:=src_take hsr hx hm hs
    have hu:=elemOf_und he
    have zero:∀ (a:Option Addr) (cp:Nat),(Builtin.copy_ #[td,tx] ty #[.slice a 0 cp,x']).run P w=.ok (.int .i64 0) w:=by
     intro a cp
     obtain ⟨us,_,h2,h3⟩:=htake 0 (Nat.zero_le _)
     have:us=[]:=List.eq_nil_of_length_eq_zero (by simpa using h2)
     subst this
     cases a<;>simp [Builtin.copy_,run_underlying hu,hlen,run_sizeOf hz,h3,storeCells,goInt]
    split at hev
    ·obtain rfl:d'=.slice none 0 0:=hd
     simp only [Option.some.injEq,Prod.mk.injEq] at hev
     obtain ⟨rfl,rfl⟩:=hev
     exact ⟨[],_,w,rfl,zero none 0,rfl,hs,Below.refl _ _⟩
    ·obtain ⟨a,cp,rfl,_⟩:=hd
     simp only [Option.some.injEq,Prod.mk.injEq] at hev
     obtain ⟨rfl,rfl⟩:=hev
     exact ⟨[],_,w,rfl,zero (some a) cp,rfl,hs,Below.refl _ _⟩
    ·rename_i n off len cap sz'
     obtain ⟨l,cp,hl,rfl,hle,hmax,_⟩:=hd
     cases hg:get m n with
     | none=>simp [hg] at hev
     | some b =>
      simp only [hg,Option.bind_some] at hev
      split at hev
      ·rename_i hb
       obtain ⟨ho,hfit,hsz0⟩:=hb
       simp only [Option.some.injEq,Prod.mk.injEq] at hev
       obtain ⟨rfl,rfl⟩:=hev
       obtain ⟨us,h1,h2,h3⟩:=htake (min k len) (Nat.min_le_left _ _)
       obtain ⟨l',a1,a2,a3,a4,a5⟩:=hs.here n b (hm n b hg)
       rw [hl] at a1
       obtain rfl:l=l':=by simpa using a1
       obtain ⟨a6,a7⟩:=a5 ho
       have hrun:=run_storeCells_cells (P:=P) l.b (l.o+off) us 0 w
        (fun j hj=>by have:=(a7 (off+j) (by omega)).1;simpa [Nat.add_assoc] using this)
        (fun j hj=>by have:=(a7 (off+j) (by omega)).2;simpa [Nat.add_assoc] using this) h1.one
       refine ⟨[(n,some { b with cells:=over b.cells off (news.take (min k len*sz)) })],_,_,rfl,?_,rfl,hs.store (hm n b hg) ho hl off h1 (by rw [h1.1,h2];exact hfit),below_setCells _ _ _ a6⟩
       simp only [Nat.add_zero] at hrun
       have hmin:Nat.min k len=min k len:=rfl
       simp [Builtin.copy_,run_underlying hu,hlen,run_sizeOf hz,hmin,h3,hrun,goInt]
      ·cases hev
    ·cases hev
theorem clear_ok {B:Nat} {ρ:Rho} {M:MemF} {m m':Mem} {w:World} {t ty:TypeId} {x:AV} {x':Value} (hev:evClear P t x m=some m') (hx:VR ρ x x') (hm:Agree m M) (hs:Sat B ρ M w) :
  ∃ δ w',m'=δ++m∧(Builtin.clear_ #[t] ty #[x']).run P w=.ok (.tuple #[]) w'∧Sat B ρ (upd δ M) w'∧Below B w w':=by
 unfold evClear at hev
 split at hev
 ·rename_i hu
  obtain rfl:x'=.slice none 0 0:=hx
  obtain rfl:=Option.some.inj hev
  exact ⟨[],w,rfl,by simp [Builtin.clear_,run_underlying hu],hs,Below.refl _ _⟩
 ·rename_i hu
  obtain ⟨a,cp,rfl,_⟩:=hx
  obtain rfl:=Option.some.inj hev
  exact ⟨[],w,rfl,by simp [Builtin.clear_,run_underlying hu],hs,Below.refl _ _⟩
 ·rename_i e n off len cap sz' hu
  obtain ⟨l,cp,hl,rfl,hle,hmax,_⟩:=hx
  split at hev
  ·obtain rfl:=Option.some.inj hev
   exact ⟨[],w,rfl,by simp [Builtin.clear_,run_underlying hu],hs,Below.refl _ _⟩
  ·rename_i len
   split at hev
   ·rename_i sz z cells hz hzz hg
    split at hev
    ·rename_i hb
     obtain ⟨hzl,hsz0,hfit⟩:=hb
     obtain rfl:=Option.some.inj hev
     obtain ⟨i,hi,rfl⟩:=tsize_info hz
     obtain ⟨i',zv,hi',hzv,hzc⟩:=tzero_info hzz
     rw [hi] at hi'
     obtain rfl:i=i':=by simpa using hi'
     have hzs:zv.cells.size=i.size:=by have:=(ofCells_ok (ρ:=ρ) hzc).1;simp at this;omega
     have hcr:CR ρ (repeated z (len+1)) (Builtin.zeroCells zv.cells (len+1)).toList:=by
      have:=(ofCells_ok (ρ:=ρ) hzc).rep (len+1) i.size hzl hsz0
      rw [hzs] at this
      unfold Builtin.zeroCells
      rw [hzs]
      exact this
     obtain ⟨l',a1,a2,a3,a4,a5⟩:=hs.here n _ (hm n _ hg)
     rw [hl] at a1
     obtain rfl:l=l':=by simpa using a1
     obtain ⟨a6,a7⟩:=a5 rfl
     have a3:cells.length≤l.S:=a3
     have hul:(Builtin.zeroCells zv.cells (len+1)).toList.length=(len+1)*i.size:=by rw [Array.length_toList,size_zeroCells,hzs]
     have hrun:=run_storeCells_cells (P:=P) l.b (l.o+off) (Builtin.zeroCells zv.cells (len+1)).toList 0 w
      (fun j hj=>by have:=(a7 (off+j) (by omega)).1;simpa [Nat.add_assoc] using this)
      (fun j hj=>by have:=(a7 (off+j) (by omega)).2;simpa [Nat.add_assoc] using this) hcr.one
     refine ⟨[(n,some ⟨over cells off (repeated z (len+1)),true⟩)],_,rfl,?_,hs.store (hm n _ hg) rfl hl off hcr (by rw [hcr.1,hul];exact hfit),below_setCells _ _ _ a6⟩
     simp only [Nat.add_zero] at hrun
     simp [Builtin.clear_,run_underlying hu,zeroValue,typeInfo,hi,hzv,hrun]
    ·cases hev
   ·cases hev
 ·cases hev
theorem len_ok {ρ:Rho} {w:World} {t ty:TypeId} {x v:AV} {x':Value} (hev:evLen P t x=some v) (hx:VR ρ x x') :
  ∃ v',(Builtin.len_ #[t] ty #[x']).run P w=.ok v' w∧VR ρ v v':=by
 unfold evLen at hev
 split at hev<;>first|cases hev|skip
 ·rename_i hu;obtain rfl:=hx;exact ⟨_,by simp [Builtin.len_,run_underlying hu,goInt],rfl⟩
 ·rename_i hu;obtain ⟨l,cp,_,rfl,_⟩:=hx;exact ⟨_,by simp [Builtin.len_,run_underlying hu,goInt],rfl⟩
 ·rename_i hu
  rcases hx with ⟨rfl,rfl,_⟩|⟨a,cp,rfl,rfl,_⟩|⟨b,o,cp,rfl,_⟩
  ·exact ⟨_,by simp [Builtin.len_,run_underlying hu,goInt],rfl⟩
  ·exact ⟨_,by simp [Builtin.len_,run_underlying hu,goInt],rfl⟩
  ·exact ⟨_,by simp [Builtin.len_,run_underlying hu,goInt],rfl⟩
 ·rename_i hu;obtain rfl:=hx;exact ⟨_,by simp [Builtin.len_,run_underlying hu,goInt],rfl⟩
 ·rename_i hu;obtain ⟨a,cp,rfl,_⟩:=hx;exact ⟨_,by simp [Builtin.len_,run_underlying hu,goInt],rfl⟩
 ·rename_i hu;exact ⟨_,by simp [Builtin.len_,run_underlying hu,goInt],rfl⟩
 ·rename_i hu;exact ⟨_,by simp [Builtin.len_,run_underlying hu,goInt],rfl⟩
theorem cap_ok {ρ:Rho} {w:World} {t ty:TypeId} {x v:AV} {x':Value} (hev:evCap P t x=some v) (hx:VR ρ x x') :
  ∃ v',(Builtin.cap_ #[t] ty #[x']).run P w=.ok v' w∧VR ρ v v':=by
 unfold evCap at hev
 split at hev<;>first|cases hev|skip
 ·rename_i hu;obtain ⟨l,cp,_,rfl,_,_,hk,_⟩:=hx;obtain rfl:=hk _ rfl;exact ⟨_,by simp [Builtin.cap_,run_underlying hu,goInt],rfl⟩
 ·rename_i hu
  rcases hx with ⟨rfl,rfl,_,hk⟩|⟨a,cp,rfl,rfl,_,_,hk⟩|⟨b,o,cp,rfl,_,_,hk,_⟩
  ·obtain rfl:=hk _ rfl;exact ⟨_,by simp [Builtin.cap_,run_underlying hu,goInt],rfl⟩
  ·obtain rfl:=hk _ rfl;exact ⟨_,by simp [Builtin.cap_,run_underlying hu,goInt],rfl⟩
  ·obtain rfl:=hk _ rfl;exact ⟨_,by simp [Builtin.cap_,run_underlying hu,goInt],rfl⟩
 ·rename_i hu;obtain rfl:=hx;exact ⟨_,by simp [Builtin.cap_,run_underlying hu,goInt],rfl⟩
theorem binI_ok {ρ:Rho} {w:World} {op:BinOp} {t:TypeId} {k:IntKind} {a b:Int} {v:SV} (hsh:isSh op=false) (h:binI op k a b=some v):∃ v',(binOp op t (.int k a) (.int k b)).run P w=.ok v' w∧SR ρ v v':=by
 cases op<;>simp only [isSh,Bool.true_eq_false] at hsh<;>simp only [binI,cmpI] at h<;>first
  | (obtain rfl:=(Option.some.inj h);exact ⟨_,by simp [binOp,Op.intArith,Op.intBits,Op.intCmp],rfl⟩)
  | (split at h;· cases h
     ·rename_i h0;obtain rfl:=(Option.some.inj h);exact ⟨_,by simp [binOp,Op.intDiv,h0],rfl⟩)
  | cases h
theorem shI_ok {ρ:Rho} {w:World} {op:BinOp} {t:TypeId} {k k':IntKind} {a b:Int} {v:SV} (hsh:isSh op=true) (h:shI op k a b=some v):∃ v',(binOp op t (.int k a) (.int k' b)).run P w=.ok v' w∧SR ρ v v':=by
 unfold shI at h
 split at h
 ·cases h
 ·rename_i h0
  cases op<;>simp only [isSh,Bool.false_eq_true] at hsh<;>(obtain rfl:=(Option.some.inj h);exact ⟨_,by simp [binOp,Op.shift,h0],rfl⟩)
theorem binS_ok {ρ:Rho} {w:World} {op:BinOp} {t:TypeId} {a b:ByteArray} {v:SV} (h:binS op a b=some v):∃ v',(binOp op t (.string a) (.string b)).run P w=.ok v' w∧SR ρ v v':=by
 simp only [binS,← ByteArray.toList_eq] at h
 cases op<;>simp only at h<;>first
  | (obtain rfl:=(Option.some.inj h);exact ⟨_,by simp [binOp,Op.stringOp],rfl⟩)
  | (split at h;· cases h
     ·rename_i h0;obtain rfl:=(Option.some.inj h);exact ⟨_,by simp only [binOp,Op.stringOp,if_neg h0,Sem.run_pure],rfl⟩)
  | cases h
theorem eqOf_ok {ρ:Rho} {w:World} {op:BinOp} {t:TypeId} {b:Bool} {v:SV} {x y:Value} (h:eqOf op b=some v) (hr:(Op.equal t x y).run P w=.ok b w)
  (hd:∀ op,binOp op t x y=match op with|.eql=>(do pure (.bool (← Op.equal t x y)))|.neq=>(do pure (.bool (!(← Op.equal t x y))))|op=>binOp op t x y):∃ v',(binOp op t x y).run P w=.ok v' w∧SR ρ v v':=by
 cases op<;>simp only [eqOf] at h<;>first
  | (obtain rfl:=(Option.some.inj h);rw [hd];exact ⟨_,by simp [hr],rfl⟩)
  | cases h
theorem eqCell_ok {ρ:Rho} {w:World} {t:TypeId} {x y:SV} {x' y':Value} {b:Bool} (d:Nat) (h:eqCell P t x y=some b) (hx:SR ρ x x') (hy:SR ρ y y'):(Op.equalIn (d+1) t x' y').run P w=.ok b w:=by
 unfold eqCell at h
 split at h<;>first|cases h|skip
 ·rename_i hu;obtain rfl:=hx;obtain rfl:=hy;exact run_equalIn_bool' w d t _ _ hu
 ·rename_i hu
  obtain rfl:=hx;obtain rfl:=hy
  split at h
  ·rename_i hk;subst hk;obtain rfl:=Option.some.inj h;exact run_equalIn_int w d t _ _ _ _ hu
  ·cases h
 ·rename_i hu;obtain rfl:=hx;obtain rfl:=hy;rw [← ByteArray.toList_eq,← ByteArray.toList_eq];exact run_equalIn_string w d t _ _ hu
theorem eqFields_ok {ρ:Rho} {w:World} {xs ys:List SV} {us vs:Array Value} (hx:CR ρ xs us.toList) (hy:CR ρ ys vs.toList) (d:Nat):∀ {fs:List Field} {b:Bool},eqFields P fs xs ys=some b→(Op.eqFields (d+1) us vs fs).run P w=.ok b w
 | [],b,h=>by
  obtain rfl:true=b:=by simpa [eqFields] using h
  rfl
 | f :: r,b,h=>by
  simp only [eqFields] at h
  split at h
  ·cases h
  ·rename_i hn
   split at h
   ·rename_i x y hag h1 h2
    obtain ⟨u,p1,p2⟩:=hx.get h1
    obtain ⟨v,q1,q2⟩:=hy.get h2
    have e1:(part f.type us f.offset).run P w=.ok u w:=by
     have:us[f.offset]?=some u:=by simpa using p1
     simp [part,run_isAgg hag,this]
    have e2:(part f.type vs f.offset).run P w=.ok v w:=by
     have:vs[f.offset]?=some v:=by simpa using q1
     simp [part,run_isAgg hag,this]
    split at h
    ·rename_i h3
     have e3:=eqCell_ok (w:=w) d h3 p2 q2
     simp only [Op.eqFields,ne_eq,hn,not_false_eq_true,if_true,Sem.run_bind,e1,e2,e3,Result.andThen_ok]
     exact eqFields_ok hx hy d h
    ·rename_i h3
     obtain rfl:=Option.some.inj h
     have e3:=eqCell_ok (w:=w) d h3 p2 q2
     simp [Op.eqFields,hn,e1,e2,e3]
    ·cases h
   ·cases h
theorem eqD {w:World} {t:TypeId} {x y:Value} {b:Bool} (h:∀ d,(Op.equalIn (d+1) t x y).run P w=.ok b w):(Op.equal t x y).run P w=.ok b w:=h 9999
theorem bin_ok {ρ:Rho} {w:World} {op:BinOp} {t:TypeId} {ox oy:Operand} {x y:AV} {x' y':Value} {v:SV} (hev:evBin P op t x y=some v) (hx:VR ρ x x') (hy:VR ρ y y') :
  ∃ v',(do eqGuard op t ox oy x' y';binOp op t x' y':Sem Value).run P w=.ok v' w∧SR ρ v v':=by
 have guard:∀ (x' y':Value),(∀ cs ds,¬ (x'=.agg cs∧y'=.agg ds))→(x'≠.nilIface)→(eqGuard op t ox oy x' y').run P w=.ok () w:=by
  intro x' y' h1 h2
  unfold eqGuard
  cases op<;>simp<;>(cases x'<;>cases y'<;>simp_all)
 have plain:∀ {x' y':Value} {v:SV},(∀ cs ds,¬ (x'=.agg cs∧y'=.agg ds))→(x'≠.nilIface)→(∃ v',(binOp op t x' y').run P w=.ok v' w∧SR ρ v v')→∃ v',(do eqGuard op t ox oy x' y';binOp op t x' y':Sem Value).run P w=.ok v' w∧SR ρ v v':=by
  intro x' y' v h1 h2 ⟨v',h3,h4⟩
  exact ⟨v',by simp only [Sem.run_bind,guard x' y' h1 h2,Result.andThen_ok,h3],h4⟩
 have ptr:∀ (a b:Option Addr) (bb:Bool) (e:TypeId),P.underlying t=some (.pointer e)→(a=none∧bb=b.isNone)∨(b=none∧bb=a.isNone)→(Op.equal t (.pointer a) (.pointer b)).run P w=.ok bb w:=by
  rintro a b bb e hu (⟨rfl,rfl⟩|⟨rfl,rfl⟩)
  ·exact eqD (fun d=>by simp [Op.equalIn,run_underlying hu])
  ·exact eqD (fun d=>by cases a<;>simp [Op.equalIn,run_underlying hu])
 unfold evBin at hev
 split at hev
 ·obtain rfl:=hx;obtain rfl:=hy
  refine plain (by simp) (by simp) ?_
  split at hev
  ·rename_i hs;exact shI_ok hs hev
  ·rename_i hs
   split at hev
   ·rename_i hk;subst hk;exact binI_ok (by simpa using hs) hev
   ·cases hev
 ·obtain rfl:=hx;obtain rfl:=hy
  exact plain (by simp) (by simp) (binS_ok hev)
 ·rename_i a b
  obtain rfl:=hx;obtain rfl:=hy
  split at hev
  ·rename_i hu
   exact plain (by simp) (by simp) (eqOf_ok hev (eqD (fun d=>by simp [Op.equalIn,run_underlying hu])) (fun op=>by cases op<;>simp [binOp]))
  ·cases hev
 ·obtain rfl:=hx;obtain rfl:=hy
  split at hev
  ·rename_i e hu
   exact plain (by simp) (by simp) (eqOf_ok hev (ptr none none true e hu (.inl ⟨rfl,rfl⟩)) (fun op=>by cases op<;>simp [binOp]))
  ·cases hev
 ·obtain ⟨l,_,rfl⟩:=hx;obtain rfl:=hy
  split at hev
  ·rename_i e hu
   exact plain (by simp) (by simp) (eqOf_ok hev (ptr _ none false e hu (.inr ⟨rfl,rfl⟩)) (fun op=>by cases op<;>simp [binOp]))
  ·cases hev
 ·obtain rfl:=hx;obtain ⟨l,_,rfl⟩:=hy
  split at hev
  ·rename_i e hu
   exact plain (by simp) (by simp) (eqOf_ok hev (ptr none _ false e hu (.inl ⟨rfl,rfl⟩)) (fun op=>by cases op<;>simp [binOp]))
  ·cases hev
 ·obtain ⟨b,o,rfl,_⟩:=hx;obtain rfl:=hy
  split at hev
  ·rename_i e hu
   exact plain (by simp) (by simp) (eqOf_ok hev (ptr _ none false e hu (.inr ⟨rfl,rfl⟩)) (fun op=>by cases op<;>simp [binOp]))
  ·cases hev
 ·obtain rfl:=hx;obtain rfl:=hy
  split at hev
  ·rename_i hu
   exact plain (by simp) (by simp) (eqOf_ok hev (eqD (fun d=>by simp [Op.equalIn,run_underlying hu])) (fun op=>by cases op<;>simp [binOp]))
  ·cases hev
 ·obtain ⟨l,cp,_,rfl,_⟩:=hx;obtain rfl:=hy
  split at hev
  ·rename_i hu
   exact plain (by simp) (by simp) (eqOf_ok hev (eqD (fun d=>by simp [Op.equalIn,run_underlying hu])) (fun op=>by cases op<;>simp [binOp]))
  ·cases hev
 ·obtain rfl:=hy
  split at hev
  ·rename_i hu
   split at hev
   ·rename_i hpos
    rcases hx with ⟨rfl,rfl,_⟩|⟨a,cp,rfl,rfl,_⟩|⟨b,o,cp,rfl,_⟩
    ·exact absurd hpos (Nat.lt_irrefl _)
    ·exact absurd hpos (Nat.lt_irrefl _)
    ·exact plain (by simp) (by simp) (eqOf_ok hev (eqD (fun d=>by simp [Op.equalIn,run_underlying hu])) (fun op=>by cases op<;>simp [binOp]))
   ·cases hev
  ·cases hev
 ·obtain ⟨a,cp,rfl,_⟩:=hx;obtain rfl:=hy
  split at hev
  ·rename_i hu
   exact plain (by simp) (by simp) (eqOf_ok hev (eqD (fun d=>by simp [Op.equalIn,run_underlying hu])) (fun op=>by cases op<;>simp [binOp]))
  ·cases hev
 ·obtain rfl:=hx;obtain rfl:=hy
  split at hev
  ·rename_i hu
   exact plain (by simp) (by simp) (eqOf_ok hev (eqD (fun d=>by simp [Op.equalIn,run_underlying hu])) (fun op=>by cases op<;>simp [binOp]))
  ·cases hev
 ·obtain ⟨cs,rfl,_⟩:=hx;obtain rfl:=hy
  split at hev
  ·rename_i hu
   exact plain (by simp) (by simp) (eqOf_ok hev (eqD (fun d=>by simp [Op.equalIn,run_underlying hu])) (fun op=>by cases op<;>simp [binOp]))
  ·cases hev
 ·rename_i xs ys
  obtain ⟨us,rfl,h1⟩:=hx;obtain ⟨vs,rfl,h2⟩:=hy
  split at hev
  ·rename_i fs hf
   split at hev
   ·cases hev
   ·rename_i hg
    simp only [Bool.or_eq_true,not_or,Bool.not_eq_true] at hg
    cases he:eqFields P fs.toList xs ys with
    | none=>simp [he] at hev
    | some b =>
     rw [he] at hev
     have hu:=fieldsOf_und hf
     have hff:P.fieldsOf t=fs:=by simp [Program.fieldsOf,hu]
     have hr:(Op.equal t (.agg us) (.agg vs)).run P w=.ok b w:=by
      rw [Op.equal,Op.maxDepth,run_equalIn_struct w 9999 t us vs (by rw [hff];exact hu) hg.2,hff]
      exact eqFields_ok h1 h2 9998 he
     obtain ⟨v',h3,h4⟩:=eqOf_ok (P:=P) (ρ:=ρ) (w:=w) (t:=t) (x:=.agg us) (y:=.agg vs) (op:=op) hev hr (fun op=>by cases op<;>simp [binOp])
     exact ⟨v',by simp only [Sem.run_bind,run_eqGuard_agg w op t ox oy us vs hg.1,Result.andThen_ok,h3],h4⟩
  ·cases hev
 ·cases hev
theorem bytesIn_ok {ρ:Rho}:∀ {cs:List SV} {l:List UInt8} {us:List Value},bytesIn cs=some l→CR ρ cs us→∃ ns:List Int,us=ns.map (Value.int .u8)∧l=ns.map fun n=>UInt8.ofNat n.toNat
 | [],l,us,h,hc=>by
  have:us=[]:=List.eq_nil_of_length_eq_zero (by rw [← hc.1];rfl)
  subst this
  obtain rfl:l=[]:=by simpa [bytesIn] using h.symm
  exact ⟨[],rfl,rfl⟩
 | x :: r,l,us,h,hc=>by
  unfold bytesIn at h
  split at h
  ·rename_i e;cases e
  ·rename_i n r' e
   cases e
   cases hb:bytesIn r with
   | none=>simp [hb] at h
   | some l' =>
    rw [hb] at h
    obtain rfl:UInt8.ofNat n.toNat :: l'=l:=by simpa using h
    cases us with
    | nil=>have:=hc.1;simp at this
    | cons u us =>
     obtain rfl:u=.int .u8 n:=hc.2 0 _ _ rfl rfl
     obtain ⟨ns,rfl,rfl⟩:=bytesIn_ok hb (ρ:=ρ) (us:=us) ⟨by have:=hc.1;simpa using this,fun i v c p q=>hc.2 (i+1) v c (by simpa using p) (by simpa using q)⟩
     exact ⟨n :: ns,rfl,rfl⟩
  ·cases h
theorem foldl_push:∀ (ns:List Int) (r:ByteArray),ns.foldl (fun r n=>r.push (UInt8.ofNat n.toNat)) r=⟨r.data++(ns.map fun n=>UInt8.ofNat n.toNat).toArray⟩
 | [],r=>by simp
 | n :: l,r=>by
  simp only [List.foldl_cons]
  rw [foldl_push l]
  simp [ByteArray.push]
theorem conv_ok {B:Nat} {ρ:Rho} {M:MemF} {m m':Mem} {c c':Nat} {w:World} {src dst:TypeId} {x v:AV} {x':Value} (hev:evConv P src dst x m c=some (v,m',c')) (hx:VR ρ x x') (hm:Agree m M) (hs:Sat B ρ M w) (hfr:Fresh ρ c c') :
  c≤c'∧∃ δ v' w',m'=δ++m∧(convert src dst x').run P w=.ok v' w'∧Post B ρ M c c' w v δ v' w':=by
 have still:∀ {v:AV} {v':Value},(convert src dst x').run P w=.ok v' w→VR ρ v v'→c'=c→m'=m→c≤c'∧∃ δ v' w',m'=δ++m∧(convert src dst x').run P w=.ok v' w'∧Post B ρ M c c' w v δ v' w':=by
  rintro v v' h1 h2 rfl rfl
  exact ⟨Nat.le_refl _,[],v',w,rfl,h1,Post.pure hs h2⟩
 unfold evConv at hev
 split at hev
 ·rename_i u k _ n h1 h2
  obtain rfl:=hx
  simp only [Option.some.injEq,Prod.mk.injEq] at hev
  obtain ⟨rfl,rfl,rfl⟩:=hev
  exact still (by simp [convert,run_underlying h1,run_underlying h2,Conv.intToInt]) rfl rfl rfl
 ·rename_i u s h1 h2
  obtain rfl:=hx
  simp only [Option.some.injEq,Prod.mk.injEq] at hev
  obtain ⟨rfl,rfl,rfl⟩:=hev
  exact still (by simp [convert,run_underlying h1,run_underlying h2]) rfl rfl rfl
 ·rename_i k k' n h1 h2
  obtain rfl:=hx
  simp only [Option.some.injEq,Prod.mk.injEq] at hev
  obtain ⟨rfl,rfl,rfl⟩:=hev
  exact still (by simp [convert,run_underlying h1,run_underlying h2,Conv.intToString]) rfl rfl rfl
 ·rename_i e s h1 h2
  obtain rfl:=hx
  split at hev
  ·rename_i he
   split at hev
   ·rename_i hmax
    simp only [Option.some.injEq,Prod.mk.injEq] at hev
    obtain ⟨rfl,rfl,rfl⟩:=hev
    have hc:=hfr c (Nat.le_refl _) (by omega)
    have hge:=grownCap_ge w s.size 0 e
    have hsz:(Lib.bytesCells w e s).size=grownCap w s.size 0 e:=by simp [Lib.bytesCells];show s.size+_=_;omega
    have hnew:=Lib.bytesWorld_at_new w e s
    have hN:=hs.new (w':=Lib.bytesWorld w e s) hc (strCells s) (Lib.bytesCells w e s).size (by rw [hsz];simp [strCells];exact hge) (Lib.bytesWorld_size w e s) (fun a ha=>Lib.bytesWorld_old w e s a ha)
     (fun b o hb=>World.frozen?_of_block (Lib.bytesWorld_at_old w e s b hb))
     (fun i v hv=>by
      obtain ⟨u,p,q⟩:=(strCells_ok (put ρ c ⟨w.heap.size,0,(Lib.bytesCells w e s).size⟩) s).get hv
      refine ⟨u,?_,q⟩
      rw [cell_of_row _ _ _ _ _ _ hnew]
      have hi:i < (byteCells s).length:=(List.getElem?_eq_some_iff.1 p).1
      rw [byteCells_length] at hi
      have hi2:i < s.data.size:=hi
      simp only [byteCells,List.getElem?_map,Array.getElem?_toList,Array.getElem?_eq_getElem hi2,Option.map_some,Option.some.injEq] at p
      subst p
      simp [Lib.bytesCells,Array.getElem?_append,hi])
     (fun j hj=>by
      have hj':j < (Lib.bytesCells w e s).size:=hj
      refine ⟨?_,?_⟩
      ·rw [cell_of_row _ _ _ _ _ _ hnew,Nat.zero_add,Array.getElem?_eq_getElem hj'];rfl
      ·simp only [World.frozen?,hnew,Nat.zero_add];simp;omega)
    refine ⟨by omega,[(c,some ⟨strCells s,true⟩)],_,_,rfl,Lib.run_convert_string_bytes w src dst e s h1 h2 he,_,put_ext hc,⟨_,grownCap w s.size 0 e,put_self _ _ _,by simp,hge,grownCap_le_maxLen w _ _ _ hmax,(fun k hk=>by cases hk),(fun _=>by show 0+_*1=(Lib.bytesCells w e s).size;omega)⟩,hN,?_⟩
    refine ⟨?_,?_,?_,by rw [Lib.bytesWorld_size];omega,fun k hk=>Lib.bytesWorld_at_old w e s k (by have:=hs.heap;omega)⟩<;>(unfold Lib.bytesWorld World.freeze;rw [if_neg (by decide)];rfl)
   ·cases hev
  ·cases hev
 ·rename_i e n off len cap sz h1 h2
  obtain ⟨l,cp,hl,rfl,_⟩:=hx
  split at hev
  ·rename_i he
   cases hg:get m n with
   | none=>simp [hg] at hev
   | some b =>
    cases hsb:sub b.cells off len with
    | none=>simp [hg,hsb] at hev
    | some cs =>
     cases hbi:bytesIn cs with
     | none=>simp [hg,hsb,hbi] at hev
     | some bs =>
      simp only [hg,hsb,hbi,Option.bind_eq_bind,Option.bind_some,Option.some.injEq,Prod.mk.injEq] at hev
      obtain ⟨rfl,rfl,rfl⟩:=hev
      obtain ⟨hle,rfl⟩:=sub_some hsb
      obtain ⟨us,hcr,hr⟩:=(hs.here n b (hm n b hg)).range hl
      have hcr2:=(hcr.drop off).take len
      have hr2:=rangeAt_sub hr off len
      have hlen:((us.drop off).take len).length=len:=by rw [← hcr2.1,List.length_take,List.length_drop];omega
      obtain ⟨ns,e1,rfl⟩:=bytesIn_ok hbi hcr2
      have hl2:=run_loadCells_list (P:=P) w ⟨l.b,l.o+off,none⟩ ((us.drop off).take len) (fun j v hv=>by rw [add_addr];exact hr2 j v hv)
      rw [hlen,e1] at hl2
      refine still ?_ rfl rfl rfl
      rw [run_convert_bytes_string w src dst e _ len cp h1 he h2,run_bytesToString w _ len cp ns hl2,foldl_push]
      have he0:ByteArray.empty.data=#[]:=rfl
      rw [he0]
      simp
  ·cases hev
 ·rename_i e len cap sz cs h1 h2
  have hx:FR ρ.fz (.slv len cap sz cs) x':=hx
  split at hev
  ·rename_i he
   split at hev
   ·rename_i hsz
    subst hsz
    cases hbi:bytesIn cs with
    | none=>simp [hbi] at hev
    | some bs =>
     simp only [hbi,Option.map_some,Option.some.injEq,Prod.mk.injEq] at hev
     obtain ⟨rfl,rfl,rfl⟩:=hev
     rcases hx with ⟨rfl,rfl,rfl,_⟩|⟨a,cp,rfl,rfl,rfl,_⟩|⟨b,o,cp,rfl,g1,g2,g3,g4,hf⟩
     ·obtain rfl:bs=[]:=by simpa [bytesIn] using hbi.symm
      refine still ?_ rfl rfl rfl
      have he0:ByteArray.empty=⟨#[]⟩:=rfl
      simp [convert,run_underlying h1,run_underlying h2,run_underlying he,Conv.bytesToString,he0]
     ·obtain rfl:bs=[]:=by simpa [bytesIn] using hbi.symm
      refine still ?_ rfl rfl rfl
      have he0:ByteArray.empty=⟨#[]⟩:=rfl
      simp [convert,run_underlying h1,run_underlying h2,run_underlying he,Conv.bytesToString,loadCells,loadCellsFrom,he0]
     ·obtain ⟨us,hcr,hr⟩:=FRL.range hs hf
      have hlen:us.length=len:=by rw [← hcr.1,g4];omega
      obtain ⟨ns,e1,rfl⟩:=bytesIn_ok hbi hcr
      have hl2:=run_loadCells_list (P:=P) w ⟨b,o,none⟩ us (fun j v hv=>by rw [add_addr];exact hr j v hv)
      rw [hlen,e1] at hl2
      refine still ?_ rfl rfl rfl
      rw [run_convert_bytes_string w src dst e _ len cp h1 he h2,run_bytesToString w _ len cp ns hl2,foldl_push]
      have he0:ByteArray.empty.data=#[]:=rfl
      rw [he0]
      simp
   ·cases hev
  ·cases hev
 ·rename_i e h1 h2
  obtain rfl:=hx
  split at hev
  ·rename_i he
   simp only [Option.some.injEq,Prod.mk.injEq] at hev
   obtain ⟨rfl,rfl,rfl⟩:=hev
   exact still (by simp [convert,run_underlying h1,run_underlying h2,run_underlying he,Conv.bytesToString]) rfl rfl rfl
  ·cases hev
 ·rename_i e n h1 h2
  obtain ⟨a,cp,rfl,_⟩:=hx
  split at hev
  ·rename_i he
   simp only [Option.some.injEq,Prod.mk.injEq] at hev
   obtain ⟨rfl,rfl,rfl⟩:=hev
   exact still (by simp [convert,run_underlying h1,run_underlying h2,run_underlying he,Conv.bytesToString,loadCells,loadCellsFrom]) rfl rfl rfl
  ·cases hev
 ·cases hev
theorem un_ok {ρ:Rho} {w:World} {op:UnOp} {x:AV} {x':Value} {v:SV} (hev:evUn op x=some v) (hx:VR ρ x x'):∃ v',(Op.unary op x').run P w=.ok v' w∧SR ρ v v':=by
 unfold evUn at hev
 split at hev
 ·obtain rfl:=hx;obtain rfl:=Option.some.inj hev;exact ⟨_,by simp [Op.unary,Op.intArith],rfl⟩
 ·obtain rfl:=hx;obtain rfl:=Option.some.inj hev;exact ⟨_,by simp [Op.unary,Op.intBits],rfl⟩
 ·obtain rfl:=hx;obtain rfl:=Option.some.inj hev;exact ⟨_,by simp [Op.unary],rfl⟩
 ·cases hev
theorem mm_ok {ρ:Rho} {w:World} {mx:Bool} {x y v:AV} {x' y':Value} (hev:mm mx x y=some v) (hx:VR ρ x x') (hy:VR ρ y y'):∃ v',((if mx then Builtin.max2 else Builtin.min2) x' y').run P w=.ok v' w∧VR ρ v v':=by
 unfold mm at hev
 split at hev
 ·obtain rfl:=hx;obtain rfl:=hy;obtain rfl:=Option.some.inj hev
  cases mx<;>exact ⟨_,by simp [Builtin.max2,Builtin.min2],rfl⟩
 ·obtain rfl:=hx;obtain rfl:=hy;obtain rfl:=Option.some.inj hev
  cases mx
  ·exact ⟨_,by simp [Builtin.min2,Op.stringOp,asBool,← ByteArray.toList_eq],rfl⟩
  ·exact ⟨_,by simp [Builtin.max2,Op.stringOp,asBool,← ByteArray.toList_eq],rfl⟩
 ·cases hev
end Go.Proofs.Ytaelliigpclipaa.Eng
