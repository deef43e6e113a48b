/- The reckoner: makes,appends,copies,comparisons,conversions. -/
import Derived.Test.YtaelliigpclipaaEngE
import Derived.Lib.AppendZeros
namespace Go.Proofs.Ytaelliigpclipaa.Eng
set_option linter.unusedVariables false
set_option linter.unusedSimpArgs false
open Go Go.RowKit
variable {P:Program}
theorem newVar_ok {B:Nat} {ρ:Rho} {M:MemF} {c:Nat} {w:World} (hs:Sat B ρ M w) (hc:ρ c=none) {cs:List SV} {v:Value} (hcr:CR ρ cs v.cells.toList) (e:TypeId) :
  (newVar e v).run P w=.ok ⟨w.heap.size,0,none⟩ (w.alloc (.cells v.cells e))∧Post B ρ M c (c+1) w (.s (.ptr c 0)) [(c,some ⟨cs,true⟩)] (.pointer (some ⟨w.heap.size,0,none⟩)) (w.alloc (.cells v.cells e)):=by
 refine ⟨by simp [newVar,newRow],put ρ c ⟨w.heap.size,0,v.cells.toList.length+0⟩,put_ext hc,⟨_,put_self _ _ _,rfl⟩,?_,(Below.refl _ _).alloc hs.heap _⟩
 simpa using hs.alloc hc hcr #[] e
theorem alloc_ok {B:Nat} {ρ:Rho} {M:MemF} {c:Nat} {w:World} {e:TypeId} {z:List SV} (hz:tzero P e=some z) (hs:Sat B ρ M w) (hc:ρ c=none) :
  ∃ v' w',(Instr.alloc e true (.tuple #[])).run P w=.ok v' w'∧Post B ρ M c (c+1) w (.s (.ptr c 0)) [(c,some ⟨z,true⟩)] v' w':=by
 obtain ⟨i,zv,hi,hzv,hzc⟩:=tzero_info hz
 obtain ⟨h1,h2⟩:=newVar_ok (P:=P) hs hc (ofCells_ok hzc) e
 exact ⟨_,_,by simp [Instr.alloc,zeroValue,typeInfo,hi,hzv,h1],h2⟩
theorem box_ok {B:Nat} {ρ:Rho} {M:MemF} {c:Nat} {w:World} {e:TypeId} {x:AV} {cs:List SV} {v:Value} (hx:x.cells=some cs) (hv:VR ρ x v) (hs:Sat B ρ M w) (hc:ρ c=none) :
  ∃ v' w',(Instr.box e v).run P w=.ok v' w'∧Post B ρ M c (c+1) w (.s (.ptr c 0)) [(c,some ⟨cs,true⟩)] v' w':=by
 obtain ⟨h1,h2⟩:=newVar_ok (P:=P) hs hc (hv.cells hx).1 e
 exact ⟨_,_,by simp [Instr.box,h1],h2⟩
theorem make_ok {B:Nat} {ρ:Rho} {M:MemF} {m m':Mem} {c c':Nat} {w:World} {t:TypeId} {l cp v:AV} {l' cp':Value} (hev:evMake P t l cp m c=some (v,m',c')) (hl:VR ρ l l') (hcp:VR ρ cp cp') (hs:Sat B ρ M w) (hfr:Fresh ρ c c') :
  c≤c'∧∃ δ v' w',m'=δ++m∧(Instr.makeSlice t l' cp').run P w=.ok v' w'∧Post B ρ M c c' w v δ v' w':=by
 unfold evMake at hev
 cases he:elemOf P t with
 | none=>simp [he] at hev
 | some e =>
  cases hz:tsize P e with
  | none=>simp [he,hz] at hev
  | some s =>
   cases hzz:tzero P e with
   | none=>simp [he,hz,hzz] at hev
   | some z =>
    cases hby:tbytes P e with
    | none=>simp [he,hz,hzz,hby] at hev
    | some bt =>
     simp only [he,hz,hzz,hby,Option.bind_eq_bind,Option.bind_some] at hev
     split at hev
     ·rename_i k n k' n'
      obtain rfl:l'=.int k n:=hl
      obtain rfl:cp'=.int k' n':=hcp
      split at hev
      ·rename_i hb
       obtain ⟨rfl,hb1,hb2,hb3,hb4,hb5⟩:=hb
       simp only [Option.some.injEq,Prod.mk.injEq] at hev
       obtain ⟨rfl,rfl,rfl⟩:=hev
       obtain ⟨q,rfl⟩:=Int.eq_ofNat_of_zero_le hb1
       obtain ⟨i,hi,rfl⟩:=tbytes_info hby
       obtain ⟨i',zv,hi',hzv,hzc⟩:=tzero_info hzz
       rw [hi] at hi'
       obtain rfl:i=i':=by simpa using hi'
       have hr:=run_make (P:=P) w t e i zv (elemOf_und he) hi hzv k k' q q (by omega) (Int.le_refl _) (by omega) (by omega)
       have his:i.size=s:=by obtain ⟨i2,h2,h3⟩:=tsize_info hz;rw [hi] at h2;obtain rfl:i=i2:=(by simpa using h2);exact h3
       have hcr:=(ofCells_ok (ρ:=ρ) hzc).rep q s hb3 hb4
       have hcl:=hfr c (Nat.le_refl _) (by omega)
       have hA:=hs.alloc hcl hcr #[] e
       refine ⟨by omega,[(c,some ⟨repeated z (↑q:Int).toNat,true⟩)],_,_,rfl,hr,put ρ c ⟨w.heap.size,0,q*s⟩,put_ext hcl,⟨_,q,put_self _ _ _,by simp,by simp,by unfold maxLen;omega,(fun k hk=>by cases hk),(fun _=>by simp)⟩,?_,?_⟩
       ·have e1:((Array.range (q*s)).map (zv.cells[· % zv.cells.size]!)).toList.length+(#[]:Array Value).size=q*s:=by simp
        rw [e1,Array.toArray_toList,Array.append_empty] at hA
        rw [his]
        exact hA
       ·simpa [his] using (Below.refl _ _).alloc hs.heap _
      ·cases hev
     ·cases hev
theorem strCells_ok (ρ:Rho) (s:ByteArray):CR ρ (strCells s) (byteCells s):=by
 refine ⟨by simp [strCells,byteCells],fun i v c p q=>?_⟩
 simp only [strCells,byteCells,List.getElem?_map] at p q
 cases hb:s.data.toList[i]? with
 | none=>simp [hb] at p
 | some b =>
  rw [hb] at p q
  obtain rfl:SV.int .u8 b.toNat=v:=(by simpa using p)
  obtain rfl:Value.int .u8 b.toNat=c:=(by simpa using q)
  rfl
theorem src_ok {B:Nat} {ρ:Rho} {M:MemF} {m:Mem} {w:World} {sz k:Nat} {tx:TypeId} {x:AV} {x':Value} {news:List SV} (hev:evSrc P sz tx x m=some (k,news)) (hx:VR ρ x x') (hm:Agree m M) (hs:Sat B ρ M w) :
  ∃ us,CR ρ news us∧Src P sz tx x' k us w:=by
 unfold evSrc at hev
 split at hev
 ·obtain rfl:x'=.slice none 0 0:=hx
  cases he:elemOf P tx with
  | none=>simp [he] at hev
  | some e =>
   simp only [he,Option.map_some,Option.some.injEq,Prod.mk.injEq] at hev
   obtain ⟨rfl,rfl⟩:=hev
   exact ⟨[],CR.nil ρ,Src.ofNil w (elemOf_und he) 0⟩
 ·obtain ⟨a,cp,rfl,_⟩:=hx
  cases he:elemOf P tx with
  | none=>simp [he] at hev
  | some e =>
   simp only [he,Option.map_some,Option.some.injEq,Prod.mk.injEq] at hev
   obtain ⟨rfl,rfl⟩:=hev
   exact ⟨[],CR.nil ρ,Src.ofSlice w (elemOf_und he) a 0 cp [] (by simp) (fun j u h=>by simp at h) (fun u h=>by cases h)⟩
 ·rename_i n off len cap z
  obtain ⟨l,cp,hl,rfl,_⟩:=hx
  cases he:elemOf P tx with
  | none=>simp [he] at hev
  | some e =>
   cases hg:get m n with
   | none=>simp [he,hg] at hev
   | some b =>
    cases hsb:sub b.cells off (len*sz) with
    | none=>simp [he,hg,hsb] at hev
    | some cs =>
     simp only [he,hg,hsb,Option.bind_eq_bind,Option.bind_some,Option.some.injEq,Prod.mk.injEq] at hev
     obtain ⟨rfl,rfl⟩:=hev
     obtain ⟨hle,rfl⟩:=sub_some hsb
     obtain ⟨cs,hcr,hr⟩:=(hs.here n b (hm n b hg)).range hl
     have hcr2:=(hcr.drop off).take (len*sz)
     have hr2:=rangeAt_sub hr off (len*sz)
     refine ⟨_,hcr2,Src.ofSlice w (elemOf_und he) _ len cp _ ?_ (fun j u h=>by rw [add_addr];exact hr2 j u h) hcr2.one⟩
     rw [← hcr2.1,List.length_take,List.length_drop]
     omega
 ·rename_i len cap z cs
  have hx:FR ρ.fz (.slv len cap z cs) x':=hx
  cases he:elemOf P tx with
  | none=>simp [he] at hev
  | some e =>
   simp only [he,Option.bind_eq_bind,Option.bind_some] at hev
   split at hev
   ·rename_i hzz
    subst hzz
    simp only [Option.some.injEq,Prod.mk.injEq] at hev
    obtain ⟨rfl,rfl⟩:=hev
    rcases hx with ⟨rfl,rfl,rfl,_⟩|⟨a,cp,rfl,rfl,rfl,_⟩|⟨b,o,cp,rfl,h1,h2,h3,h4,hf⟩
    ·exact ⟨[],CR.nil ρ,Src.ofNil w (elemOf_und he) _⟩
    ·exact ⟨[],CR.nil ρ,Src.ofSlice w (elemOf_und he) a 0 cp [] (by simp) (fun j u h=>by simp at h) (fun u h=>by cases h)⟩
    ·obtain ⟨us,hcr,hr⟩:=FRL.range hs hf
     exact ⟨us,hcr,Src.ofSlice w (elemOf_und he) _ len cp _ (by rw [← hcr.1];exact h4) (fun j u h=>by rw [add_addr];exact hr j u h) hcr.one⟩
   ·cases hev
 ·rename_i s
  obtain rfl:x'=.string s:=hx
  split at hev
  ·rename_i hu
   split at hev
   ·rename_i hz
    subst hz
    simp only [Option.some.injEq,Prod.mk.injEq] at hev
    obtain ⟨rfl,rfl⟩:=hev
    exact ⟨_,strCells_ok ρ s,Src.ofString w hu s⟩
   ·cases hev
  ·cases hev
 ·cases hev
theorem append_zero {w:World} {ts tx ty e:TypeId} {s:Nat} {base:Option Addr} {sLen sCap:Nat} {x:Value} {us:List Value} (hu:P.underlying ts=some (.slice e)) (hz:tsize P e=some s) (hle:sLen≤sCap) (hsrc:Src P s tx x 0 us w) :
  (Builtin.append_ #[ts,tx] ty #[.slice base sLen sCap,x]).run P w=.ok (.slice base sLen sCap) w:=by
 have h0:us=[]:=List.eq_nil_of_length_eq_zero (by rw [hsrc.newsLen,Nat.zero_mul])
 subst h0
 have hc:=hsrc.cells
 rcases hsrc.kind with ⟨e',hk⟩|hk<;>cases base<;>simp [Builtin.append_,run_underlying hu,run_underlying hk,run_sizeOf hz,hsrc.len,hle,hc,storeCells]
theorem upd_cons (k:Nat) (x:Option Blk) (δ:Mem) (M:MemF):upd ((k,x) :: δ) M=upd [(k,x)] (upd δ M):=by
 funext n
 rw [upd_one]
 unfold upd
 by_cases h:k=n
 ·simp [h]
 ·simp [h]
theorem Sat.drop {B:Nat} {ρ:Rho} {M:MemF} {w:World} (h:Sat B ρ M w) (n:Nat):Sat B ρ (upd [(n,none)] M) w:=by
 have hu:∀ k b,upd [(n,none)] M k=some b→M k=some b:=by
  intro k b hk
  rw [upd_one] at hk
  split at hk
  ·cases hk
  ·exact hk
 exact ⟨h.heap,fun k b hk=>h.here k b (hu k b hk),fun k k' b b' l l' a1 a2=>h.apart k k' b b' l l' (hu _ _ a1) (hu _ _ a2),h.frz,fun k b l a1=>h.fown k b l (hu _ _ a1)⟩
theorem below_setCells {B:Nat} {w:World} (b o:Nat) (us:List Value) (hb:B≤b):Below B w (w.setCells b o us) :=
 ⟨(World.setCells_streams _ _ _ _).1,(World.setCells_streams _ _ _ _).2.1,(World.setCells_streams _ _ _ _).2.2,by rw [sizeCells];exact Nat.le_refl _,fun k hk=>setCells_other _ _ _ _ _ (by omega)⟩
theorem grow_ok {B:Nat} {ρ:Rho} {M:MemF} {c:Nat} {w:World} {ts tx ty e:TypeId} {s bt:Nat} {z:List SV} (hu:P.underlying ts=some (.slice e)) (hz:tsize P e=some s) (hzz:tzero P e=some z) (hzl:z.length=s) (hby:tbytes P e=some bt) (hs0:0 < s)
  {base:Option Addr} {sLen sCap:Nat} {olds news:List SV} {ous us:List Value} {x:Value} {k:Nat} (ho:CR ρ olds ous) (hol:ous.length=sLen*s) (hold:∀ j u,ous[j]?=some u→∃ a,base=some a∧w.cell? (a.add j)=some u) (hbase:base=none→sLen=0)
  (hn:CR ρ news us) (hsrc:Src P s tx x k us w) (hgt:sCap < sLen+k) (hmax:sLen+k≤maxLen) (hb47:(sLen+k)*bt≤140737488355328) (hs:Sat B ρ M w) (hc:ρ c=none) :
  ∃ v' w',(Builtin.append_ #[ts,tx] ty #[.slice base sLen sCap,x]).run P w=.ok v' w'∧Post B ρ M c (c+1) w (.s (.sl c 0 (sLen+k) none s)) [(c,some ⟨olds++news,true⟩)] v' w':=by
 obtain ⟨i,hi,rfl⟩:=tsize_info hz
 obtain ⟨i',zv,hi',hzv,hzc⟩:=tzero_info hzz
 rw [hi] at hi'
 obtain rfl:i=i':=by simpa using hi'
 obtain ⟨i2,hi2,rfl⟩:=tbytes_info hby
 rw [hi] at hi2
 obtain rfl:i=i2:=by simpa using hi2
 have hfc:(Builtin.firstCells i.size sLen (.slice base sLen sCap)).run P w.drew=.ok ous.toArray w.drew:=by
  cases base with
  | none =>
   obtain rfl:=hbase rfl
   have:ous=[]:=List.eq_nil_of_length_eq_zero (by simpa using hol)
   subst this
   exact run_firstCells_none w.drew _ _ _ _
  | some a =>
   refine run_firstCells_some w.drew i.size sLen a sLen sCap ous hol (fun j u hj=>?_)
   obtain ⟨a',h1,h2⟩:=hold j u hj
   obtain rfl:a=a':=by simpa using h1
   simpa using h2
 have hr:=run_append_grow_src (P:=P) w ts tx ty e i zv hu hi hzv base sLen sCap ous hfc x k us hsrc hgt (by unfold maxLen at hmax;omega) (growslice_fits hgt hb47)
 have hge:=grownCap_ge w (sLen+k) sCap e
 have hcm:=grownCap_le_maxLen w (sLen+k) sCap e hmax
 have hcr:=ho.append hn
 have hA:=hs.drew.alloc hc hcr (Builtin.zeroCells zv.cells (grownCap w (sLen+k) sCap e - (sLen+k))) e
 have hzs:zv.cells.size=i.size:=by have:=(ofCells_ok (ρ:=ρ) hzc).1;simp at this;omega
 have hS:(ous++us).length+(Builtin.zeroCells zv.cells (grownCap w (sLen+k) sCap e - (sLen+k))).size=grownCap w (sLen+k) sCap e*i.size:=by
  rw [size_zeroCells,hzs,List.length_append,hol,hsrc.newsLen,← Nat.add_mul,← Nat.add_mul]
  congr 1
  omega
 refine ⟨_,_,hr,put ρ c ⟨w.heap.size,0,(ous++us).length+(Builtin.zeroCells zv.cells (grownCap w (sLen+k) sCap e - (sLen+k))).size⟩,put_ext hc,⟨_,grownCap w (sLen+k) sCap e,put_self _ _ _,by simp,hge,hcm,(fun k hk=>by cases hk),(fun _=>by rw [Nat.zero_add];exact hS.symm)⟩,?_,?_⟩
 ·exact hA
 ·exact ((Below.refl _ _).drew).alloc hs.heap _
theorem append1_ok {B:Nat} {ρ:Rho} {M:MemF} {m m':Mem} {c c':Nat} {w:World} {ts tx ty:TypeId} {s x v:AV} {s' x':Value} (hev:evAppend1 P ts tx s x m c=some (v,m',c')) (hsv:VR ρ s s') (hx:VR ρ x x') (hm:Agree m M) (hs:Sat B ρ M w) (hfr:Fresh ρ c c') :
  c≤c'∧∃ δ v' w',m'=δ++m∧(Builtin.append_ #[ts,tx] ty #[s',x']).run P w=.ok v' w'∧Post B ρ M c c' w v δ v' w':=by
 unfold evAppend1 at hev
 cases he:elemOf P ts with
 | none=>simp [he] at hev
 | some e =>
  cases hz:tsize P e with
  | none=>simp [he,hz] at hev
  | some sz =>
   cases hby:tbytes P e with
   | none=>simp [he,hz,hby] at hev
   | some bt =>
    cases hzz:tzero P e with
    | none=>simp [he,hz,hby,hzz] at hev
    | some z =>
     cases hsr:evSrc P sz tx x m with
     | none=>simp [he,hz,hby,hzz,hsr] at hev
     | some p =>
      obtain ⟨k,news⟩:=p
      simp only [he,hz,hby,hzz,hsr,Option.bind_eq_bind,Option.bind_some] at hev
      obtain ⟨us,hn,hsrc⟩:=src_ok hsr hx hm hs
      have hu:=elemOf_und he
      split at hev
      ·rename_i hc0
       obtain ⟨hsz0,hzl⟩:=hc0
       split at hev
       ·obtain rfl:s'=.slice none 0 0:=hsv
        split at hev
        ·rename_i hk
         subst hk
         simp only [Option.some.injEq,Prod.mk.injEq] at hev
         obtain ⟨rfl,rfl,rfl⟩:=hev
         exact ⟨Nat.le_refl _,[],_,_,rfl,append_zero hu hz (Nat.le_refl _) hsrc,Post.pure hs rfl⟩
        ·rename_i hk
         split at hev
         ·rename_i hb
          simp only [Option.some.injEq,Prod.mk.injEq] at hev
          obtain ⟨rfl,rfl,rfl⟩:=hev
          obtain ⟨v',w',h1,h2⟩:=grow_ok (B:=B) (M:=M) (c:=c) (ty:=ty) (base:=none) (sLen:=0) (sCap:=0) (olds:=[]) (ous:=[]) hu hz hzz hzl hby hsz0 (CR.nil ρ) (by simp) (fun j u h=>by simp at h) (fun _=>rfl) hn hsrc (by omega) (by omega) (by simpa using hb.2) hs (hfr c (Nat.le_refl _) (by omega))
          simp only [Nat.zero_add,List.nil_append] at h2
          exact ⟨by omega,[(c,some ⟨news,true⟩)],v',w',rfl,h1,h2⟩
         ·cases hev
       ·obtain ⟨a,cp,rfl,hmax⟩:=hsv
        split at hev
        ·rename_i hk
         subst hk
         simp only [Option.some.injEq,Prod.mk.injEq] at hev
         obtain ⟨rfl,rfl,rfl⟩:=hev
         exact ⟨Nat.le_refl _,[],_,_,rfl,append_zero hu hz (Nat.zero_le _) hsrc,Post.pure hs ⟨a,cp,rfl,hmax⟩⟩
        ·cases hev
       ·rename_i n off len cap sz'
        have hsv0:=hsv
        obtain ⟨l,cp,hl,rfl,hle,hmax,hcap,hS⟩:=hsv
        cases hg:get m n with
        | none=>simp [hg] at hev
        | some b =>
         simp only [hg,Option.bind_some] at hev
         split at hev
         ·rename_i hk
          obtain ⟨rfl,_⟩:=hk
          simp only [Option.some.injEq,Prod.mk.injEq] at hev
          obtain ⟨rfl,rfl,rfl⟩:=hev
          exact ⟨Nat.le_refl _,[],_,_,rfl,append_zero hu hz hle hsrc,Post.pure hs hsv0⟩
         ·rename_i hk
          cases hsb:sub b.cells off (len*sz) with
          | none=>simp [hsb] at hev
          | some olds =>
           simp only [hsb,Option.bind_some] at hev
           split at hev
           ·rename_i hb
            obtain ⟨hb1,hb2,rfl⟩:=hb
            obtain ⟨hfit,rfl⟩:=sub_some hsb
            have hhere:=hs.here n b (hm n b hg)
            obtain ⟨cs,hcr,hr⟩:=hhere.range hl
            have hcr2:=(hcr.drop off).take (len*sz')
            have hr2:=rangeAt_sub hr off (len*sz')
            have hlen2:((cs.drop off).take (len*sz')).length=len*sz':=by rw [← hcr2.1,List.length_take,List.length_drop];omega
            have hold:∀ (j:Nat) u,((cs.drop off).take (len*sz'))[j]?=some u→∃ a,(some ⟨l.b,l.o+off,none⟩:Option Addr)=some a∧w.cell? (a.add j)=some u :=
             fun j u h=>⟨_,rfl,by rw [add_addr];exact hr2 j u h⟩
            have grow:∀ (M':MemF) (hs':Sat B ρ M' w),c'=c+1→cp < len+k→∃ v' w',(Builtin.append_ #[ts,tx] ty #[.slice (some ⟨l.b,l.o+off,none⟩) len cp,x']).run P w=.ok v' w'∧Post B ρ M' c (c+1) w (.s (.sl c 0 (len+k) none sz')) [(c,some ⟨(b.cells.drop off).take (len*sz')++news,true⟩)] v' w' :=
             fun M' hs' hcc hlt=>grow_ok hu hz hzz hzl hby hsz0 hcr2 hlen2 hold (fun h=>by cases h) hn hsrc hlt hb1 hb2 hs' (hfr c (Nat.le_refl _) (by omega))
            split at hev
            ·rename_i q
             obtain rfl:=hcap q rfl
             split at hev
             ·rename_i hlt
              simp only [Option.some.injEq,Prod.mk.injEq] at hev
              obtain ⟨rfl,rfl,rfl⟩:=hev
              obtain ⟨v',w',h1,h2⟩:=grow M hs rfl hlt
              exact ⟨by omega,[(c,some ⟨(b.cells.drop off).take (len*sz')++news,true⟩)],v',w',rfl,h1,h2⟩
             ·cases hev
            ·split at hev
             ·rename_i hown
              obtain ⟨ho,htip⟩:=hown
              simp only [Option.some.injEq,Prod.mk.injEq] at hev
              obtain ⟨rfl,rfl,rfl⟩:=hev
              have hc:=hfr c (Nat.le_refl _) (by omega)
              have hS':=hS rfl
              by_cases hroom:len+k≤cp
              ·obtain ⟨l',a1,a2,a3,a4,a5⟩:=hhere
               rw [hl] at a1
               obtain rfl:l=l':=by simpa using a1
               obtain ⟨a6,a7⟩:=a5 ho
               have hul:=hsrc.newsLen
               have hkk:b.cells.length+us.length≤l.S:=by
                rw [hul,← htip,← hS',Nat.add_assoc,← Nat.add_mul]
                exact Nat.add_le_add_left (Nat.mul_le_mul_right _ hroom) _
               obtain ⟨i,hi,hie⟩:=tsize_info hz
               have hr:=run_append_room_src (P:=P) w ts tx ty e i hu hi l.b (l.o+off) len cp x' k us (by rw [hie];exact hsrc) hroom
                (fun j hj=>by rw [hie];have:=(a7 (b.cells.length+j) (by omega)).1;rwa [show l.o+(b.cells.length+j)=l.o+off+len*sz'+j from by omega] at this)
                (fun j hj=>by rw [hie];have:=(a7 (b.cells.length+j) (by omega)).2;rwa [show l.o+(b.cells.length+j)=l.o+off+len*sz'+j from by omega] at this)
               rw [hie,show l.o+off+len*sz'=l.o+b.cells.length from by omega] at hr
               have hB:=hs.behind (hm n b hg) ho hl hc off (by omega) hn (by rw [hn.1];exact hkk)
               have htk:(b.cells.drop off).take (len*sz')=b.cells.drop off:=List.take_of_length_le (by rw [List.length_drop];omega)
               rw [← htk] at hB
               refine ⟨by omega,[(c,some ⟨(b.cells.drop off).take (len*sz')++news,true⟩),(n,none)],_,_,rfl,hr,_,put_ext hc,⟨_,cp,put_self _ _ _,by simp,hroom,hmax,(fun k hk=>by cases hk),(fun _=>by show 0+cp*sz'=l.S - off;omega)⟩,hB,below_setCells _ _ _ a6⟩
              ·obtain ⟨v',w',h1,ρ',e1,e2,e3,e4⟩:=grow (upd [(n,none)] M) (hs.drop n) rfl (by omega)
               refine ⟨by omega,[(c,some ⟨(b.cells.drop off).take (len*sz')++news,true⟩),(n,none)],v',w',rfl,h1,ρ',e1,e2,?_,e4⟩
               rw [upd_cons]
               exact e3
             ·cases hev
           ·cases hev
       ·rename_i len cap sz' olds
        have hsv0:=hsv
        have hsv:FR ρ.fz (.slv len cap sz' olds) s':=hsv
        split at hev
        ·rename_i hk
         subst hk
         simp only [Option.some.injEq,Prod.mk.injEq] at hev
         obtain ⟨rfl,rfl,rfl⟩:=hev
         rcases hsv with ⟨rfl,rfl,rfl,_⟩|⟨a,cp,rfl,rfl,rfl,_⟩|⟨b,o,cp,rfl,h1,h2,h3,h4,hf⟩
         ·exact ⟨Nat.le_refl _,[],_,_,rfl,append_zero hu hz (Nat.le_refl _) hsrc,Post.pure hs hsv0⟩
         ·exact ⟨Nat.le_refl _,[],_,_,rfl,append_zero hu hz (Nat.zero_le _) hsrc,Post.pure hs hsv0⟩
         ·exact ⟨Nat.le_refl _,[],_,_,rfl,append_zero hu hz h1 hsrc,Post.pure hs hsv0⟩
        ·rename_i hk
         split at hev
         ·rename_i hb
          obtain ⟨hb1,hb2,rfl⟩:=hb
          cases cap with
          | none=>cases hev
          | some q =>
           simp only at hev
           split at hev
           ·rename_i hlt
            simp only [Option.some.injEq,Prod.mk.injEq] at hev
            obtain ⟨rfl,rfl,rfl⟩:=hev
            have hc:=hfr c (Nat.le_refl _) (by omega)
            rcases hsv with ⟨rfl,rfl,rfl,_⟩|⟨a,cp,rfl,rfl,rfl,_,h3⟩|⟨b,o,cp,rfl,h1,h2,h3,h4,hf⟩
            ·obtain ⟨v',w',g1,g2⟩:=grow_ok (B:=B) (M:=M) (c:=c) (ty:=ty) (base:=none) (sLen:=0) (sCap:=0) (olds:=[]) (ous:=[]) hu hz hzz hzl hby hsz0 (CR.nil ρ) (by simp) (fun j u h=>by simp at h) (fun _=>rfl) hn hsrc (by omega) hb1 hb2 hs hc
             exact ⟨by omega,[(c,some ⟨[]++news,true⟩)],v',w',rfl,g1,g2⟩
            ·obtain rfl:=h3 q rfl
             obtain ⟨v',w',g1,g2⟩:=grow_ok (B:=B) (M:=M) (c:=c) (ty:=ty) (base:=some a) (sLen:=0) (sCap:=cp) (olds:=[]) (ous:=[]) hu hz hzz hzl hby hsz0 (CR.nil ρ) (by simp) (fun j u h=>by simp at h) (fun h=>by cases h) hn hsrc hlt hb1 hb2 hs hc
             exact ⟨by omega,[(c,some ⟨[]++news,true⟩)],v',w',rfl,g1,g2⟩
            ·obtain rfl:=h3 q rfl
             obtain ⟨cs,hcr,hr⟩:=FRL.range hs hf
             obtain ⟨v',w',g1,g2⟩:=grow_ok (B:=B) (M:=M) (c:=c) (ty:=ty) (base:=some ⟨b,o,none⟩) (sLen:=len) (sCap:=cp) (olds:=olds) (ous:=cs) hu hz hzz hzl hby hsz0 hcr (by rw [← hcr.1];exact h4)
              (fun j u h=>⟨_,rfl,by rw [add_addr];exact hr j u h⟩) (fun h=>by cases h) hn hsrc hlt hb1 hb2 hs hc
             exact ⟨by omega,[(c,some ⟨olds++news,true⟩)],v',w',rfl,g1,g2⟩
           ·cases hev
         ·cases hev
       ·cases hev
      ·cases hev
theorem room_ok {B:Nat} {ρ:Rho} {M:MemF} {m m':Mem} {c c':Nat} {w:World} {ts tx ty:TypeId} {s x v:AV} {s' x':Value} (hev:evRoom P ts tx s x m c=some (v,m',c')) (hsv:VR ρ s s') (hx:VR ρ x x') (hm:Agree m M) (hs:Sat B ρ M w) (hfr:Fresh ρ c c') :
  c≤c'∧∃ δ v' w',m'=δ++m∧(Builtin.append_ #[ts,tx] ty #[s',x']).run P w=.ok v' w'∧Post B ρ M c c' w v δ v' w':=by
 unfold evRoom at hev
 split at hev
 ·rename_i n off len sz'
  split at hev
  ·rename_i e he
   split at hev
   ·rename_i sz hz
    split at hev
    ·rename_i k news hsr
     split at hev
     ·rename_i cells hg
      split at hev
      ·rename_i hb
       obtain ⟨hz0,rfl,hfit⟩:=hb
       simp only [Option.some.injEq,Prod.mk.injEq] at hev
       obtain ⟨rfl,rfl,rfl⟩:=hev
       obtain ⟨us,hn,hsrc⟩:=src_ok hsr hx hm hs
       have hu:=elemOf_und he
       obtain ⟨l,cp,hl,rfl,hle,hmax,hcap,hS⟩:=hsv
       have hhere:=hs.here n _ (hm n _ hg)
       obtain ⟨l',a1,a2,a3,a4,a5⟩:=hhere
       rw [hl] at a1
       obtain rfl:l=l':=by simpa using a1
       obtain ⟨a6,a7⟩:=a5 rfl
       have hS':=hS rfl
       have hul:=hsrc.newsLen
       have a3:cells.length≤l.S:=a3
       have hroom:len+k≤cp:=by
        have h1:(len+k)*sz'≤cp*sz':=by omega
        exact Nat.le_of_mul_le_mul_right h1 hz0
       rw [Nat.add_mul] at hfit
       obtain ⟨i,hi,hie⟩:=tsize_info hz
       have hr:=run_append_room_src (P:=P) w ts tx ty e i hu hi l.b (l.o+off) len cp x' k us (by rw [hie];exact hsrc) hroom
        (fun j hj=>by rw [hie];have:=(a7 (off+len*sz'+j) (by omega)).1;rwa [show l.o+(off+len*sz'+j)=l.o+off+len*sz'+j from by omega] at this)
        (fun j hj=>by rw [hie];have:=(a7 (off+len*sz'+j) (by omega)).2;rwa [show l.o+(off+len*sz'+j)=l.o+off+len*sz'+j from by omega] at this)
       rw [hie,show l.o+off+len*sz'=l.o+(off+len*sz') from by omega] at hr
       have hB:=hs.store (hm n _ hg) rfl hl (off+len*sz') hn (by rw [hn.1,hul];show _≤cells.length;omega)
       exact ⟨Nat.le_refl _,[(n,some ⟨over cells (off+len*sz') news,true⟩)],_,_,rfl,hr,ρ,Ext.refl _ _ _,⟨l,cp,hl,rfl,hroom,hmax,(fun k hk=>by cases hk),fun _=>hS'⟩,hB,below_setCells _ _ _ a6⟩
      ·cases hev
     ·cases hev
    ·cases hev
   ·cases hev
  ·cases hev
 ·cases hev
theorem zeros_ok {B:Nat} {ρ:Rho} {M:MemF} {m m':Mem} {c c':Nat} {w:World} {ts tx ty:TypeId} {s x v:AV} {s' x':Value} (hev:evZeros P ts tx s x m c=some (v,m',c')) (hsv:VR ρ s s') (hx:VR ρ x x') (hm:Agree m M) (hs:Sat B ρ M w) (hfr:Fresh ρ c c') :
  c≤c'∧∃ δ v' w',m'=δ++m∧(Builtin.append_ #[ts,tx] ty #[s',x']).run P w=.ok v' w'∧Post B ρ M c c' w v δ v' w':=by
 unfold evZeros at hev
 split at hev
 ·rename_i k n
  obtain rfl:s'=.slice none 0 0:=hsv
  obtain rfl:x'=.int k n:=hx
  split at hev
  ·rename_i e kn he hk
   split at hev
   ·rename_i sz z by_ hz hzz hby
    split at hev
    ·rename_i hb
     obtain ⟨h0,hzl,hsz0,h63,h47⟩:=hb
     simp only [Option.some.injEq,Prod.mk.injEq] at hev
     obtain ⟨rfl,rfl,rfl⟩:=hev
     obtain ⟨q,rfl⟩:=Int.eq_ofNat_of_zero_le (Int.le_of_lt h0)
     obtain ⟨i,hi,rfl⟩:=tsize_info hz
     obtain ⟨i',zv,hi',hzv,hzc⟩:=tzero_info hzz
     rw [hi] at hi'
     obtain rfl:i=i':=by simpa using hi'
     obtain ⟨i2,hi2,rfl⟩:=tbytes_info hby
     rw [hi] at hi2
     obtain rfl:i=i2:=by simpa using hi2
     have h47':q*i.bytes≤281474976710656:=by
      have:((i.bytes*q:Nat):Int)≤140737488355328:=by rw [Int.natCast_mul];exact h47
      rw [Nat.mul_comm]
      omega
     have hr:=Lib.run_append_nil_zeros (P:=P) (ty:=ty) w ts tx e i zv k kn (elemOf_und he) hk hi hzv q (by omega) hsz0 h63 h47'
     have hcl:=hfr c (Nat.le_refl _) (by omega)
     have hzs:zv.cells.size=i.size:=by have:=(ofCells_ok (ρ:=ρ) hzc).1;simp at this;omega
     have hcr:CR ρ (repeated z q) (Builtin.zeroCells zv.cells q).toList:=by
      have:=(ofCells_ok (ρ:=ρ) hzc).rep q i.size hzl hsz0
      rw [hzs] at this
      unfold Builtin.zeroCells
      rw [hzs]
      exact this
     have hge:=grownCap_ge w q 0 e
     have hcm:=grownCap_le_maxLen w q 0 e (by unfold maxLen;omega)
     have hA:=hs.drew.alloc hcl hcr (Builtin.zeroCells zv.cells (grownCap w q 0 e - q)) e
     have hS:(Builtin.zeroCells zv.cells q).toList.length+(Builtin.zeroCells zv.cells (grownCap w q 0 e - q)).size=grownCap w q 0 e*i.size:=by
      rw [Array.length_toList,size_zeroCells,size_zeroCells,hzs,← Nat.add_mul]
      congr 1
      omega
     rw [Array.toArray_toList] at hA
     refine ⟨by omega,[(c,some ⟨repeated z (↑q:Int).toNat,true⟩)],_,_,rfl,hr,put ρ c ⟨w.heap.size,0,(Builtin.zeroCells zv.cells q).toList.length+(Builtin.zeroCells zv.cells (grownCap w q 0 e - q)).size⟩,put_ext hcl,⟨_,grownCap w q 0 e,put_self _ _ _,by simp,by show q≤_;omega,hcm,(fun k hk=>by cases hk),(fun _=>by rw [Nat.zero_add];exact hS.symm)⟩,?_,?_⟩
     ·exact hA
     ·exact ((Below.refl _ _).drew).alloc hs.heap _
    ·cases hev
   ·cases hev
  ·cases hev
 ·cases hev
theorem append_ok {B:Nat} {ρ:Rho} {M:MemF} {m m':Mem} {c c':Nat} {w:World} {ts tx ty:TypeId} {s x v:AV} {s' x':Value} (hev:evAppend P ts tx s x m c=some (v,m',c')) (hsv:VR ρ s s') (hx:VR ρ x x') (hm:Agree m M) (hs:Sat B ρ M w) (hfr:Fresh ρ c c') :
  c≤c'∧∃ δ v' w',m'=δ++m∧(Builtin.append_ #[ts,tx] ty #[s',x']).run P w=.ok v' w'∧Post B ρ M c c' w v δ v' w':=by
 unfold evAppend at hev
 split at hev
 ·exact zeros_ok hev hsv hx hm hs hfr
 ·split at hev
  ·rename_i r hr
   obtain rfl:=Option.some.inj hev
   exact append1_ok hr hsv hx hm hs hfr
  ·exact room_ok hev hsv hx hm hs hfr
end Go.Proofs.Ytaelliigpclipaa.Eng
