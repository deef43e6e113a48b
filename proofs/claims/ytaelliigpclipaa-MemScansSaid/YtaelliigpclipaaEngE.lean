/- The reckoner: literals,makes,appends,copies. -/
import Derived.Test.YtaelliigpclipaaEngD
namespace Go.Proofs.Ytaelliigpclipaa.Eng
set_option linter.unusedVariables false
set_option linter.unusedSimpArgs false
open Go Go.RowKit
variable {P:Program}
theorem slice_slv_ok {ρ:Rho} {w:World} {t:TypeId} {len:Nat} {cap:Option Nat} {sz:Nat} {cs:List SV} {x':Value} {lo hi mx:Option AV} {v:AV} {lo' hi' mx':Option Value} (hev:evSlice P t (.s (.slv len cap sz cs)) lo hi mx=some v) (hx:VR ρ (.s (.slv len cap sz cs)) x') (rl:OR ρ lo lo') (rh:OR ρ hi hi') (rm:OR ρ mx mx') :
  ∃ v',(Instr.sliceAt t x' lo' hi' mx').run P w=.ok v' w∧VR ρ v v':=by
 have hx:FR ρ.fz (.slv len cap sz cs) x':=hx
 simp only [evSlice] at hev
 cases he:elemOf P t with
 | none=>simp [he] at hev
 | some e =>
  cases hz:tsize P e with
  | none=>simp [he,hz] at hev
  | some s =>
   simp only [he,hz,Option.bind_eq_bind,Option.bind_some] at hev
   split at hev
   ·rename_i hs
    obtain ⟨rfl,hs0⟩:=hs
    have hu:=elemOf_und he
    have fin:∀ {h l:Nat} {r:List SV} {b o cp cq k:Nat},FRL ρ.fz cs b o→Eng.sub cs (l*s) (k*s)=some r→k≤cq→cq≤maxLen→∀ cap',(∀ y,cap'=some y→cq=y)→(cq=0→k=0)→∀ (q:Prop) [Decidable q],(q→k=0)→FR ρ.fz (.slv k cap' s r) (.slice (if q then some ⟨b,o,none⟩ else some ⟨b,o+l*s,none⟩) k cq):=by
     intro h l r b o cp cq k hf hr h1 h2 cap' h3 h4 q _ hq
     obtain ⟨f1,f2⟩:=hf.sub hr
     by_cases hqq:q
     ·rw [if_pos hqq]
      have hk:=hq hqq
      subst hk
      refine .inr (.inr ⟨b,o,cq,rfl,h1,h2,h3,f2,?_⟩)
      have:r=[]:=List.eq_nil_of_length_eq_zero (by rw [f2];simp)
      rw [this]
      trivial
     ·rw [if_neg hqq]
      exact .inr (.inr ⟨b,o+l*s,cq,rfl,h1,h2,h3,f2,f1⟩)
    split at hev
    ·cases mx' with
     | some _=>exact rm.elim
     | none =>
     cases hh:bnd hi len len with
     | none=>simp [hh] at hev
     | some h =>
      cases hl:bnd lo 0 h with
      | none=>simp [hh,hl] at hev
      | some l =>
       simp only [hh,hl,Option.bind_some] at hev
       cases hr:Eng.sub cs (l*s) ((h - l)*s) with
       | none=>simp [hr] at hev
       | some r =>
        rw [hr] at hev
        obtain rfl:v=.s (.slv (h - l) (cap.map (· - l)) s r):=(by simpa using hev.symm)
        rcases hx with ⟨rfl,rfl,rfl,h3⟩|⟨ad,cp,rfl,rfl,rfl,h2,h3⟩|⟨b,o,cp,rfl,hle,hmax,hcap,hlen,hf⟩
        ·obtain ⟨a1,a2,a3⟩:=bounds_ok (P:=P) (w:=w) (sl:=true) (cap:=0) hh hl (Nat.le_refl _) (Nat.le_refl _) rl rh
         obtain rfl:h=0:=by omega
         obtain rfl:l=0:=by omega
         refine ⟨.slice none 0 0,by simp [Instr.sliceAt,Instr.slice,run_underlying hu,a1,run_sizeOf hz],.inl ⟨rfl,rfl,?_,fun k hk=>?_⟩⟩
         ·have:=(sub_some hr).2
          simpa using this
         ·cases cap with
          | none=>cases hk
          | some y=>have:=h3 y rfl;simp at hk;omega
        ·obtain ⟨a1,a2,a3⟩:=bounds_ok (P:=P) (w:=w) (sl:=true) (cap:=cp) hh hl (Nat.zero_le _) (Nat.le_refl _) rl rh
         obtain rfl:h=0:=by omega
         obtain rfl:l=0:=by omega
         have hadd:ad.add 0=ad:=by simp [Addr.add]
         refine ⟨.slice (some ad) 0 cp,by simp [Instr.sliceAt,Instr.slice,run_underlying hu,a1,run_sizeOf hz,hadd],.inr (.inl ⟨ad,cp,rfl,rfl,?_,h2,fun k hk=>?_⟩)⟩
         ·have:=(sub_some hr).2
          simpa using this
         ·cases cap with
          | none=>cases hk
          | some y=>have:=h3 y rfl;simp at hk;omega
        ·obtain ⟨a1,a2,a3⟩:=bounds_ok (P:=P) (w:=w) (sl:=true) (cap:=cp) hh hl hle (Nat.le_refl _) rl rh
         have hrun:(Instr.sliceAt t (.slice (some ⟨b,o,none⟩) len cp) lo' hi' none).run P w=.ok (.slice (if cp=l then some ⟨b,o,none⟩ else some ⟨b,o+l*s,none⟩) (h - l) (cp - l)) w:=by
          simp [Instr.sliceAt,Instr.slice,run_underlying hu,a1,run_sizeOf hz,add_addr]
         refine ⟨_,hrun,fin (h:=h) (cp:=cp) hf hr (by omega) (by omega) _ (fun y hy=>?_) (by omega) _ (by omega)⟩
         cases cap with
         | none=>cases hy
         | some z=>have:=hcap z rfl;simp at hy;omega
    ·rename_i mx
     cases mx' with
     | none=>exact rm.elim
     | some mx' =>
     cases hq:bnd (some mx) 0 len with
     | none=>simp [hq] at hev
     | some q =>
      cases hh:bnd hi len q with
      | none=>simp [hq,hh] at hev
      | some h =>
       cases hl:bnd lo 0 h with
       | none=>simp [hq,hh,hl] at hev
       | some l =>
        simp only [hq,hh,hl,Option.bind_some] at hev
        split at hev
        ·cases hev
        ·rename_i hhi
         cases hr:Eng.sub cs (l*s) ((h - l)*s) with
         | none=>simp [hr] at hev
         | some r =>
          rw [hr] at hev
          obtain rfl:v=.s (.slv (h - l) (some (q - l)) s r):=(by simpa using hev.symm)
          rcases hx with ⟨rfl,rfl,rfl,h3⟩|⟨ad,cp,rfl,rfl,rfl,h2,h3⟩|⟨b,o,cp,rfl,hle,hmax,hcap,hlen,hf⟩
          ·obtain ⟨a1,a2,a3,a4⟩:=bounds3_ok (P:=P) (w:=w) (len:=0) (cap:=0) hq hh hl (Nat.le_refl _) hhi rl rh rm
           obtain rfl:q=0:=by omega
           obtain rfl:h=0:=by omega
           obtain rfl:l=0:=by omega
           refine ⟨.slice none 0 0,by simp [Instr.sliceAt,Instr.slice,run_underlying hu,a1,run_sizeOf hz],.inl ⟨rfl,rfl,?_,fun k hk=>by simpa using hk.symm⟩⟩
           have:=(sub_some hr).2
           simpa using this
          ·obtain ⟨a1,a2,a3,a4⟩:=bounds3_ok (P:=P) (w:=w) (len:=0) (cap:=cp) hq hh hl (Nat.zero_le _) hhi rl rh rm
           obtain rfl:q=0:=by omega
           obtain rfl:h=0:=by omega
           obtain rfl:l=0:=by omega
           have hadd:ad.add 0=ad:=by simp [Addr.add]
           refine ⟨.slice (some ad) 0 0,by simp [Instr.sliceAt,Instr.slice,run_underlying hu,a1,run_sizeOf hz,hadd],.inr (.inl ⟨ad,0,rfl,rfl,?_,Nat.zero_le _,fun k hk=>by simpa using hk⟩)⟩
           have:=(sub_some hr).2
           simpa using this
          ·obtain ⟨a1,a2,a3,a4⟩:=bounds3_ok (P:=P) (w:=w) (len:=len) (cap:=cp) hq hh hl hle hhi rl rh rm
           have hrun:(Instr.sliceAt t (.slice (some ⟨b,o,none⟩) len cp) lo' hi' (some mx')).run P w=.ok (.slice (if q=l then some ⟨b,o,none⟩ else some ⟨b,o+l*s,none⟩) (h - l) (q - l)) w:=by
            simp [Instr.sliceAt,Instr.slice,run_underlying hu,a1,run_sizeOf hz,add_addr]
           exact ⟨_,hrun,fin (h:=h) (cp:=cp) hf hr (by omega) (by omega) _ (fun y hy=>by simpa using hy) (by omega) _ (by omega)⟩
   ·cases hev
theorem slice_ok {ρ:Rho} {w:World} {t:TypeId} {x:AV} {x':Value} {lo hi mx:Option AV} {v:AV} {lo' hi' mx':Option Value} (hev:evSlice P t x lo hi mx=some v) (hx:VR ρ x x') (rl:OR ρ lo lo') (rh:OR ρ hi hi') (rm:OR ρ mx mx') :
  ∃ v',(Instr.sliceAt t x' lo' hi' mx').run P w=.ok v' w∧VR ρ v v':=by
 cases x with
 | any=>simp [evSlice] at hev
 | no=>simp [evSlice] at hev
 | agg l=>simp [evSlice] at hev
 | tup l=>simp [evSlice] at hev
 | s x =>
  cases x with
  | str s =>
   cases mx with
   | some m=>simp [evSlice] at hev
   | none =>
    cases mx' with
    | some _=>exact rm.elim
    | none =>
     obtain rfl:x'=.string s:=hx
     exact slice_str_ok hev rl rh
  | sl n off len cap sz=>exact slice_sl_ok hev hx rl rh rm
  | slv len cap sz cs=>exact slice_slv_ok hev hx rl rh rm
  | sl0 =>
   obtain rfl:x'=.slice none 0 0:=hx
   simp only [evSlice] at hev
   cases he:elemOf P t with
   | none=>simp [he] at hev
   | some e =>
    cases hz:tsize P e with
    | none=>simp [he,hz] at hev
    | some s =>
     simp only [he,hz,Option.bind_eq_bind,Option.bind_some] at hev
     have hu:=elemOf_und he
     split at hev
     ·cases mx' with
      | some _=>exact rm.elim
      | none =>
      cases hh:bnd hi 0 0 with
      | none=>simp [hh] at hev
      | some h =>
       cases hl:bnd lo 0 h with
       | none=>simp [hh,hl] at hev
       | some l =>
        simp only [hh,hl,Option.bind_some] at hev
        obtain rfl:v=.s .sl0:=(by simpa using hev.symm)
        obtain ⟨a1,a2,a3⟩:=bounds_ok (P:=P) (w:=w) (sl:=true) (cap:=0) hh hl (Nat.le_refl _) (Nat.le_refl _) rl rh
        obtain rfl:h=0:=by omega
        obtain rfl:l=0:=by omega
        exact ⟨.slice none 0 0,by simp [Instr.sliceAt,Instr.slice,run_underlying hu,a1,run_sizeOf hz],rfl⟩
     ·rename_i mx
      cases mx' with
      | none=>exact rm.elim
      | some mx' =>
      cases hq:bnd (some mx) 0 0 with
      | none=>simp [hq] at hev
      | some q =>
       cases hh:bnd hi 0 q with
       | none=>simp [hq,hh] at hev
       | some h =>
        cases hl:bnd lo 0 h with
        | none=>simp [hq,hh,hl] at hev
        | some l =>
         simp only [hq,hh,hl,Option.bind_some] at hev
         split at hev
         ·cases hev
         ·rename_i hhi
          obtain rfl:v=.s .sl0:=(by simpa using hev.symm)
          obtain ⟨a1,a2,a3,a4⟩:=bounds3_ok (P:=P) (w:=w) (len:=0) (cap:=0) hq hh hl (Nat.le_refl _) hhi rl rh rm
          obtain rfl:q=0:=by omega
          obtain rfl:h=0:=by omega
          obtain rfl:l=0:=by omega
          exact ⟨.slice none 0 0,by simp [Instr.sliceAt,Instr.slice,run_underlying hu,a1,run_sizeOf hz],rfl⟩
  | slE n =>
   obtain ⟨a,cp,rfl,hmax⟩:=hx
   simp only [evSlice] at hev
   cases he:elemOf P t with
   | none=>simp [he] at hev
   | some e =>
    cases hz:tsize P e with
    | none=>simp [he,hz] at hev
    | some s =>
     simp only [he,hz,Option.bind_eq_bind,Option.bind_some] at hev
     have hu:=elemOf_und he
     split at hev
     ·cases mx' with
      | some _=>exact rm.elim
      | none =>
      cases hh:bnd hi 0 0 with
      | none=>simp [hh] at hev
      | some h =>
       cases hl:bnd lo 0 h with
       | none=>simp [hh,hl] at hev
       | some l =>
        simp only [hh,hl,Option.bind_some] at hev
        obtain rfl:v=.s (.slE n):=(by simpa using hev.symm)
        obtain ⟨a1,a2,a3⟩:=bounds_ok (P:=P) (w:=w) (sl:=true) (cap:=cp) hh hl (Nat.zero_le _) (Nat.le_refl _) rl rh
        obtain rfl:h=0:=by omega
        obtain rfl:l=0:=by omega
        refine ⟨.slice (some a) 0 cp,?_,a,cp,rfl,hmax⟩
        have:a.add 0=a:=by simp [Addr.add]
        simp [Instr.sliceAt,Instr.slice,run_underlying hu,a1,run_sizeOf hz,this]
     ·cases hev
  | ptr n off =>
   obtain ⟨l0,hl0,rfl⟩:=hx
   simp only [evSlice] at hev
   cases he:arrOf P t with
   | none=>simp [he] at hev
   | some p =>
    obtain ⟨k,e⟩:=p
    cases hz:tsize P e with
    | none=>simp [he,hz] at hev
    | some s =>
     simp only [he,hz,Option.bind_eq_bind,Option.bind_some] at hev
     have hu:=arrOf_und he
     split at hev
     ·cases mx' with
      | some _=>exact rm.elim
      | none =>
      cases hh:bnd hi k k with
      | none=>simp [hh] at hev
      | some h =>
       cases hl:bnd lo 0 h with
       | none=>simp [hh,hl] at hev
       | some l =>
        simp only [hh,hl,Option.bind_some] at hev
        split at hev
        ·rename_i hc
         obtain rfl:v=.s (.sl n (off+l*s) (h - l) (some (k - l)) s):=(by simpa using hev.symm)
         obtain ⟨a1,a2,a3⟩:=bounds_ok (P:=P) (w:=w) (sl:=false) (cap:=k) hh hl (Nat.le_refl _) (Nat.le_refl _) rl rh
         refine ⟨.slice (some ⟨l0.b,l0.o+off+l*s,none⟩) (h - l) (k - l),?_,l0,k - l,hl0,by simp [Nat.add_assoc],by omega,by omega,fun k hk=>by simpa using hk,fun h=>by cases h⟩
         have:¬ k=l:=by omega
         simp [Instr.sliceAt,run_underlying hu,Instr.sureAddr,a1,run_sizeOf hz,this,add_addr]
        ·cases hev
     ·cases hev
  | _=>simp [evSlice] at hev
theorem sliceM_ok {B:Nat} {ρ:Rho} {M:MemF} {m:Mem} {w:World} {t:TypeId} {x:AV} {x':Value} {lo hi mx:Option AV} {v:AV} {lo' hi' mx':Option Value} (hev:evSliceM P t x lo hi mx m=some v) (hm:Agree m M) (hs:Sat B ρ M w) (hx:VR ρ x x') (rl:OR ρ lo lo') (rh:OR ρ hi hi') (rm:OR ρ mx mx') :
  ∃ v',(Instr.sliceAt t x' lo' hi' mx').run P w=.ok v' w∧VR ρ v v':=by
 unfold evSliceM at hev
 split at hev
 ·rename_i v0 h0
  obtain rfl:=Option.some.inj hev
  exact slice_ok h0 hx rl rh rm
 ·unfold evFar at hev
  split at hev
  ·rename_i n off len sz _
   cases mx' with
   | some _=>exact rm.elim
   | none =>
   split at hev
   ·rename_i e he
    split at hev
    ·rename_i s b hz hg
     split at hev
     ·rename_i hc
      obtain ⟨rfl,hs0⟩:=hc
      split at hev
      ·rename_i h hh
       split at hev
       ·rename_i l hl
        split at hev
        ·rename_i hc
         obtain ⟨hof,hsome,hlt⟩:=hc
         obtain rfl:=Option.some.inj hev
         obtain ⟨l0,cp,hl0,rfl,hle,hmax,hcap,hS⟩:=hx
         have hu:=elemOf_und he
         obtain ⟨l',b1,b2,b3,b4,b5⟩:=hs.here n b (hm n b hg)
         rw [hl0] at b1
         obtain rfl:l0=l':=by simpa using b1
         have hS':=hS rfl
         have hy:(b.cells.length - off) / s≤cp:=by
          rw [← Nat.mul_div_cancel cp hs0]
          exact Nat.div_le_div_right (by omega)
         obtain ⟨a1,a2,a3⟩:=bounds_ok (P:=P) (w:=w) (sl:=true) (cap:=cp) hh hl hy hsome rl rh
         have hrun:(Instr.sliceAt t (.slice (some ⟨l0.b,l0.o+off,none⟩) len cp) lo' hi' none).run P w=.ok (.slice (if cp=l then some ⟨l0.b,l0.o+off,none⟩ else some ⟨l0.b,l0.o+off+l*s,none⟩) (h - l) (cp - l)) w:=by
          simp [Instr.sliceAt,Instr.slice,run_underlying hu,a1,run_sizeOf hz,add_addr]
         refine ⟨_,hrun,l0,cp - l,hl0,?_,by omega,by omega,(fun k hk=>by cases hk),fun _=>?_⟩
         ·rw [if_neg (by omega)];simp [Nat.add_assoc]
         ·rw [Nat.add_assoc,← Nat.add_mul,show l+(cp - l)=cp from by omega];exact hS'
        ·cases hev
       ·cases hev
      ·cases hev
     ·cases hev
    ·cases hev
   ·cases hev
  ·cases hev
theorem fold_set (off:Nat):∀ (us:List Value) (k:Nat) (cur:Array Value),off+k+us.length≤cur.size →
  ((us.zipIdx k).foldl (fun cs (x:Value × Nat)=>cs.setIfInBounds (off+x.2) x.1) cur).toList=cur.toList.take (off+k)++us++cur.toList.drop (off+k+us.length)
 | [],k,cur,_=>by simp
 | u :: r,k,cur,h=>by
  simp only [List.zipIdx_cons,List.foldl_cons]
  have ih:=fold_set off r (k+1) (cur.setIfInBounds (off+k) u) (by simp at h ⊢;omega)
  rw [ih]
  have e:=list_seg_step cur.toList (off+k) u r (by simp at h ⊢;omega)
  simpa [Array.toList_setIfInBounds,Nat.add_assoc] using e
theorem fill_ok {ρ:Rho} {place:Nat→Option (Nat × Nat)}:∀ {parts:List (Nat × AV)} {parts':List (Nat × Value)} {l l':List SV} {cur:Array Value},fillAll place l parts=some l'→CR ρ l cur.toList →
  parts.map (·.1)=parts'.map (·.1)→(∀ (i:Nat) x y,parts[i]?=some x→parts'[i]?=some y→VR ρ x.2 y.2)→∃ cur',Instr.fill place cur parts'=some cur'∧CR ρ l' cur'.toList
 | [],parts',l,l',cur,h,hc,hp,_=>by
  obtain rfl:parts'=[]:=by simpa using hp.symm
  obtain rfl:l=l':=by simpa [fillAll] using h
  exact ⟨cur,rfl,hc⟩
 | (i,v) :: rest,parts',l,l',cur,h,hc,hp,hv=>by
  cases parts' with
  | nil=>simp at hp
  | cons q rest' =>
   obtain ⟨i',v'⟩:=q
   simp only [List.map_cons,List.cons.injEq] at hp
   obtain ⟨rfl,hp⟩:=hp
   simp only [fillAll] at h
   split at h
   ·rename_i off size cs hpl hcs
    split at h
    ·rename_i hb
     obtain ⟨hcr,_⟩:=(hv 0 _ _ rfl rfl).cells hcs
     have hlen:=hcr.1
     have hcl:=hc.1
     simp at hlen hcl
     have hfold:=fold_set off v'.cells.toList 0 cur (by rw [Array.length_toList];have h1:=hc.1;have h2:=hcr.1;rw [Array.length_toList] at h1 h2;omega)
     have hz:v'.cells.zipIdx.foldl (fun cs (x:Value × Nat)=>cs.setIfInBounds (off+x.2) x.1) cur=(v'.cells.toList.zipIdx 0).foldl (fun cs (x:Value × Nat)=>cs.setIfInBounds (off+x.2) x.1) cur:=by
      rw [← Array.foldl_toList,Array.toList_zipIdx]
     have hc2:CR ρ (over l off cs) (v'.cells.zipIdx.foldl (fun cs (x:Value × Nat)=>cs.setIfInBounds (off+x.2) x.1) cur).toList:=by
      rw [hz,hfold]
      have:=((hc.take off).append hcr).append (hc.drop (off+cs.length))
      rw [hcr.1] at this
      simpa [over,hlen] using this
     obtain ⟨cur',h1,h2⟩:=fill_ok h hc2 hp (fun j x y a b=>hv (j+1) x y (by simpa using a) (by simpa using b))
     refine ⟨cur',?_,h2⟩
     simp only [Instr.fill,hpl]
     rw [if_neg (by simp;omega)]
     exact h1
    ·cases h
   ·cases h
theorem run_mapM_pure {α β:Type} (f:α→Sem β) (g:α→β) (w:World):∀ (l:List α),(∀ x∈l,(f x).run P w=.ok (g x) w)→(l.mapM f).run P w=.ok (l.map g) w
 | [],_=>by simp
 | x :: r,h=>by
  rw [List.mapM_cons]
  simp [h x (by simp),run_mapM_pure f g w r (fun y hy=>h y (by simp [hy]))]
theorem build_ok {ρ:Rho} {w:World} {t:TypeId} {parts:List (Nat × AV)} {parts':Array (Nat × Value)} {v:AV} (hev:evBuild P t parts=some v)
  (hp:parts.map (·.1)=parts'.toList.map (·.1)) (hv:∀ (i:Nat) x y,parts[i]?=some x→parts'.toList[i]?=some y→VR ρ x.2 y.2) :
  ∃ v',(Instr.build t parts').run P w=.ok v' w∧VR ρ v v':=by
 unfold evBuild at hev
 cases hz:tzero P t with
 | none=>simp [hz] at hev
 | some z =>
  obtain ⟨i,zv,hi,hzv,hzc⟩:=tzero_info hz
  have hzr:=ofCells_ok (ρ:=ρ) hzc
  simp only [hz,Option.bind_eq_bind,Option.bind_some] at hev
  split at hev
  ·rename_i fs hf
   split at hev
   ·rename_i hall
    cases hfl:fillAll (fun i=>(fs[i]?).bind fun (f:Field)=>(tsize P f.type).map fun s=>(f.offset,s)) z parts with
    | none=>simp [hfl] at hev
    | some l =>
     rw [hfl] at hev
     obtain rfl:v=.agg l:=(by simpa using hev.symm)
     have hsz:∀ f∈fs.toList,∃ s,tsize P f.type=some s:=by
      intro f hf
      have:=Array.all_eq_true_iff_forall_mem.1 hall f (by simpa using hf)
      exact Option.isSome_iff_exists.1 this
     have hmap:(fs.mapM fun (f:Field)=>(Prod.mk f.offset <$> sizeOf f.type:Sem (Nat × Nat))).run P w=.ok ((fs.toList.map fun f=>(f.offset,(tsize P f.type).getD 0)).toArray) w:=by
      rw [Array.mapM_eq_mapM_toList]
      simp only [Sem.run_map]
      rw [run_mapM_pure (P:=P) (g:=fun f=>(f.offset,(tsize P f.type).getD 0))]
      ·rfl
      ·intro f hf
       obtain ⟨s,hs⟩:=hsz f hf
       simp [run_sizeOf hs,hs]
     have hpl:(fun i:Nat=>(fs[i]?).bind fun (f:Field)=>(tsize P f.type).map fun s=>(f.offset,s))=fun i:Nat=>((fs.toList.map fun (f:Field)=>(f.offset,(tsize P f.type).getD 0)).toArray)[i]?:=by
      funext i
      simp only [List.getElem?_toArray,List.getElem?_map,Array.getElem?_toList]
      cases hfi:fs[i]? with
      | none=>rfl
      | some f =>
       obtain ⟨s,hs⟩:=hsz f (by simpa using Array.mem_of_getElem? hfi)
       simp [hs]
     rw [hpl] at hfl
     obtain ⟨cur',h1,h2⟩:=fill_ok hfl hzr hp hv
     simp only [List.getElem?_toArray,List.getElem?_map,Array.getElem?_toList] at h1
     exact ⟨.agg cur',by simp [Instr.build,zeroValue,typeInfo,hi,hzv,run_underlying (fieldsOf_und hf),hmap,h1],_,rfl,h2⟩
   ·cases hev
  ·rename_i n e hf ha
   cases hs:tsize P e with
   | none=>simp [hs] at hev
   | some s =>
    simp only [hs,Option.bind_some] at hev
    cases hfl:fillAll (fun i=>some (i*s,s)) z parts with
    | none=>simp [hfl] at hev
    | some l =>
     rw [hfl] at hev
     obtain rfl:v=.agg l:=(by simpa using hev.symm)
     obtain ⟨cur',h1,h2⟩:=fill_ok hfl hzr hp hv
     exact ⟨.agg cur',by simp [Instr.build,zeroValue,typeInfo,hi,hzv,run_underlying (arrOf_und ha),run_sizeOf hs,h1],_,rfl,h2⟩
  ·cases hev
theorem CR.rep {ρ:Rho} {z:List SV} {zv:Array Value} (h:CR ρ z zv.toList) (n s:Nat) (hs:z.length=s) (h0:0 < s):CR ρ (repeated z n) ((Array.range (n*s)).map (zv[· % zv.size]!)).toList:=by
 have hlen:∀ n,(repeated z n).length=n*s:=by
  intro n;induction n with
  | zero=>simp [repeated]
  | succ n ih=>simp [repeated,ih,hs,Nat.succ_mul,Nat.add_comm]
 have hget:∀ n i,i < n*s→(repeated z n)[i]?=z[i % s]?:=by
  intro n;induction n with
  | zero=>intro i hi;omega
  | succ n ih =>
   intro i hi
   simp only [repeated]
   by_cases h1:i < s
   ·rw [List.getElem?_append_left (by omega),Nat.mod_eq_of_lt h1]
   ·rw [List.getElem?_append_right (by omega),hs,ih (i - s) (by rw [Nat.succ_mul] at hi;omega)]
    congr 1
    rw [← Nat.mod_eq_sub_mod (by omega)]
 have hzs:zv.size=s:=by have:=h.1;simp at this;omega
 refine ⟨by simp [hlen],fun i v c p q=>?_⟩
 have hi:i < n*s:=by have:=(List.getElem?_eq_some_iff.1 p).1;rw [hlen] at this;exact this
 rw [hget n i hi] at p
 obtain ⟨u,h1,h2⟩:=h.get p
 have hlt:i % s < zv.size:=by rw [hzs];exact Nat.mod_lt _ h0
 have:c=u:=by
  simp [hi,hzs] at q
  rw [getElem!_pos zv (i % s) hlt] at q
  simp [hlt] at h1
  rw [← q,h1]
 rw [this]
 exact h2
theorem buildSlice_ok {B:Nat} {ρ:Rho} {M:MemF} {m m':Mem} {c c':Nat} {w:World} {t:TypeId} {len:Nat} {parts:List (Nat × AV)} {parts':Array (Nat × Value)} {v:AV} (hev:evBuildSlice P t len parts m c=some (v,m',c'))
  (hp:parts.map (·.1)=parts'.toList.map (·.1)) (hv:∀ (i:Nat) x y,parts[i]?=some x→parts'.toList[i]?=some y→VR ρ x.2 y.2) (hs:Sat B ρ M w) (hfr:Fresh ρ c c') :
  c≤c'∧∃ δ v' w',m'=δ++m∧(Instr.buildSlice t len parts').run P w=.ok v' w'∧Post B ρ M c c' w v δ v' w':=by
 unfold evBuildSlice at hev
 cases he:elemOf P t with
 | none=>simp [he] at hev
 | some e =>
  cases hz:tsize P e with
  | none=>simp [he,hz] at hev
  | some s =>
   cases hzz:tzero P e with
   | none=>simp [he,hz,hzz] at hev
   | some z =>
    simp only [he,hz,hzz,Option.bind_eq_bind,Option.bind_some] at hev
    split at hev
    ·rename_i hb
     obtain ⟨hb1,hb2,hb3,hb4⟩:=hb
     cases hfl:fillAll (fun i=>some (i*s,s)) (repeated z len) parts with
     | none=>simp [hfl] at hev
     | some l =>
      simp only [hfl,Option.bind_some,Option.some.injEq,Prod.mk.injEq] at hev
      obtain ⟨rfl,rfl,rfl⟩:=hev
      obtain ⟨i,zv,hi,hzv,hzc⟩:=tzero_info hzz
      have hzr:=ofCells_ok (ρ:=ρ) hzc
      obtain ⟨cur',h1,h2⟩:=fill_ok hfl (hzr.rep len s hb2 hb3) hp hv
      have hcl:=hfr c (Nat.le_refl _) (by omega)
      have hA:=hs.alloc hcl h2 #[] e
      have hsz:cur'.size=len*s:=by
       have h3:∀ {parts:List (Nat × AV)} {l l':List SV},fillAll (fun i=>some (i*s,s)) l parts=some l'→l'.length=l.length:=by
        intro parts
        induction parts with
        | nil=>intro l l' h;simp [fillAll] at h;rw [h]
        | cons q r ih =>
         intro l l' h
         obtain ⟨i,v⟩:=q
         simp only [fillAll] at h
         split at h
         ·split at h
          ·rw [ih h];simp [over];omega
          ·cases h
         ·cases h
       have h4:=h3 hfl
       have h5:=(hzr.rep len s hb2 hb3).1
       have h6:=h2.1
       simp at h5 h6
       omega
      refine ⟨by omega,[(c,some ⟨l,true⟩)],.slice (some ⟨w.heap.size,0,none⟩) len len,w.alloc (.cells cur' e),rfl,?_,put ρ c ⟨w.heap.size,0,cur'.toList.length+0⟩,put_ext hcl,⟨_,len,put_self _ _ _,by simp,Nat.le_refl _,hb4,(fun k hk=>by cases hk),(fun _=>by simp [hsz])⟩,?_,(Below.refl _ _).alloc hs.heap _⟩
      ·have h16:¬ (16777216 < len*s):=by omega
       by_cases h0:len=0
       ·have hx:((Array.range (len*s)).map ((#[]:Array Value)[· % (#[]:Array Value).size]!))=(Array.range (len*s)).map (zv.cells[· % zv.cells.size]!):=by simp [h0]
        have hx':Instr.fill (fun i=>some (i*s,s)) ((Array.range (len*s)).map ((#[]:Array Value)[· % (#[]:Array Value).size]!)) parts'.toList=some cur':=by rw [hx];exact h1
        simp [h0] at hx'
        simp [Instr.buildSlice,run_underlying (elemOf_und he),run_sizeOf hz,h0,hx',newRow]
       ·have hne:¬ len*s=0:=Nat.mul_ne_zero h0 (by omega)
        simp [Instr.buildSlice,run_underlying (elemOf_und he),run_sizeOf hz,h16,hne,zeroValue,typeInfo,hi,hzv,h1,newRow]
      ·simpa using hA
    ·cases hev
end Go.Proofs.Ytaelliigpclipaa.Eng
