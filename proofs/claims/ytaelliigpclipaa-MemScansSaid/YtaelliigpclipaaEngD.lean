/- The reckoner: addresses,fields,cuts,literals. -/
import Derived.Test.YtaelliigpclipaaEngC
namespace Go.Proofs.Ytaelliigpclipaa.Eng
set_option linter.unusedVariables false
set_option linter.unusedSimpArgs false
open Go Go.RowKit
variable {P:Program}
theorem add_addr (b o n:Nat):(⟨b,o,none⟩:Addr).add n=⟨b,o+n,none⟩:=Addr.add_mid b o n
theorem fieldAddr_ok {ρ:Rho} {w:World} {t:TypeId} {x v:AV} {x':Value} {f:Nat} (hev:evFieldAddr P t x f=some v) (hx:VR ρ x x') :
  ∃ v',(Instr.fieldAt t x' f).run P w=.ok v' w∧VR ρ v v':=by
 unfold evFieldAddr at hev
 cases hf:fieldsOf P t with
 | none=>simp [hf] at hev
 | some fs =>
  cases hfd:fs[f]? with
  | none=>simp [hf,hfd] at hev
  | some fd =>
   cases hz:tsize P fd.type with
   | none=>simp [hf,hfd,hz] at hev
   | some s =>
    simp only [hf,hfd,hz,Option.bind_eq_bind,Option.bind_some] at hev
    split at hev
    ·rename_i n off
     split at hev
     ·cases hev
     ·rename_i hs0
      obtain rfl:v=.s (.ptr n (off+fd.offset)):=(by simpa using hev.symm)
      obtain ⟨l,hl,rfl⟩:=hx
      refine ⟨_,?_,l,hl,rfl⟩
      simp [Instr.fieldAt,run_underlying (fieldsOf_und hf),hfd,Instr.sureAddr,fieldPlace,run_sizeOf hz,hs0,add_addr,Nat.add_assoc]
    ·rename_i cs
     split at hev
     ·cases hev
     ·rename_i hs0
      cases hsb:sub cs fd.offset s with
      | none=>simp [hsb] at hev
      | some r =>
       rw [hsb] at hev
       obtain rfl:v=.s (.ptv r):=(by simpa using hev.symm)
       obtain ⟨b,o,rfl,hf2⟩:=hx
       refine ⟨_,?_,b,o+fd.offset,rfl,(hf2.sub hsb).1⟩
       simp [Instr.fieldAt,run_underlying (fieldsOf_und hf),hfd,Instr.sureAddr,fieldPlace,run_sizeOf hz,hs0,add_addr,Nat.add_assoc]
    ·cases hev
theorem part_ok {ρ:Rho} {w:World} {t:TypeId} {cs:List SV} {us:Array Value} {off s:Nat} {ag:Bool} {v:AV} (hz:tsize P t=some s) (hag:tagg P t=some ag) (hcr:CR ρ cs us.toList)
  (h:(if ag then (sub cs off s).map .agg else (cs[off]?).map .s)=some v):∃ v',(part t us off).run P w=.ok v' w∧VR ρ v v':=by
 cases ag with
 | true =>
  rw [if_pos rfl] at h
  cases hsb:sub cs off s with
  | none=>simp [hsb] at h
  | some r =>
   rw [hsb] at h
   obtain rfl:v=.agg r:=(by simpa using h.symm)
   obtain ⟨hle,rfl⟩:=sub_some hsb
   refine ⟨.agg (us.extract off (off+s)),?_,_,rfl,?_⟩
   ·simp [part,run_isAgg hag,run_sizeOf hz]
   ·have:=(hcr.drop off).take s
    simpa [Array.toList_extract,List.extract_eq_take_drop] using this
 | false =>
  simp only [Bool.false_eq_true,if_false] at h
  cases hcl:cs[off]? with
  | none=>simp [hcl] at h
  | some x =>
   rw [hcl] at h
   obtain rfl:v=.s x:=(by simpa using h.symm)
   obtain ⟨c,h1,h2⟩:=hcr.get hcl
   refine ⟨c,?_,h2⟩
   have h3:us[off]?=some c:=by simpa using h1
   simp [part,run_isAgg hag,h3]
theorem field_ok {ρ:Rho} {w:World} {t:TypeId} {x v:AV} {x':Value} {f:Nat} (hev:evField P t x f=some v) (hx:VR ρ x x') :
  ∃ v',(Instr.field t x' f).run P w=.ok v' w∧VR ρ v v':=by
 unfold evField at hev
 cases hf:fieldsOf P t with
 | none=>simp [hf] at hev
 | some fs =>
  cases hfd:fs[f]? with
  | none=>simp [hf,hfd] at hev
  | some fd =>
   cases hz:tsize P fd.type with
   | none=>simp [hf,hfd,hz] at hev
   | some s =>
    cases hag:tagg P fd.type with
    | none=>simp [hf,hfd,hz,hag] at hev
    | some ag =>
     simp only [hf,hfd,hz,hag,Option.bind_eq_bind,Option.bind_some] at hev
     split at hev
     ·rename_i cs
      obtain ⟨us,rfl,hcr⟩:=hx
      obtain ⟨v',h1,h2⟩:=part_ok (w:=w) hz hag hcr hev
      exact ⟨v',by simp [Instr.field,run_underlying (fieldsOf_und hf),hfd,asAgg,h1],h2⟩
     ·cases hev
theorem indexAddr_ok {ρ:Rho} {w:World} {t:TypeId} {x i v:AV} {x' i':Value} (hev:evIndexAddr P t x i=some v) (hx:VR ρ x x') (hi:VR ρ i i') :
  ∃ v',(Instr.indexAt t x' i').run P w=.ok v' w∧VR ρ v v':=by
 unfold evIndexAddr at hev
 split at hev
 ·rename_i k i
  obtain rfl:i'=.int k i:=hi
  split at hev
  ·rename_i n off len cap sz
   obtain ⟨l,cp,hl,rfl,h2⟩:=hx
   cases he:elemOf P t with
   | none=>simp [he] at hev
   | some e =>
    cases hz:tsize P e with
    | none=>simp [he,hz] at hev
    | some s =>
     simp only [he,hz,Option.bind_eq_bind,Option.bind_some] at hev
     split at hev
     ·rename_i hb
      obtain rfl:v=.s (.ptr n (off+i.toNat*s)):=(by simpa using hev.symm)
      refine ⟨_,?_,l,hl,rfl⟩
      simp [Instr.indexAt,asIntOf,run_underlying (elemOf_und he),hb,run_sizeOf hz,add_addr,Nat.add_assoc]
     ·cases hev
  ·rename_i len cap sz cs
   cases he:elemOf P t with
   | none=>simp [he] at hev
   | some e =>
    cases hz:tsize P e with
    | none=>simp [he,hz] at hev
    | some s =>
     simp only [he,hz,Option.bind_eq_bind,Option.bind_some] at hev
     split at hev
     ·rename_i hb
      cases hsb:sub cs (i.toNat*s) s with
      | none=>simp [hsb] at hev
      | some r =>
       rw [hsb] at hev
       obtain rfl:v=.s (.ptv r):=(by simpa using hev.symm)
       rcases hx with ⟨_,h0,_⟩|⟨_,_,_,h0,_⟩|⟨b,o,cp,rfl,h2,h3,h4,h5,hf2⟩
       ·omega
       ·omega
       ·refine ⟨_,?_,b,o+i.toNat*s,rfl,(hf2.sub hsb).1⟩
        simp [Instr.indexAt,asIntOf,run_underlying (elemOf_und he),hb,run_sizeOf hz,add_addr,Nat.add_assoc]
     ·cases hev
  ·rename_i n off
   obtain ⟨l,hl,rfl⟩:=hx
   cases he:arrOf P t with
   | none=>simp [he] at hev
   | some p =>
    obtain ⟨len,e⟩:=p
    cases hz:tsize P e with
    | none=>simp [he,hz] at hev
    | some s =>
     simp only [he,hz,Option.bind_eq_bind,Option.bind_some] at hev
     split at hev
     ·rename_i hb
      obtain rfl:v=.s (.ptr n (off+i.toNat*s)):=(by simpa using hev.symm)
      refine ⟨_,?_,l,hl,rfl⟩
      simp [Instr.indexAt,asIntOf,run_underlying (arrOf_und he),Instr.sureAddr,hb,run_sizeOf hz,add_addr,Nat.add_assoc]
     ·cases hev
  ·cases hev
 ·cases hev
theorem index_ok {ρ:Rho} {w:World} {t:TypeId} {x i v:AV} {x' i':Value} (hev:evIndex P t x i=some v) (hx:VR ρ x x') (hi:VR ρ i i') :
  ∃ v',(Instr.index t x' i').run P w=.ok v' w∧VR ρ v v':=by
 unfold evIndex at hev
 split at hev
 ·rename_i k i
  obtain rfl:i'=.int k i:=hi
  split at hev
  ·rename_i s
   obtain rfl:x'=.string s:=hx
   split at hev
   ·rename_i hu
    split at hev
    ·rename_i h0
     cases hb:s[i.toNat]? with
     | none=>simp [hb] at hev
     | some b =>
      rw [hb] at hev
      obtain rfl:v=.s (.int .u8 b.toNat):=(by simpa using hev.symm)
      exact ⟨_,by simp [Instr.index,asIntOf,run_underlying hu,h0,hb],rfl⟩
    ·cases hev
   ·cases hev
  ·rename_i cs
   obtain ⟨us,rfl,hcr⟩:=hx
   cases he:arrOf P t with
   | none=>simp [he] at hev
   | some p =>
    obtain ⟨len,e⟩:=p
    cases hz:tsize P e with
    | none=>simp [he,hz] at hev
    | some s =>
     cases hag:tagg P e with
     | none=>simp [he,hz,hag] at hev
     | some ag =>
      simp only [he,hz,hag,Option.bind_eq_bind,Option.bind_some] at hev
      split at hev
      ·rename_i hb
       obtain ⟨v',h1,h2⟩:=part_ok (w:=w) hz hag hcr hev
       exact ⟨v',by simp [Instr.index,asIntOf,run_underlying (arrOf_und he),hb,run_sizeOf hz,h1],h2⟩
      ·cases hev
  ·cases hev
 ·cases hev
def OR (ρ:Rho):Option AV→Option Value→Prop
 | none,none=>True
 | some x,some v=>VR ρ x v
 | _,_=>False
theorem bnd_ok {ρ:Rho} {w:World} {x:AV} {v:Value} {d y q:Nat} {code:BoundsCode} (h:bnd (some x) d y=some q) (hx:VR ρ x v):(Instr.sliceBound v y code).run P w=.ok q w∧q≤y:=by
 unfold bnd at h
 split at h
 ·rename_i e;cases e
 ·rename_i k i e
  obtain rfl:x=.s (.int k i):=(by simpa using e)
  obtain rfl:v=.int k i:=hx
  split at h
  ·rename_i hb
   obtain rfl:i.toNat=q:=(by simpa using h)
   exact ⟨by simp [Instr.sliceBound,asIntOf,hb],by omega⟩
  ·cases h
 ·cases h
theorem bnd_none {d y q:Nat} (h:bnd none d y=some q):q=d:=by simpa [bnd] using h.symm
theorem bounds_ok {ρ:Rho} {w:World} {lo hi:Option AV} {lo' hi':Option Value} {sl:Bool} {len cap top h l:Nat} (hh:bnd hi len top=some h) (hl:bnd lo 0 h=some l) (htop:top≤cap) (hlen:len≤top) (rl:OR ρ lo lo') (rh:OR ρ hi hi') :
  (Instr.sliceBounds sl len cap lo' hi' none).run P w=.ok (l,h,cap) w∧l≤h∧h≤top:=by
 have e1:∀ q,hi=some q→∃ q',hi'=some q'∧VR ρ q q':=by intro q e;subst e;cases hi' with|none=>exact rh.elim|some q'=>exact ⟨q',rfl,rh⟩
 have up:∀ (x:AV) (v:Value) (d y y' q:Nat) (code:BoundsCode),y≤y'→bnd (some x) d y=some q→VR ρ x v→(Instr.sliceBound v y' code).run P w=.ok q w:=by
  intro x v d y y' q code hy hb hx
  have hq:=bnd_ok (P:=P) (w:=w) (code:=code) hb hx
  have:bnd (some x) d y'=some q:=by
   unfold bnd at hb ⊢
   split at hb
   ·rename_i e;cases e
   ·rename_i k i e
    obtain rfl:x=.s (.int k i):=(by simpa using e)
    split at hb
    ·rename_i hc;rw [if_pos ⟨hc.1,by omega⟩];exact hb
    ·cases hb
   ·cases hb
  exact (bnd_ok this hx).1
 have hhle:h≤top:=by
  cases hi with
  | none=>have:=bnd_none hh;omega
  | some q=>cases hi' with|none=>exact rh.elim|some q'=>exact (bnd_ok (P:=P) (w:=w) (code:=.index) hh rh).2
 have hlle:l≤h:=by
  cases lo with
  | none=>have:=bnd_none hl;omega
  | some q=>cases lo' with|none=>exact rl.elim|some q'=>exact (bnd_ok (P:=P) (w:=w) (code:=.index) hl rl).2
 refine ⟨?_,hlle,hhle⟩
 cases hi with
 | none =>
  cases hi' with
  | some q'=>exact rh.elim
  | none =>
   obtain rfl:=bnd_none hh
   cases lo with
   | none =>
    cases lo' with
    | some q'=>exact rl.elim
    | none=>obtain rfl:=bnd_none hl;simp [Instr.sliceBounds]
   | some q =>
    cases lo' with
    | none=>exact rl.elim
    | some q'=>simp [Instr.sliceBounds,(bnd_ok (P:=P) (w:=w) (code:=.sliceB) hl rl).1]
 | some q =>
  cases hi' with
  | none=>exact rh.elim
  | some q' =>
   have a1:=up q q' len top cap h (if sl then .sliceAcap else .sliceAlen) htop hh rh
   cases lo with
   | none =>
    cases lo' with
    | some q'=>exact rl.elim
    | none=>obtain rfl:=bnd_none hl;simp [Instr.sliceBounds,a1]
   | some q2 =>
    cases lo' with
    | none=>exact rl.elim
    | some q2'=>simp [Instr.sliceBounds,a1,(bnd_ok (P:=P) (w:=w) (code:=.sliceB) hl rl).1]
theorem bounds3_ok {ρ:Rho} {w:World} {lo hi:Option AV} {mx:AV} {lo' hi':Option Value} {mx':Value} {len cap top q h l:Nat} (hq:bnd (some mx) 0 top=some q) (hh:bnd hi len q=some h) (hl:bnd lo 0 h=some l) (htop:top≤cap) (hhi:hi≠none) (rl:OR ρ lo lo') (rh:OR ρ hi hi') (rm:VR ρ mx mx') :
  (Instr.sliceBounds true len cap lo' hi' (some mx')).run P w=.ok (l,h,q) w∧l≤h∧h≤q∧q≤top:=by
 have hqb:=bnd_ok (P:=P) (w:=w) (code:=.slice3Acap) hq rm
 have up:(Instr.sliceBound mx' cap .slice3Acap).run P w=.ok q w:=by
  unfold bnd at hq
  split at hq
  ·rename_i e;cases e
  ·rename_i k i e
   obtain rfl:mx=.s (.int k i):=(by simpa using e)
   obtain rfl:mx'=.int k i:=rm
   split at hq
   ·rename_i hc
    obtain rfl:i.toNat=q:=(by simpa using hq)
    have:0≤i∧i≤(cap:Int):=⟨hc.1,by omega⟩
    simp [Instr.sliceBound,asIntOf,this]
   ·cases hq
  ·cases hq
 cases hi with
 | none=>exact absurd rfl hhi
 | some x =>
  cases hi' with
  | none=>exact rh.elim
  | some x' =>
   obtain ⟨a1,a2⟩:=bnd_ok (P:=P) (w:=w) (code:=.slice3B) hh rh
   cases lo with
   | none =>
    cases lo' with
    | some q'=>exact rl.elim
    | none=>obtain rfl:=bnd_none hl;exact ⟨by simp [Instr.sliceBounds,up,a1],Nat.zero_le _,a2,hqb.2⟩
   | some y =>
    cases lo' with
    | none=>exact rl.elim
    | some y' =>
     obtain ⟨a3,a4⟩:=bnd_ok (P:=P) (w:=w) (code:=.slice3C) hl rl
     exact ⟨by simp [Instr.sliceBounds,up,a1,a3],a4,a2,hqb.2⟩
theorem slice_str_ok {ρ:Rho} {w:World} {t:TypeId} {s:ByteArray} {lo hi:Option AV} {v:AV} {lo' hi':Option Value} (hev:evSlice P t (.s (.str s)) lo hi none=some v) (rl:OR ρ lo lo') (rh:OR ρ hi hi') :
  ∃ v',(Instr.sliceAt t (.string s) lo' hi' none).run P w=.ok v' w∧VR ρ v v':=by
 simp only [evSlice] at hev
 split at hev
 ·rename_i hu _
  cases hh:bnd hi s.size s.size with
  | none=>simp [hh] at hev
  | some h =>
   cases hl:bnd lo 0 h with
   | none=>simp [hh,hl] at hev
   | some l =>
    simp only [hh,hl,Option.bind_eq_bind,Option.bind_some] at hev
    obtain rfl:v=.s (.str (s.extract l h)):=(by simpa using hev.symm)
    obtain ⟨a1,_⟩:=bounds_ok (P:=P) (w:=w) (sl:=false) hh hl (Nat.le_refl _) (Nat.le_refl _) rl rh
    exact ⟨_,by simp [Instr.sliceAt,Instr.slice,run_underlying hu,a1],rfl⟩
 ·cases hev
theorem slice_sl_ok {ρ:Rho} {w:World} {t:TypeId} {n off len:Nat} {cap:Option Nat} {sz:Nat} {x':Value} {lo hi mx:Option AV} {v:AV} {lo' hi' mx':Option Value} (hev:evSlice P t (.s (.sl n off len cap sz)) lo hi mx=some v) (hx:VR ρ (.s (.sl n off len cap sz)) x') (rl:OR ρ lo lo') (rh:OR ρ hi hi') (rm:OR ρ mx mx') :
  ∃ v',(Instr.sliceAt t x' lo' hi' mx').run P w=.ok v' w∧VR ρ v v':=by
 obtain ⟨l0,cp,hl0,rfl,hle,hmax,hcap,hS⟩:=hx
 simp only [evSlice] at hev
 cases he:elemOf P t with
 | none=>simp [he] at hev
 | some e =>
  cases hz:tsize P e with
  | none=>simp [he,hz] at hev
  | some s =>
   simp only [he,hz,Option.bind_eq_bind,Option.bind_some] at hev
   split at hev
   ·rename_i hs
    obtain ⟨rfl,hs0⟩:=hs
    have hu:=elemOf_und he
    split at hev
    ·cases mx' with
     | some _=>exact rm.elim
     | none =>
     cases hh:bnd hi len len with
     | none=>simp [hh] at hev
     | some h =>
      cases hl:bnd lo 0 h with
      | none=>simp [hh,hl] at hev
      | some l =>
       simp only [hh,hl,Option.bind_some] at hev
       obtain ⟨a1,a2,a3⟩:=bounds_ok (P:=P) (w:=w) (sl:=true) (cap:=cp) hh hl hle (Nat.le_refl _) rl rh
       have hrun:(Instr.sliceAt t (.slice (some ⟨l0.b,l0.o+off,none⟩) len cp) lo' hi' none).run P w=.ok (.slice (if cp=l then some ⟨l0.b,l0.o+off,none⟩ else some ⟨l0.b,l0.o+off+l*s,none⟩) (h - l) (cp - l)) w:=by
        simp [Instr.sliceAt,Instr.slice,run_underlying hu,a1,run_sizeOf hz,add_addr]
       refine ⟨_,hrun,?_⟩
       split at hev
       ·rename_i hl0'
        subst hl0'
        obtain rfl:v=.s (.sl n off h cap s):=(by simpa using hev.symm)
        refine ⟨l0,cp,hl0,?_,by omega,hmax,hcap,hS⟩
        simp
       ·rename_i hlne
        split at hev
        ·split at hev
         ·rename_i hlt
          obtain rfl:v=.s (.sl n (off+l*s) (h - l) none s):=(by simpa using hev.symm)
          refine ⟨l0,cp - l,hl0,?_,by omega,by omega,(fun k hk=>by cases hk),fun _=>?_⟩
          ·rw [if_neg (by omega)];simp [Nat.add_assoc]
          ·rw [Nat.add_assoc,← Nat.add_mul,show l+(cp - l)=cp from by omega];exact hS rfl
         ·rename_i hge
          obtain rfl:v=.s (.slE n):=(by simpa using hev.symm)
          have:h - l=0:=by omega
          rw [this]
          split
          ·exact ⟨_,_,rfl,by omega⟩
          ·exact ⟨_,_,rfl,by omega⟩
        ·rename_i k
         have hk:=hcap k rfl
         subst hk
         split at hev
         ·rename_i hlt
          obtain rfl:v=.s (.sl n (off+l*s) (h - l) (some (cp - l)) s):=(by simpa using hev.symm)
          refine ⟨l0,cp - l,hl0,?_,by omega,by omega,fun k hk=>by simpa using hk,fun h=>by cases h⟩
          rw [if_neg (by omega)];simp [Nat.add_assoc]
         ·rename_i hge
          obtain rfl:v=.s (.slE n):=(by simpa using hev.symm)
          have:h - l=0:=by omega
          rw [this]
          split
          ·exact ⟨_,_,rfl,by omega⟩
          ·exact ⟨_,_,rfl,by omega⟩
    ·rename_i mx
     cases mx' with
     | none=>exact rm.elim
     | some mx' =>
     cases hq:bnd (some mx) 0 len with
     | none=>simp [hq] at hev
     | some q =>
      cases hh:bnd hi len q with
      | none=>simp [hq,hh] at hev
      | some h =>
       cases hl:bnd lo 0 h with
       | none=>simp [hq,hh,hl] at hev
       | some l =>
        simp only [hq,hh,hl,Option.bind_some] at hev
        split at hev
        ·cases hev
        ·rename_i hhi
         obtain ⟨a1,a2,a3,a4⟩:=bounds3_ok (P:=P) (w:=w) (len:=len) (cap:=cp) hq hh hl hle hhi rl rh rm
         have hrun:(Instr.sliceAt t (.slice (some ⟨l0.b,l0.o+off,none⟩) len cp) lo' hi' (some mx')).run P w=.ok (.slice (if q=l then some ⟨l0.b,l0.o+off,none⟩ else some ⟨l0.b,l0.o+off+l*s,none⟩) (h - l) (q - l)) w:=by
          simp [Instr.sliceAt,Instr.slice,run_underlying hu,a1,run_sizeOf hz,add_addr]
         refine ⟨_,hrun,?_⟩
         split at hev
         ·rename_i hql
          obtain rfl:v=.s (.sl n off 0 (some 0) s):=(by simpa using hev.symm)
          refine ⟨l0,0,hl0,?_,Nat.le_refl _,by simp,fun k hk=>by simpa using hk,fun h=>by cases h⟩
          rw [if_pos hql]
          simp
          omega
         ·rename_i hql
          obtain rfl:v=.s (.sl n (off+l*s) (h - l) (some (q - l)) s):=(by simpa using hev.symm)
          refine ⟨l0,q - l,hl0,?_,by omega,by omega,fun k hk=>by simpa using hk,fun h=>by cases h⟩
          rw [if_neg hql];simp [Nat.add_assoc]
   ·cases hev
end Go.Proofs.Ytaelliigpclipaa.Eng
