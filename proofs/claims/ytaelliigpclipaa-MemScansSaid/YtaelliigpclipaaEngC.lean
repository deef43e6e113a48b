/- The reckoner: each operation of the translation comes to what is reckoned of it. -/
import Derived.Test.YtaelliigpclipaaEngB
import Derived.Laws.StructEq
namespace Go.Proofs.Ytaelliigpclipaa.Eng
set_option linter.unusedVariables false
set_option linter.unusedSimpArgs false
open Go Go.RowKit
variable {P:Program}
def Post (B:Nat) (ρ:Rho) (M:MemF) (c c':Nat) (w:World) (v:AV) (δ:Mem) (v':Value) (w':World):Prop :=
 ∃ ρ',Ext ρ ρ' c c'∧VR ρ' v v'∧Sat B ρ' (upd δ M) w'∧Below B w w'
def Fresh (ρ:Rho) (c c':Nat):Prop:=∀ n,c≤n→n < c'→ρ n=none
theorem Post.pure {B:Nat} {ρ:Rho} {M:MemF} {c:Nat} {w:World} {v:AV} {v':Value} (hs:Sat B ρ M w) (h:VR ρ v v'):Post B ρ M c c w v [] v' w :=
 ⟨ρ,Ext.refl _ _ _,h,by rw [upd_nil];exact hs,Below.refl _ _⟩
theorem ofCell_ok {ρ:Rho} {v:Value} {x:SV} (h:ofCell v=some x):SR ρ x v:=by
 unfold ofCell at h
 split at h<;>first|(injection h with h;subst h;rfl)|cases h
theorem ofCells_ok {ρ:Rho}:∀ {l:List Value} {xs:List SV},ofCells l=some xs→CR ρ xs l
 | [],xs,h=>by obtain rfl:xs=[]:=(by simpa [ofCells] using h.symm);exact CR.nil ρ
 | v :: r,xs,h=>by
  unfold ofCells at h
  split at h
  ·rename_i x l h1 h2
   obtain rfl:xs=x :: l:=(by simpa using h.symm)
   have ih:=ofCells_ok (ρ:=ρ) h2
   refine ⟨by simp [ih.1],fun i v' c p q=>?_⟩
   cases i with
   | zero=>obtain rfl:x=v':=(by simpa using p)
           obtain rfl:v=c:=(by simpa using q)
           exact ofCell_ok h1
   | succ i=>exact ih.2 i v' c (by simpa using p) (by simpa using q)
  ·cases h
theorem ofVal_ok {ρ:Rho} (v:Value):VR ρ (ofVal v) v:=by
 unfold ofVal
 split
 ·split
  ·rename_i cs l h;exact ⟨_,rfl,ofCells_ok h⟩
  ·trivial
 ·split
  ·rename_i x h;exact ofCell_ok h
  ·trivial
theorem tsize_info {t:TypeId} {s:Nat} (h:tsize P t=some s):∃ i,P.info? t=some i∧i.size=s:=by
 unfold tsize at h
 cases hi:P.info? t with
 | none=>simp [hi] at h
 | some i=>exact ⟨i,rfl,by simpa [hi] using h⟩
theorem tbytes_info {t:TypeId} {s:Nat} (h:tbytes P t=some s):∃ i,P.info? t=some i∧i.bytes=s:=by
 unfold tbytes at h
 cases hi:P.info? t with
 | none=>simp [hi] at h
 | some i=>exact ⟨i,rfl,by simpa [hi] using h⟩
theorem tzero_info {t:TypeId} {z:List SV} (h:tzero P t=some z):∃ i zv,P.info? t=some i∧i.zero=some zv∧ofCells zv.cells.toList=some z:=by
 unfold tzero at h
 split at h
 ·rename_i i hi
  split at h
  ·rename_i zv hz;exact ⟨i,zv,hi,hz,h⟩
  ·cases h
 ·cases h
theorem run_sizeOf {t:TypeId} {s:Nat} (h:tsize P t=some s) (w:World):(sizeOf t).run P w=.ok s w:=by
 obtain ⟨i,hi,rfl⟩:=tsize_info h
 simp [sizeOf,typeInfo,hi]
theorem run_isAgg {t:TypeId} {b:Bool} (h:tagg P t=some b) (w:World):(isAgg t).run P w=.ok b w:=by
 unfold tagg at h
 cases hu:P.underlying t with
 | none=>simp [hu] at h
 | some d =>
  simp only [hu,Option.map_some,Option.some.injEq] at h
  subst h
  simp only [isAgg,Sem.run_bind,run_underlying hu,Result.andThen_ok]
  cases d<;>rfl
theorem elemOf_und {t e:TypeId} (h:elemOf P t=some e):P.underlying t=some (.slice e):=by
 unfold elemOf at h
 split at h
 ·rename_i x hx;simp at h;subst h;exact hx
 ·cases h
theorem arrOf_und {t e:TypeId} {n:Nat} (h:arrOf P t=some (n,e)):P.underlying t=some (.array n e):=by
 unfold arrOf at h
 split at h
 ·rename_i x hx;simp at h;obtain ⟨rfl,rfl⟩:=h;assumption
 ·cases h
theorem fieldsOf_und {t:TypeId} {fs:Array Field} (h:fieldsOf P t=some fs):P.underlying t=some (.struct fs):=by
 unfold fieldsOf at h
 split at h
 ·rename_i x hx;simp at h;subst h;exact hx
 ·cases h
theorem sub_some {l r:List SV} {off n:Nat} (h:sub l off n=some r):off+n≤l.length∧r=(l.drop off).take n:=by
 unfold sub at h
 split at h
 ·rename_i hle;exact ⟨hle,by simpa using h.symm⟩
 ·cases h
theorem load_ok {B:Nat} {ρ:Rho} {M:MemF} {m:Mem} {w:World} {t:TypeId} {a v:AV} {a':Value} (hev:evLoad P t a m=some v) (ha:VR ρ a a') (hm:Agree m M) (hs:Sat B ρ M w) :
  ∃ v',(Instr.loadAt t a').run P w=.ok v' w∧VR ρ v v':=by
 unfold evLoad at hev
 split at hev
 ·rename_i n off
  obtain ⟨l,hl,rfl⟩:=ha
  cases hg:get m n with
  | none=>simp [hg] at hev
  | some b =>
   cases hz:tsize P t with
   | none=>simp [hg,hz] at hev
   | some sz =>
    cases hag:tagg P t with
    | none=>simp [hg,hz,hag] at hev
    | some ag =>
     simp only [hg,hz,hag,Option.bind_eq_bind,Option.bind_some] at hev
     have hb:=hs.here n b (hm n b hg)
     cases ag with
     | true =>
      rw [if_pos rfl] at hev
      cases hsb:sub b.cells off sz with
      | none=>simp [hsb] at hev
      | some r =>
       rw [hsb] at hev
       obtain rfl:v=.agg r:=(by simpa using hev.symm)
       obtain ⟨hle,rfl⟩:=sub_some hsb
       obtain ⟨cs,hcr,hr⟩:=hb.range hl
       have hcr2:=(hcr.drop off).take sz
       have hr2:=rangeAt_sub hr off sz
       have hlen:((cs.drop off).take sz).length=sz:=by rw [← hcr2.1,List.length_take,List.length_drop];omega
       have hl2:(loadCells ⟨l.b,l.o+off,none⟩ sz).run P w=.ok ((cs.drop off).take sz).toArray w:=by
        have:=run_loadCells_list (P:=P) w ⟨l.b,l.o+off,none⟩ ((cs.drop off).take sz) (fun j v hv=>by rw [Addr.add_mid];exact hr2 j v hv)
        rwa [hlen] at this
       refine ⟨.agg ((cs.drop off).take sz).toArray,?_,⟨_,rfl,by simpa using hcr2⟩⟩
       simp [Instr.loadAt,Instr.sureAddr,loadVar,run_isAgg hag,run_sizeOf hz,hl2]
     | false =>
      simp only [Bool.false_eq_true,if_false] at hev
      cases hcl:b.cells[off]? with
      | none=>simp [hcl] at hev
      | some x =>
       rw [hcl] at hev
       obtain rfl:v=.s x:=(by simpa using hev.symm)
       obtain ⟨l',a1,_,_,a4,_⟩:=hb
       rw [hl] at a1
       obtain rfl:l=l':=(by simpa using a1)
       obtain ⟨c,h1,h2⟩:=a4 off x hcl
       refine ⟨c,?_,h2⟩
       simp [Instr.loadAt,Instr.sureAddr,loadVar,run_isAgg hag,h1]
 ·rename_i cs
  obtain ⟨b,o,rfl,hf⟩:=ha
  cases hz:tsize P t with
  | none=>simp [hz] at hev
  | some sz =>
   cases hag:tagg P t with
   | none=>simp [hz,hag] at hev
   | some ag =>
    simp only [hz,hag,Option.bind_eq_bind,Option.bind_some] at hev
    cases ag with
    | true =>
     rw [if_pos rfl] at hev
     cases hsb:sub cs 0 sz with
     | none=>simp [hsb] at hev
     | some r =>
      rw [hsb] at hev
      obtain rfl:v=.agg r:=(by simpa using hev.symm)
      obtain ⟨hf2,hlen⟩:=hf.sub hsb
      obtain ⟨us,hcr,hr⟩:=FRL.range hs hf2
      have hul:us.length=sz:=by rw [← hcr.1];exact hlen
      have hl2:(loadCells ⟨b,o,none⟩ sz).run P w=.ok us.toArray w:=by
       have:=run_loadCells_list (P:=P) w ⟨b,o,none⟩ us (fun j v hv=>by
        have h9:=hr j v hv
        have e9:(⟨b,o,none⟩:Addr).add j=⟨b,o+0+j,none⟩:=by rw [show (⟨b,o,none⟩:Addr)=⟨b,o+0,none⟩ from rfl,Addr.add_mid]
        rw [e9];exact h9)
       rwa [hul] at this
      refine ⟨.agg us.toArray,?_,⟨_,rfl,by simpa using hcr⟩⟩
      simp [Instr.loadAt,Instr.sureAddr,loadVar,run_isAgg hag,run_sizeOf hz,hl2]
    | false =>
     simp only [Bool.false_eq_true,if_false] at hev
     cases hcl:cs[0]? with
     | none=>simp [hcl] at hev
     | some x =>
      rw [hcl] at hev
      obtain rfl:v=.s x:=(by simpa using hev.symm)
      obtain ⟨c,h1,h2⟩:=hf.get 0 x hcl
      refine ⟨c,?_,h2.SR⟩
      have h3:=(hs.frz _ _ _ h1).2
      simp at h3
      simp [Instr.loadAt,Instr.sureAddr,loadVar,run_isAgg hag,h3]
 ·cases hev
theorem upd_here {m:Mem} {M:MemF} (hm:Agree m M) (δ:Mem):Agree (δ++m) (upd δ M):=by
 intro n b hg
 induction δ with
 | nil=>exact hm n b hg
 | cons e r ih =>
  obtain ⟨k,x⟩:=e
  simp only [List.cons_append,get] at hg
  unfold upd
  by_cases hk:k=n
  ·rw [if_pos hk] at hg
   simp [hk,hg]
  ·rw [if_neg hk] at hg
   have:=ih hg
   unfold upd at this
   simpa [hk] using this
theorem store_ok {B:Nat} {ρ:Rho} {M:MemF} {m m':Mem} {w:World} {t:TypeId} {a v:AV} {a' v':Value} (hev:evStore P t a v m=some m') (ha:VR ρ a a') (hv:VR ρ v v') (hm:Agree m M) (hs:Sat B ρ M w) :
  ∃ δ w',m'=δ++m∧(Instr.storeAt t a' v').run P w=.ok () w'∧Sat B ρ (upd δ M) w'∧Below B w w':=by
 unfold evStore at hev
 split at hev
 ·rename_i n off
  obtain ⟨l,hl,rfl⟩:=ha
  cases hg:get m n with
  | none=>simp [hg] at hev
  | some b =>
   cases hz:tsize P t with
   | none=>simp [hg,hz] at hev
   | some sz =>
    cases hcs:v.cells with
    | none=>simp [hg,hz,hcs] at hev
    | some cs =>
     simp only [hg,hz,hcs,Option.bind_eq_bind,Option.bind_some] at hev
     split at hev
     ·rename_i hcond
      simp only [Bool.and_eq_true,beq_iff_eq,decide_eq_true_eq] at hcond
      obtain ⟨⟨ho,hlen⟩,hfit⟩:=hcond
      obtain rfl:=(by simpa using hev.symm)
      have hb:=hs.here n b (hm n b hg)
      obtain ⟨hcr,_⟩:=hv.cells hcs
      obtain ⟨l',a1,a2,a3,a4,a5⟩:=hb
      rw [hl] at a1
      obtain rfl:l=l':=(by simpa using a1)
      obtain ⟨a6,a7⟩:=a5 ho
      have hrun:=run_storeCells_cells (P:=P) l.b (l.o+off) v'.cells.toList 0 w
       (fun j hj=>by rw [← hcr.1] at hj;have:=(a7 (off+j) (by omega)).1;simpa [Nat.add_assoc] using this)
       (fun j hj=>by rw [← hcr.1] at hj;have:=(a7 (off+j) (by omega)).2;simpa [Nat.add_assoc] using this) hcr.one
      have hsz:v'.cells.size=sz:=by have:=hcr.1;simp at this;omega
      refine ⟨[(n,some { b with cells:=over b.cells off cs })],_,rfl,?_,hs.store (hm n b hg) ho hl off hcr (by omega),?_⟩
      ·simp only [Nat.add_zero] at hrun
       simp [Instr.storeAt,Instr.sureAddr,storeVar,run_sizeOf hz,hsz,hrun]
      ·refine ⟨?_,?_,?_,by rw [sizeCells];exact Nat.le_refl _,fun k hk=>?_⟩
       ·exact (World.setCells_streams _ _ _ _).1
       ·exact (World.setCells_streams _ _ _ _).2.1
       ·exact (World.setCells_streams _ _ _ _).2.2
       ·exact setCells_other _ _ _ _ _ (by omega)
     ·cases hev
 ·cases hev
end Go.Proofs.Ytaelliigpclipaa.Eng
