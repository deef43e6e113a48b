/- The reckoner over tries: regions,code,calls;it answers as the reckoner does,so the machine keeps to it. -/
import Derived.Test.YtaelliigpclipaaEngV
namespace Go.Proofs.Ytaelliigpclipaa.Eng
set_option linter.unusedVariables false
set_option linter.unusedSimpArgs false
open Go Go.RowKit
variable {P:Program}
theorem evOpG_ok {callG:CallG} {call:CallF} {m:Mem} {c:Nat} (hc:∀ f args v δ c',callG f args c=some (v,δ,c')→call f args m c=some (v,δ++m,c'))
  {o:Op} {t:Nat→AV} {v:AV} {δ:Mem} {c':Nat} (h:evOpG P callG o t (get m) c=some (v,δ,c')):evOpF P call o t m c=some (v,δ++m,c'):=by
 have hone:∀ {x:AV},one x [] c=some (v,δ,c')→one x m c=some (v,δ++m,c'):=by
  intro x h
  simp only [one,Option.some.injEq,Prod.mk.injEq] at h
  obtain ⟨rfl,rfl,rfl⟩:=h
  rfl
 cases o with
 | move x=>exact hone h
 | assign x=>exact hone h
 | pick x a b =>
  simp only [evOpG,evOpF,oPick] at h ⊢
  split at h
  ·simp only [Option.some.injEq,Prod.mk.injEq] at h
   obtain ⟨rfl,rfl,rfl⟩:=h
   rfl
  ·cases h
 | alloc e =>
  simp only [evOpG,evOpF,oAlloc] at h ⊢
  split at h
  ·simp only [Option.some.injEq,Prod.mk.injEq] at h
   obtain ⟨rfl,rfl,rfl⟩:=h
   rfl
  ·cases h
 | box e x =>
  simp only [evOpG,evOpF,oBox] at h ⊢
  split at h
  ·simp only [Option.some.injEq,Prod.mk.injEq] at h
   obtain ⟨rfl,rfl,rfl⟩:=h
   rfl
  ·cases h
 | build ty parts=>exact stillG_ok h
 | buildSlice ty len parts =>
  simp only [evOpG,evOpF,evBuildSlice,Option.bind_eq_bind,Option.bind_eq_some_iff] at h ⊢
  obtain ⟨e,he,s,hs,z,hz,h⟩:=h
  refine ⟨e,he,s,hs,z,hz,?_⟩
  split at h
  ·rename_i hq
   rw [if_pos hq]
   simp only [Option.bind_eq_some_iff] at h ⊢
   obtain ⟨cs,hcs,h⟩:=h
   refine ⟨cs,hcs,?_⟩
   simp only [Option.some.injEq,Prod.mk.injEq] at h
   obtain ⟨rfl,rfl,rfl⟩:=h
   rfl
  ·cases h
 | load ty a =>
  simp only [evOpG,evOpF] at h ⊢
  cases hl:loadG P ty (evO t a) (get m) with
  | none=>rw [hl] at h;cases h
  | some x=>rw [hl] at h;rw [loadG_ok hl];exact stillG_ok h
 | store ty a x =>
  simp only [evOpG,evOpF] at h ⊢
  cases hl:storeG P ty (evO t a) (evO t x) (get m) with
  | none=>rw [hl] at h;cases h
  | some y =>
   rw [hl] at h
   rw [storeG_ok hl]
   simp only [storeR,Option.some.injEq,Prod.mk.injEq] at h
   obtain ⟨rfl,rfl,rfl⟩:=h
   rfl
 | nilCheck x =>
  simp only [evOpG,evOpF,oNil] at h ⊢
  split at h
  ·simp only [Option.some.injEq,Prod.mk.injEq] at h
   obtain ⟨rfl,rfl,rfl⟩:=h
   rfl
  ·simp only [Option.some.injEq,Prod.mk.injEq] at h
   obtain ⟨rfl,rfl,rfl⟩:=h
   rfl
  ·simp only [Option.some.injEq,Prod.mk.injEq] at h
   obtain ⟨rfl,rfl,rfl⟩:=h
   rfl
  ·cases h
 | binOp op xt x y yt=>exact stillS_ok h
 | unOp op xt x=>exact stillS_ok h
 | convert a b x=>exact convG_ok h
 | makeFunc fn first caps =>
  simp only [evOpG,evOpF,oFunc] at h ⊢
  split at h
  ·split at h
   ·rename_i hq
    rw [if_pos hq]
    exact stillS_ok h
   ·cases h
  ·cases h
 | makeSlice ty l cp =>
  simp only [evOpG,evOpF,evMake,Option.bind_eq_bind,Option.bind_eq_some_iff] at h ⊢
  obtain ⟨e,he,s,hs,z,hz,b,hb,h⟩:=h
  refine ⟨e,he,s,hs,z,hz,b,hb,?_⟩
  split at h
  ·split at h
   ·rename_i hq
    rw [if_pos hq]
    simp only [Option.some.injEq,Prod.mk.injEq] at h
    obtain ⟨rfl,rfl,rfl⟩:=h
    rfl
   ·cases h
  ·cases h
 | slice ty x lo hi mx =>
  simp only [evOpG,evOpF] at h ⊢
  cases hl:evSliceM P ty (evO t x) (lo.map (evO t)) (hi.map (evO t)) (mx.map (evO t)) (peek (get m) (evO t x)) with
  | none=>rw [hl] at h;cases h
  | some y=>rw [hl] at h;rw [sliceM_sub sub_peek1 hl];exact stillG_ok h
 | fieldAddr s x f=>exact stillG_ok h
 | field s x f=>exact stillG_ok h
 | indexAddr ty x i=>exact stillG_ok h
 | index ty x i=>exact stillG_ok h
 | extract x i =>
  simp only [evOpG,evOpF,oExtract] at h ⊢
  split at h
  ·exact still_ok h
  ·cases h
 | call cl =>
  obtain ⟨callee,args,ts⟩:=cl
  simp only [evOpG,evOpF,calleeG,oCallee] at h ⊢
  cases callee with
  | invoke r n=>cases h
  | value f =>
   simp only [fnG,oCall] at h ⊢
   split at h
   ·rename_i g cs he
    simp only [he]
    exact hc _ _ _ _ _ h
   ·cases h
  | builtin b =>
   simp only [builtinG,oBuiltin] at h ⊢
   cases b with
   | append=>exact appendG_ok h
   | copy=>exact copyG_ok h
   | clear=>exact clearG_ok h
   | len =>
    simp only [oLen] at h ⊢
    split at h
    ·exact still_ok h
    ·cases h
   | cap =>
    simp only [oCap] at h ⊢
    split at h
    ·exact still_ok h
    ·cases h
   | min =>
    simp only [oMm] at h ⊢
    split at h
    ·exact still_ok h
    ·cases h
   | max =>
    simp only [oMm] at h ⊢
    split at h
    ·exact still_ok h
    ·cases h
   | _=>cases h
 | _=>cases h
structure FS where
 n:Nat
 S:Tr AV
 T:TM
 c:Nat
 lg:List Nat
def RelM (T:TM) (m:Mem):Prop:=mg T=get m
def RelS (n:Nat) (S:Tr AV) (t:Tm):Prop:=t.n=n∧sg S=look t
noncomputable def putSK {β:Type} (n:Nat) (S:Tr AV) (d:Option Tmp) (v:AV) (k:Tr AV→Option β):Option β:=match d with
 | none=>k S
 | some d=>match Nat.blt d n with
  | true=>tp 64 S d v k
  | false=>k S
section
variable (P:Program)
def preOf (bss:List (List Nat)) (hid:List Mem) (ds:List Mem) (j:Nat):Mem:=hid.getD j []++memOf (bss.getD j []) ds 0 []
noncomputable def dynT (ops:Array Oper) (bss:List (List Nat)) (hid:List Mem) (T0:TM) (ds:List Mem):Bool :=
 (hid.all fun h=>h.all fun e=>e.2.isNone) &&
 (pairs ops.size bss).all fun p=>(ds.getD p.1 []).all fun e=>(upd (preOf bss hid ds p.2) (mg T0) e.1).isNone&&(ds.getD p.2 []).all fun e'=>decide (e.1≠e'.1)
end
theorem memOf_out {bs:List Nat}:∀ (ds:List Mem) (k:Nat) (m:Mem),memOf bs ds k m=memOf bs ds k []++m
 | [],_,_=>rfl
 | x :: r,k,m=>by
  simp only [memOf,join_eq]
  split
  ·rw [memOf_out r (k+1) (x++m),memOf_out r (k+1) (x++[]),List.append_nil,List.append_assoc]
  ·exact memOf_out r (k+1) m
theorem room_pre (bss:List (List Nat)) (hid:List Mem) (m0:Mem) (ds:List Mem) (j:Nat):roomOf bss hid m0 ds j=preOf bss hid ds j++m0:=by
 unfold roomOf preOf
 rw [memOf_out,List.append_assoc]
theorem dynT_eq {ops:Array Oper} {bss:List (List Nat)} {hid:List Mem} {T0:TM} {m0:Mem} (h0:RelM T0 m0) (ds:List Mem):dynT ops bss hid T0 ds=dyn ops bss hid m0 ds:=by
 unfold dynT dyn
 simp only [room_pre,get_append]
 rw [show mg T0=get m0 from h0]
end Go.Proofs.Ytaelliigpclipaa.Eng
