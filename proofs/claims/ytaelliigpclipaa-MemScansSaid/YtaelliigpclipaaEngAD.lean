/- The reckoner with answers: how claims are met. -/
import Derived.Test.YtaelliigpclipaaEngAC
import Derived.Test.YtaelliigpclipaaEngZ
namespace Go.Proofs.Ytaelliigpclipaa.Eng
set_option linter.unusedVariables false
set_option linter.unusedSimpArgs false
open Go Go.RowKit
variable {P:Program}
theorem claim_b {x b:Bool} (h:x=b):some (AV.s (SV.bool x))=some (AV.s (SV.bool b)):=by rw [h]
theorem claim_i {k:IntKind} {x y:Int} (h:x=y):some (AV.s (SV.int k x))=some (AV.s (SV.int k y)):=by rw [h]
theorem wrap_i64 {x:Int} (h0:-9223372036854775808≤x) (h1:x≤9223372036854775807):IntKind.wrap .i64 x=x:=by
 simp only [IntKind.wrap,IntKind.bits,IntKind.signed,Bool.true_and,decide_eq_true_eq,ge_iff_le]
 split<;>omega
theorem claim_index {t e:TypeId} {n off len sz s:Nat} {cap:Option Nat} {kd:IntKind} {q:Int} {k:Nat} (he:elemOf P t=some e) (hs:tsize P e=some s) (hq:q=(k:Int)) (h1:k < len) :
  evIndexAddr P t (.s (.sl n off len cap sz)) (.s (.int kd q))=some (.s (.ptr n (off+k*s))):=by
 subst hq
 have h2:(0:Int)≤(k:Int)∧(k:Int) < (len:Int):=by omega
 simp [evIndexAddr,he,hs,h2.2]
theorem claim_strto {t:TypeId} {s:ByteArray} {kd:IntKind} {q:Int} {k:Nat} (hu:P.underlying t=some .string) (hq:q=(k:Int)) (h1:k≤s.size) :
  evSlice P t (.s (.str s)) none (some (.s (.int kd q))) none=some (.s (.str (s.extract 0 k))):=by
 subst hq
 have h2:(k:Int)≤(s.size:Int):=by omega
 simp [evSlice,hu,bnd,h2]
theorem claim_load_agg {t:TypeId} {n off sz:Nat} {b:Blk} {cs:List SV} (hs:tsize P t=some sz) (ha:tagg P t=some true) (h:sub b.cells off sz=some cs):loadG P t (.s (.ptr n off)) (fun _=>some b)=some (.agg cs):=by
 simp [loadG,hs,ha,h]
theorem claim_load {t:TypeId} {n off sz:Nat} {b:Blk} {v:SV} (hs:tsize P t=some sz) (ha:tagg P t=some false) (h:b.cells[off]?=some v):loadG P t (.s (.ptr n off)) (fun _=>some b)=some (.s v):=by
 simp [loadG,hs,ha,h]
def flat {α:Type} (f:α→List SV):List α→List SV
 | []=>[]
 | x :: r=>f x++flat f r
theorem flat_append {α:Type} (f:α→List SV):∀ (l r:List α),flat f (l++r)=flat f l++flat f r
 | [],r=>rfl
 | x :: l,r=>by simp [flat,flat_append f l r]
theorem flat_length {α:Type} (f:α→List SV) (sz:Nat) (hf:∀ x,(f x).length=sz):∀ (l:List α),(flat f l).length=l.length*sz
 | []=>by simp [flat]
 | x :: r=>by simp [flat,hf,flat_length f sz hf r,Nat.succ_mul,Nat.add_comm]
theorem flat_drop {α:Type} (f:α→List SV) (sz:Nat) (hf:∀ x,(f x).length=sz):∀ (l:List α) (k:Nat),(flat f l).drop (k*sz)=flat f (l.drop k)
 | l,0=>by simp
 | [],k+1=>by simp [flat]
 | x :: r,k+1=>by
  rw [List.drop_succ_cons,← flat_drop f sz hf r k,flat,Nat.succ_mul,Nat.add_comm,← List.drop_drop,← hf x,List.drop_left]
theorem flat_take {α:Type} (f:α→List SV) (sz:Nat) (hf:∀ x,(f x).length=sz):∀ (l:List α) (k:Nat),(flat f l).take (k*sz)=flat f (l.take k)
 | l,0=>by simp [flat]
 | [],k+1=>by simp [flat]
 | x :: r,k+1=>by
  rw [List.take_succ_cons,flat,flat,← flat_take f sz hf r k,Nat.succ_mul,Nat.add_comm,← hf x,List.take_length_add_append]
theorem flat_sub {α:Type} (f:α→List SV) (sz:Nat) (hf:∀ x,(f x).length=sz) (l:List α) (k n:Nat) (h:k+n≤l.length):sub (flat f l) (k*sz) (n*sz)=some (flat f ((l.drop k).take n)):=by
 unfold sub
 rw [if_pos (by rw [flat_length f sz hf,← Nat.add_mul];exact Nat.mul_le_mul_right _ h),flat_drop f sz hf,flat_take f sz hf]
theorem flat_get {α:Type} (f:α→List SV) (sz:Nat) (hf:∀ x,(f x).length=sz) (l:List α) (k:Nat) (h:k < l.length):sub (flat f l) (k*sz) sz=some (f l[k]):=by
 have:=flat_sub f sz hf l k 1 h
 rw [Nat.one_mul] at this
 rw [this]
 have:(l.drop k).take 1=[l[k]]:=by
  rw [List.take_one,List.head?_drop]
  simp [h]
 rw [this]
 simp [flat]
end Go.Proofs.Ytaelliigpclipaa.Eng
