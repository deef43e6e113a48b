/- Short words for the walks. -/
import Derived.Test.YtaelliigpclipaaEngRD
import Derived.Test.YtaelliigpclipaaEngGt
namespace Go.Proofs.Ytaelliigpclipaa.Eng
open Go Go.RowKit Go.Proofs
abbrev IsT (b:Bool):Prop:=some (AV.s (SV.bool b))=some (AV.s (SV.bool true))
abbrev IsF (b:Bool):Prop:=some (AV.s (SV.bool b))=some (AV.s (SV.bool false))
abbrev aT:Ans:=.val (.s (.bool true))
abbrev aF:Ans:=.val (.s (.bool false))
abbrev sI (n:Int):SV:=.int .i64 n
abbrev sB (n:Int):SV:=.int .u8 n
abbrev s0_:ByteArray:=⟨#[]⟩
abbrev wI (n:Int):Int:=IntKind.wrap .i64 n
abbrev vL {α:Type} (f:α→List SV) (k:Nat) (L:List α):SV:=.slv L.length none k (flat f L)
abbrev sB_ (l:List SV):Option Blk:=some ⟨l,true⟩
abbrev tl_ (a:Array UInt8):List UInt8:=a.toList
abbrev aC (v:AV) (c:Nat):Ans:=.call [] v [] c
theorem cT {p:Prop} [Decidable p] (h:p):IsT (decide p):=claim_b (decide_eq_true h)
theorem cF {p:Prop} [Decidable p] (h:¬ p):IsF (decide p):=claim_b (decide_eq_false h)
theorem cTa {p:Prop} [Decidable p] (h:p:=by first|assumption|omega):IsT (decide p):=cT h
theorem cFa {p:Prop} [Decidable p] (h:¬ p:=by first|assumption|omega):IsF (decide p):=cF h
end Go.Proofs.Ytaelliigpclipaa.Eng
