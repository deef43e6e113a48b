/- The reckoner: what is reckoned of a whole call,the machine comes to. -/
import Derived.Test.YtaelliigpclipaaEngL
namespace Go.Proofs.Ytaelliigpclipaa.Eng
set_option linter.unusedVariables false
set_option linter.unusedSimpArgs false
open Go Go.RowKit
variable {P:Program}
theorem reg_ok {B:Nat} (hmix:P.follows .mixedOrders=true):RegOk P B (regAll P):=by
 intro call hcall id ops draw t m c t' m' c' h
 unfold regAll at h
 cases draw with
 | false=>exact plain_ok hcall id ops t m c t' m' c' h
 | true =>
  simp only [if_true] at h
  unfold evDrawn at h
  split at h
  ·rename_i hst
   split at h
   ·rename_i t1 ds c1 hrun
    split at h
    ·rename_i hdy
     simp only [Option.some.injEq,Prod.mk.injEq] at h
     obtain ⟨rfl,rfl,rfl⟩:=h
     exact run_ok hmix hcall hst hrun hdy
    ·split at h
     ·rename_i t2 ds2 c2 hrun2
      split at h
      ·rename_i hdy2
       simp only [Option.some.injEq,Prod.mk.injEq] at h
       obtain ⟨rfl,rfl,rfl⟩:=h
       exact run_ok hmix hcall hst hrun2 hdy2
      ·cases h
     ·cases h
   ·cases h
  ·cases h
end Go.Proofs.Ytaelliigpclipaa.Eng
