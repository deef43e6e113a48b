/- Chapter 12: arguments as values. Printed by gen_sj.py. -/
import Derived.Test.YtaelliigpclipaaSA
import Derived.Test.YtaelliigpclipaaEngRD
import Derived.Test.YtaelliigpclipaaProg
import Derived.KernelRfl
namespace Go.Proofs.Ytaelliigpclipaa.V
open Go Go.RowKit Go.Proofs Go.Proofs.Ytaelliigpclipaa.Eng Go.ChangeShapes Go.WideShapes Go.ChangeAt
set_option maxRecDepth 100000
set_option linter.unusedVariables false
set_option linter.unusedSimpArgs false

def ClOk (x : Cl) : Prop := x.col.size ≤ 140737488351232 ∧ (Lit.int .i64 x.kind).wf = true ∧ (Lit.int .i64 x.n).wf = true ∧ x.s.size ≤ 140737488351232
def ClsOk (L : List Cl) : Prop := (∀ z ∈ L, ClOk z ∧ z.cv.length = 4) ∧ L.length ≤ maxLen ∧ L.length * 48 ≤ 140737488351232
def RwOk (x : Rw) : Prop := (Lit.int .i64 x.time).wf = true ∧ (Lit.int .i64 x.seq).wf = true ∧ ClsOk x.cells
def RwsOk (L : List Rw) : Prop := (∀ z ∈ L, RwOk z ∧ z.cv.length = 3) ∧ L.length ≤ maxLen ∧ L.length * 40 ≤ 140737488351232
theorem opens_cl {H : Type} {enc : TypeId × Value → H} {W : World} {base : Nat} {spare : Nat → Bool} {held : Bool} : OpensD enc Try.prog W base spare held 28 4 Cl.cv ClOk :=
  (opensD_struct (f := fun v : ByteArray × Int × Int × ByteArray => [.str v.1] ++ ([.int .i64 v.2.1] ++ ([.int .i64 v.2.2.1] ++ [.str v.2.2.2]))) (fun v => ⟨v.1, v.2.1, v.2.2.1, v.2.2.2⟩) (fun _ => rfl) Try.underlying28 (by kernel_rfl)
    (opensE_cons rfl (by kernel_rfl) (opensD_string Try.underlying9) (opensE_cons rfl (by kernel_rfl) (opensD_int Try.underlying3) (opensE_cons rfl (by kernel_rfl) (opensD_int Try.underlying2) (opensE_one rfl (by kernel_rfl) (opensD_string Try.underlying9)))))).weak
    (fun b hb => by
      obtain ⟨v, rfl, h⟩ := hb
      exact h)
theorem opens_cls {H : Type} {enc : TypeId × Value → H} {W : World} {base : Nat} {spare : Nat → Bool} {held : Bool} : OpensD enc Try.prog W base spare held 23 1 (fun L : List Cl => [.slv L.length none 4 (flat Cl.cv L)]) ClsOk :=
  (opensD_slice Try.underlying23 (by kernel_rfl) (by decide) (B := 48) (by kernel_rfl) Cl_len opens_cl).weak (fun _ h => h)
theorem opens_rw {H : Type} {enc : TypeId × Value → H} {W : World} {base : Nat} {spare : Nat → Bool} {held : Bool} : OpensD enc Try.prog W base spare held 25 3 Rw.cv RwOk :=
  (opensD_struct (f := fun v : Int × Int × List Cl => [.int .i64 v.1] ++ ([.int .i64 v.2.1] ++ [.slv v.2.2.length none 4 (flat Cl.cv v.2.2)])) (fun v => ⟨v.1, v.2.1, v.2.2⟩) (fun _ => rfl) Try.underlying25 (by kernel_rfl)
    (opensE_cons rfl (by kernel_rfl) (opensD_int Try.underlying2) (opensE_cons rfl (by kernel_rfl) (opensD_int Try.underlying3) (opensE_one (sz := 1) (f := fun L : List Cl => [.slv L.length none 4 (flat Cl.cv L)]) (good := ClsOk) rfl (by kernel_rfl) opens_cls)))).weak
    (fun b hb => by
      obtain ⟨v, rfl, h⟩ := hb
      exact h)
theorem opens_rws {H : Type} {enc : TypeId × Value → H} {W : World} {base : Nat} {spare : Nat → Bool} {held : Bool} : OpensD enc Try.prog W base spare held 22 1 (fun L : List Rw => [.slv L.length none 3 (flat Rw.cv L)]) RwsOk :=
  (opensD_slice Try.underlying22 (by kernel_rfl) (by decide) (B := 40) (by kernel_rfl) Rw_len opens_rw).weak (fun _ h => h)
end Go.Proofs.Ytaelliigpclipaa.V
