/- Chapter 12: bytes as values. Printed by gen_rw.py. -/
import Derived.Test.YtnhleneknnbhaaaRO
import Derived.Test.YtnhleneknnbhaaaProg
import Derived.KernelRfl
namespace Go.Proofs.Ytnhleneknnbhaaa.V
open Go Go.RowKit Go.Proofs Go.Proofs.Ytnhleneknnbhaaa.Eng Go.ChangeShapes Go.WideShapes Go.ChangeAt
set_option maxRecDepth 100000
set_option linter.unusedVariables false
set_option linter.unusedSimpArgs false

def BsOk (L : List Int) : Prop := (∀ z ∈ L, (Lit.int .u8 z).wf = true ∧ (bc z).length = 1) ∧ L.length ≤ maxLen ∧ L.length * 1 ≤ 140737488351232
theorem opens_bs {H : Type} {enc : TypeId × Value → H} {W : World} {base : Nat} {spare : Nat → Bool} {held : Bool} : OpensD enc Try.prog W base spare held 43 1 (fun L : List Int => [.slv L.length none 1 (flat bc L)]) BsOk :=
  (opensD_slice Try.underlying43 (by kernel_rfl) (by decide) (B := 1) (by kernel_rfl) bc_len (opensD_int Try.underlying5)).weak (fun _ h => h)
theorem BsOk.ok {L : List Int} (h : BsOk L) : L.length ≤ 140737488351232 ∧ ∀ x ∈ L, 0 ≤ x ∧ x ≤ 255 := by
  refine ⟨by have := h.2.2; omega, fun x hx => ?_⟩
  have := (h.1 x hx).1
  simp [Lit.wf, IntKind.min, IntKind.max, IntKind.bits, IntKind.signed] at this
  omega
theorem ClsOk.ok {L : List Cl} (h : ClsOk L) : ∀ x ∈ L, -9223372036854775808 ≤ x.n ∧ x.n ≤ 9223372036854775807 := by
  intro x hx
  have := (h.1 x hx).1.2.2.1
  simp [Lit.wf, IntKind.min, IntKind.max, IntKind.bits, IntKind.signed] at this
  omega
end Go.Proofs.Ytnhleneknnbhaaa.V
