/- Chapter 10: arguments as values. Printed by gen_kh.py. -/
import Derived.Test.YtdjalemejbjafaaKB
import Derived.Test.YtdjalemejbjafaaEngRD
import Derived.Test.YtdjalemejbjafaaProg
import Derived.KernelRfl
namespace Go.Proofs.Ytdjalemejbjafaa.V
open Go Go.RowKit Go.Proofs Go.Proofs.Ytdjalemejbjafaa.Eng Go.ChangeShapes Go.WideShapes Go.ChangeAt
set_option maxRecDepth 100000
set_option linter.unusedVariables false
set_option linter.unusedSimpArgs false

structure Ix where
  rows : Int
  last : Int
  at' : List Int
abbrev Ix.cv (x : Ix) : List SV := [.int .i64 x.rows, .int .i64 x.last, .slv x.at'.length none 1 (flat ic x.at')]
def BsOk (L : List Int) : Prop := (∀ z ∈ L, (Lit.int .u8 z).wf = true ∧ (bc z).length = 1) ∧ L.length ≤ maxLen ∧ L.length * 1 ≤ 140737488351232
def IsOk (L : List Int) : Prop := (∀ z ∈ L, (Lit.int .i64 z).wf = true ∧ (ic z).length = 1) ∧ L.length ≤ maxLen ∧ L.length * 8 ≤ 140737488351232
def IxOk (x : Ix) : Prop := (Lit.int .i64 x.rows).wf = true ∧ (Lit.int .i64 x.last).wf = true ∧ IsOk x.at'
theorem opens_bs {H : Type} {enc : TypeId × Value → H} {W : World} {base : Nat} {spare : Nat → Bool} {held : Bool} : OpensD enc Try.prog W base spare held 25 1 (fun L : List Int => [.slv L.length none 1 (flat bc L)]) BsOk :=
  (opensD_slice Try.underlying25 (by kernel_rfl) (by decide) (B := 1) (by kernel_rfl) bc_len (opensD_int Try.underlying5)).weak (fun _ h => h)
theorem opens_is {H : Type} {enc : TypeId × Value → H} {W : World} {base : Nat} {spare : Nat → Bool} {held : Bool} : OpensD enc Try.prog W base spare held 22 1 (fun L : List Int => [.slv L.length none 1 (flat ic L)]) IsOk :=
  (opensD_slice Try.underlying22 (by kernel_rfl) (by decide) (B := 8) (by kernel_rfl) ic_len (opensD_int Try.underlying2)).weak (fun _ h => h)
theorem opens_ix {H : Type} {enc : TypeId × Value → H} {W : World} {base : Nat} {spare : Nat → Bool} {held : Bool} : OpensD enc Try.prog W base spare held 24 3 Ix.cv IxOk :=
  (opensD_struct (f := fun v : Int × Int × List Int => [.int .i64 v.1] ++ ([.int .i64 v.2.1] ++ [.slv v.2.2.length none 1 (flat ic v.2.2)])) (fun v => ⟨v.1, v.2.1, v.2.2⟩) (fun _ => rfl) Try.underlying24 (by kernel_rfl)
    (opensE_cons rfl (by kernel_rfl) (opensD_int Try.underlying3) (opensE_cons rfl (by kernel_rfl) (opensD_int Try.underlying2) (opensE_one (sz := 1) (f := fun L : List Int => [.slv L.length none 1 (flat ic L)]) (good := IsOk) rfl (by kernel_rfl) opens_is)))).weak
    (fun b hb => by
      obtain ⟨v, rfl, h⟩ := hb
      exact h)
theorem BsOk.ok {L : List Int} (h : BsOk L) : L.length ≤ 140737488351232 ∧ ∀ x ∈ L, 0 ≤ x ∧ x ≤ 255 := by
  refine ⟨by have := h.2.2; omega, fun x hx => ?_⟩
  have := (h.1 x hx).1
  simp [Lit.wf, IntKind.min, IntKind.max, IntKind.bits, IntKind.signed] at this
  omega
theorem wf_in {x : Int} (h : (Lit.int .i64 x).wf = true) : In64 x := by
  simp [Lit.wf, IntKind.min, IntKind.max, IntKind.bits, IntKind.signed] at h
  unfold In64
  omega
theorem IsOk.ok {L : List Int} (h : IsOk L) : ∀ x ∈ L, In64 x := fun x hx => wf_in (h.1 x hx).1
end Go.Proofs.Ytdjalemejbjafaa.V
