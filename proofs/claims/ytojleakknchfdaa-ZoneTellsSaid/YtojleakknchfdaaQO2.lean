/- Chapter 8: arguments as values. Printed by gen_qn.py. -/
import Derived.Test.YtojleakknchfdaaQE
import Derived.Test.YtojleakknchfdaaEngRD
import Derived.Test.YtojleakknchfdaaProg
import Derived.KernelRfl
namespace Go.Proofs.Ytojleakknchfdaa.V
open Go Go.RowKit Go.Proofs Go.Proofs.Ytojleakknchfdaa.Eng Go.ChangeShapes Go.WideShapes Go.ChangeAt
set_option maxRecDepth 100000
set_option linter.unusedVariables false
set_option linter.unusedSimpArgs false

def ClOk (x : Cl) : Prop := x.col.size ≤ 140737488351232 ∧ (Lit.int .i64 x.kind).wf = true ∧ (Lit.int .i64 x.n).wf = true ∧ x.s.size ≤ 140737488351232
def ClsOk (L : List Cl) : Prop := (∀ z ∈ L, ClOk z ∧ z.cv.length = 4) ∧ L.length ≤ maxLen ∧ L.length * 48 ≤ 140737488351232
def BsOk (L : List Int) : Prop := (∀ z ∈ L, (Lit.int .u8 z).wf = true ∧ (bc z).length = 1) ∧ L.length ≤ maxLen ∧ L.length * 1 ≤ 140737488351232
theorem opens_cl {H : Type} {enc : TypeId × Value → H} {W : World} {base : Nat} {spare : Nat → Bool} {held : Bool} : OpensD enc Try.prog W base spare held 52 4 Cl.cv ClOk :=
  (opensD_struct (f := fun v : ByteArray × Int × Int × ByteArray => [.str v.1] ++ ([.int .i64 v.2.1] ++ ([.int .i64 v.2.2.1] ++ [.str v.2.2.2]))) (fun v => ⟨v.1, v.2.1, v.2.2.1, v.2.2.2⟩) (fun _ => rfl) Try.underlying52 (by kernel_rfl)
    (opensE_cons rfl (by kernel_rfl) (opensD_string Try.underlying9) (opensE_cons rfl (by kernel_rfl) (opensD_int Try.underlying3) (opensE_cons rfl (by kernel_rfl) (opensD_int Try.underlying2) (opensE_one rfl (by kernel_rfl) (opensD_string Try.underlying9)))))).weak
    (fun b hb => by
      obtain ⟨v, rfl, h⟩ := hb
      exact h)
theorem opens_cls {H : Type} {enc : TypeId × Value → H} {W : World} {base : Nat} {spare : Nat → Bool} {held : Bool} : OpensD enc Try.prog W base spare held 22 1 (fun L : List Cl => [.slv L.length none 4 (flat Cl.cv L)]) ClsOk :=
  (opensD_slice Try.underlying22 (by kernel_rfl) (by decide) (B := 48) (by kernel_rfl) Cl_len opens_cl).weak (fun _ h => h)
theorem opens_bs {H : Type} {enc : TypeId × Value → H} {W : World} {base : Nat} {spare : Nat → Bool} {held : Bool} : OpensD enc Try.prog W base spare held 23 1 (fun L : List Int => [.slv L.length none 1 (flat bc L)]) BsOk :=
  (opensD_slice Try.underlying23 (by kernel_rfl) (by decide) (B := 1) (by kernel_rfl) bc_len (opensD_int Try.underlying5)).weak (fun _ h => h)
theorem BsOk.ok {L : List Int} (h : BsOk L) : L.length ≤ 140737488351232 ∧ ∀ x ∈ L, 0 ≤ x ∧ x ≤ 255 := by
  refine ⟨by have := h.2.2; omega, fun x hx => ?_⟩
  have := (h.1 x hx).1
  simp [Lit.wf, IntKind.min, IntKind.max, IntKind.bits, IntKind.signed] at this
  omega
theorem ClsOk.ok {L : List Cl} (h : ClsOk L) : ∀ x ∈ L, In64 x.n := by
  intro x hx
  have := (h.1 x hx).1.2.2.1
  simp [Lit.wf, IntKind.min, IntKind.max, IntKind.bits, IntKind.signed] at this
  unfold In64
  omega

def ZnOk (z : Zn) : Prop := (Lit.int .i64 z.kind).wf = true ∧ (Lit.int .i64 z.rows).wf = true ∧ (Lit.int .i64 z.nulls).wf = true ∧ (Lit.int .i64 z.minN).wf = true ∧ (Lit.int .i64 z.maxN).wf = true ∧ z.minS.size ≤ 140737488351232 ∧ z.maxS.size ≤ 140737488351232
theorem opens_zn {H : Type} {enc : TypeId × Value → H} {W : World} {base : Nat} {spare : Nat → Bool} {held : Bool} : OpensD enc Try.prog W base spare held 27 7 Zn.cv ZnOk :=
  (opensD_struct (f := fun v : Int × Int × Int × Int × Int × ByteArray × ByteArray => [.int .i64 v.1] ++ ([.int .i64 v.2.1] ++ ([.int .i64 v.2.2.1] ++ ([.int .i64 v.2.2.2.1] ++ ([.int .i64 v.2.2.2.2.1] ++ ([.str v.2.2.2.2.2.1] ++ [.str v.2.2.2.2.2.2])))))) (fun v => ⟨v.1, v.2.1, v.2.2.1, v.2.2.2.1, v.2.2.2.2.1, v.2.2.2.2.2.1, v.2.2.2.2.2.2⟩) (fun _ => rfl) Try.underlying27 (by kernel_rfl)
    (opensE_cons rfl (by kernel_rfl) (opensD_int Try.underlying3) (opensE_cons rfl (by kernel_rfl) (opensD_int Try.underlying3) (opensE_cons rfl (by kernel_rfl) (opensD_int Try.underlying3) (opensE_cons rfl (by kernel_rfl) (opensD_int Try.underlying2) (opensE_cons rfl (by kernel_rfl) (opensD_int Try.underlying2) (opensE_cons rfl (by kernel_rfl) (opensD_string Try.underlying9) (opensE_one rfl (by kernel_rfl) (opensD_string Try.underlying9))))))))).weak
    (fun b hb => by
      obtain ⟨v, rfl, h⟩ := hb
      exact h)
theorem ZnOk.ok {z : Zn} (h : ZnOk z) : In64 z.minN ∧ In64 z.maxN := by
  have h1 := h.2.2.2.1
  have h2 := h.2.2.2.2.1
  simp [Lit.wf, IntKind.min, IntKind.max, IntKind.bits, IntKind.signed] at h1 h2
  unfold In64
  omega
end Go.Proofs.Ytojleakknchfdaa.V
