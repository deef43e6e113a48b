/- The reckoner, for a row: arguments that are structs, and rows of structs, of numbers, truths and texts. -/
import Derived.Test.YtaelliigpclipaaEngR
import Derived.Test.YtaelliigpclipaaEngAD
import Derived.DataReads
namespace Go.Proofs.Ytaelliigpclipaa.Eng
set_option linter.unusedVariables false
set_option linter.unusedSimpArgs false
open Go Go.RowKit Go.ChangeShapes Go.WideShapes Go.ChangeAt
def PlainC (l : List SV) (cs : List Value) : Prop := l.length = cs.length ∧ ∀ (i : Nat) v, l[i]? = some v → ∃ c, cs[i]? = some c ∧ plainV v = some c
theorem PlainC.CR {ρ : Rho} {l : List SV} {cs : List Value} (h : PlainC l cs) : CR ρ l cs := ⟨h.1, fun i v c p q => by
  obtain ⟨c', h1, h2⟩ := h.2 i v p
  rw [q] at h1
  obtain rfl := Option.some.inj h1
  exact plainV.SR h2⟩
theorem PlainC.one {v : SV} {c : Value} (h : plainV v = some c) : PlainC [v] [c] := ⟨rfl, fun i u p => by
  cases i with
  | zero => obtain rfl := Option.some.inj p; exact ⟨c, rfl, h⟩
  | succ i => simp at p⟩
theorem PlainC.append {l l' : List SV} {cs cs' : List Value} (h : PlainC l cs) (k : PlainC l' cs') : PlainC (l ++ l') (cs ++ cs') := by
  refine ⟨by simp [h.1, k.1], fun i v p => ?_⟩
  rw [List.getElem?_append] at p ⊢
  rw [h.1] at p
  split at p
  · rename_i hi; rw [if_pos hi]; exact h.2 i v p
  · rename_i hi; rw [if_neg hi]; exact k.2 _ v p
section
variable {H : Type} (enc : TypeId × Value → H) (P : Program) (W : World) (base : Nat) (spare : Nat → Bool) (held : Bool) {α β : Type}
def OpensV (t : TypeId) (sz : Nat) (f : α → List SV) (good : α → Prop) : Prop :=
  ∀ fuel cs x, DataW.trod enc P W base spare held fuel t cs = some x → ∃ v : α, PlainC (f v) cs ∧ good v ∧ (f v).length = sz
variable {enc P W base spare held}
theorem OpensV.weak {t : TypeId} {sz : Nat} {f : α → List SV} {good good' : α → Prop} (h : OpensV enc P W base spare held t sz f good) (hw : ∀ v, good v → good' v) : OpensV enc P W base spare held t sz f good' := fun fuel cs x hx => by
  obtain ⟨v, h1, h2, h3⟩ := h fuel cs x hx
  exact ⟨v, h1, hw v h2, h3⟩
theorem choose_rows {Q : Nat → α → Prop} (n : Nat) (h : ∀ i, i < n → ∃ v, Q i v) : ∃ vs : List α, vs.length = n ∧ ∀ i v, vs[i]? = some v → Q i v := by
  induction n with
  | zero => exact ⟨[], rfl, by simp⟩
  | succ n ih =>
    obtain ⟨vs, hl, hv⟩ := ih (fun i hi => h i (by omega))
    obtain ⟨v, hq⟩ := h n (by omega)
    refine ⟨vs ++ [v], by simp [hl], fun i u hu => ?_⟩
    rcases Nat.lt_or_ge i n with c | c
    · rw [List.getElem?_append_left (by omega)] at hu
      exact hv i u hu
    · have hi : i < (vs ++ [v]).length := (List.getElem?_eq_some_iff.1 hu).1
      rw [List.length_append, List.length_singleton, hl] at hi
      obtain rfl : i = n := by omega
      rw [List.getElem?_append_right (by omega), hl, Nat.sub_self] at hu
      simp at hu
      subst hu
      exact hq
end
theorem Less.empty {n c : Nat} {l : List (Nat × AV)} {m : Mem} : Less ⟨⟨n, l⟩, [], c⟩ ⟨⟨n, l⟩, m, c⟩ := ⟨rfl, fun _ => .inr rfl, fun _ _ h => (by cases h), rfl⟩
end Go.Proofs.Ytaelliigpclipaa.Eng
