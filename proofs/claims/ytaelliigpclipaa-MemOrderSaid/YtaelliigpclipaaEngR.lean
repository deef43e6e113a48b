/- The reckoner, for a row: arguments out of a world, as the reckoner names them. -/
import Derived.Test.YtaelliigpclipaaEngZ
import Derived.WalkKit
import Derived.ProofKit
import Derived.OpenShut
import Derived.ShutString
import Derived.ChangeOld
import Derived.Below
import Derived.SizedLaws
namespace Go.Proofs.Ytaelliigpclipaa.Eng
set_option linter.unusedVariables false
set_option linter.unusedSimpArgs false
open Go Go.RowKit Go.ChangeShapes Go.WideShapes Go.ChangeAt
section
variable {H : Type} {enc : TypeId × Value → H} {P : Program} {W : World} {base : Nat}
end
def plainV : SV → Option Value
  | .bool b => some (.bool b)
  | .int k n => some (.int k n)
  | .str s => some (.string s)
  | _ => none
theorem plainV.SR {ρ : Rho} {v : SV} {c : Value} (h : plainV v = some c) : SR ρ v c := by
  cases v <;> simp [plainV] at h <;> exact h.symm
structure Reads (w : World) (a : Addr) (cs : List SV) : Prop where
  spot : a.spot = none
  block : a.block < w.heap.size
  cell : ∀ (i : Nat) v, cs[i]? = some v → ∃ c, plainV v = some c ∧ w.cell? (a.add i) = some c
def fzOf (w : World) : Nat → Nat → Option Value := fun b o => if b < w.heap.size then w.cell? ⟨b, o, none⟩ else none
theorem fzOf_in {w : World} {b o : Nat} {v : Value} (h : fzOf w b o = some v) : b < w.heap.size ∧ w.cell? ⟨b, o, none⟩ = some v := by
  unfold fzOf at h
  split at h
  · exact ⟨by assumption, h⟩
  · cases h
def rhoOf (w : World) (rows : Nat → Option (Addr × List SV)) : Rho := ⟨fun n => (rows n).map fun r => ⟨r.1.block, r.1.off, r.2.length⟩, fzOf w⟩
def AllR (ρ : Rho) : List AV → List Value → Prop
  | [], [] => True
  | x :: xs, v :: vs => VR ρ x v ∧ AllR ρ xs vs
  | _, _ => False
theorem AllR.args {ρ : Rho} : ∀ {l : List AV} {l' : List Value}, AllR ρ l l' → l.length = l'.length ∧ ∀ (i : Nat) x y, l[i]? = some x → l'[i]? = some y → VR ρ x y
  | [], [], _ => ⟨rfl, fun i x y h => by simp at h⟩
  | x :: xs, v :: vs, h => by
    obtain ⟨h1, h2⟩ := h
    obtain ⟨e1, e2⟩ := AllR.args h2
    refine ⟨by simp [e1], fun i y z hy hz => ?_⟩
    cases i with
    | zero =>
      obtain rfl : x = y := by simpa using hy
      obtain rfl : v = z := by simpa using hz
      exact h1
    | succ j => exact e2 j y z (by simpa using hy) (by simpa using hz)
  | [], _ :: _, h => h.elim
  | _ :: _, [], h => h.elim
theorem VR.row {w : World} {rows : Nat → Option (Addr × List SV)} {k : Nat} {a : Addr} {cs : List SV} {len cap sz : Nat} (hr : rows k = some (a, cs)) (hs : a.spot = none) (hl : len ≤ cap) (hm : cap ≤ maxLen) : VR (rhoOf w rows) (.s (.sl k 0 len (some cap) sz)) (.slice (some a) len cap) := by
  obtain ⟨ab, ao, as⟩ := a
  obtain rfl : as = none := hs
  exact ⟨⟨ab, ao, cs.length⟩, cap, by simp [rhoOf, hr], rfl, hl, hm, fun c hc => Option.some.inj hc, fun hc => by cases hc⟩
theorem PureDoes.of_rows {P : Program} {f : FuncId} {w : World} {rows : Nat → Option (Addr × List SV)} {args : List AV} {args' : List Value} {M0 : Mem} {c : Nat} {q : Bool} (hr : ∀ n r, rows n = some r → n < c ∧ Reads w r.1 r.2)
    (hM : ∀ n b, get M0 n = some b → ∃ r, rows n = some r ∧ b = ⟨r.2, false⟩) (ha : AllR (rhoOf w rows) args args') (hp : PureDoes P f args M0 c (.s (.bool q))) :
    Calls P f args'.toArray w fun e w' => e = .returned (.bool q) ∧ Below w.heap.size w w' := by
  have hA : ArgsR (rhoOf w rows) args args'.toArray := by
    obtain ⟨h1, h2⟩ := ha.args
    exact ⟨by simpa using h1, fun i x y hx hy => h2 i x y hx (by simpa using hy)⟩
  refine (hp.2 w.heap.size (rhoOf w rows) (get M0) _ w hA (fun n b hn => hn) (fun n hn => ?_) ⟨Nat.le_refl _, fun n b hn => ?_, fun n n' b b' l l' hn hn' hne ho => ?_, fun b o v h => fzOf_in h, fun n b l hn ho => ?_⟩).mono fun e w' ⟨v', ρ', he, hv, bel⟩ => ?_
  · cases h : rows n with
    | none => simp [rhoOf, h]
    | some r => exact absurd (hr n r h).1 (by omega)
  · obtain ⟨r, h1, rfl⟩ := hM n b hn
    obtain ⟨_, h2⟩ := hr n r h1
    refine ⟨_, by simp [rhoOf, h1]; rfl, h2.block, Nat.le_refl _, fun i v hv => ?_, fun ho => by cases ho⟩
    obtain ⟨cv, h3, h4⟩ := h2.cell i v hv
    refine ⟨cv, ?_, plainV.SR h3⟩
    have hsp := h2.spot
    obtain ⟨⟨ab, ao, as⟩, cs⟩ := r
    obtain rfl : as = none := hsp
    have h5 : w.cell? ((⟨ab, ao, none⟩ : Addr).add i) = some cv := h4
    rwa [add_plain] at h5
  · obtain ⟨r, h1, rfl⟩ := hM n b hn
    cases ho
  · obtain ⟨r, h1, rfl⟩ := hM n b hn
    cases ho
  · refine ⟨?_, bel⟩
    rw [he]
    exact congrArg _ hv
section
variable {H : Type} {enc : TypeId × Value → H} {P : Program} {W : World} {base : Nat}
end
abbrev Arg := Option (Addr × List SV)
def blkOf (r : Arg) : Option Blk := r.map fun x => ⟨x.2, false⟩
def rowsL : List Arg → Nat → Arg
  | [], _ => none
  | r :: _, 0 => r
  | _ :: l, n + 1 => rowsL l n
def memL : Nat → List Arg → Mem
  | _, [] => []
  | k, r :: l => (k, blkOf r) :: memL (k + 1) l
theorem memL_get : ∀ (l : List Arg) (k n : Nat), get (memL k l) (k + n) = blkOf (rowsL l n)
  | [], _, _ => rfl
  | r :: l, k, 0 => by simp [memL, get, rowsL]
  | r :: l, k, n + 1 => by
    have := memL_get l (k + 1) n
    simp only [memL, get, rowsL]
    rw [if_neg (by omega), show k + (n + 1) = k + 1 + n by omega]
    exact this
theorem memL_rows (l : List Arg) : ∀ n b, get (memL 0 l) n = some b → ∃ r, rowsL l n = some r ∧ b = ⟨r.2, false⟩ := by
  intro n b h
  have := memL_get l 0 n
  rw [Nat.zero_add] at this
  rw [this] at h
  cases hr : rowsL l n with
  | none => rw [hr] at h; cases h
  | some r =>
    rw [hr] at h
    exact ⟨r, rfl, (Option.some.inj h).symm⟩
theorem rowsL_read {w : World} : ∀ {l : List Arg} {n : Nat} {r : Addr × List SV}, (∀ x ∈ l, ∀ r, x = some r → Reads w r.1 r.2) → rowsL l n = some r → n < l.length ∧ Reads w r.1 r.2
  | [], n, r, _, h => by cases h
  | x :: l, 0, r, hl, h => ⟨by simp, hl x (by simp) r h⟩
  | x :: l, n + 1, r, hl, h => by
    obtain ⟨h1, h2⟩ := rowsL_read (l := l) (n := n) (fun y hy => hl y (by simp [hy])) h
    exact ⟨by simp; omega, h2⟩
theorem PureDoes.of_args {P : Program} {f : FuncId} {w : World} {l : List Arg} {args : List AV} {args' : List Value} {q : Bool} (hl : ∀ x ∈ l, ∀ r, x = some r → Reads w r.1 r.2)
    (ha : AllR (rhoOf w (rowsL l)) args args') (hp : PureDoes P f args (memL 0 l) l.length (.s (.bool q))) : Calls P f args'.toArray w fun e w' => e = .returned (.bool q) ∧ Below w.heap.size w w' :=
  PureDoes.of_rows (rows := rowsL l) (fun n r hr => rowsL_read hl hr) (memL_rows l) ha hp
end Go.Proofs.Ytaelliigpclipaa.Eng
