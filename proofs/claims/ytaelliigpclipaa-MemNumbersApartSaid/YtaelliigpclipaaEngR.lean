/- The reckoner, for a row: arguments out of a world, as the reckoner names them. -/
import Derived.Test.YtaelliigpclipaaEngZ
import Derived.WalkKit
import Derived.ProofKit
import Derived.OpenShut
import Derived.ShutString
import Derived.ChangeOld
import Derived.Below
import Derived.SizedLaws
namespace Go.Proofs.Ytaelliigpclipaa.Eng
set_option linter.unusedVariables false
set_option linter.unusedSimpArgs false
open Go Go.RowKit Go.ChangeShapes Go.WideShapes Go.ChangeAt

/-- A slice that is an argument lies at a plain place of the heap. -/
theorem slice_place {P : Program} {w : World} {base : Nat} {t e : TypeId} {a : Addr} {len cap : Nat} (ht : P.underlying t = some (.slice e)) (h : Value.okWide P w .any base t (.slice (some a) len cap)) : a.spot = none ∧ a.block < w.heap.size ∧ len ≤ cap := by
  simp only [Value.okWide, ht, Cell.okWide, Cell.ok] at h
  obtain ⟨h1, h2, h3, h4, row, cells, h5, h6⟩ := h
  refine ⟨h4, ?_, h1⟩
  unfold World.shape? at h5
  cases hb : w.heap[a.block]? with
  | none => rw [hb] at h5; cases h5
  | some x => exact (Array.getElem?_eq_some_iff.1 hb).1

def ints (k : IntKind) (L : List Int) : List SV := L.map fun x => .int k x
section
variable {H : Type} {enc : TypeId × Value → H} {P : Program} {W : World} {base : Nat}
/-- An argument that is a row of numbers. -/
theorem ints_row {t e : TypeId} {k : IntKind} {v : Value} {B : Nat} {x : DataW H} {ps : List MemPlace} {ts : List TypeId} {ds : List (DataW H)} {j : Nat}
    (hsz : (DataW.weightsEach P ts ds).all (· ≤ reachBytes) = true) (ht : ts[j]? = some t) (hd : ds[j]? = some x) (hu : P.underlying t = some (.slice e)) (he : P.underlying e = some (.int k)) (hc : P.cellsOf e = 1) (hB : P.bytesOf e = B)
    (hval : Value.okWide P W .any base t v) (h : DataW.Trod enc P W 0 (fun _ => true) true t v x ps) :
    v = .slice none 0 0 ∨ ∃ (a : Addr) (len cap : Nat) (zs : List Int), v = .slice (some a) len cap ∧ a.spot = none ∧ a.block < W.heap.size ∧ len ≤ cap ∧ cap ≤ maxLen ∧ zs.length = cap ∧ cap * B ≤ 140737488351232 ∧
      (∀ i, i < zs.length → W.cell? (a.add i) = some (.int k (zs.getD i 0))) ∧ ∀ n ∈ zs, (Lit.int k n).wf = true := by
  obtain ⟨a', len', cap', rfl⟩ := okWide_slice hu hval
  obtain ⟨fuel, hf⟩ := h
  rcases open_ints hu he hc hf with ⟨h1, _⟩ | ⟨a, len, cap, zs, h1, _, h3, h4, h5, h6, h7, h8⟩
  · left
    simpa [Value.cells] using h1
  · right
    simp [Value.cells] at h1
    obtain ⟨rfl, rfl, rfl⟩ := h1
    obtain ⟨p1, p2, _⟩ := slice_place hu hval
    simp only [if_true] at h5
    refine ⟨a, len', cap', zs, rfl, p1, p2, h3, h4, h5, ?_, h7, h8⟩
    obtain ⟨h9, _⟩ := Prod.mk.inj h6
    subst h9
    have w := sized_slice hsz ht hd hu
    rw [hB] at w
    have hn : (lits k (zs.take len') : List (DataW H)).length + (lits k (zs.drop len') : List (DataW H)).length = cap' := by
      simp [lits]
      omega
    rw [hn] at w
    simpa [reachBytes] using w
end
/-! ### Several arguments -/
/-- A value that leads nowhere, as the machine has it. -/
def plainV : SV → Option Value
  | .bool b => some (.bool b)
  | .int k n => some (.int k n)
  | .str s => some (.string s)
  | _ => none
theorem plainV.SR {ρ : Rho} {v : SV} {c : Value} (h : plainV v = some c) : SR ρ v c := by
  cases v <;> simp [plainV] at h <;> exact h.symm
/-- Cells that lie at a place of the world, and lead nowhere. -/
structure Reads (w : World) (a : Addr) (cs : List SV) : Prop where
  spot : a.spot = none
  block : a.block < w.heap.size
  cell : ∀ (i : Nat) v, cs[i]? = some v → ∃ c, plainV v = some c ∧ w.cell? (a.add i) = some c
/-- All that lies in a world. -/
def fzOf (w : World) : Nat → Nat → Option Value := fun b o => if b < w.heap.size then w.cell? ⟨b, o, none⟩ else none
theorem fzOf_in {w : World} {b o : Nat} {v : Value} (h : fzOf w b o = some v) : b < w.heap.size ∧ w.cell? ⟨b, o, none⟩ = some v := by
  unfold fzOf at h
  split at h
  · exact ⟨by assumption, h⟩
  · cases h
def rhoOf (w : World) (rows : Nat → Option (Addr × List SV)) : Rho := ⟨fun n => (rows n).map fun r => ⟨r.1.block, r.1.off, r.2.length⟩, fzOf w⟩
def AllR (ρ : Rho) : List AV → List Value → Prop
  | [], [] => True
  | x :: xs, v :: vs => VR ρ x v ∧ AllR ρ xs vs
  | _, _ => False
theorem AllR.args {ρ : Rho} : ∀ {l : List AV} {l' : List Value}, AllR ρ l l' → l.length = l'.length ∧ ∀ (i : Nat) x y, l[i]? = some x → l'[i]? = some y → VR ρ x y
  | [], [], _ => ⟨rfl, fun i x y h => by simp at h⟩
  | x :: xs, v :: vs, h => by
    obtain ⟨h1, h2⟩ := h
    obtain ⟨e1, e2⟩ := AllR.args h2
    refine ⟨by simp [e1], fun i y z hy hz => ?_⟩
    cases i with
    | zero =>
      obtain rfl : x = y := by simpa using hy
      obtain rfl : v = z := by simpa using hz
      exact h1
    | succ j => exact e2 j y z (by simpa using hy) (by simpa using hz)
  | [], _ :: _, h => h.elim
  | _ :: _, [], h => h.elim
theorem VR.row {w : World} {rows : Nat → Option (Addr × List SV)} {k : Nat} {a : Addr} {cs : List SV} {len cap sz : Nat} (hr : rows k = some (a, cs)) (hs : a.spot = none) (hl : len ≤ cap) (hm : cap ≤ maxLen) : VR (rhoOf w rows) (.s (.sl k 0 len (some cap) sz)) (.slice (some a) len cap) := by
  obtain ⟨ab, ao, as⟩ := a
  obtain rfl : as = none := hs
  exact ⟨⟨ab, ao, cs.length⟩, cap, by simp [rhoOf, hr], rfl, hl, hm, fun c hc => Option.some.inj hc, fun hc => by cases hc⟩
theorem PureDoes.of_rows {P : Program} {f : FuncId} {w : World} {rows : Nat → Option (Addr × List SV)} {args : List AV} {args' : List Value} {M0 : Mem} {c : Nat} {q : Bool} (hr : ∀ n r, rows n = some r → n < c ∧ Reads w r.1 r.2)
    (hM : ∀ n b, get M0 n = some b → ∃ r, rows n = some r ∧ b = ⟨r.2, false⟩) (ha : AllR (rhoOf w rows) args args') (hp : PureDoes P f args M0 c (.s (.bool q))) :
    Calls P f args'.toArray w fun e w' => e = .returned (.bool q) ∧ Below w.heap.size w w' := by
  have hA : ArgsR (rhoOf w rows) args args'.toArray := by
    obtain ⟨h1, h2⟩ := ha.args
    exact ⟨by simpa using h1, fun i x y hx hy => h2 i x y hx (by simpa using hy)⟩
  refine (hp.2 w.heap.size (rhoOf w rows) (get M0) _ w hA (fun n b hn => hn) (fun n hn => ?_) ⟨Nat.le_refl _, fun n b hn => ?_, fun n n' b b' l l' hn hn' hne ho => ?_, fun b o v h => fzOf_in h, fun n b l hn ho => ?_⟩).mono fun e w' ⟨v', ρ', he, hv, bel⟩ => ?_
  · cases h : rows n with
    | none => simp [rhoOf, h]
    | some r => exact absurd (hr n r h).1 (by omega)
  · obtain ⟨r, h1, rfl⟩ := hM n b hn
    obtain ⟨_, h2⟩ := hr n r h1
    refine ⟨_, by simp [rhoOf, h1]; rfl, h2.block, Nat.le_refl _, fun i v hv => ?_, fun ho => by cases ho⟩
    obtain ⟨cv, h3, h4⟩ := h2.cell i v hv
    refine ⟨cv, ?_, plainV.SR h3⟩
    have hsp := h2.spot
    obtain ⟨⟨ab, ao, as⟩, cs⟩ := r
    obtain rfl : as = none := hsp
    have h5 : w.cell? ((⟨ab, ao, none⟩ : Addr).add i) = some cv := h4
    rwa [add_plain] at h5
  · obtain ⟨r, h1, rfl⟩ := hM n b hn
    cases ho
  · obtain ⟨r, h1, rfl⟩ := hM n b hn
    cases ho
  · refine ⟨?_, bel⟩
    rw [he]
    exact congrArg _ hv
section
variable {H : Type} {enc : TypeId × Value → H} {P : Program} {W : World} {base : Nat}
theorem ints_reads {a : Addr} {k : IntKind} {zs : List Int} (h1 : a.spot = none) (h2 : a.block < W.heap.size) (h : ∀ i, i < zs.length → W.cell? (a.add i) = some (.int k (zs.getD i 0))) : Reads W a (ints k zs) := by
  refine ⟨h1, h2, fun i v hv => ?_⟩
  have hi : i < zs.length := by
    have := (List.getElem?_eq_some_iff.1 hv).1
    simpa [ints] using this
  have hv' : v = .int k (zs.getD i 0) := by
    have : (ints k zs)[i]? = some (.int k (zs.getD i 0)) := by simp [ints, hi]
    rw [this] at hv
    exact (Option.some.inj hv).symm
  exact ⟨_, by rw [hv']; rfl, h i hi⟩
/-- An argument that is a row of truths. -/
theorem bools_row {t e : TypeId} {v : Value} {x : DataW H} {ps : List MemPlace} (hu : P.underlying t = some (.slice e)) (he : P.underlying e = some .bool) (hc : P.cellsOf e = 1)
    (hval : Value.okWide P W .any base t v) (h : DataW.Trod enc P W 0 (fun _ => true) true t v x ps) :
    v = .slice none 0 0 ∨ ∃ (a : Addr) (len cap : Nat) (zs : List Bool), v = .slice (some a) len cap ∧ len ≤ cap ∧ cap ≤ maxLen ∧ zs.length = len ∧ Reads W a (zs.map .bool) := by
  obtain ⟨a', len', cap', rfl⟩ := okWide_slice hu hval
  obtain ⟨fuel, hf⟩ := h
  rcases DataW.trod_slice hu hf with ⟨h1, _⟩ | ⟨a, len, cap, elems, rest, n, _, h1, _, _, h3, h4, h5, hel, _⟩
  · left
    simpa [Value.cells] using h1
  · right
    simp [Value.cells] at h1
    obtain ⟨rfl, rfl, rfl⟩ := h1
    obtain ⟨p1, p2, _⟩ := slice_place hu hval
    have each : ∀ i, i < len' → ∃ q, W.cell? (a.add i) = some (.bool q) := by
      intro i hi
      have h6 := hel i hi
      rw [List.getElem?_eq_getElem (by omega), hc, Nat.mul_one, Option.bind_eq_some_iff] at h6
      obtain ⟨cs, hcs, hy⟩ := h6
      obtain ⟨q, rfl, _⟩ := DataW.trod_bool he hy
      exact ⟨q, cell_of_cells?_one hcs⟩
    refine ⟨a, len', cap', (List.range len').map (fun i => match W.cell? (a.add i) with | some (.bool q) => q | _ => false), rfl, h3, h4, by simp, p1, p2, fun i v hv => ?_⟩
    have hi : i < len' := by
      have := (List.getElem?_eq_some_iff.1 hv).1
      simpa using this
    obtain ⟨q, hq⟩ := each i hi
    simp [hi, hq] at hv
    exact ⟨.bool q, by rw [← hv]; rfl, hq⟩
end

abbrev Arg := Option (Addr × List SV)
def blkOf (r : Arg) : Option Blk := r.map fun x => ⟨x.2, false⟩
/-- The arguments' rows, by their names, from a name on. -/
def rowsL : List Arg → Nat → Arg
  | [], _ => none
  | r :: _, 0 => r
  | _ :: l, n + 1 => rowsL l n
def memL : Nat → List Arg → Mem
  | _, [] => []
  | k, r :: l => (k, blkOf r) :: memL (k + 1) l
theorem memL_low : ∀ (l : List Arg) (k n : Nat), n < k → get (memL k l) n = none
  | [], _, _, _ => rfl
  | r :: l, k, n, h => by
    simp only [memL, get]
    rw [if_neg (by omega)]
    exact memL_low l (k + 1) n (by omega)
theorem memL_get : ∀ (l : List Arg) (k n : Nat), get (memL k l) (k + n) = blkOf (rowsL l n)
  | [], _, _ => rfl
  | r :: l, k, 0 => by simp [memL, get, rowsL]
  | r :: l, k, n + 1 => by
    have := memL_get l (k + 1) n
    simp only [memL, get, rowsL]
    rw [if_neg (by omega), show k + (n + 1) = k + 1 + n by omega]
    exact this
theorem memL_rows (l : List Arg) : ∀ n b, get (memL 0 l) n = some b → ∃ r, rowsL l n = some r ∧ b = ⟨r.2, false⟩ := by
  intro n b h
  have := memL_get l 0 n
  rw [Nat.zero_add] at this
  rw [this] at h
  cases hr : rowsL l n with
  | none => rw [hr] at h; cases h
  | some r =>
    rw [hr] at h
    exact ⟨r, rfl, (Option.some.inj h).symm⟩
theorem rowsL_read {w : World} : ∀ {l : List Arg} {n : Nat} {r : Addr × List SV}, (∀ x ∈ l, ∀ r, x = some r → Reads w r.1 r.2) → rowsL l n = some r → n < l.length ∧ Reads w r.1 r.2
  | [], n, r, _, h => by cases h
  | x :: l, 0, r, hl, h => ⟨by simp, hl x (by simp) r h⟩
  | x :: l, n + 1, r, hl, h => by
    obtain ⟨h1, h2⟩ := rowsL_read (l := l) (n := n) (fun y hy => hl y (by simp [hy])) h
    exact ⟨by simp; omega, h2⟩
/-- A pure function of rows: it answers so in any world where they lie. -/
theorem PureDoes.of_args {P : Program} {f : FuncId} {w : World} {l : List Arg} {args : List AV} {args' : List Value} {q : Bool} (hl : ∀ x ∈ l, ∀ r, x = some r → Reads w r.1 r.2)
    (ha : AllR (rhoOf w (rowsL l)) args args') (hp : PureDoes P f args (memL 0 l) l.length (.s (.bool q))) : Calls P f args'.toArray w fun e w' => e = .returned (.bool q) ∧ Below w.heap.size w w' :=
  PureDoes.of_rows (rows := rowsL l) (fun n r hr => rowsL_read hl hr) (memL_rows l) ha hp
theorem index_sl {P : Program} {t e : TypeId} {n off len sz s : Nat} {cap : Option Nat} {kd : IntKind} {q : Int} (he : elemOf P t = some e) (hs : tsize P e = some s) (h0 : 0 ≤ q) (h1 : q < len) : evIndexAddr P t (.s (.sl n off len cap sz)) (.s (.int kd q)) = some (.s (.ptr n (off + q.toNat * s))) := by
  simp [evIndexAddr, he, hs, h0, h1]
end Go.Proofs.Ytaelliigpclipaa.Eng
