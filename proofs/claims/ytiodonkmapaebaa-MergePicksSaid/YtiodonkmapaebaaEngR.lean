/- The reckoner, for a row: arguments out of a world, as the reckoner names them. -/
import Derived.Test.YtiodonkmapaebaaEngZ
import Derived.WalkKit
import Derived.ProofKit
import Derived.OpenShut
import Derived.ShutString
import Derived.ChangeOld
import Derived.Below
import Derived.SizedLaws
namespace Go.Proofs.Ytiodonkmapaebaa.Eng
set_option linter.unusedVariables false
set_option linter.unusedSimpArgs false
open Go Go.RowKit Go.ChangeShapes Go.WideShapes Go.ChangeAt

/-- A slice that is an argument lies at a plain place of the heap. -/
theorem slice_place {P : Program} {w : World} {base : Nat} {t e : TypeId} {a : Addr} {len cap : Nat} (ht : P.underlying t = some (.slice e)) (h : Value.okWide P w .any base t (.slice (some a) len cap)) : a.spot = none ∧ a.block < w.heap.size ∧ len ≤ cap := by
  simp only [Value.okWide, ht, Cell.okWide, Cell.ok] at h
  obtain ⟨h1, h2, h3, h4, row, cells, h5, h6⟩ := h
  refine ⟨h4, ?_, h1⟩
  unfold World.shape? at h5
  cases hb : w.heap[a.block]? with
  | none => rw [hb] at h5; cases h5
  | some x => exact (Array.getElem?_eq_some_iff.1 hb).1

def ints (k : IntKind) (L : List Int) : List SV := L.map fun x => .int k x
/-- One block of numbers that the callee only reads. -/
theorem sat_ints {w : World} {a : Addr} {k : IntKind} {zs : List Int} (hs : a.spot = none) (hb : a.block < w.heap.size) (h : ∀ i, i < zs.length → w.cell? (a.add i) = some (.int k (zs.getD i 0))) :
    Sat w.heap.size (fun n => if n = 0 then some ⟨a.block, a.off, zs.length⟩ else none) (get [(0, some ⟨ints k zs, false⟩)]) w := by
  have hg : ∀ n b, get [(0, some ⟨ints k zs, false⟩)] n = some b → n = 0 ∧ b = ⟨ints k zs, false⟩ := by
    intro n b hn
    cases n with
    | zero => exact ⟨rfl, (Option.some.inj (show some (⟨ints k zs, false⟩ : Blk) = some b from hn)).symm⟩
    | succ j => exact absurd (show (none : Option Blk) = some b from hn) (by simp)
  refine ⟨Nat.le_refl _, fun n b hn => ?_, fun n n' b b' l l' hn hn' hne => ?_⟩
  · obtain ⟨rfl, rfl⟩ := hg n b hn
    refine ⟨_, rfl, hb, by simp [ints], fun i v hv => ?_, fun ho => by cases ho⟩
    have hi : i < zs.length := by
      have := (List.getElem?_eq_some_iff.1 hv).1
      simpa [ints] using this
    have hv' : v = .int k (zs.getD i 0) := by
      have : (ints k zs)[i]? = some (.int k (zs.getD i 0)) := by simp [ints, hi]
      rw [show (Blk.mk (ints k zs) false).cells = ints k zs from rfl, this] at hv
      exact (Option.some.inj hv).symm
    refine ⟨.int k (zs.getD i 0), ?_, ?_⟩
    · have := h i hi
      obtain ⟨ab, ao, as⟩ := a
      obtain rfl : as = none := hs
      rwa [add_plain] at this
    · rw [hv']
      rfl
  · obtain ⟨rfl, _⟩ := hg n b hn
    obtain ⟨rfl, _⟩ := hg n' b' hn'
    exact absurd rfl hne
section
variable {H : Type} {enc : TypeId × Value → H} {P : Program} {W : World} {base : Nat}
/-- An argument that is a row of numbers. -/
theorem ints_row {t e : TypeId} {k : IntKind} {v : Value} {B : Nat} {x : DataW H} {ps : List MemPlace} {ts : List TypeId} {ds : List (DataW H)} {j : Nat}
    (hsz : (DataW.weightsEach P ts ds).all (· ≤ reachBytes) = true) (ht : ts[j]? = some t) (hd : ds[j]? = some x) (hu : P.underlying t = some (.slice e)) (he : P.underlying e = some (.int k)) (hc : P.cellsOf e = 1) (hB : P.bytesOf e = B)
    (hval : Value.okWide P W .any base t v) (h : DataW.Trod enc P W 0 (fun _ => true) true t v x ps) :
    v = .slice none 0 0 ∨ ∃ (a : Addr) (len cap : Nat) (zs : List Int), v = .slice (some a) len cap ∧ a.spot = none ∧ a.block < W.heap.size ∧ len ≤ cap ∧ cap ≤ maxLen ∧ zs.length = cap ∧ cap * B ≤ 140737488351232 ∧
      (∀ i, i < zs.length → W.cell? (a.add i) = some (.int k (zs.getD i 0))) ∧ ∀ n ∈ zs, (Lit.int k n).wf = true := by
  obtain ⟨a', len', cap', rfl⟩ := okWide_slice hu hval
  obtain ⟨fuel, hf⟩ := h
  rcases open_ints hu he hc hf with ⟨h1, _⟩ | ⟨a, len, cap, zs, h1, _, h3, h4, h5, h6, h7, h8⟩
  · left
    simpa [Value.cells] using h1
  · right
    simp [Value.cells] at h1
    obtain ⟨rfl, rfl, rfl⟩ := h1
    obtain ⟨p1, p2, _⟩ := slice_place hu hval
    simp only [if_true] at h5
    refine ⟨a, len', cap', zs, rfl, p1, p2, h3, h4, h5, ?_, h7, h8⟩
    obtain ⟨h9, _⟩ := Prod.mk.inj h6
    subst h9
    have w := sized_slice hsz ht hd hu
    rw [hB] at w
    have hn : (lits k (zs.take len') : List (DataW H)).length + (lits k (zs.drop len') : List (DataW H)).length = cap' := by
      simp [lits]
      omega
    rw [hn] at w
    simpa [reachBytes] using w
end
/-- A pure function of one row of numbers answers so in any world. -/
theorem PureDoes.of_ints {P : Program} {f : FuncId} {k : IntKind} {w : World} {a : Addr} {len cap : Nat} {zs : List Int} {q : Bool} (hs : a.spot = none) (hb : a.block < w.heap.size) (hl : len ≤ cap) (hm : cap ≤ maxLen)
    (h : ∀ i, i < zs.length → w.cell? (a.add i) = some (.int k (zs.getD i 0))) (hp : PureDoes P f [.s (.sl 0 0 len (some cap) 1)] [(0, some ⟨ints k zs, false⟩)] 1 (.s (.bool q))) :
    Calls P f #[.slice (some a) len cap] w fun e w' => e = .returned (.bool q) ∧ Below w.heap.size w w' := by
  refine (hp.2 w.heap.size (fun n => if n = 0 then some ⟨a.block, a.off, zs.length⟩ else none) _ _ w ⟨rfl, fun i x y hx hy => ?_⟩ (fun n b hn => hn) (fun n hn => if_neg (by omega)) (sat_ints hs hb h)).mono fun e w' ⟨v', ρ', he, hv, bel⟩ => ?_
  · cases i with
    | zero =>
      obtain rfl := Option.some.inj (show some _ = some x from hx)
      obtain rfl := Option.some.inj (show some _ = some y from hy)
      obtain ⟨ab, ao, as⟩ := a
      obtain rfl : as = none := hs
      exact ⟨_, cap, rfl, rfl, hl, hm, fun c hc => Option.some.inj hc, fun hc => by cases hc⟩
    | succ j => exact absurd (show (none : Option AV) = some x from hx) (by simp)
  · refine ⟨?_, bel⟩
    rw [he]
    exact congrArg _ hv
theorem PureDoes.of_nil {P : Program} {f : FuncId} {w : World} {q : Bool} (hp : PureDoes P f [.s .sl0] [] 0 (.s (.bool q))) :
    Calls P f #[.slice none 0 0] w fun e w' => e = .returned (.bool q) ∧ Below w.heap.size w w' := by
  refine (hp.2 w.heap.size (fun n => none) (fun _ => none) _ w ⟨rfl, fun i x y hx hy => ?_⟩ (fun n b hn => absurd (show (none : Option Blk) = some b from hn) (by simp)) (fun n hn => rfl) ⟨Nat.le_refl _, fun n b hn => absurd (show (none : Option Blk) = some b from hn) (by simp), fun n n' b b' l l' hn => absurd (show (none : Option Blk) = some b from hn) (by simp)⟩).mono fun e w' ⟨v', ρ', he, hv, bel⟩ => ?_
  · cases i with
    | zero =>
      obtain rfl := Option.some.inj (show some _ = some x from hx)
      obtain rfl := Option.some.inj (show some _ = some y from hy)
      rfl
    | succ j => exact absurd (show (none : Option AV) = some x from hx) (by simp)
  · refine ⟨?_, bel⟩
    rw [he]
    exact congrArg _ hv
end Go.Proofs.Ytiodonkmapaebaa.Eng
