/- The reckoner with answers: how claims are met. -/
import Derived.Test.YtaelliigpclipaaEngAC
import Derived.Test.YtaelliigpclipaaEngZ
namespace Go.Proofs.Ytaelliigpclipaa.Eng
set_option linter.unusedVariables false
set_option linter.unusedSimpArgs false
open Go Go.RowKit

variable {P : Program}

theorem claim_b {x b : Bool} (h : x = b) : some (AV.s (SV.bool x)) = some (AV.s (SV.bool b)) := by rw [h]
theorem claim_i {k : IntKind} {x y : Int} (h : x = y) : some (AV.s (SV.int k x)) = some (AV.s (SV.int k y)) := by rw [h]
theorem wrap_i64 {x : Int} (h0 : -9223372036854775808 ≤ x) (h1 : x ≤ 9223372036854775807) : IntKind.wrap .i64 x = x := by
  simp only [IntKind.wrap, IntKind.bits, IntKind.signed, Bool.true_and, decide_eq_true_eq, ge_iff_le]
  split <;> omega
theorem wrap_u64 {x : Int} (h0 : 0 ≤ x) (h1 : x ≤ 18446744073709551615) : IntKind.wrap .u64 x = x := by
  simp only [IntKind.wrap, IntKind.bits, IntKind.signed, Bool.false_and, decide_eq_true_eq]
  simp
  omega
theorem wrap_u8 {x : Int} (h0 : 0 ≤ x) (h1 : x ≤ 255) : IntKind.wrap .u8 x = x := by
  simp only [IntKind.wrap, IntKind.bits, IntKind.signed, Bool.false_and, decide_eq_true_eq]
  simp
  omega
/-- The place of an element. -/
theorem claim_index {t e : TypeId} {n off len sz s : Nat} {cap : Option Nat} {kd : IntKind} {q : Int} {k : Nat} (he : elemOf P t = some e) (hs : tsize P e = some s) (hq : q = (k : Int)) (h1 : k < len) :
    evIndexAddr P t (.s (.sl n off len cap sz)) (.s (.int kd q)) = some (.s (.ptr n (off + k * s))) := by
  subst hq
  have h2 : (0 : Int) ≤ (k : Int) ∧ (k : Int) < (len : Int) := by omega
  simp [evIndexAddr, he, hs, h2.2]
/-- A text's first bytes. -/
theorem claim_strto {t : TypeId} {s : ByteArray} {kd : IntKind} {q : Int} {k : Nat} (hu : P.underlying t = some .string) (hq : q = (k : Int)) (h1 : k ≤ s.size) :
    evSlice P t (.s (.str s)) none (some (.s (.int kd q))) none = some (.s (.str (s.extract 0 k))) := by
  subst hq
  have h2 : (k : Int) ≤ (s.size : Int) := by omega
  simp [evSlice, hu, bnd, h2]
theorem claim_slto {t e : TypeId} {n off len sz : Nat} {cap : Option Nat} {kd : IntKind} {q : Int} {k : Nat} (he : elemOf P t = some e) (hs : tsize P e = some sz) (hz : 0 < sz) (hq : q = (k : Int)) (h1 : k ≤ len) :
    evSlice P t (.s (.sl n off len cap sz)) none (some (.s (.int kd q))) none = some (.s (.sl n off k cap sz)) := by
  subst hq
  have h2 : (k : Int) ≤ (len : Int) := by omega
  simp [evSlice, he, hs, hz, bnd, h2]
theorem claim_slfrom {t e : TypeId} {n off len sz : Nat} {kd : IntKind} {q : Int} {k : Nat} {cap : Option Nat} (he : elemOf P t = some e) (hs : tsize P e = some sz) (hz : 0 < sz) (hq : q = (k : Int)) (h1 : k < len) (h0 : 0 < k) (hc : ∀ x, cap = some x → len ≤ x) :
    evSlice P t (.s (.sl n off len cap sz)) (some (.s (.int kd q))) none none = some (.s (.sl n (off + k * sz) (len - k) (cap.map (· - k)) sz)) := by
  subst hq
  have h2 : (k : Int) ≤ (len : Int) := by omega
  have h2' : k ≤ len := by omega
  have h3 : ¬ k = 0 := by omega
  cases cap with
  | none => simp [evSlice, he, hs, hz, bnd, h2, h2', h3, h1]
  | some x =>
    have h4 : k < x := by have := hc x rfl; omega
    simp [evSlice, he, hs, hz, bnd, h2, h2', h3, h4]
/-- An element, loaded. -/
theorem claim_load_agg {t : TypeId} {n off sz : Nat} {b : Blk} {cs : List SV} (hs : tsize P t = some sz) (ha : tagg P t = some true) (h : sub b.cells off sz = some cs) : loadG P t (.s (.ptr n off)) (fun _ => some b) = some (.agg cs) := by
  simp [loadG, hs, ha, h]
theorem claim_load {t : TypeId} {n off sz : Nat} {b : Blk} {v : SV} (hs : tsize P t = some sz) (ha : tagg P t = some false) (h : b.cells[off]? = some v) : loadG P t (.s (.ptr n off)) (fun _ => some b) = some (.s v) := by
  simp [loadG, hs, ha, h]

/-- Things, each of so many cells, one behind the other. -/
def flat {α : Type} (f : α → List SV) : List α → List SV
  | [] => []
  | x :: r => f x ++ flat f r
theorem flat_append {α : Type} (f : α → List SV) : ∀ (l r : List α), flat f (l ++ r) = flat f l ++ flat f r
  | [], r => rfl
  | x :: l, r => by simp [flat, flat_append f l r]
theorem flat_length {α : Type} (f : α → List SV) (sz : Nat) (hf : ∀ x, (f x).length = sz) : ∀ (l : List α), (flat f l).length = l.length * sz
  | [] => by simp [flat]
  | x :: r => by simp [flat, hf, flat_length f sz hf r, Nat.succ_mul, Nat.add_comm]
theorem flat_drop {α : Type} (f : α → List SV) (sz : Nat) (hf : ∀ x, (f x).length = sz) : ∀ (l : List α) (k : Nat), (flat f l).drop (k * sz) = flat f (l.drop k)
  | l, 0 => by simp
  | [], k + 1 => by simp [flat]
  | x :: r, k + 1 => by
    rw [List.drop_succ_cons, ← flat_drop f sz hf r k, flat, Nat.succ_mul, Nat.add_comm, ← List.drop_drop, ← hf x, List.drop_left]
theorem flat_take {α : Type} (f : α → List SV) (sz : Nat) (hf : ∀ x, (f x).length = sz) : ∀ (l : List α) (k : Nat), (flat f l).take (k * sz) = flat f (l.take k)
  | l, 0 => by simp [flat]
  | [], k + 1 => by simp [flat]
  | x :: r, k + 1 => by
    rw [List.take_succ_cons, flat, flat, ← flat_take f sz hf r k, Nat.succ_mul, Nat.add_comm, ← hf x, List.take_length_add_append]
theorem flat_sub {α : Type} (f : α → List SV) (sz : Nat) (hf : ∀ x, (f x).length = sz) (l : List α) (k n : Nat) (h : k + n ≤ l.length) : sub (flat f l) (k * sz) (n * sz) = some (flat f ((l.drop k).take n)) := by
  unfold sub
  rw [if_pos (by rw [flat_length f sz hf, ← Nat.add_mul]; exact Nat.mul_le_mul_right _ h), flat_drop f sz hf, flat_take f sz hf]
theorem flat_get {α : Type} (f : α → List SV) (sz : Nat) (hf : ∀ x, (f x).length = sz) (l : List α) (k : Nat) (h : k < l.length) : sub (flat f l) (k * sz) sz = some (f l[k]) := by
  have := flat_sub f sz hf l k 1 h
  rw [Nat.one_mul] at this
  rw [this]
  have : (l.drop k).take 1 = [l[k]] := by
    rw [List.take_one, List.head?_drop]
    simp [h]
  rw [this]
  simp [flat]
theorem CallDoes.of_eq {B : Nat} {f : FuncId} {args : List AV} {m m' : Mem} {c c' : Nat} {v : AV} (h : CallDoes P B f args m c v m' c') : CallDoes P B f args m c v m' c' := h
end Go.Proofs.Ytaelliigpclipaa.Eng
