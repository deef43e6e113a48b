/- The reckoner over tries: code and calls. -/
import Derived.Test.YtaelliigpclipaaEngVB
import Derived.Test.YtaelliigpclipaaEngW
namespace Go.Proofs.Ytaelliigpclipaa.Eng
set_option linter.unusedVariables false
set_option linter.unusedSimpArgs false
open Go Go.RowKit
section
variable (P : Program)
def dd : List Nat → List Nat → List Nat
  | [], acc => acc
  | n :: r, acc => if acc.contains n then dd r acc else dd r (n :: acc)
def blkNames : Option Blk → List Nat
  | some b => b.cells.flatMap svNames
  | none => []
def reachG (g : Nat → Option Blk) (c : Nat) : Nat → List Nat → List Nat → List Nat
  | 0, _, acc => acc
  | _ + 1, [], acc => acc
  | f + 1, x :: r, acc => if Nat.blt x c || acc.contains x then reachG g c f r acc else reachG g c f (blkNames (g x) ++ r) (x :: acc)
def oldOf (names : List Nat) (c c' : Nat) : List Nat := dd (names.filter fun n => Nat.blt n c || Nat.ble c' n) []
def leftG (v : AV) (names : List Nat) (g : Nat → Option Blk) (c c' : Nat) : Mem :=
  fL (oldOf names c c') fun olds => match avNames v ++ olds.flatMap fun n => blkNames (g n) with
    | [] => olds.map fun n => (n, g n)
    | rs => ((reachG g c 10000 rs []).filter (fun n => Nat.ble c n && Nat.blt n c') ++ olds).map fun n => (n, g n)
end
variable {P : Program}
theorem dd_mem : ∀ (l acc : List Nat) (n : Nat), n ∈ l ∨ n ∈ acc → n ∈ dd l acc
  | [], acc, n, h => by simpa [dd] using h
  | x :: r, acc, n, h => by
    simp only [dd]
    split
    · rename_i hc
      refine dd_mem r acc n ?_
      rcases h with h | h
      · rcases List.mem_cons.1 h with rfl | h
        · exact .inr (by simpa using hc)
        · exact .inl h
      · exact .inr h
    · refine dd_mem r (x :: acc) n ?_
      rcases h with h | h
      · rcases List.mem_cons.1 h with rfl | h
        · exact .inr (by simp)
        · exact .inl h
      · exact .inr (by simp [h])
theorem upd_map (g : Nat → Option Blk) (M : MemF) (n : Nat) : ∀ (l : List Nat), upd (l.map fun n => (n, g n)) M n = if n ∈ l then g n else M n
  | [] => by simp [upd]
  | x :: r => by
    rw [List.map_cons, upd_cons, upd_one, upd_map g M n r]
    by_cases h : x = n
    · subst h; simp
    · rw [if_neg h]
      have : n ≠ x := fun e => h e.symm
      simp [this]
theorem leftG_eq (v : AV) (names : List Nat) (g : Nat → Option Blk) (c c' : Nat) : ∃ l : List Nat, leftG v names g c c' = l.map (fun n => (n, g n)) ∧ ∀ n ∈ names, (n < c ∨ c' ≤ n) → n ∈ l := by
  have key : ∀ n ∈ names, (n < c ∨ c' ≤ n) → n ∈ oldOf names c c' := by
    intro n hn h
    refine dd_mem _ _ _ (.inl ?_)
    rw [List.mem_filter]
    refine ⟨hn, ?_⟩
    rw [Bool.or_eq_true, Nat.blt_eq, Nat.ble_eq]
    exact h
  unfold leftG
  rw [fL_eq]
  split
  · exact ⟨_, rfl, key⟩
  · exact ⟨_, rfl, fun n hn h => List.mem_append.2 (.inr (key n hn h))⟩
theorem Post.left {B : Nat} {ρ : Rho} {M : MemF} {m : Mem} {c c' : Nat} {w : World} {v : AV} {δ : Mem} {v' : Value} {w' : World} (h : Post B ρ M c c' w v δ v' w') (hm : Agree m M) (hf : ∀ n, c ≤ n → n < c' → M n = none) :
    Post B ρ M c c' w v (leftG v (δ.map (·.1)) (get (δ ++ m)) c c') v' w' := by
  obtain ⟨ρ', e1, e2, e3, e4⟩ := h
  refine ⟨ρ', e1, e2, e3.sub (fun n b hb => ?_), e4⟩
  obtain ⟨l, h1, h2⟩ := leftG_eq v (δ.map (·.1)) (get (δ ++ m)) c c'
  rw [h1, upd_map] at hb
  split at hb
  · exact upd_here hm δ n b hb
  · rename_i hn
    by_cases ht : Touch δ n
    · obtain ⟨e, he, rfl⟩ := ht
      have h3 : ¬ (e.1 < c ∨ c' ≤ e.1) := fun hq => hn (h2 _ (List.mem_map.2 ⟨e, he, rfl⟩) hq)
      rw [hf _ (by omega) (by omega)] at hb
      cases hb
    · rw [upd_out ht]; exact hb
end Go.Proofs.Ytaelliigpclipaa.Eng
