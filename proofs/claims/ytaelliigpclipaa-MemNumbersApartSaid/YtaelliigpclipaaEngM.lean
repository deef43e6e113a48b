/- The reckoner: what is reckoned of a whole call, the machine comes to. -/
import Derived.Test.YtaelliigpclipaaEngL
namespace Go.Proofs.Ytaelliigpclipaa.Eng
set_option linter.unusedVariables false
set_option linter.unusedSimpArgs false
open Go Go.RowKit

variable {P : Program}

theorem reg_ok {B : Nat} (hmix : P.follows .mixedOrders = true) : RegOk P B (regAll P) := by
  intro call hcall id ops draw t m c t' m' c' h
  unfold regAll at h
  cases draw with
  | false => exact plain_ok hcall id ops t m c t' m' c' h
  | true =>
    simp only [if_true] at h
    unfold evDrawn at h
    split at h
    · rename_i hst
      split at h
      · rename_i t1 ds c1 hrun
        split at h
        · rename_i hdy
          simp only [Option.some.injEq, Prod.mk.injEq] at h
          obtain ⟨rfl, rfl, rfl⟩ := h
          exact run_ok hmix hcall hst hrun hdy
        · split at h
          · rename_i t2 ds2 c2 hrun2
            split at h
            · rename_i hdy2
              simp only [Option.some.injEq, Prod.mk.injEq] at h
              obtain ⟨rfl, rfl, rfl⟩ := h
              exact run_ok hmix hcall hst hrun2 hdy2
            · cases h
          · cases h
      · cases h
    · cases h

theorem eval_ok {B : Nat} (hmix : P.follows .mixedOrders = true) (n : Nat) : CallOk P B (callEv P (evN P (regAll P) n)) := call_ok (evN_ok (reg_ok hmix) n).1

/-- The memory at a call's beginning: nothing is named. -/
theorem Sat.start (w : World) : Sat w.heap.size Rho.none (fun _ => none) w := by
  refine ⟨Nat.le_refl _, fun _ _ h => ?_, fun _ _ _ _ _ _ h => ?_, fun _ _ _ h => ?_, fun _ _ _ h => ?_⟩ <;> cases h

/-- A call whose arguments name no memory. -/
theorem closed_ok (hmix : P.follows .mixedOrders = true) {n : Nat} {f : FuncId} {args : List AV} {args' : Array Value} {v : AV} {m' : Mem} {c' : Nat} (h : callEv P (evN P (regAll P) n) f args [] 0 = some (v, m', c')) (w : World) (ha : ArgsR Rho.none args args') :
    Calls P f args' w fun e w' => ∃ v' ρ, e = .returned v' ∧ VR ρ v v' ∧ Below w.heap.size w w' := by
  obtain ⟨_, _, δ, _, h3⟩ := eval_ok (B := w.heap.size) hmix n f args [] 0 v m' c' h
  exact (h3 Rho.none (fun _ => none) args' w ha (fun _ _ h => by simp [get] at h) (fun _ _ _ => rfl) (Sat.start w)).mono fun e w' ⟨v', h1, ρ, _, h4, _, h5⟩ => ⟨v', ρ, h1, h4, h5⟩

def yes : Option (AV × Mem × Nat) → Bool
  | some (.s (.bool true), _, _) => true
  | _ => false

/-- A closed sentence. -/
theorem yes_ok (hmix : P.follows .mixedOrders = true) {n : Nat} {f : FuncId} (h : yes (callEv P (evN P (regAll P) n) f [] [] 0) = true) (w : World) :
    Calls P f #[] w fun e w' => e = .returned (.bool true) ∧ Below w.heap.size w w' := by
  unfold yes at h
  split at h
  · rename_i m c hc
    exact (closed_ok hmix hc w ⟨rfl, fun i x y h => by simp at h⟩).mono fun e w' ⟨v', ρ, h1, h2, h3⟩ => by
      obtain rfl : v' = .bool true := h2
      exact ⟨h1, h3⟩
  · cases h
end Go.Proofs.Ytaelliigpclipaa.Eng
