/- RowCells: the join. Printed by gen_rh.py. -/
import Derived.Test.YtnhleneknnbhaaaRG
import Derived.Test.YtnhleneknnbhaaaProg
import Derived.KernelRfl
namespace Go.Proofs.Ytnhleneknnbhaaa.V
open Go Go.RowKit Go.Proofs Go.Proofs.Ytnhleneknnbhaaa.Eng Go.Proofs.Ytnhleneknnbhaaa.VPl
set_option maxRecDepth 100000
set_option linter.unusedVariables false
set_option linter.unusedSimpArgs false

theorem shC_len (L : List Cl) : (shC L).length ≤ 10 := by unfold shC; simp; omega
theorem rowCells_does (t q a : Int) (L : List Cl) (s : ByteArray) (hL : L.length ≤ 2932031007317) : ValDoes Try.prog 4 [.agg [.int .i64 t, .int .i64 q, .slv L.length none 4 (flat Cl.cv L)], .s (.int .i64 a), .s (.str s)] (.s (.bool true)) := by
  generalize hr : shC L = M
  have hM : M.length ≤ 10 := by rw [← hr]; exact shC_len L
  cases hR : rightB ⟨t, q, M⟩ with
  | false => exact ValDoes.of_code Try.func4 (by kernel_rfl) (by kernel_rfl) (k := 127) (by kernel_rfl) (fun B => ⟨_, _, .inr rfl, rcF_1 t q a L M s hL hr hM hR, by kernel_rfl⟩) (by kernel_rfl) (List.all_eq_true.1 (by kernel_rfl))
  | true =>
    have hR' := (right_iff t q M).1 hR
    obtain ⟨h1, h8, hf, hp⟩ := hR'
    have hall : ∀ k, k < M.length → cellL M (M.getD k Cl0).col = M.getD k Cl0 := fun k hk => find_self hp hk
    by_cases h0 : M.length = 0
    · exact ValDoes.of_code Try.func4 (by kernel_rfl) (by kernel_rfl) (k := 127) (by kernel_rfl) (fun B => ⟨_, _, .inr rfl, rcZ_1 t q a L M s _ _ hL hr h8 hR hall rfl rfl (no_had hf) h0, by kernel_rfl⟩) (by kernel_rfl) (List.all_eq_true.1 (by kernel_rfl))
    · have m1 := Int.emod_nonneg a (b := (M.length : Int) - 1 + 1) (by omega)
      have m2 := Int.emod_lt_of_pos a (b := (M.length : Int) - 1 + 1) (by omega)
      generalize hk : (a % ((M.length : Int) - 1 + 1)).toNat = k
      have hk2 : k < M.length := by omega
      exact ValDoes.of_code Try.func4 (by kernel_rfl) (by kernel_rfl) (k := 127) (by kernel_rfl) (fun B => ⟨_, _, .inr rfl, rcA_1 t q a L M s _ _ hL hr h8 hR hall rfl rfl (no_had hf) k _ hk hk2 (right_less hk2 hR) (right_more hk2) (less_no hk2 hp) no_zero, by kernel_rfl⟩) (by kernel_rfl) (List.all_eq_true.1 (by kernel_rfl))
end Go.Proofs.Ytnhleneknnbhaaa.V
