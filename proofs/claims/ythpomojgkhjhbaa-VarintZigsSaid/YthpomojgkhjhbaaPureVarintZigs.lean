/- Of two numbers the greater in size has the greater Zig, and Zig's halves and parity are the size and the sign: for every two numbers of 64 bits, no condition. -/
import Derived.Test.YthpomojgkhjhbaaPSx15
import Derived.Test.YthpomojgkhjhbaaZigs
namespace Go.Proofs.Ythpomojgkhjhbaa.Pure
open Go.RowKit Go.Proofs.Ythpomojgkhjhbaa.PS Go.Proofs.YthpomojgkhjhbaaW.PrintWords Go.Proofs.YthpomojgkhjhbaaW.PrintLast Go.Proofs.Ythpomojgkhjhbaa.Base Go.Proofs.Ythpomojgkhjhbaa.Zigs

theorem VarintZigs : columbariumlaw1_VarintZigs.Pure := by
  intro a b ha hb
  have ha := i64wf ha
  have hb := i64wf hb
  refine ⟨31, ?_⟩
  unfold columbariumlaw1_VarintZigs.f
  rw [zig_f ha.1 ha.2, zig_f hb.1 hb.2]
  simp only [Option.bind_some]
  have hk := known_f (k := 30) (by omega)
  have za : zigI a = if 0 ≤ a then 2 * a else -2 * a - 1 := rfl
  have zb : zigI b = if 0 ≤ b then 2 * b else -2 * b - 1 := rfl
  have key : ∀ x7 : Int, x7 = (if a < 0 then -(a + 1) else a) → columbariumlaw1_VarintZigs.j0 31 a b (zigI a) (zigI b) x7 = some true := by
    intro x7 hx
    simp only [columbariumlaw1_VarintZigs.j0]
    have hp : 0 ≤ x7 ∧ x7 ≤ 9223372036854775807 := by split at hx <;> omega
    have hz : zigI a = if a < 0 then 2 * x7 + 1 else 2 * x7 := by rw [za]; split <;> split at hx <;> (try split) <;> omega
    have hw : wrap64 (-(wrap64 (b + 1))) = -(b + 1) ∨ ¬ b < 0 := by
      by_cases h : b < 0
      · left; rw [w64_id (n := b + 1) (by omega) (by omega), w64_id (by omega) (by omega)]
      · exact .inr h
    obtain ⟨q, hq⟩ : ∃ q, q = (if b < 0 then -(b + 1) else b) := ⟨_, rfl⟩
    have hq2 : 0 ≤ q ∧ q ≤ 9223372036854775807 := by split at hq <;> omega
    have hzb : zigI b = if b < 0 then 2 * q + 1 else 2 * q := by rw [zb]; split <;> split at hq <;> (try split) <;> omega
    have d1 : ∀ z x : Int, 0 ≤ x → x ≤ 9223372036854775807 → (z = 2 * x ∨ z = 2 * x + 1) → IntKind.u64.wrap (Int.tdiv z 2) = x := by
      intro z x h0 h1 h
      rw [Int.tdiv_eq_ediv_of_nonneg (by omega), show z / 2 = x from by omega, u64_id h0 (by omega)]
    have e1 : IntKind.u64.wrap (Int.tdiv (zigI a) 2) = x7 := d1 _ _ hp.1 hp.2 (by rw [hz]; split <;> omega)
    have e2 : IntKind.u64.wrap (Int.tdiv (zigI b) 2) = q := d1 _ _ hq2.1 hq2.2 (by rw [hzb]; split <;> omega)
    have e3 : ((Int.tmod (zigI a) 2 == 1) == decide (a < 0)) = true := by
      rw [Int.tmod_eq_emod_of_nonneg (by rw [hz]; split <;> omega)]
      by_cases h : a < 0
      · rw [if_pos h] at hz
        have : zigI a % 2 = 1 := by omega
        simp [this, h]
      · rw [if_neg h] at hz
        have : zigI a % 2 = 0 := by omega
        simp [this, h]
    have e4 : wrap64 x7 = x7 := w64_id (by omega) hp.2
    have hbq : (if b < 0 then wrap64 (-(wrap64 (b + 1))) else b) = q := by
      rw [hq]
      split
      · rename_i h; exact hw.resolve_right (fun h2 => h2 h)
      · rfl
    have hzaq : x7 < q → zigI a < zigI b := fun h => by rw [hz, hzb]; split <;> split <;> omega
    have hzbq : q < x7 → zigI b < zigI a := fun h => by rw [hz, hzb]; split <;> split <;> omega
    have core : ∀ Q : Int, Q = q → (if x7 < Q then (if zigI a ≥ zigI b then some false else if x7 > Q then (if zigI a ≤ zigI b then some false else some true) else some true) else (if x7 > Q then (if zigI a ≤ zigI b then some false else some true) else some true)) = some true := by
      intro Q hQ
      subst hQ
      by_cases h : x7 < Q
      · rw [if_pos h, if_neg (by have := hzaq h; omega), if_neg (by omega)]
      · rw [if_neg h]
        by_cases h2 : x7 > Q
        · rw [if_pos h2, if_neg (by have := hzbq h2; omega)]
        · rw [if_neg h2]
    have ht : ∀ Q : Int, (if x7 = Q then (if x7 = Q then some true else some false) else some true) = some true := by
      intro Q
      by_cases h : x7 = Q
      · rw [if_pos h, if_pos h]
      · rw [if_neg h]
    by_cases hb0 : b < 0
    · rw [if_pos hb0] at hbq
      simp only [if_pos hb0, hbq, e1, e2, e3, e4, hk, Option.bind_some, if_true, ht]
      exact core q rfl
    · rw [if_neg hb0] at hbq
      subst hbq
      simp only [if_neg hb0, e1, e2, e3, e4, hk, Option.bind_some, if_true, ht]
      exact core b rfl
  by_cases h : a < 0
  · rw [if_pos h]
    refine key _ ?_
    rw [if_pos h, w64_id (n := a + 1) (by omega) (by omega), w64_id (by omega) (by omega)]
  · rw [if_neg h]
    exact key _ (by rw [if_neg h])

end Go.Proofs.Ythpomojgkhjhbaa.Pure
