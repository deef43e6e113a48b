-- Written by a program of this session, out of the translation; Lean checks it.
import Derived.Test.YtfgceanepgjfiaaPScolumbariumlaw6BlockJoins
namespace Go.Proofs.Ytfgceanepgjfiaa.PS
open Go.RowKit Go.Proofs.YtfgceanepgjfiaaW.PrintWords Go.Proofs.YtfgceanepgjfiaaW.PrintLast Go.Proofs.YtfgceanepgjfiaaW.PrintMore
attribute [local go_sem high] pw_str_leq pw_str_gtr
attribute [local go_sem] pw_us8 pw_us32 pw_us64 pw_max2_str pw_min2_str max2_int min2_int max_two min_two max_three min_three max_four min_four   -- for this text's walks alone
set_option linter.unusedVariables false
set_option linter.unusedSimpArgs false
/-- The one pure statement, where each slice of numbers is at most 1048576 long. -/
def columbariumlaw6_BlockJoins.PureU : Prop := ∀ (l0 : List ByteArray) (l1 : List ByteArray) (l2 : List Int), l0.length * 16 ≤ 140737488351232 → (∀ x ∈ l0, x.size ≤ maxLen) → l1.length * 16 ≤ 140737488351232 → (∀ x ∈ l1, x.size ≤ maxLen) → l2.length ≤ maxLen → l2.length * 1 ≤ 140737488351232 → l2.length ≤ 1048576 → (∀ x ∈ l2, (Lit.int .u8 x).wf = true) → ∃ k, columbariumlaw6_BlockJoins.f k l0 l1 l2 = some true
set_option maxHeartbeats 8000000 in
set_option maxRecDepth 100000 in
theorem columbariumlaw6_BlockJoins.walkU (P : columbariumlaw6_BlockJoins.PureU) (a0 : Option Addr) (len0 cap0 : Nat) (z0 : List ByteArray) (a1 : Option Addr) (len1 cap1 : Nat) (z1 : List ByteArray) (a2 : Option Addr) (len2 cap2 : Nat) (z2 : List Int) (w : World) (w0 : z0.length = len0 ∧ len0 ≤ cap0 ∧ Kd.string.C w a0 len0 z0 ∧ ∀ x ∈ z0, x.size ≤ maxLen) (y0 : len0 * 16 ≤ 140737488351232) (w1 : z1.length = len1 ∧ len1 ≤ cap1 ∧ Kd.string.C w a1 len1 z1 ∧ ∀ x ∈ z1, x.size ≤ maxLen) (y1 : len1 * 16 ≤ 140737488351232) (w2 : (a2 = none ∧ len2 = 0 ∧ cap2 = 0 ∧ z2 = []) ∨ ∃ x, a2 = some x ∧ len2 ≤ cap2 ∧ cap2 ≤ maxLen ∧ z2.length = cap2 ∧ (∀ i, i < z2.length → w.cell? (x.add i) = some (.int .u8 (z2.getD i 0))) ∧ ∀ n ∈ z2, (Lit.int .u8 n).wf = true) (y2 : len2 * 1 ≤ 140737488351232) (u2 : len2 ≤ 1048576) :
    Calls Try.prog 14 #[.slice a0 len0 cap0, .slice a1 len1 cap1, .slice a2 len2 cap2] w fun e w' => e = .returned (.bool true) ∧ Below w.heap.size w w' := by
  obtain ⟨rfl, hc0, hr0, hw0⟩ := w0
  obtain ⟨rfl, hc1, hr1, hw1⟩ := w1
  obtain ⟨l2, rfl, hr2, hm2, hw2, hc2⟩ := ReadsInt.ofRowC w2
  obtain ⟨k, h⟩ := P z0 z1 l2 y0 hw0 y1 hw1 hm2 y2 u2 hw2
  refine (columbariumlaw6_BlockJoins.calls k _ _ z0 _ _ z1 _ _ l2 true w hr0 hc0 hr1 hc1 (Kd.C_of_reads (d := (0 : Int)) (h1 := fun _ => rfl) hr2) hc2 h ⟨rfl⟩).mono ?_
  rintro e w' ⟨rfl, hd⟩
  exact ⟨rfl, hd⟩
end Go.Proofs.Ytfgceanepgjfiaa.PS
