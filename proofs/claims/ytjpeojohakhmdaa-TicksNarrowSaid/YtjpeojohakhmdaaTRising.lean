/- Times that rise, by steps. -/
import Derived.Test.YtjpeojohakhmdaaPScolumbariumlaw10rising
import Derived.Test.YtjpeojohakhmdaaTBase
import Derived.Test.YtjpeojohakhmdaaWithin
namespace Go.Proofs.Ytjpeojohakhmdaa.TRising
open Go.RowKit Go.Proofs.Ytjpeojohakhmdaa.PS Go.Proofs.YtjpeojohakhmdaaW.PrintWords Go.Proofs.YtjpeojohakhmdaaW.PrintLast Go.Proofs.Ytjpeojohakhmdaa.Base Go.Proofs.Ytjpeojohakhmdaa.TBase Go.Proofs.Ytjpeojohakhmdaa.Within
/-- so far: i times, rising, none above t, all within bounds of where it began -/
def Good (b t : Int) (i : Nat) (acc : List Int) : Prop := acc.length = i ∧ Rises acc ∧ t ≤ b + 9 * i ∧ b ≤ t ∧ (∀ x ∈ acc, b ≤ x ∧ x ≤ t)
theorem rd_mem {l : List Int} {i : Nat} (h : i < l.length) : rd l (i : Int) ∈ l := by rw [rd_nat h]; exact List.getElem_mem h
theorem rd_app_lt {l m : List Int} {i : Nat} (h : i < l.length) : rd (l ++ m) (i : Int) = rd l (i : Int) := by
  rw [rd_nat (by rw [List.length_append]; omega), rd_nat h, List.getElem_append_left h]
theorem rd_app_at {l : List Int} {x : Int} : rd (l ++ [x]) (l.length : Int) = x := by
  rw [rd_nat (by simp), List.getElem_append_right (by omega)]
  simp
theorem good_step {b t : Int} {i : Nat} {acc : List Int} (h : Good b t i acc) {r : Int} (h0 : 0 ≤ r) (h9 : r ≤ 9) : Good b (t + r) (i + 1) (acc ++ [t + r]) := by
  obtain ⟨h1, h2, h3, h4, h5⟩ := h
  refine ⟨by simp [h1], ?_, by push_cast; omega, by omega, ?_⟩
  · intro j hj
    rw [List.length_append, List.length_singleton] at hj
    rcases Nat.lt_or_ge (j + 1) acc.length with c | c
    · rw [rd_app_lt (by omega), rd_app_lt c]
      exact h2 j c
    · have hj1 : j + 1 = acc.length := by omega
      rw [hj1, rd_app_at, rd_app_lt (by omega)]
      have := h5 _ (rd_mem (l := acc) (i := j) (by omega))
      omega
  · intro x hx
    rw [List.mem_append, List.mem_singleton] at hx
    rcases hx with hx | rfl
    · have := h5 x hx
      omega
    · omega
theorem rising_loop {s : List Int} (_hs : s.length ≤ 1000000000000000) {b : Int} (hb0 : -1099511627776 < b) (hb1 : b < 1099511627776) (d : Nat) : ∀ (k i : Nat) (t : Int) (acc : List Int), i ≤ 60 → 60 - i = d → d < k → i ≤ s.length → Good b t i acc →
    ∃ t' i' l, columbariumlaw10_rising.l0 k s t acc (i : Int) = some l ∧ i' ≤ 60 ∧ Good b t' i' l := by
  induction d with
  | zero =>
    intro k i t acc hi hd hk his hg
    obtain ⟨k, rfl⟩ : ∃ m, k = m + 1 := ⟨k - 1, by omega⟩
    rw [columbariumlaw10_rising.l0]
    by_cases h : (i : Int) < (s.length : Int)
    · rw [if_pos h, if_neg (by omega)]
      exact ⟨t, i, acc, rfl, hi, hg⟩
    · rw [if_neg h]
      exact ⟨t, i, acc, rfl, hi, hg⟩
  | succ d ih =>
    intro k i t acc hi hd hk his hg
    obtain ⟨k, rfl⟩ : ∃ m, k = m + 1 := ⟨k - 1, by omega⟩
    rw [columbariumlaw10_rising.l0]
    by_cases h : (i : Int) < (s.length : Int)
    · obtain ⟨r, hr, h0, h9⟩ := within_f (n := rd s (i : Int)) (hi := 9) (by decide) (by decide)
      have hw : wrap64 ((i : Int) + 1) = ((i + 1 : Nat) : Int) := by rw [w64_id (by omega) (by omega)]; push_cast; rfl
      have hg' := hg
      obtain ⟨g1, g2, g3, g4, g5⟩ := hg'
      rw [if_pos h, if_pos (by omega), if_pos (by omega), hr, Option.bind_some, if_pos (by omega), w64_id (n := t + r) (by omega) (by omega), hw]
      exact ih k (i + 1) (t + r) (acc ++ [t + r]) (by omega) (by omega) (by omega) (by omega) (good_step hg h0 h9)
    · rw [if_neg h]
      exact ⟨t, i, acc, rfl, hi, hg⟩
theorem base_range (a : Int) : -1099511627776 < Int.tmod a 1099511627776 ∧ Int.tmod a 1099511627776 < 1099511627776 := by
  have hm1 := Int.tmod_lt_of_pos a (show (0 : Int) < 1099511627776 by decide)
  have := Int.tmod_lt_of_pos (-a) (show (0 : Int) < 1099511627776 by decide)
  rw [Int.neg_tmod] at this
  omega
theorem rising_f (a : Int) {s : List Int} (hs : s.length ≤ 1000000000000000) {k : Nat} (hk : 60 < k) :
    ∃ l, columbariumlaw10_rising.f k a s = some l ∧ l.length ≤ 60 ∧ Rises l ∧ ∀ x ∈ l, Int.tmod a 1099511627776 ≤ x ∧ x ≤ Int.tmod a 1099511627776 + 540 := by
  have hb := base_range a
  obtain ⟨t, i, l, h1, h2, g1, g2, g3, g4, g5⟩ := rising_loop hs hb.1 hb.2 60 k 0 (Int.tmod a 1099511627776) [] (by omega) (by omega) (by omega) (by omega) ⟨rfl, fun j hj => by simp at hj, by omega, by omega, by simp⟩
  refine ⟨l, h1, by omega, g2, fun x hx => ?_⟩
  have := g5 x hx
  omega
end Go.Proofs.Ytjpeojohakhmdaa.TRising
