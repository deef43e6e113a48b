/- Outside of a span there is no time of those that were asked, and a span is a span of places; for any steps and bounds. -/
import Derived.Test.YtjpeojohakhmdaaPScolumbariumlaw10TicksSpan
import Derived.Test.YtjpeojohakhmdaaTRising
import Derived.Test.YtjpeojohakhmdaaTKnown
namespace Go.Proofs.Ytjpeojohakhmdaa.Pure
open Go.RowKit Go.Proofs.Ytjpeojohakhmdaa.PS Go.Proofs.YtjpeojohakhmdaaW.PrintWords Go.Proofs.YtjpeojohakhmdaaW.PrintLast Go.Proofs.Ytjpeojohakhmdaa.Base Go.Proofs.Ytjpeojohakhmdaa.TBase Go.Proofs.Ytjpeojohakhmdaa.TRising Go.Proofs.Ytjpeojohakhmdaa.TKnown Go.Proofs.Ytjpeojohakhmdaa.Within
theorem tspan_loop {l : List Int} (hl : l.length ≤ 1048576) {lo hi F T : Int} (h : ∀ j : Nat, j < l.length → lo ≤ rd l (j : Int) → rd l (j : Int) ≤ hi → F ≤ (j : Int) ∧ (j : Int) < T) (d : Nat) : ∀ (k i : Nat), i ≤ l.length → l.length - i = d → d + 200 < k →
    columbariumlaw10_TicksSpan.l0 k l lo hi F T (i : Int) = some true := by
  induction d with
  | zero =>
    intro k i hi' hd hk
    obtain ⟨k, rfl⟩ : ∃ m, k = m + 1 := ⟨k - 1, by omega⟩
    rw [columbariumlaw10_TicksSpan.l0, if_neg (by omega), known_f (by omega)]
    rfl
  | succ d ih =>
    intro k i hi' hd hk
    obtain ⟨k, rfl⟩ : ∃ m, k = m + 1 := ⟨k - 1, by omega⟩
    have hw : wrap64 ((i : Int) + 1) = ((i + 1 : Nat) : Int) := by rw [w64_id (by omega) (by omega)]; push_cast; rfl
    have hI := ih k (i + 1) (by omega) (by omega) (by omega)
    have hh := h i (by omega)
    rw [columbariumlaw10_TicksSpan.l0, if_pos (by omega), if_pos (by omega), hw]
    by_cases h1 : rd l (i : Int) ≥ lo
    · rw [if_pos h1]
      by_cases h2 : rd l (i : Int) ≤ hi
      · obtain ⟨a, b⟩ := hh h1 h2
        rw [if_pos h2, if_neg (by omega), if_neg (by omega)]
        exact hI
      · rw [if_neg h2]
        exact hI
    · rw [if_neg h1]
      exact hI
theorem TicksSpan : columbariumlaw10_TicksSpan.Pure := by
  intro a s lo hi _ _ hs _ _ _
  refine ⟨3000, ?_⟩
  obtain ⟨l, hl, hlen, hr, hx⟩ := rising_f a (s := s) (by omega) (k := 3000) (by omega)
  have hb := base_range a
  obtain ⟨p, hp, hp0, hp1⟩ := within_f (n := lo) (hi := 300) (by decide) (by decide)
  obtain ⟨q, hq, hq0, hq1⟩ := within_f (n := hi) (hi := 300) (by decide) (by decide)
  unfold columbariumlaw10_TicksSpan.f
  rw [hl, Option.bind_some, build_f (by omega) hr (by omega), Option.bind_some, if_pos rfl, right_f (by omega) hr (by omega), Option.bind_some, if_pos rfl, hp, Option.bind_some, hq, Option.bind_some]
  obtain ⟨F, T, hFT, hc⟩ := span_f (l := l) (by omega) hr (wrap64 (wrap64 (Int.tmod a 1099511627776 + p) - 20)) (wrap64 (wrap64 (Int.tmod a 1099511627776 + q) - 20)) (k := 3000) (by omega)
  obtain ⟨lo', hlo'⟩ : ∃ z, z = wrap64 (wrap64 (Int.tmod a 1099511627776 + p) - 20) := ⟨_, rfl⟩
  obtain ⟨hi', hhi'⟩ : ∃ z, z = wrap64 (wrap64 (Int.tmod a 1099511627776 + q) - 20) := ⟨_, rfl⟩
  rw [← hlo', ← hhi'] at hFT hc ⊢
  rw [hFT, Option.bind_some]
  show (if F < 0 then some false else if F > T then some false else if T > (l.length : Int) then some false else columbariumlaw10_TicksSpan.l0 3000 l lo' hi' F T 0) = some true
  have key : 0 ≤ F ∧ F ≤ T ∧ T ≤ (l.length : Int) ∧ ∀ j : Nat, j < l.length → lo' ≤ rd l (j : Int) → rd l (j : Int) ≤ hi' → F ≤ (j : Int) ∧ (j : Int) < T := by
    rcases hc with ⟨rfl, rfl, h⟩ | ⟨h1, h2, h3, h4, hF, hT⟩
    · refine ⟨by omega, by omega, by omega, fun j hj h5 h6 => ?_⟩
      exfalso
      rcases h with h | h | h | h
      · omega
      · omega
      · have := rises_mono hr (i := 0) (j := j) (by omega) hj
        rw [show ((0 : Nat) : Int) = 0 from rfl] at this
        omega
      · have h0 : lastTo l l.length = rd l ((l.length - 1 : Nat) : Int) := by
          unfold lastTo
          rw [if_neg (by omega)]
        have := rises_mono hr (i := j) (j := l.length - 1) (by omega) (by omega)
        omega
    · have fr : ∀ n : Nat, n < (l.length + 3) / 4 → rd (four l ((l.length + 3) / 4)) (n : Int) = rd l ((4 * n : Nat) : Int) := fun n hn => four_rd l hn
      have hF1 : 0 ≤ F ∧ F < (l.length : Int) ∧ ∀ j : Nat, j < l.length → lo' ≤ rd l (j : Int) → F ≤ (j : Int) := by
        rcases hF with ⟨rfl, _⟩ | ⟨n, g1, rfl, g2, _⟩
        · exact ⟨by omega, by omega, fun j _ _ => by omega⟩
        · refine ⟨by omega, by omega, fun j hj h5 => ?_⟩
          rw [fr n g1] at g2
          rcases Nat.lt_or_ge j (4 * n) with c | c
          · have := rises_mono hr (i := j) (j := 4 * n) (by omega) (by omega)
            omega
          · omega
      have hT1 : T ≤ (l.length : Int) ∧ F ≤ T ∧ ∀ j : Nat, j < l.length → rd l (j : Int) ≤ hi' → (j : Int) < T := by
        rcases hT with ⟨rfl, _⟩ | ⟨n, g1, rfl, g2, g3⟩
        · exact ⟨by omega, by omega, fun j _ _ => by omega⟩
        · rw [four_len] at g1
          rw [fr n g1] at g2
          refine ⟨by omega, ?_, fun j hj h5 => ?_⟩
          · rcases hF with ⟨rfl, _⟩ | ⟨m, f1, rfl, f2, _⟩
            · omega
            · rw [fr m f1] at f2
              rcases Nat.lt_or_ge n m with c | c
              · have := rises_mono hr (i := 4 * n) (j := 4 * m) (by omega) (by omega)
                omega
              · omega
          · rcases Nat.lt_or_ge j (4 * n) with c | c
            · omega
            · have := rises_mono hr (i := 4 * n) (j := j) (by omega) (by omega)
              omega
      exact ⟨hF1.1, hT1.2.1, hT1.1, fun j hj a b => ⟨hF1.2.2 j hj a, hT1.2.2 j hj b⟩⟩
  obtain ⟨k1, k2, k3, k4⟩ := key
  rw [if_neg (by omega), if_neg (by omega), if_neg (by omega)]
  exact tspan_loop (by omega) k4 l.length 3000 0 (by omega) (by omega) (by omega)
end Go.Proofs.Ytjpeojohakhmdaa.Pure
