/- Of a narrower time the span lies within; of all time it is all; a span begins and ends where a time of the index is, or at the end; for any steps and bounds. -/
import Derived.Test.YtjpeojohakhmdaaPScolumbariumlaw10TicksNarrow
import Derived.Test.YtjpeojohakhmdaaTRising
import Derived.Test.YtjpeojohakhmdaaTKnown
namespace Go.Proofs.Ytjpeojohakhmdaa.Pure
open Go.RowKit Go.Proofs.Ytjpeojohakhmdaa.PS Go.Proofs.YtjpeojohakhmdaaW.PrintWords Go.Proofs.YtjpeojohakhmdaaW.PrintLast Go.Proofs.Ytjpeojohakhmdaa.Base Go.Proofs.Ytjpeojohakhmdaa.TBase Go.Proofs.Ytjpeojohakhmdaa.TRising Go.Proofs.Ytjpeojohakhmdaa.TKnown Go.Proofs.Ytjpeojohakhmdaa.Within
/-- a span's bounds, as the builder's index has them -/
def SpanIs (l : List Int) (lo hi F T : Int) : Prop :=
  (F = 0 ∧ T = 0 ∧ (hi < lo ∨ l.length = 0 ∨ hi < rd l 0 ∨ lastTo l l.length < lo)) ∨
    (lo ≤ hi ∧ 0 < l.length ∧ rd l 0 ≤ hi ∧ lo ≤ lastTo l l.length ∧ From (four l ((l.length + 3) / 4)) lo ((l.length + 3) / 4) F ∧ To (four l ((l.length + 3) / 4)) hi (l.length : Int) T)
theorem span_shape {l : List Int} {lo hi F T : Int} (h : SpanIs l lo hi F T) : Int.tmod F 4 = 0 ∧ (Int.tmod T 4 = 0 ∨ T = (l.length : Int)) := by
  have four4 : ∀ n : Nat, Int.tmod ((4 * n : Nat) : Int) 4 = 0 := fun n => by
    rw [Int.tmod_eq_emod_of_nonneg (by omega)]
    omega
  rcases h with ⟨rfl, rfl, _⟩ | ⟨_, _, _, _, hF, hT⟩
  · exact ⟨by decide, .inl (by decide)⟩
  · constructor
    · rcases hF with ⟨rfl, _⟩ | ⟨n, _, rfl, _⟩
      · decide
      · exact four4 n
    · rcases hT with ⟨rfl, _⟩ | ⟨n, _, rfl, _⟩
      · exact .inr rfl
      · exact .inl (four4 n)
theorem span_all {l : List Int} (_hr : Rises l) {lo hi F T : Int} (hx : ∀ x ∈ l, lo ≤ x ∧ x ≤ hi) (hlh : lo ≤ hi) (h : SpanIs l lo hi F T) : F = 0 ∧ T = (l.length : Int) := by
  have fr : ∀ n : Nat, n < (l.length + 3) / 4 → rd (four l ((l.length + 3) / 4)) (n : Int) = rd l ((4 * n : Nat) : Int) := fun n hn => four_rd l hn
  rcases h with ⟨rfl, rfl, h⟩ | ⟨_, _, _, _, hF, hT⟩
  · rcases Nat.eq_zero_or_pos l.length with c | c
    · exact ⟨rfl, by omega⟩
    · exfalso
      have h0 : lastTo l l.length = rd l ((l.length - 1 : Nat) : Int) := by
        unfold lastTo
        rw [if_neg (by omega)]
      have e1 := hx _ (rd_mem (l := l) (i := 0) c)
      have e2 := hx _ (rd_mem (l := l) (i := l.length - 1) (by omega))
      rw [show ((0 : Nat) : Int) = 0 from rfl] at e1
      omega
  · constructor
    · rcases hF with ⟨rfl, _⟩ | ⟨n, g1, rfl, g2, _⟩
      · rfl
      · rw [fr n g1] at g2
        have := hx _ (rd_mem (l := l) (i := 4 * n) (by omega))
        omega
    · rcases hT with ⟨rfl, _⟩ | ⟨n, g1, rfl, g2, _⟩
      · rfl
      · rw [four_len] at g1
        rw [fr n g1] at g2
        have := hx _ (rd_mem (l := l) (i := 4 * n) (by omega))
        omega
theorem span_in {l : List Int} (hr : Rises l) {p q r s F T F' T' : Int} (hpq : p ≤ q) (hpr : p ≤ r) (hsq : s ≤ q) (h : SpanIs l p q F T) (h' : SpanIs l r s F' T') : F' = T' ∨ (F' ≥ F ∧ T' ≤ T) := by
  have ha := four_rises hr
  rcases h' with ⟨rfl, rfl, _⟩ | ⟨c1, c2, c3, c4, hF', hT'⟩
  · exact .inl rfl
  · right
    rcases h with ⟨rfl, rfl, h⟩ | ⟨_, _, _, _, hF, hT⟩
    · exfalso
      rcases h with h | h | h | h <;> omega
    · constructor
      · rcases hF with ⟨rfl, _⟩ | ⟨n, g1, rfl, g2, g3⟩
        · rcases hF' with ⟨rfl, _⟩ | ⟨m, f1, rfl, f2, _⟩
          · omega
          · omega
        · rcases hF' with ⟨rfl, f1⟩ | ⟨m, f1, rfl, f2, f3⟩
          · have := f1 n g1
            omega
          · rcases Nat.lt_or_ge m n with c | c
            · have := f3 n c g1
              omega
            · omega
      · rcases hT with ⟨rfl, _⟩ | ⟨n, g1, rfl, g2, g3⟩
        · rcases hT' with ⟨rfl, _⟩ | ⟨m, f1, rfl, f2, _⟩
          · omega
          · rw [four_len] at f1
            omega
        · rcases hT' with ⟨rfl, f1⟩ | ⟨m, f1, rfl, f2, f3⟩
          · have := f1 n g1
            omega
          · rcases Nat.lt_or_ge n m with c | c
            · have := f3 n c
              omega
            · omega
theorem TicksNarrow : columbariumlaw10_TicksNarrow.Pure := by
  intro a s lo hi a4 b4 _ _ hs hswf _ _ _ _
  refine ⟨3000, ?_⟩
  obtain ⟨l, hl, hlen, hr, hx⟩ := rising_f a (s := s) (by omega) (k := 3000) (by omega)
  have hb := base_range a
  obtain ⟨base, hbase⟩ : ∃ z, z = Int.tmod a 1099511627776 := ⟨_, rfl⟩
  rw [← hbase] at hb hx
  obtain ⟨w1, hw1, hw10, hw11⟩ := within_f (n := lo) (hi := 300) (by decide) (by decide)
  obtain ⟨w2, hw2, hw20, hw21⟩ := within_f (n := hi) (hi := 300) (by decide) (by decide)
  obtain ⟨w3, hw3, hw30, hw31⟩ := within_f (n := a4) (hi := 50) (by decide) (by decide)
  obtain ⟨w4, hw4, hw40, hw41⟩ := within_f (n := b4) (hi := 50) (by decide) (by decide)
  unfold columbariumlaw10_TicksNarrow.f
  rw [hl, Option.bind_some, build_f (by omega) hr (by omega), Option.bind_some, if_pos rfl, hw1, Option.bind_some, hw2, Option.bind_some, hw3, Option.bind_some, hw4, Option.bind_some, ← hbase,
    w64_id (n := base + w1) (by omega) (by omega), w64_id (n := base + w1 - 10) (by omega) (by omega), w64_id (n := base + w1 - 10 + w2) (by omega) (by omega), w64_id (n := base + w1 - 10 + w3) (by omega) (by omega), w64_id (n := base + w1 - 10 + w2 - w4) (by omega) (by omega)]
  obtain ⟨F, T, hFT, hc⟩ := span_f (l := l) (by omega) hr (base + w1 - 10) (base + w1 - 10 + w2) (k := 3000) (by omega)
  obtain ⟨F', T', hFT', hc'⟩ := span_f (l := l) (by omega) hr (base + w1 - 10 + w3) (base + w1 - 10 + w2 - w4) (k := 3000) (by omega)
  obtain ⟨U, V, hUV, hu⟩ := span_f (l := l) (by omega) hr (-9223372036854775808) 9223372036854775807 (k := 3000) (by omega)
  have hc : SpanIs l _ _ F T := hc
  have hc' : SpanIs l _ _ F' T' := hc'
  obtain ⟨hu1, hu2⟩ := span_all hr (fun x hxm => by have := hx x hxm; omega) (by omega) (show SpanIs l _ _ U V from hu)
  have h4 := span_shape hc
  have hin := span_in hr (by omega) (by omega) (by omega) hc hc'
  rw [hFT, Option.bind_some, hFT', Option.bind_some, hUV, Option.bind_some]
  subst hu1 hu2
  rw [if_pos rfl, if_pos rfl, if_pos h4.1]
  have hk := known_f (k := 3000) (by omega)
  have tail : (if F' = T' then (columbariumlaw10_known.f 3000).bind fun t => some t else if F' ≥ F then if T' ≤ T then (columbariumlaw10_known.f 3000).bind fun t => some t else some false else some false) = some true := by
    rw [hk]
    rcases hin with h | ⟨h1, h2⟩
    · rw [if_pos h]; rfl
    · by_cases h : F' = T'
      · rw [if_pos h]; rfl
      · rw [if_neg h, if_pos h1, if_pos h2]; rfl
  by_cases h5 : Int.tmod T 4 = 0
  · rw [if_pos h5]
    exact tail
  · rw [if_neg h5, if_pos (h4.2.resolve_left h5)]
    exact tail
end Go.Proofs.Ytjpeojohakhmdaa.Pure
