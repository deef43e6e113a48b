/- Rising rows: IsSorted; the index of times; a span. -/
import Derived.Test.YtjpeojohakhmdaaPSticksBuild
import Derived.Test.YtjpeojohakhmdaaPSticksSpan
import Derived.Test.YtjpeojohakhmdaaBase
namespace Go.Proofs.Ytjpeojohakhmdaa.TBase
open Go.RowKit Go.Proofs.Ytjpeojohakhmdaa.PS Go.Proofs.YtjpeojohakhmdaaW.PrintWords Go.Proofs.YtjpeojohakhmdaaW.PrintLast Go.Proofs.Ytjpeojohakhmdaa.Base

def Rises (l : List Int) : Prop := ∀ i : Nat, i + 1 < l.length → rd l (i : Int) ≤ rd l ((i + 1 : Nat) : Int)
theorem rises_le {l : List Int} (h : Rises l) (i d : Nat) : i + d < l.length → rd l (i : Int) ≤ rd l ((i + d : Nat) : Int) := by
  induction d with
  | zero => intro _; exact Int.le_refl _
  | succ d ih =>
    intro hl
    have a := ih (by omega)
    have b := h (i + d) (by omega)
    exact Int.le_trans a b
theorem rises_mono {l : List Int} (h : Rises l) {i j : Nat} (hij : i ≤ j) (hj : j < l.length) : rd l (i : Int) ≤ rd l (j : Int) := by
  obtain ⟨d, rfl⟩ : ∃ d, j = i + d := ⟨j - i, by omega⟩
  exact rises_le h i d hj
theorem less_f (a b : Int) : cmp_Less_int64.f a b = some (decide (a < b)) := by
  unfold cmp_Less_int64.f cmp_isNaN_int64.f
  simp
theorem sorted_loop {l : List Int} (hl : l.length ≤ 1000000000000000) (d : Nat) : ∀ k : Nat, d < l.length → d < k →
    (∃ b, slices_IsSorted_int64_int64.l0 k l (d : Int) = some b ∧ (b = true ↔ ∀ i : Nat, i < d → rd l (i : Int) ≤ rd l ((i + 1 : Nat) : Int))) := by
  induction d with
  | zero =>
    intro k _ hk
    obtain ⟨k, rfl⟩ : ∃ m, k = m + 1 := ⟨k - 1, by omega⟩
    exact ⟨true, by rw [slices_IsSorted_int64_int64.l0, if_neg (by omega)], by simp⟩
  | succ d ih =>
    intro k hd hk
    obtain ⟨k, rfl⟩ : ∃ m, k = m + 1 := ⟨k - 1, by omega⟩
    obtain ⟨b, hb, hb2⟩ := ih k (by omega) (by omega)
    have hw : wrap64 (((d + 1 : Nat) : Int) - 1) = (d : Int) := by rw [w64_id (by omega) (by omega)]; omega
    rw [slices_IsSorted_int64_int64.l0, if_pos (by omega), if_pos (by omega), if_pos (by omega), hw, if_pos (by omega), if_pos (by omega), less_f, Option.bind_some]
    by_cases h : rd l ((d + 1 : Nat) : Int) < rd l (d : Int)
    · refine ⟨false, by rw [if_pos (by simpa using h)], by simp; exact ⟨d, by omega, by simpa using h⟩⟩
    · refine ⟨b, by rw [if_neg (by simpa using h)]; exact hb, ?_⟩
      rw [hb2]
      constructor
      · intro q i hi
        rcases Nat.lt_or_ge i d with c | c
        · exact q i c
        · obtain rfl : i = d := by omega
          omega
      · intro q i hi
        exact q i (by omega)
theorem sorted_f {l : List Int} (hl : l.length ≤ 1000000000000000) {k : Nat} (hk : l.length < k) :
    ∃ b, slices_IsSorted_int64_int64.f k l = some b ∧ (b = true ↔ Rises l) := by
  unfold slices_IsSorted_int64_int64.f
  by_cases h0 : l.length = 0
  · obtain ⟨k, rfl⟩ : ∃ m, k = m + 1 := ⟨k - 1, by omega⟩
    refine ⟨true, ?_, ?_⟩
    · rw [h0, show wrap64 (((0 : Nat) : Int) - 1) = -1 from by rw [w64_id (by omega) (by omega)]; omega, slices_IsSorted_int64_int64.l0, if_neg (by omega)]
    · simp only [true_iff]
      intro i hi
      omega
  · obtain ⟨d, hd⟩ : ∃ d, l.length = d + 1 := ⟨l.length - 1, by omega⟩
    obtain ⟨b, hb, hb2⟩ := sorted_loop hl d k (by omega) (by omega)
    refine ⟨b, ?_, ?_⟩
    · rw [hd, show wrap64 (((d + 1 : Nat) : Int) - 1) = (d : Int) from by rw [w64_id (by omega) (by omega)]; omega]
      exact hb
    · rw [hb2]
      constructor
      · intro q i hi; exact q i (by omega)
      · intro q i hi; exact q i (by omega)

/-- each fourth -/
def four (l : List Int) (n : Nat) : List Int := (List.range n).map fun i => rd l ((4 * i : Nat) : Int)
theorem four_len (l : List Int) (n : Nat) : (four l n).length = n := by simp [four]
theorem four_rd (l : List Int) {n i : Nat} (h : i < n) : rd (four l n) (i : Int) = rd l ((4 * i : Nat) : Int) := by
  rw [rd_nat (by rw [four_len]; exact h)]
  simp [four]
theorem four_succ (l : List Int) (n : Nat) : four l (n + 1) = four l n ++ [rd l ((4 * n : Nat) : Int)] := by
  simp [four, List.range_succ]
/-- the last of the first i -/
def lastTo (l : List Int) (i : Nat) : Int := if i = 0 then 0 else rd l ((i - 1 : Nat) : Int)
theorem build_loop {l : List Int} (hl : l.length ≤ 1048576) (d : Nat) : ∀ (k i : Nat), i ≤ l.length → l.length - i = d → d < k →
    ticks_Build.l0 k l (l.length : Int) (i : Int) (l.length : Int) (lastTo l i) (four l ((i + 3) / 4)) = some ((l.length : Int), lastTo l l.length, four l ((l.length + 3) / 4), 0) := by
  induction d with
  | zero =>
    intro k i hi hd hk
    obtain ⟨k, rfl⟩ : ∃ m, k = m + 1 := ⟨k - 1, by omega⟩
    obtain rfl : i = l.length := by omega
    rw [ticks_Build.l0, if_neg (by omega)]
  | succ d ih =>
    intro k i hi hd hk
    obtain ⟨k, rfl⟩ : ∃ m, k = m + 1 := ⟨k - 1, by omega⟩
    have hw : wrap64 ((i : Int) + 1) = ((i + 1 : Nat) : Int) := by rw [w64_id (by omega) (by omega)]; push_cast; rfl
    have hI := ih k (i + 1) (by omega) (by omega) (by omega)
    have hlast : lastTo l (i + 1) = rd l (i : Int) := by simp [lastTo]
    rw [hlast] at hI
    rw [ticks_Build.l0, if_pos (by omega), if_pos (by omega), if_pos (by omega), hw]
    by_cases h : Int.tmod (i : Int) 4 = 0
    · have h4 : i % 4 = 0 := by
        rw [Int.tmod_eq_emod_of_nonneg (by omega)] at h
        omega
      rw [if_pos h, if_pos (by rw [four_len]; omega)]
      have : four l ((i + 1 + 3) / 4) = four l ((i + 3) / 4) ++ [rd l (i : Int)] := by
        rw [show (i + 1 + 3) / 4 = (i + 3) / 4 + 1 from by omega, four_succ, show 4 * ((i + 3) / 4) = i from by omega]
      rw [this] at hI
      exact hI
    · have h4 : i % 4 ≠ 0 := by
        rw [Int.tmod_eq_emod_of_nonneg (by omega)] at h
        omega
      rw [if_neg h]
      rw [show (i + 1 + 3) / 4 = (i + 3) / 4 from by omega] at hI
      exact hI
theorem build_f {l : List Int} (hl : l.length ≤ 1048576) (hr : Rises l) {k : Nat} (hk : l.length + 10 < k) :
    ticks_Build.f k l = some ((l.length : Int), lastTo l l.length, four l ((l.length + 3) / 4), 0) := by
  obtain ⟨k, rfl⟩ : ∃ m, k = m + 1 := ⟨k - 1, by omega⟩
  obtain ⟨b, hb, hb2⟩ := sorted_f (l := l) (by omega) (k := k + 1) (by omega)
  obtain rfl : b = true := hb2.2 hr
  unfold ticks_Build.f
  rw [if_neg (by omega), hb, Option.bind_some, ticks_Build.j0, if_neg (by decide)]
  have := build_loop hl l.length k 0 (by omega) (by omega) (by omega)
  exact this
theorem build_not {l : List Int} (hl : l.length ≤ 1048576) (hr : ¬ Rises l) {k : Nat} (hk : l.length + 10 < k) :
    ticks_Build.f k l = some (0, 0, [], 12) := by
  obtain ⟨k, rfl⟩ : ∃ m, k = m + 1 := ⟨k - 1, by omega⟩
  obtain ⟨b, hb, hb2⟩ := sorted_f (l := l) (by omega) (k := k + 1) (by omega)
  obtain rfl : b = false := by
    cases b with
    | false => rfl
    | true => exact absurd (hb2.1 rfl) hr
  unfold ticks_Build.f
  rw [if_neg (by omega), hb, Option.bind_some, ticks_Build.j0, if_pos (by rfl)]
theorem four_rises {l : List Int} (hr : Rises l) : Rises (four l ((l.length + 3) / 4)) := by
  intro i hi
  rw [four_len] at hi
  rw [four_rd l (show i < (l.length + 3) / 4 by omega), four_rd l hi]
  exact rises_mono hr (by omega) (by omega)
theorem right_f {l : List Int} (hl : l.length ≤ 1048576) (hr : Rises l) {k : Nat} (hk : l.length + 10 < k) :
    ticks_Right.f k (l.length : Int) (lastTo l l.length) (four l ((l.length + 3) / 4)) = some true := by
  obtain ⟨k, rfl⟩ : ∃ m, k = m + 1 := ⟨k - 1, by omega⟩
  obtain ⟨b, hb, hb2⟩ := sorted_f (l := four l ((l.length + 3) / 4)) (by rw [four_len]; omega) (k := k + 1) (by rw [four_len]; omega)
  obtain rfl : b = true := hb2.2 (four_rises hr)
  unfold ticks_Right.f
  have hq : wrap64 (Int.tdiv (wrap64 ((wrap64 ((l.length : Int) + 4)) - 1)) 4) = (((l.length + 3) / 4 : Nat) : Int) := by
    rw [w64_id (n := (l.length : Int) + 4) (by omega) (by omega), w64_id (n := (l.length : Int) + 4 - 1) (by omega) (by omega), Int.tdiv_eq_ediv_of_nonneg (by omega), w64_id (by omega) (by omega)]
    omega
  rw [if_neg (by omega), if_neg (by omega), if_pos (by rw [four_len, hq]), hb, Option.bind_some, ticks_Right.j0, if_neg (by decide)]
  by_cases h0 : l.length = 0
  · rw [if_pos (by omega)]
    simp [lastTo, h0]
  · obtain ⟨m, hm⟩ : ∃ m, (l.length + 3) / 4 = m + 1 := ⟨(l.length + 3) / 4 - 1, by omega⟩
    have hlm : 4 * m < l.length := by omega
    rw [if_neg (by omega), four_len, hm, show wrap64 (((m + 1 : Nat) : Int) - 1) = (m : Int) from by rw [w64_id (by omega) (by omega)]; omega, if_pos (by omega), if_pos (by omega), four_rd l (by omega)]
    have hlast : lastTo l l.length = rd l ((l.length - 1 : Nat) : Int) := by simp [lastTo, h0]
    rw [hlast]
    by_cases he : rd l ((4 * m : Nat) : Int) = rd l ((l.length - 1 : Nat) : Int)
    · rw [if_pos he]
    · have hle := rises_mono hr (i := 4 * m) (j := l.length - 1) (by omega) (by omega)
      rw [if_neg he, if_pos (by omega)]
      have : Int.tmod (l.length : Int) 4 ≠ 1 := by
        intro h
        rw [Int.tmod_eq_emod_of_nonneg (by omega)] at h
        have : 4 * m = l.length - 1 := by omega
        rw [this] at he
        exact he rfl
      simp [this]

/-- where a span begins -/
def From (at' : List Int) (lo : Int) (m : Nat) (F : Int) : Prop :=
  (F = 0 ∧ ∀ j : Nat, j < m → lo ≤ rd at' (j : Int)) ∨ ∃ n : Nat, n < m ∧ F = ((4 * n : Nat) : Int) ∧ rd at' (n : Int) < lo ∧ ∀ j : Nat, n < j → j < m → lo ≤ rd at' (j : Int)
/-- where it ends -/
def To (at' : List Int) (hi : Int) (rows : Int) (T : Int) : Prop :=
  (T = rows ∧ ∀ j : Nat, j < at'.length → rd at' (j : Int) ≤ hi) ∨ ∃ n : Nat, n < at'.length ∧ T = ((4 * n : Nat) : Int) ∧ hi < rd at' (n : Int) ∧ ∀ j : Nat, j < n → rd at' (j : Int) ≤ hi
theorem from_more {a : List Int} (ha : Rises a) {lo : Int} {n : Nat} {F : Int} (h : From a lo n F) (hn : n < a.length) (hlo : lo ≤ rd a (n : Int)) : From a lo a.length F := by
  have up : ∀ j : Nat, n ≤ j → j < a.length → lo ≤ rd a (j : Int) := fun j h1 h2 => Int.le_trans hlo (rises_mono ha h1 h2)
  rcases h with ⟨h1, h2⟩ | ⟨q, h1, h2, h3, h4⟩
  · refine .inl ⟨h1, fun j hj => ?_⟩
    rcases Nat.lt_or_ge j n with c | c
    · exact h2 j c
    · exact up j c hj
  · refine .inr ⟨q, by omega, h2, h3, fun j hj1 hj2 => ?_⟩
    rcases Nat.lt_or_ge j n with c | c
    · exact h4 j hj1 c
    · exact up j c hj2
theorem span_loop {a : List Int} (hl : a.length ≤ 1048576) (ha : Rises a) {lo hi rows : Int} (hlh : lo ≤ hi) (d : Nat) : ∀ (k i : Nat) (F : Int), i ≤ a.length → a.length - i = d → d < k →
    From a lo i F → (∀ j : Nat, j < i → rd a (j : Int) ≤ hi) →
    ∃ F' T', ticks_Span.l0 k lo hi F rows a (a.length : Int) (i : Int) = some (F', T') ∧ From a lo a.length F' ∧ To a hi rows T' := by
  induction d with
  | zero =>
    intro k i F hi' hd hk hF hT
    obtain ⟨k, rfl⟩ : ∃ m, k = m + 1 := ⟨k - 1, by omega⟩
    obtain rfl : i = a.length := by omega
    exact ⟨F, rows, by rw [ticks_Span.l0, if_neg (by omega)], hF, .inl ⟨rfl, hT⟩⟩
  | succ d ih =>
    intro k i F hi' hd hk hF hT
    obtain ⟨k, rfl⟩ : ∃ m, k = m + 1 := ⟨k - 1, by omega⟩
    have hw : wrap64 ((i : Int) + 1) = ((i + 1 : Nat) : Int) := by rw [w64_id (by omega) (by omega)]; push_cast; rfl
    have hw4 : wrap64 (4 * (i : Int)) = ((4 * i : Nat) : Int) := by rw [w64_id (by omega) (by omega)]; push_cast; rfl
    rw [ticks_Span.l0, if_pos (by omega), if_pos (by omega), if_pos (by omega), hw, hw4]
    by_cases h1 : rd a (i : Int) < lo
    · rw [if_pos h1, if_neg (by omega)]
      refine ih k (i + 1) _ (by omega) (by omega) (by omega) (.inr ⟨i, by omega, rfl, h1, fun j hj1 hj2 => by omega⟩) fun j hj => ?_
      have := rises_mono ha (i := j) (j := i) (by omega) (by omega)
      omega
    · rw [if_neg h1]
      by_cases h2 : rd a (i : Int) > hi
      · rw [if_pos h2]
        exact ⟨F, _, rfl, from_more ha hF (by omega) (by omega), .inr ⟨i, by omega, rfl, h2, hT⟩⟩
      · rw [if_neg h2]
        refine ih k (i + 1) F (by omega) (by omega) (by omega) ?_ fun j hj => ?_
        · rcases hF with ⟨q1, q2⟩ | ⟨q, q1, q2, q3, q4⟩
          · refine .inl ⟨q1, fun j hj => ?_⟩
            rcases Nat.lt_or_ge j i with c | c
            · exact q2 j c
            · obtain rfl : j = i := by omega
              omega
          · refine .inr ⟨q, by omega, q2, q3, fun j hj1 hj2 => ?_⟩
            rcases Nat.lt_or_ge j i with c | c
            · exact q4 j hj1 c
            · obtain rfl : j = i := by omega
              omega
        · rcases Nat.lt_or_ge j i with c | c
          · exact hT j c
          · obtain rfl : j = i := by omega
            omega
/-- a span of an index that was built -/
theorem span_f {l : List Int} (hl : l.length ≤ 1048576) (hr : Rises l) (lo hi : Int) {k : Nat} (hk : l.length + 20 < k) :
    ∃ F T, ticks_Span.f k (l.length : Int) (lastTo l l.length) (four l ((l.length + 3) / 4)) lo hi = some (F, T) ∧
      ((F = 0 ∧ T = 0 ∧ (hi < lo ∨ l.length = 0 ∨ hi < rd l 0 ∨ lastTo l l.length < lo)) ∨
        (lo ≤ hi ∧ 0 < l.length ∧ rd l 0 ≤ hi ∧ lo ≤ lastTo l l.length ∧ From (four l ((l.length + 3) / 4)) lo ((l.length + 3) / 4) F ∧ To (four l ((l.length + 3) / 4)) hi (l.length : Int) T)) := by
  obtain ⟨k, rfl⟩ : ∃ m, k = m + 1 := ⟨k - 1, by omega⟩
  unfold ticks_Span.f
  have out : ticks_Span.j0 (k + 1) lo hi true (l.length : Int) (lastTo l l.length) (four l ((l.length + 3) / 4)) = some (0, 0) := by rw [ticks_Span.j0, if_pos rfl]
  by_cases h1 : hi < lo
  · rw [if_pos h1]
    exact ⟨0, 0, out, .inl ⟨rfl, rfl, .inl h1⟩⟩
  · rw [if_neg h1, right_f hl hr (by omega), Option.bind_some, if_pos rfl]
    by_cases h2 : l.length = 0
    · rw [if_pos (by omega)]
      exact ⟨0, 0, out, .inl ⟨rfl, rfl, .inr (.inl h2)⟩⟩
    · rw [if_neg (by omega), if_pos (by rw [four_len]; omega)]
      have h0 : rd (four l ((l.length + 3) / 4)) 0 = rd l 0 := four_rd l (show 0 < (l.length + 3) / 4 by omega)
      rw [h0]
      by_cases h3 : rd l 0 > hi
      · rw [if_pos h3]
        exact ⟨0, 0, out, .inl ⟨rfl, rfl, .inr (.inr (.inl h3))⟩⟩
      · rw [if_neg h3]
        by_cases h4 : lastTo l l.length < lo
        · rw [show decide (lastTo l l.length < lo) = true from by simpa using h4]
          exact ⟨0, 0, out, .inl ⟨rfl, rfl, .inr (.inr (.inr h4))⟩⟩
        · rw [show decide (lastTo l l.length < lo) = false from by simpa using h4, ticks_Span.j0, if_neg (by decide)]
          obtain ⟨F, T, hFT, hF, hT⟩ := span_loop (a := four l ((l.length + 3) / 4)) (lo := lo) (hi := hi) (rows := (l.length : Int)) (by rw [four_len]; omega) (four_rises hr) (by omega) ((l.length + 3) / 4) k 0 0 (by omega) (by rw [four_len]; omega) (by omega) (.inl ⟨rfl, fun j hj => by omega⟩) (fun j hj => by omega)
          rw [four_len] at hF
          exact ⟨F, T, hFT, .inr ⟨by omega, by omega, by omega, by omega, hF, hT⟩⟩
end Go.Proofs.Ytjpeojohakhmdaa.TBase
