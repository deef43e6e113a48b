/- Times are taken just when they rise; then each fourth is there, and the last; for any times. -/
import Derived.Test.YtjpeojohakhmdaaPScolumbariumlaw10TicksBuild
import Derived.Test.YtjpeojohakhmdaaTBase
import Derived.Test.YtjpeojohakhmdaaTKnown
namespace Go.Proofs.Ytjpeojohakhmdaa.Pure
open Go.RowKit Go.Proofs.Ytjpeojohakhmdaa.PS Go.Proofs.YtjpeojohakhmdaaW.PrintWords Go.Proofs.YtjpeojohakhmdaaW.PrintLast Go.Proofs.Ytjpeojohakhmdaa.Base Go.Proofs.Ytjpeojohakhmdaa.TBase Go.Proofs.Ytjpeojohakhmdaa.TKnown
/-- so far the times rise -/
def RisesTo (l : List Int) (i : Nat) : Prop := ∀ j : Nat, j + 1 < i → rd l (j : Int) ≤ rd l ((j + 1 : Nat) : Int)
theorem mod_div4 {n : Nat} (h : n ≤ 1048576) : wrap64 (Int.tdiv (wrap64 ((n : Int) + 3)) 4) = (((n + 3) / 4 : Nat) : Int) := by
  rw [w64_id (n := (n : Int) + 3) (by omega) (by omega), Int.tdiv_eq_ediv_of_nonneg (by omega), w64_id (by omega) (by omega)]
  omega
theorem fours_cut {l : List Int} (hl : l.length ≤ 60) (rows : Int) (d : Nat) : ∀ (k i : Nat), i ≤ (l.length + 3) / 4 → (l.length + 3) / 4 - i = d → d + 200 < k →
    columbariumlaw10_TicksBuild.l1 k l (i : Int) rows (lastTo l l.length) (four l ((l.length + 3) / 4)) = some true := by
  induction d with
  | zero =>
    intro k i hi hd hk
    obtain ⟨k, rfl⟩ : ∃ m, k = m + 1 := ⟨k - 1, by omega⟩
    rw [columbariumlaw10_TicksBuild.l1, if_neg (by rw [four_len]; omega)]
    by_cases h0 : (l.length : Int) = 0
    · rw [if_pos h0, known_f (by omega)]
      rfl
    · have hw : wrap64 ((l.length : Int) - 1) = ((l.length - 1 : Nat) : Int) := by rw [w64_id (by omega) (by omega)]; omega
      have hlast : lastTo l l.length = rd l ((l.length - 1 : Nat) : Int) := by
        unfold lastTo
        rw [if_neg (by omega)]
      rw [if_neg h0, hw, if_pos (by omega), if_pos (by omega), if_pos hlast, known_f (by omega)]
      rfl
  | succ d ih =>
    intro k i hi hd hk
    obtain ⟨k, rfl⟩ : ∃ m, k = m + 1 := ⟨k - 1, by omega⟩
    have hw : wrap64 ((i : Int) + 1) = ((i + 1 : Nat) : Int) := by rw [w64_id (by omega) (by omega)]; push_cast; rfl
    have hw4 : wrap64 (4 * (i : Int)) = ((4 * i : Nat) : Int) := by rw [w64_id (by omega) (by omega)]; push_cast; rfl
    have hI := ih k (i + 1) (by omega) (by omega) (by omega)
    rw [columbariumlaw10_TicksBuild.l1, if_pos (by rw [four_len]; omega), if_pos (by omega), hw4, if_pos (by omega), if_pos (by omega), if_pos (four_rd l (by omega)), hw]
    exact hI
theorem rise_cut {l : List Int} (hl : l.length ≤ 60) (e rows last : Int) (at' : List Int)
    (hyes : Rises l → e = 0 ∧ rows = (l.length : Int) ∧ last = lastTo l l.length ∧ at' = four l ((l.length + 3) / 4)) (hno : ¬ Rises l → e = 12 ∧ rows = 0 ∧ at' = []) (d : Nat) : ∀ (k i : Nat) (b : Bool), 1 ≤ i → (i = 1 ∨ i ≤ l.length) → l.length - i = d → d + 500 < k → (b = true ↔ RisesTo l i) →
    columbariumlaw10_TicksBuild.l0 k l e b (i : Int) rows last at' = some true := by
  induction d with
  | zero =>
    intro k i b hi1 hi hd hk hb
    obtain ⟨k, rfl⟩ : ∃ m, k = m + 1 := ⟨k - 1, by omega⟩
    have hbR : b = true ↔ Rises l := by
      rw [hb]
      constructor
      · intro h j hj; exact h j (by omega)
      · intro h j hj; exact h j (by omega)
    rw [columbariumlaw10_TicksBuild.l0, if_neg (by omega)]
    cases b with
    | true =>
      obtain ⟨he, hrows, hlast, hat⟩ := hyes (hbR.1 rfl)
      subst he hrows hlast hat
      rw [if_pos rfl, if_pos rfl, if_pos rfl, if_pos (by rw [four_len, mod_div4 (by omega)]), right_f (by omega) (hbR.1 rfl) (by omega), Option.bind_some, if_pos rfl]
      exact fours_cut hl _ ((l.length + 3) / 4) k 0 (by omega) (by omega) (by omega)
    | false =>
      obtain ⟨he, hrows, hat⟩ := hno (fun h => by have := hbR.2 h; cases this)
      subst he hrows hat
      rw [if_neg (by decide), if_pos rfl, if_pos rfl, if_pos (show (([] : List Int).length : Int) = 0 from rfl), known_f (by omega)]
      rfl
  | succ d ih =>
    intro k i b hi1 hi hd hk hb
    obtain ⟨k, rfl⟩ : ∃ m, k = m + 1 := ⟨k - 1, by omega⟩
    have hw : wrap64 ((i : Int) + 1) = ((i + 1 : Nat) : Int) := by rw [w64_id (by omega) (by omega)]; push_cast; rfl
    obtain ⟨j, rfl⟩ : ∃ j, i = j + 1 := ⟨i - 1, by omega⟩
    have hw1 : wrap64 (((j + 1 : Nat) : Int) - 1) = (j : Int) := by rw [w64_id (by omega) (by omega)]; omega
    rw [columbariumlaw10_TicksBuild.l0, if_pos (by omega)]
    cases b with
    | true =>
      rw [if_pos rfl, if_pos (by omega), hw1, if_pos (by omega), if_pos (by omega), hw]
      refine ih k (j + 1 + 1) _ (by omega) (by omega) (by omega) (by omega) ?_
      rw [decide_eq_true_eq]
      have hb := hb.1 rfl
      constructor
      · intro h q hq
        rcases Nat.lt_or_ge (q + 1) (j + 1) with c | c
        · exact hb q c
        · obtain rfl : q = j := by omega
          exact h
      · intro h
        exact h j (by omega)
    | false =>
      rw [if_neg (by decide), hw]
      refine ih k (j + 1 + 1) _ (by omega) (by omega) (by omega) (by omega) ?_
      constructor
      · intro h; cases h
      · intro h
        exact hb.2 (fun q hq => h q (by omega))
theorem fours_all {l : List Int} (hl : l.length ≤ 60) (rows : Int) (d : Nat) : ∀ (k i : Nat), i ≤ (l.length + 3) / 4 → (l.length + 3) / 4 - i = d → d + 200 < k →
    columbariumlaw10_TicksBuild.l1001 k l (i : Int) rows (lastTo l l.length) (four l ((l.length + 3) / 4)) = some true := by
  induction d with
  | zero =>
    intro k i hi hd hk
    obtain ⟨k, rfl⟩ : ∃ m, k = m + 1 := ⟨k - 1, by omega⟩
    rw [columbariumlaw10_TicksBuild.l1001, if_neg (by rw [four_len]; omega)]
    by_cases h0 : (l.length : Int) = 0
    · rw [if_pos h0, known_f (by omega)]
      rfl
    · have hw : wrap64 ((l.length : Int) - 1) = ((l.length - 1 : Nat) : Int) := by rw [w64_id (by omega) (by omega)]; omega
      have hlast : lastTo l l.length = rd l ((l.length - 1 : Nat) : Int) := by
        unfold lastTo
        rw [if_neg (by omega)]
      rw [if_neg h0, hw, if_pos (by omega), if_pos (by omega), if_pos hlast, known_f (by omega)]
      rfl
  | succ d ih =>
    intro k i hi hd hk
    obtain ⟨k, rfl⟩ : ∃ m, k = m + 1 := ⟨k - 1, by omega⟩
    have hw : wrap64 ((i : Int) + 1) = ((i + 1 : Nat) : Int) := by rw [w64_id (by omega) (by omega)]; push_cast; rfl
    have hw4 : wrap64 (4 * (i : Int)) = ((4 * i : Nat) : Int) := by rw [w64_id (by omega) (by omega)]; push_cast; rfl
    have hI := ih k (i + 1) (by omega) (by omega) (by omega)
    rw [columbariumlaw10_TicksBuild.l1001, if_pos (by rw [four_len]; omega), if_pos (by omega), hw4, if_pos (by omega), if_pos (by omega), if_pos (four_rd l (by omega)), hw]
    exact hI
theorem rise_all {l : List Int} (hl : l.length ≤ 60) (e rows last : Int) (at' : List Int)
    (hyes : Rises l → e = 0 ∧ rows = (l.length : Int) ∧ last = lastTo l l.length ∧ at' = four l ((l.length + 3) / 4)) (hno : ¬ Rises l → e = 12 ∧ rows = 0 ∧ at' = []) (d : Nat) : ∀ (k i : Nat) (b : Bool), 1 ≤ i → (i = 1 ∨ i ≤ l.length) → l.length - i = d → d + 500 < k → (b = true ↔ RisesTo l i) →
    columbariumlaw10_TicksBuild.l1000 k l e b (i : Int) rows last at' = some true := by
  induction d with
  | zero =>
    intro k i b hi1 hi hd hk hb
    obtain ⟨k, rfl⟩ : ∃ m, k = m + 1 := ⟨k - 1, by omega⟩
    have hbR : b = true ↔ Rises l := by
      rw [hb]
      constructor
      · intro h j hj; exact h j (by omega)
      · intro h j hj; exact h j (by omega)
    rw [columbariumlaw10_TicksBuild.l1000, if_neg (by omega)]
    cases b with
    | true =>
      obtain ⟨he, hrows, hlast, hat⟩ := hyes (hbR.1 rfl)
      subst he hrows hlast hat
      rw [if_pos rfl, if_pos rfl, if_pos rfl, if_pos (by rw [four_len, mod_div4 (by omega)]), right_f (by omega) (hbR.1 rfl) (by omega), Option.bind_some, if_pos rfl]
      exact fours_all hl _ ((l.length + 3) / 4) k 0 (by omega) (by omega) (by omega)
    | false =>
      obtain ⟨he, hrows, hat⟩ := hno (fun h => by have := hbR.2 h; cases this)
      subst he hrows hat
      rw [if_neg (by decide), if_pos rfl, if_pos rfl, if_pos (show (([] : List Int).length : Int) = 0 from rfl), known_f (by omega)]
      rfl
  | succ d ih =>
    intro k i b hi1 hi hd hk hb
    obtain ⟨k, rfl⟩ : ∃ m, k = m + 1 := ⟨k - 1, by omega⟩
    have hw : wrap64 ((i : Int) + 1) = ((i + 1 : Nat) : Int) := by rw [w64_id (by omega) (by omega)]; push_cast; rfl
    obtain ⟨j, rfl⟩ : ∃ j, i = j + 1 := ⟨i - 1, by omega⟩
    have hw1 : wrap64 (((j + 1 : Nat) : Int) - 1) = (j : Int) := by rw [w64_id (by omega) (by omega)]; omega
    rw [columbariumlaw10_TicksBuild.l1000, if_pos (by omega)]
    cases b with
    | true =>
      rw [if_pos rfl, if_pos (by omega), hw1, if_pos (by omega), if_pos (by omega), hw]
      refine ih k (j + 1 + 1) _ (by omega) (by omega) (by omega) (by omega) ?_
      rw [decide_eq_true_eq]
      have hb := hb.1 rfl
      constructor
      · intro h q hq
        rcases Nat.lt_or_ge (q + 1) (j + 1) with c | c
        · exact hb q c
        · obtain rfl : q = j := by omega
          exact h
      · intro h
        exact h j (by omega)
    | false =>
      rw [if_neg (by decide), hw]
      refine ih k (j + 1 + 1) _ (by omega) (by omega) (by omega) (by omega) ?_
      constructor
      · intro h; cases h
      · intro h
        exact hb.2 (fun q hq => h q (by omega))
theorem ticks_built {l : List Int} (hl : l.length ≤ 60) {k : Nat} (hk : 100 < k) : ∃ e rows last at', ticks_Build.f k l = some (rows, last, at', e) ∧
    (Rises l → e = 0 ∧ rows = (l.length : Int) ∧ last = lastTo l l.length ∧ at' = four l ((l.length + 3) / 4)) ∧ (¬ Rises l → e = 12 ∧ rows = 0 ∧ at' = []) := by
  by_cases h : Rises l
  · exact ⟨_, _, _, _, build_f (by omega) h (by omega), fun _ => ⟨rfl, rfl, rfl, rfl⟩, fun h2 => absurd h h2⟩
  · exact ⟨_, _, _, _, build_not (by omega) h (by omega), fun h2 => absurd h2 h, fun _ => ⟨rfl, rfl, rfl⟩⟩
theorem TicksBuild : columbariumlaw10_TicksBuild.Pure := by
  intro l _ _ _
  refine ⟨3000, ?_⟩
  unfold columbariumlaw10_TicksBuild.f
  have hr1 : ∀ l : List Int, (true = true ↔ RisesTo l 1) := fun l => ⟨fun _ j hj => by omega, fun _ => rfl⟩
  by_cases h : (l.length : Int) > 60
  · have hl : (l.take 60).length = 60 := by rw [List.length_take]; omega
    obtain ⟨e, rows, last, at', hb, hy, hn⟩ := ticks_built (l := l.take 60) (by omega) (k := 3000) (by omega)
    rw [if_pos h, if_pos (by omega), Option.bind_some, hb, Option.bind_some]
    exact rise_cut (by omega) e rows last at' hy hn ((l.take 60).length - 1) 3000 1 true (by omega) (by omega) rfl (by omega) (hr1 _)
  · obtain ⟨e, rows, last, at', hb, hy, hn⟩ := ticks_built (l := l) (by omega) (k := 3000) (by omega)
    rw [if_neg h, hb, Option.bind_some]
    exact rise_all (by omega) e rows last at' hy hn (l.length - 1) 3000 1 true (by omega) (by omega) rfl (by omega) (hr1 _)
end Go.Proofs.Ytjpeojohakhmdaa.Pure
