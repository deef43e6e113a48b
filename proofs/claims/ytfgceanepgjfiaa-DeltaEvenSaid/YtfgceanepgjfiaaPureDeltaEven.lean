/- Numbers that rise evenly take a byte each behind the second: for any first number, step and count, no condition. -/
import Derived.Test.YtfgceanepgjfiaaPScolumbariumlaw4DeltaEven
import Derived.Test.YtfgceanepgjfiaaDEnc
import Derived.Test.YtfgceanepgjfiaaDKnown
import Derived.Test.YtfgceanepgjfiaaWithin
namespace Go.Proofs.Ytfgceanepgjfiaa.Pure
open Go.RowKit Go.Proofs.Ytfgceanepgjfiaa.PS Go.Proofs.YtfgceanepgjfiaaW.PrintWords Go.Proofs.YtfgceanepgjfiaaW.PrintLast Go.Proofs.Ytfgceanepgjfiaa.Base Go.Proofs.Ytfgceanepgjfiaa.VPlain Go.Proofs.Ytfgceanepgjfiaa.Zigs Go.Proofs.Ytfgceanepgjfiaa.DPlain Go.Proofs.Ytfgceanepgjfiaa.DEnc Go.Proofs.Ytfgceanepgjfiaa.DKnown Go.Proofs.Ytfgceanepgjfiaa.Within

/-- n numbers that rise evenly. -/
def evens (s : Int) : Nat → Int → List Int
  | 0, _ => []
  | n + 1, x => x :: evens s n (wrap64 (x + s))
theorem evens_len (s : Int) (n : Nat) : ∀ x, (evens s n x).length = n := by
  induction n with
  | zero => intro x; rfl
  | succ n ih => intro x; simp [evens, ih]
theorem evens_I (s : Int) (n : Nat) : ∀ x, I64 x → ∀ y ∈ evens s n x, I64 y := by
  induction n with
  | zero => intro x _ y hy; simp [evens] at hy
  | succ n ih =>
    intro x hx y hy
    rcases List.mem_cons.1 hy with rfl | hy
    · exact hx
    · exact ih _ (w64_I _) y hy
theorem dx_evens (s : Int) (hs : I64 s) (n : Nat) : ∀ (x : Int) (i : Nat), 2 ≤ i → I64 x → dx x s i (evens s n (wrap64 (x + s))) = List.replicate n 0 := by
  induction n with
  | zero => intro x i _ _; rfl
  | succ n ih =>
    intro x i hi hx
    have hd : wrap64 (wrap64 (x + s) - x) = s := by unfold I64 at hs hx; unfold wrap64; omega
    simp only [evens, dx]
    rw [if_neg (show ¬ i = 0 by omega), if_pos (show i > 1 by omega), if_pos (show i > 0 by omega), hd, Int.sub_self, show wrap64 0 = 0 from by unfold wrap64; omega, ih _ (i + 1) (by omega) (w64_I _)]
    rfl
theorem enc_zeros (n : Nat) : (enc (List.replicate n 0)).length = n := by
  induction n with
  | zero => rfl
  | succ n ih => rw [List.replicate_succ, enc, List.length_append, ih]; show 1 + n = n + 1; omega
theorem small_len {n : Int} (h0 : 0 ≤ n) (h1 : n ≤ 127) : (vput n).length = 1 := by
  unfold vput
  rw [vputF, if_pos (by omega)]
  rfl
theorem even_len (s x : Int) (hs : I64 s) (hx : -9223372036854775808 ≤ x ∧ x ≤ 9223372036854775807) (n : Nat) (hn : n + 2 ≤ 100) : (encD (evens s (n + 2) x)).length = (encD (evens s 2 x)).length + n := by
  have hd : wrap64 (wrap64 (x + s) - x) = s := by unfold I64 at hs; obtain ⟨hx1, hx2⟩ := hx; unfold wrap64; omega
  have e : ∀ m, dx 0 0 0 (evens s (m + 2) x) = x :: s :: List.replicate m 0 := by
    intro m
    simp only [evens, dx]
    have e2 := dx_evens s hs m (wrap64 (x + s)) 2 (by omega) (w64_I _)
    simp [hd, e2]
  unfold encD
  rw [e n, show evens s 2 x = evens s (0 + 2) x from rfl, e 0, evens_len, evens_len]
  simp only [List.length_append, enc, List.replicate_zero, List.length_nil, enc_zeros]
  rw [small_len (n := ((n + 2 : Nat) : Int)) (by omega) (by omega), small_len (n := ((0 + 2 : Nat) : Int)) (by omega) (by omega)]
  omega
theorem even_loop (s x0 : Int) (hs : I64 s) (hx0 : I64 x0) (n : Nat) (hn : n ≤ 100) (d : Nat) : ∀ (k i : Nat) (acc : List Int) (x : Int), i ≤ n → n - i = d → d + 1000 < k → acc.length = i → acc ++ evens s d x = evens s n x0 →
    columbariumlaw4_DeltaEven.l0 k s (n : Int) acc x (i : Int) = some true := by
  induction d with
  | zero =>
    intro k i acc x hi hd hk ha he
    obtain ⟨k, rfl⟩ : ∃ m, k = m + 1 := ⟨k - 1, by omega⟩
    have hin : i = n := by omega
    subst hin
    simp only [evens, List.append_nil] at he
    subst he
    have hl := evens_len s i x0
    have hI := evens_I s i x0 hx0
    have hb := encD_len (evens s i x0)
    rw [columbariumlaw4_DeltaEven.l0, if_neg (by omega), enc_f (by omega) hI (by omega), Option.bind_some]
    by_cases h3 : (i : Int) < 3
    · rw [if_pos h3, if_pos (by omega), known_f (by omega)]
      rfl
    · obtain ⟨m, rfl⟩ : ∃ m, i = m + 2 := ⟨i - 2, by omega⟩
      have ht : (evens s (m + 2) x0).take 2 = evens s 2 x0 := rfl
      have hel := even_len s x0 hs hx0 m (by omega)
      have hb2 := encD_len (evens s 2 x0)
      have hl2 := evens_len s 2 x0
      rw [if_neg h3, if_pos (by omega), ht, enc_f (by omega) (evens_I s 2 x0 hx0) (by omega), Option.bind_some, w64_id (n := ((encD (evens s 2 x0)).length : Int) + ((m + 2 : Nat) : Int)) (by omega) (by omega), w64_id (by omega) (by omega), if_pos (by omega), known_f (by omega)]
      rfl
  | succ d ih =>
    intro k i acc x hi hd hk ha he
    obtain ⟨k, rfl⟩ : ∃ m, k = m + 1 := ⟨k - 1, by omega⟩
    rw [columbariumlaw4_DeltaEven.l0, if_pos (by omega), if_pos (by omega), show wrap64 ((i : Int) + 1) = ((i + 1 : Nat) : Int) from by rw [w64_id (by omega) (by omega)]; push_cast; rfl]
    refine ih k (i + 1) _ _ (by omega) (by omega) (by omega) (by simp [ha]) ?_
    rw [← he, List.append_assoc]
    rfl
theorem DeltaEven : columbariumlaw4_DeltaEven.Pure := by
  intro x s n hx hs _
  have hx := i64wf hx
  have hs := i64wf hs
  refine ⟨3000, ?_⟩
  obtain ⟨r, hr, h0, h1⟩ := within_f (n := n) (hi := 100) (by decide) (by decide)
  obtain ⟨r, rfl⟩ := Int.eq_ofNat_of_zero_le h0
  unfold columbariumlaw4_DeltaEven.f
  rw [hr, Option.bind_some]
  exact even_loop s x hs hx r (by omega) r 3000 0 [] x (by omega) (by omega) (by omega) rfl rfl
end Go.Proofs.Ytfgceanepgjfiaa.Pure
