/- What Decode of chapter 4 comes to on what was written, whole or cut off. -/
import Derived.Test.YtfgceanepgjfiaaPSdeltaDecode
import Derived.Test.YtfgceanepgjfiaaPSvarintGetZag
import Derived.Test.YtfgceanepgjfiaaDPlain
import Derived.Test.YtfgceanepgjfiaaVGet
namespace Go.Proofs.Ytfgceanepgjfiaa.DDec
open Go.RowKit Go.Proofs.Ytfgceanepgjfiaa.PS Go.Proofs.YtfgceanepgjfiaaW.PrintWords Go.Proofs.YtfgceanepgjfiaaW.PrintLast Go.Proofs.Ytfgceanepgjfiaa.Base Go.Proofs.Ytfgceanepgjfiaa.VPlain Go.Proofs.Ytfgceanepgjfiaa.Zigs Go.Proofs.Ytfgceanepgjfiaa.DPlain Go.Proofs.Ytfgceanepgjfiaa.VGet
open Go.Proofs.YtfgceanepgjfiaaW.PrintMore

theorem go_value (a : Int) (l : List Int) : ∀ (i : Nat) (acc : Int), (∀ x ∈ l, 0 ≤ x ∧ x ≤ 255) → (go a l i acc).2.2 ≠ 0 → (go a l i acc).1 = 0 := by
  induction l with
  | nil => intro i acc _ _; rfl
  | cons c t ih =>
    intro i acc hb h
    unfold go at h ⊢
    split
    · rename_i hc
      rw [if_pos hc] at h
      exact ih _ _ (fun x hx => hb x (by simp [hx])) h
    · rename_i hc
      rw [if_neg hc] at h
      split
      · rfl
      · rename_i h2
        rw [if_neg h2] at h
        exact absurd rfl h
theorem getI_range {l : List Int} (hb : ∀ x ∈ l, 0 ≤ x ∧ x ≤ 255) (a : Int) : 0 ≤ (getI l a).1 ∧ (getI l a).1 ≤ 18446744073709551615 := by
  by_cases h : (getI l a).2.2 = 0
  · obtain ⟨_, _, h0, h1, _⟩ := getI_ok hb (a := a) (v := (getI l a).1) (e := (getI l a).2.1) (by rw [← h])
    exact ⟨h0, h1⟩
  · have : (getI l a).1 = 0 := by
      unfold getI at h ⊢
      split
      · rfl
      · rename_i hr
        rw [if_neg hr] at h
        exact go_value _ _ _ _ (fun x hx => hb x (List.mem_of_mem_drop hx)) h
    omega
def getZ (l : List Int) (a : Int) : Int × Int × Int := (zagI (getI l a).1, (getI l a).2.1, (getI l a).2.2)
theorem getZag_f {l : List Int} (hl : l.length ≤ 140737488355328) (hb : ∀ x ∈ l, 0 ≤ x ∧ x ≤ 255) (a : Int) {k : Nat} (hk : l.length < k) : varint_GetZag.f k l a = some (getZ l a) := by
  unfold varint_GetZag.f getZ
  have hr := getI_range hb a
  rw [get_f hl hb a hk, Option.bind_some, zag_f hr.1 hr.2, Option.bind_some]
theorem getZ_put {b r : List Int} {x : Int} (hx : I64 x) : getZ (b ++ vput (zigI x) ++ r) b.length = (x, (b.length : Int) + (vput (zigI x)).length, 0) := by
  have hz := zig_range hx.1 hx.2
  unfold getZ
  rw [getI_put hz.1 hz.2]
  simp only [zag_zig]
/-- A number that is cut off. -/
theorem getI_cut {b : List Int} {n : Int} {m : Nat} (hm : m < (vput n).length) : getI (b ++ (vput n).take m) b.length = (0, 0, 10) := by
  unfold getI
  rw [if_neg (by rw [List.length_append]; push_cast; omega), Int.toNat_natCast, List.drop_left]
  exact go_cut _ n m hm
theorem dec_loop (r : List Int) (xs : List Int) : ∀ (pre : List Int) (k i n : Nat) (out : List Int) (last step : Int), i + xs.length = n → n ≤ 1000000000 → out.length + xs.length ≤ 1000000000 → (∀ x ∈ xs, I64 x) →
    (pre ++ enc xs ++ r).length ≤ 140737488355328 → (∀ x ∈ pre ++ enc xs ++ r, 0 ≤ x ∧ x ≤ 255) → (pre ++ enc xs ++ r).length + xs.length + 1 < k →
    delta_Decode.l0 k (pre ++ enc xs ++ r) (pre.length : Int) out last step (n : Int) (i : Int) = some (out ++ und last step i xs, ((pre ++ enc xs).length : Int), 0) := by
  induction xs with
  | nil =>
    intro pre k i n out last step hi hn ho hI hl hb hk
    obtain ⟨k, rfl⟩ : ∃ m, k = m + 1 := ⟨k - 1, by omega⟩
    rw [delta_Decode.l0, if_neg (by simp at hi; omega)]
    simp [und, enc]
  | cons x xs ih =>
    intro pre k i n out last step hi hn ho hI hl hb hk
    obtain ⟨k, rfl⟩ : ∃ m, k = m + 1 := ⟨k - 1, by omega⟩
    simp only [List.length_cons] at hi ho hk
    have hx := hI x (by simp)
    have eb : pre ++ enc (x :: xs) ++ r = pre ++ vput (zigI x) ++ (enc xs ++ r) := by simp only [enc, List.append_assoc]
    have eb2 : pre ++ enc (x :: xs) ++ r = (pre ++ vput (zigI x)) ++ enc xs ++ r := by simp only [enc, List.append_assoc]
    have hz : varint_GetZag.f k (pre ++ enc (x :: xs) ++ r) (pre.length : Int) = some (x, (pre.length : Int) + (vput (zigI x)).length, 0) := by
      rw [getZag_f hl hb _ (by omega), eb, getZ_put hx]
    have hw : IntKind.u64.wrap ((i : Int) + 1) = ((i + 1 : Nat) : Int) := by rw [u64_id (by omega) (by omega)]; push_cast; rfl
    have hpl : (pre.length : Int) + (vput (zigI x)).length = ((pre ++ vput (zigI x)).length : Int) := by simp
    rw [delta_Decode.l0, if_pos (by omega), hz, Option.bind_some]
    simp only [if_true, hw, hpl]
    have fin : ∀ (v st : Int), delta_Decode.l0 k (pre ++ enc (x :: xs) ++ r) ((pre ++ vput (zigI x)).length : Int) (out ++ [v]) v st (n : Int) ((i + 1 : Nat) : Int) = some (out ++ v :: und v st (i + 1) xs, ((pre ++ enc (x :: xs)).length : Int), 0) := by
      intro v st
      rw [eb2]
      rw [ih (pre ++ vput (zigI x)) k (i + 1) n (out ++ [v]) v st (by omega) hn (by rw [List.length_append, List.length_singleton]; omega) (fun y hy => hI y (by simp [hy])) (by rw [← eb2]; exact hl) (by rw [← eb2]; exact hb) (by rw [← eb2]; omega)]
      simp only [List.append_assoc, enc, List.cons_append, List.nil_append]
    simp only [und]
    by_cases h1 : i > 1
    · rw [if_pos (show (i : Int) > 1 by omega), if_pos (show (i : Int) > 0 by omega), if_pos (by omega), if_pos h1, if_pos (show i > 0 by omega)]
      exact fin _ _
    · rw [if_neg (show ¬ (i : Int) > 1 by omega), if_neg h1]
      by_cases h0 : i > 0
      · rw [if_pos (show (i : Int) > 0 by omega), if_pos (by omega), if_pos h0]
        exact fin _ _
      · rw [if_neg (show ¬ (i : Int) > 0 by omega), if_pos (by omega), if_neg h0]
        exact fin _ _
/-- The same, and then a number that is cut off. -/
theorem dec_cut (y : Int) (m : Nat) (hm : m < (vput (zigI y)).length) (xs : List Int) : ∀ (pre : List Int) (k i n : Nat) (out : List Int) (last step : Int), i + xs.length < n → n ≤ 1000000000 → out.length + xs.length ≤ 1000000000 → (∀ x ∈ xs, I64 x) →
    (pre ++ enc xs ++ (vput (zigI y)).take m).length ≤ 140737488355328 → (∀ x ∈ pre ++ enc xs ++ (vput (zigI y)).take m, 0 ≤ x ∧ x ≤ 255) → (pre ++ enc xs ++ (vput (zigI y)).take m).length + xs.length + 1 < k →
    delta_Decode.l0 k (pre ++ enc xs ++ (vput (zigI y)).take m) (pre.length : Int) out last step (n : Int) (i : Int) = some ([], 0, 10) := by
  induction xs with
  | nil =>
    intro pre k i n out last step hi hn ho hI hl hb hk
    obtain ⟨k, rfl⟩ : ∃ m, k = m + 1 := ⟨k - 1, by omega⟩
    simp only [enc, List.append_nil, List.length_nil] at hi ho hl hb hk ⊢
    rw [delta_Decode.l0, if_pos (by omega), getZag_f hl hb _ (by omega), Option.bind_some]
    unfold getZ
    rw [getI_cut hm]
    simp only
    rw [if_neg (by decide)]
  | cons x xs ih =>
    intro pre k i n out last step hi hn ho hI hl hb hk
    obtain ⟨k, rfl⟩ : ∃ m, k = m + 1 := ⟨k - 1, by omega⟩
    simp only [List.length_cons] at hi ho hk
    have hx := hI x (by simp)
    have eb : pre ++ enc (x :: xs) ++ (vput (zigI y)).take m = pre ++ vput (zigI x) ++ (enc xs ++ (vput (zigI y)).take m) := by simp only [enc, List.append_assoc]
    have eb2 : pre ++ enc (x :: xs) ++ (vput (zigI y)).take m = (pre ++ vput (zigI x)) ++ enc xs ++ (vput (zigI y)).take m := by simp only [enc, List.append_assoc]
    have hz : varint_GetZag.f k (pre ++ enc (x :: xs) ++ (vput (zigI y)).take m) (pre.length : Int) = some (x, (pre.length : Int) + (vput (zigI x)).length, 0) := by
      rw [getZag_f hl hb _ (by omega), eb, getZ_put hx]
    have hw : IntKind.u64.wrap ((i : Int) + 1) = ((i + 1 : Nat) : Int) := by rw [u64_id (by omega) (by omega)]; push_cast; rfl
    have hpl : (pre.length : Int) + (vput (zigI x)).length = ((pre ++ vput (zigI x)).length : Int) := by simp
    rw [delta_Decode.l0, if_pos (by omega), hz, Option.bind_some]
    simp only [if_true, hw, hpl]
    have fin : ∀ (v st : Int), delta_Decode.l0 k (pre ++ enc (x :: xs) ++ (vput (zigI y)).take m) ((pre ++ vput (zigI x)).length : Int) (out ++ [v]) v st (n : Int) ((i + 1 : Nat) : Int) = some ([], 0, 10) := by
      intro v st
      rw [eb2]
      exact ih (pre ++ vput (zigI x)) k (i + 1) n (out ++ [v]) v st (by omega) hn (by rw [List.length_append, List.length_singleton]; omega) (fun z hz => hI z (by simp [hz])) (by rw [← eb2]; exact hl) (by rw [← eb2]; exact hb) (by rw [← eb2]; omega)
    by_cases h1 : i > 1
    · rw [if_pos (show (i : Int) > 1 by omega), if_pos (show (i : Int) > 0 by omega), if_pos (by omega)]
      exact fin _ _
    · rw [if_neg (show ¬ (i : Int) > 1 by omega)]
      by_cases h0 : i > 0
      · rw [if_pos (show (i : Int) > 0 by omega), if_pos (by omega)]
        exact fin _ _
      · rw [if_neg (show ¬ (i : Int) > 0 by omega), if_pos (by omega)]
        exact fin _ _
/-- Where a row of numbers may be cut. -/
theorem enc_take (xs : List Int) : ∀ k, k < (enc xs).length → ∃ a y b m, xs = a ++ y :: b ∧ (enc xs).take k = enc a ++ (vput (zigI y)).take m ∧ m < (vput (zigI y)).length := by
  induction xs with
  | nil => intro k hk; simp [enc] at hk
  | cons x xs ih =>
    intro k hk
    simp only [enc] at hk ⊢
    by_cases h : k < (vput (zigI x)).length
    · refine ⟨[], x, xs, k, rfl, ?_, h⟩
      rw [List.take_append_of_le_length (by omega)]
      rfl
    · rw [List.length_append] at hk
      obtain ⟨a, y, b, m, rfl, h2, h3⟩ := ih (k - (vput (zigI x)).length) (by omega)
      refine ⟨x :: a, y, b, m, rfl, ?_, h3⟩
      rw [List.take_append, List.take_of_length_le (by omega), h2, enc, List.append_assoc]
end Go.Proofs.Ytfgceanepgjfiaa.DDec
