/- Chapter 4's rows of numbers, in plain Lean: their differences, and back. -/
import Derived.Test.YtfgceanepgjfiaaVPlain
import Derived.Test.YtfgceanepgjfiaaZigs
namespace Go.Proofs.Ytfgceanepgjfiaa.DPlain
open Go.RowKit Go.Proofs.YtfgceanepgjfiaaW.PrintWords Go.Proofs.Ytfgceanepgjfiaa.Base Go.Proofs.Ytfgceanepgjfiaa.VPlain Go.Proofs.Ytfgceanepgjfiaa.Zigs

def I64 (x : Int) : Prop := -9223372036854775808 ≤ x ∧ x ≤ 9223372036854775807
theorem w64_I (x : Int) : I64 (wrap64 x) := by unfold I64 wrap64; omega
/-- The differences of differences. -/
def dx (last step : Int) : Nat → List Int → List Int
  | _, [] => []
  | i, n :: t =>
    let d := if i = 0 then n else wrap64 (n - last)
    let x := if i > 1 then wrap64 (d - step) else d
    x :: dx n (if i > 0 then d else step) (i + 1) t
def enc : List Int → List Int
  | [] => []
  | x :: t => vput (zigI x) ++ enc t
/-- And back. -/
def und (last step : Int) : Nat → List Int → List Int
  | _, [] => []
  | i, x :: t =>
    let d := if i > 1 then wrap64 (x + step) else x
    wrap64 (last + d) :: und (wrap64 (last + d)) (if i > 0 then d else step) (i + 1) t
def encD (l : List Int) : List Int := vput l.length ++ enc (dx 0 0 0 l)

theorem dx_len (l : List Int) : ∀ last step i, (dx last step i l).length = l.length := by
  induction l with
  | nil => intros; rfl
  | cons n t ih => intro last step i; simp only [dx, List.length_cons, ih]
theorem dx_I (l : List Int) : ∀ last step i, (∀ x ∈ l, I64 x) → ∀ x ∈ dx last step i l, I64 x := by
  induction l with
  | nil => intro last step i _ x hx; simp [dx] at hx
  | cons n t ih =>
    intro last step i hl x hx
    simp only [dx] at hx
    rcases List.mem_cons.1 hx with rfl | hx
    · split
      · exact w64_I _
      · split
        · exact hl n (by simp)
        · exact w64_I _
    · exact ih _ _ _ (fun y hy => hl y (by simp [hy])) x hx
theorem und_dx (l : List Int) : ∀ last step i, (∀ x ∈ l, I64 x) → I64 last → (i = 0 → last = 0) → (I64 step) → und last step i (dx last step i l) = l := by
  induction l with
  | nil => intros; rfl
  | cons n t ih =>
    intro last step i hl hla h0 hs
    have hn := hl n (by simp)
    simp only [dx, und]
    have hd : (if i > 1 then wrap64 ((if i > 1 then wrap64 ((if i = 0 then n else wrap64 (n - last)) - step) else if i = 0 then n else wrap64 (n - last)) + step) else if i > 1 then wrap64 ((if i = 0 then n else wrap64 (n - last)) - step) else if i = 0 then n else wrap64 (n - last)) = if i = 0 then n else wrap64 (n - last) := by
      by_cases h : i > 1
      · rw [if_pos h, if_pos h, if_neg (by omega)]
        unfold wrap64
        omega
      · rw [if_neg h, if_neg h]
    rw [hd]
    have hw : wrap64 (last + if i = 0 then n else wrap64 (n - last)) = n := by
      unfold I64 at hn
      by_cases h : i = 0
      · rw [if_pos h, h0 h, Int.zero_add, w64_id hn.1 hn.2]
      · rw [if_neg h]
        unfold wrap64
        omega
    rw [hw]
    congr 1
    refine ih n _ (i + 1) (fun y hy => hl y (by simp [hy])) hn (by omega) ?_
    split
    · split
      · exact hn
      · exact w64_I _
    · exact hs
theorem enc_append (a b : List Int) : enc (a ++ b) = enc a ++ enc b := by
  induction a with
  | nil => rfl
  | cons x a ih => simp only [List.cons_append, enc, ih, List.append_assoc]
theorem enc_len (l : List Int) : l.length ≤ (enc l).length ∧ (enc l).length ≤ 10 * l.length := by
  induction l with
  | nil => simp [enc]
  | cons x t ih =>
    have := vput_len (zigI x)
    simp only [enc, List.length_append, List.length_cons]
    omega
theorem enc_byte (l : List Int) (h : ∀ x ∈ l, I64 x) : ∀ y ∈ enc l, 0 ≤ y ∧ y ≤ 255 := by
  induction l with
  | nil => intro y hy; simp [enc] at hy
  | cons x t ih =>
    intro y hy
    simp only [enc] at hy
    rcases List.mem_append.1 hy with hy | hy
    · have hx := h x (by simp)
      exact vput_byte (zig_range hx.1 hx.2).2 y hy
    · exact ih (fun z hz => h z (by simp [hz])) y hy
theorem encD_byte {l : List Int} (hl : l.length ≤ 1000000000) (h : ∀ x ∈ l, I64 x) : ∀ y ∈ encD l, 0 ≤ y ∧ y ≤ 255 := by
  intro y hy
  rcases List.mem_append.1 hy with hy | hy
  · exact vput_byte (by omega) y hy
  · exact enc_byte _ (dx_I l 0 0 0 h) y hy
theorem encD_len (l : List Int) : (encD l).length ≤ 10 + 10 * l.length ∧ 1 ≤ (encD l).length := by
  have h1 := vput_len l.length
  have h2 := enc_len (dx 0 0 0 l)
  rw [dx_len] at h2
  simp only [encD, List.length_append]
  omega
end Go.Proofs.Ytfgceanepgjfiaa.DPlain
