/- Numbers that are all greater by as much differ in their first alone: no condition. -/
import Derived.Test.YtfgceanepgjfiaaPScolumbariumlaw4DeltaShifts
import Derived.Test.YtfgceanepgjfiaaDEnc
import Derived.Test.YtfgceanepgjfiaaDKnown
namespace Go.Proofs.Ytfgceanepgjfiaa.Pure
open Go.RowKit Go.Proofs.Ytfgceanepgjfiaa.PS Go.Proofs.YtfgceanepgjfiaaW.PrintWords Go.Proofs.YtfgceanepgjfiaaW.PrintLast Go.Proofs.Ytfgceanepgjfiaa.Base Go.Proofs.Ytfgceanepgjfiaa.VPlain Go.Proofs.Ytfgceanepgjfiaa.Zigs Go.Proofs.Ytfgceanepgjfiaa.DPlain Go.Proofs.Ytfgceanepgjfiaa.DEnc Go.Proofs.Ytfgceanepgjfiaa.DKnown
theorem dx_shift (s : Int) (_hs : I64 s) (l : List Int) : ∀ (last step : Int) (i : Nat), 1 ≤ i → I64 last → (∀ x ∈ l, I64 x) → dx (wrap64 (last + s)) step i (l.map fun x => wrap64 (x + s)) = dx last step i l := by
  induction l with
  | nil => intro _ _ _ _ _ _; rfl
  | cons x l ih =>
    intro last step i hi hlast hI
    have hx := hI x (by simp)
    have hd : wrap64 (wrap64 (x + s) - wrap64 (last + s)) = wrap64 (x - last) := by unfold wrap64; omega
    simp only [List.map_cons, dx]
    rw [if_neg (show ¬ i = 0 by omega), if_neg (show ¬ i = 0 by omega), hd, ih x _ (i + 1) (by omega) hx (fun y hy => hI y (by simp [hy]))]
theorem small_vput {n : Int} (h0 : 0 ≤ n) (h1 : n ≤ 127) : (vput n).length = 1 := by
  unfold vput
  rw [vputF, if_pos (by omega)]
  rfl
theorem enc_rest {x : Int} {l : List Int} (hl : l.length ≤ 100) : (encD [x]).length ≤ (encD (x :: l)).length ∧ (encD (x :: l)).drop (encD [x]).length = enc (dx x 0 1 l) := by
  have h1 : (encD [x]).length = 1 + (vput (zigI x)).length := by
    unfold encD
    rw [List.length_append, small_vput (by simp) (by simp)]
    simp [dx, enc]
  have e : encD (x :: l) = vput ((x :: l).length : Int) ++ (vput (zigI x) ++ enc (dx x 0 1 l)) := by
    unfold encD
    simp [dx, enc]
  have h2 : (vput ((x :: l).length : Int)).length = 1 := small_vput (by omega) (by rw [List.length_cons]; omega)
  rw [h1, e]
  refine ⟨by rw [List.length_append, List.length_append, h2]; omega, ?_⟩
  rw [← List.append_assoc, show 1 + (vput (zigI x)).length = (vput ((x :: l).length : Int) ++ vput (zigI x)).length from by rw [List.length_append, h2], List.drop_left]
theorem shift_facts (s : Int) (hs : I64 s) (m : List Int) (hm : m.length ≤ 60) (hI : ∀ x ∈ m, I64 x) (k : Nat) (hk : 1000 ≤ k) :
    delta_Encode.f k m = some (encD m) ∧ delta_Encode.f k (m.map fun x => wrap64 (x + s)) = some (encD (m.map fun x => wrap64 (x + s))) ∧
    ((m.length : Int) = 0 → (strOfNums (encD m)).toList = (strOfNums (encD (m.map fun x => wrap64 (x + s)))).toList) ∧
    (¬ (m.length : Int) = 0 → delta_Encode.f k (m.take 1) = some (encD (m.take 1)) ∧ delta_Encode.f k ((m.map fun x => wrap64 (x + s)).take 1) = some (encD ((m.map fun x => wrap64 (x + s)).take 1)) ∧
      (encD (m.take 1)).length ≤ (encD m).length ∧ (encD ((m.map fun x => wrap64 (x + s)).take 1)).length ≤ (encD (m.map fun x => wrap64 (x + s))).length ∧
      (strOfNums ((encD m).drop (encD (m.take 1)).length)).toList = (strOfNums ((encD (m.map fun x => wrap64 (x + s))).drop (encD ((m.map fun x => wrap64 (x + s)).take 1)).length)).toList) := by
  have hI2 : ∀ x ∈ m.map fun x => wrap64 (x + s), I64 x := by
    intro x hx
    obtain ⟨y, _, rfl⟩ := List.mem_map.1 hx
    exact w64_I _
  have hm2 : (m.map fun x => wrap64 (x + s)).length ≤ 60 := by rw [List.length_map]; exact hm
  refine ⟨enc_f (by omega) hI (by omega), enc_f (by omega) hI2 (by omega), ?_, ?_⟩
  · intro h
    have : m = [] := List.length_eq_zero_iff.1 (by omega)
    subst this
    rfl
  · intro h
    cases m with
    | nil => exact absurd rfl h
    | cons x l =>
      have hx := hI x (by simp)
      have hll : l.length ≤ 59 := by rw [List.length_cons] at hm; omega
      have a1 := enc_rest (x := x) (l := l) (by omega)
      have a2 := enc_rest (x := wrap64 (x + s)) (l := l.map fun x => wrap64 (x + s)) (by rw [List.length_map]; omega)
      refine ⟨enc_f (by simp) (fun y hy => hI y (List.mem_of_mem_take hy)) (by rw [List.length_take]; omega), enc_f (by rw [List.length_take]; omega) (fun y hy => hI2 y (List.mem_of_mem_take hy)) (by rw [List.length_take]; omega), a1.1, a2.1, ?_⟩
      have e1 : (x :: l).take 1 = [x] := rfl
      have e2 : ((x :: l).map fun x => wrap64 (x + s)).take 1 = [wrap64 (x + s)] := rfl
      rw [e1, e2, a1.2, List.map_cons, a2.2, dx_shift s hs l x 0 1 (by omega) hx (fun y hy => hI y (by simp [hy]))]
theorem shift_loop (s : Int) (hs : I64 s) (m : List Int) (hm : m.length ≤ 60) (hI : ∀ x ∈ m, I64 x) (d : Nat) : ∀ (k i : Nat), i ≤ m.length → m.length - i = d → d + 1000 < k →
    columbariumlaw4_DeltaShifts.l0 k m s ((m.take i).map fun x => wrap64 (x + s)) (i : Int) = some true ∧ columbariumlaw4_DeltaShifts.l1000 k m s ((m.take i).map fun x => wrap64 (x + s)) (i : Int) = some true := by
  induction d with
  | zero =>
    intro k i hi hd hk
    obtain ⟨k, rfl⟩ : ∃ m, k = m + 1 := ⟨k - 1, by omega⟩
    have : i = m.length := by omega
    subst this
    obtain ⟨f1, f2, f3, f4⟩ := shift_facts s hs m hm hI k (by omega)
    have hml : (m.map fun x => wrap64 (x + s)).length = m.length := List.length_map ..
    constructor
    all_goals
      first
        | rw [columbariumlaw4_DeltaShifts.l0, if_neg (by omega), List.take_length, f1, Option.bind_some, f2, Option.bind_some]
        | rw [columbariumlaw4_DeltaShifts.l1000, if_neg (by omega), List.take_length, f1, Option.bind_some, f2, Option.bind_some]
      by_cases h0 : (m.length : Int) = 0
      · rw [if_pos h0, if_pos (f3 h0), known_f (by omega), Option.bind_some]
      · obtain ⟨g1, g2, g3, g4, g5⟩ := f4 h0
        generalize (m.map fun x => wrap64 (x + s)) = m' at *
        rw [if_neg h0, if_pos (show (1 : Int) ≤ (m.length : Int) by omega), g1, Option.bind_some, if_pos (show (1 : Int) ≤ (m'.length : Int) by omega), g2, Option.bind_some,
          if_pos (show ((encD m).length : Int) ≥ ((encD (m.take 1)).length : Int) by omega), if_pos (show ((encD m').length : Int) ≥ ((encD (m'.take 1)).length : Int) by omega), if_pos (show (0 : Int) ≤ ((encD (m.take 1)).length : Int) by omega), if_pos (show ((encD (m.take 1)).length : Int) ≤ ((encD m).length : Int) by omega), if_pos (show (0 : Int) ≤ ((encD (m'.take 1)).length : Int) by omega), if_pos (show ((encD (m'.take 1)).length : Int) ≤ ((encD m').length : Int) by omega)]
        rw [Int.toNat_natCast, Int.toNat_natCast, if_pos g5, known_f (by omega), Option.bind_some]
  | succ d ih =>
    intro k i hi hd hk
    obtain ⟨k, rfl⟩ : ∃ m, k = m + 1 := ⟨k - 1, by omega⟩
    have h : i < m.length := by omega
    have hl : ((m.take i).map fun x => wrap64 (x + s)).length < 17592186044416 := by rw [List.length_map, List.length_take]; omega
    have e : ((m.take i).map fun x => wrap64 (x + s)) ++ [wrap64 (rd m (i : Int) + s)] = (m.take (i + 1)).map fun x => wrap64 (x + s) := by
      rw [List.take_succ_eq_append_getElem h, List.map_append, rd_nat h]
      rfl
    have hw : wrap64 ((i : Int) + 1) = ((i + 1 : Nat) : Int) := by rw [w64_id (by omega) (by omega)]; push_cast; rfl
    have hI := ih k (i + 1) (by omega) (by omega) (by omega)
    constructor
    · rw [columbariumlaw4_DeltaShifts.l0, if_pos (by omega), if_pos (by omega), if_pos hl, e, hw]
      exact hI.1
    · rw [columbariumlaw4_DeltaShifts.l1000, if_pos (by omega), if_pos (by omega), if_pos hl, e, hw]
      exact hI.2
theorem DeltaShifts : columbariumlaw4_DeltaShifts.Pure := by
  intro l s _ _ hlI hs
  have hI : ∀ x ∈ l, I64 x := fun x hx => i64wf (hlI x hx)
  have hs := i64wf hs
  refine ⟨3000, ?_⟩
  unfold columbariumlaw4_DeltaShifts.f
  by_cases h60 : (l.length : Int) > 60
  · rw [if_pos h60, if_pos (by omega)]
    have hlen : (l.take 60).length = 60 := by rw [List.length_take]; omega
    exact (shift_loop s hs (l.take 60) (by omega) (fun x hx => hI x (List.mem_of_mem_take hx)) 60 3000 0 (by omega) (by omega) (by omega)).1
  · rw [if_neg h60]
    exact (shift_loop s hs l (by omega) hI l.length 3000 0 (by omega) (by omega) (by omega)).2
end Go.Proofs.Ytfgceanepgjfiaa.Pure
