/- A Right row's cells: the plain law of RowCells. By hand. -/
import Derived.Test.YtnhleneknnbhaaaRD
import Derived.Test.YtnhleneknnbhaaaProg
import Derived.KernelRfl
namespace Go.Proofs.Ytnhleneknnbhaaa.V
open Go Go.RowKit Go.Proofs Go.Proofs.Ytnhleneknnbhaaa.Eng Go.Proofs.Ytnhleneknnbhaaa.VPl
set_option linter.unusedVariables false
set_option linter.unusedSimpArgs false
theorem bl_irr : ∀ (l : List UInt8), Op.bytesLess l l = false
  | [] => rfl
  | a :: r => by
    simp only [Op.bytesLess, bl_irr r, Bool.and_false, Bool.or_false]
    simp
theorem bl_tr : ∀ (x y z : List UInt8), Op.bytesLess x y = true → Op.bytesLess y z = true → Op.bytesLess x z = true
  | _, _, [], _, h => by simp [Op.bytesLess] at h
  | [], _, _ :: _, _, _ => rfl
  | _ :: _, [], _ :: _, h, _ => by simp [Op.bytesLess] at h
  | a :: x, b :: y, c :: z, h, k => by
    simp only [Op.bytesLess, Bool.or_eq_true, Bool.and_eq_true, decide_eq_true_eq, beq_iff_eq] at h k ⊢
    rcases h with h | ⟨rfl, h⟩
    · rcases k with k | ⟨rfl, k⟩
      · exact .inl (UInt8.lt_trans h k)
      · exact .inl h
    · rcases k with k | ⟨rfl, k⟩
      · exact .inl k
      · exact .inr ⟨rfl, bl_tr x y z h k⟩
abbrev ltC (x y : Cl) : Prop := Op.bytesLess x.col.data.toList y.col.data.toList = true
theorem ok_iff (M : List Cl) : (∀ k, k < M.length → cellOk M k = true) ↔ (∀ x ∈ M, fineB x = true) ∧ M.Pairwise ltC := by
  constructor
  · intro h
    refine ⟨fun x hx => ?_, List.pairwise_iff_getElem.2 ?_⟩
    · obtain ⟨i, hi, rfl⟩ := List.getElem_of_mem hx
      have := h i hi
      simp only [cellOk, Bool.and_eq_true] at this
      simpa [hi] using this.1
    · have one : ∀ j, j + 1 < M.length → ltC (M.getD j Cl0) (M.getD (j + 1) Cl0) := fun j hj => by
        have := h (j + 1) hj
        simp only [cellOk, geS, Bool.and_eq_true, Bool.not_eq_true'] at this
        simpa using this.2
      have all : ∀ j i, i < j → j < M.length → ltC (M.getD i Cl0) (M.getD j Cl0) := by
        intro j
        induction j with
        | zero => intro i hi; omega
        | succ j ih =>
          intro i hi hj
          rcases Nat.lt_or_ge i j with h1 | h1
          · exact bl_tr _ _ _ (ih i h1 (by omega)) (one j hj)
          · obtain rfl : i = j := by omega
            exact one i hj
      intro i j hi hj hij
      have := all j i hij hj
      simpa [hi, hj] using this
  · rintro ⟨h1, h2⟩ k hk
    have h2 := List.pairwise_iff_getElem.1 h2
    simp only [cellOk, geS, Bool.and_eq_true, Bool.not_eq_true']
    refine ⟨?_, ?_⟩
    · have := h1 M[k] (List.getElem_mem hk)
      simpa [hk] using this
    · rcases Nat.eq_zero_or_pos k with h0 | h0
      · subst h0; simp
      · have := h2 (k - 1) k (by omega) hk (by omega)
        have e : k - 1 < M.length := by omega
        simp only [ltC] at this
        simp [hk, e, this]
def headB (t q : Int) : Bool := !(decide (t < -1099511627776) || decide (t > 1099511627776) || decide (q < 0) || decide (q > 1073741824))
theorem right_iff (t q : Int) (M : List Cl) : rightB ⟨t, q, M⟩ = true ↔ headB t q = true ∧ M.length ≤ 8 ∧ (∀ x ∈ M, fineB x = true) ∧ M.Pairwise ltC := by
  rw [← ok_iff]
  have e : (List.range M.length).all (cellOk M) = true ↔ ∀ k, k < M.length → cellOk M k = true := by
    rw [List.all_eq_true]
    exact ⟨fun h k hk => h k (List.mem_range.2 hk), fun h k hk => h k (List.mem_range.1 hk)⟩
  rw [← e]
  simp only [rightB, headB, Bool.and_eq_true, Bool.not_eq_true', Bool.or_eq_false_iff, decide_eq_false_iff_not]
  constructor
  · rintro ⟨⟨h1, h2⟩, h3⟩
    exact ⟨h1, by omega, h3⟩
  · rintro ⟨h1, h2, h3⟩
    exact ⟨⟨h1, by omega⟩, h3⟩
theorem ne_irr {x y : Cl} (h : ltC x y) : (x.col.data.toList == y.col.data.toList) = false := by
  rw [beq_eq_false_iff_ne]
  intro e
  rw [ltC, e, bl_irr] at h
  cases h
theorem find_self {M : List Cl} (h : M.Pairwise ltC) {k : Nat} (hk : k < M.length) : cellL M (M.getD k Cl0).col = M.getD k Cl0 := by
  have h2 := List.pairwise_iff_getElem.1 h
  unfold cellL
  have e : M.find? (fun x => x.col.data.toList == (M.getD k Cl0).col.data.toList) = some (M.getD k Cl0) := by
    rw [List.find?_eq_some_iff_getElem]
    refine ⟨by simp, k, hk, by simp [hk], fun j hj => ?_⟩
    have hjl : j < M.length := by omega
    have := ne_irr (h2 j k hjl hk hj)
    simpa [hk] using this
  rw [e]; rfl
theorem had_any (M : List Cl) (s : ByteArray) : hadB M s = M.any (fun x => x.col.data.toList == s.data.toList) := by
  unfold hadB
  have g : ∀ (l : List Nat) (p : Nat → Bool) (b : Bool), l.foldl (fun b k => b || p k) b = (b || l.any p) := by
    intro l p
    induction l with
    | nil => intro b; simp
    | cons x r ih => intro b; rw [List.foldl_cons, ih, List.any_cons, Bool.or_assoc]
  rw [g, Bool.false_or, Bool.eq_iff_iff, List.any_eq_true, List.any_eq_true]
  constructor
  · rintro ⟨k, hk, h⟩
    have hk := List.mem_range.1 hk
    exact ⟨M[k], List.getElem_mem hk, by simpa [hk] using h⟩
  · rintro ⟨x, hx, h⟩
    obtain ⟨i, hi, rfl⟩ := List.getElem_of_mem hx
    exact ⟨i, List.mem_range.2 hi, by simpa [hi] using h⟩
theorem no_zero : noCl Cl0 = true := by unfold noCl; rfl
theorem no_fine {x : Cl} (h : fineB x = true) : noCl x = false := by
  unfold fineB at h
  unfold noCl
  have : x.kind ≠ 0 := by
    intro e
    rw [e] at h
    simp at h
  simp [allB, this]
theorem no_had {M : List Cl} {s : ByteArray} (h : ∀ x ∈ M, fineB x = true) : noCl (cellL M s) = !hadB M s := by
  rw [had_any]
  unfold cellL
  cases hf : M.find? (fun x => x.col.data.toList == s.data.toList) with
  | none =>
    rw [List.find?_eq_none] at hf
    have : M.any (fun x => x.col.data.toList == s.data.toList) = false := by
      rw [List.any_eq_false]; exact hf
    rw [this]; exact no_zero
  | some x =>
    have h1 := List.mem_of_find?_eq_some hf
    have h2 := List.find?_some hf
    have : M.any (fun x => x.col.data.toList == s.data.toList) = true := List.any_eq_true.2 ⟨x, h1, h2⟩
    rw [this]; exact no_fine (h x h1)
theorem split_at {M : List Cl} {k : Nat} (hk : k < M.length) : M = M.take k ++ M.getD k Cl0 :: M.drop (k + 1) := by
  have : M.getD k Cl0 = M[k] := by simp [hk]
  rw [this, List.getElem_cons_drop, List.take_append_drop]
theorem sub_less {M : List Cl} {k : Nat} (hk : k < M.length) : (M.take k ++ M.drop (k + 1)).Sublist M := by
  conv => rhs; rw [split_at hk]
  exact List.Sublist.append (List.Sublist.refl _) (List.sublist_cons_self _ _)
theorem right_less {t q : Int} {M : List Cl} {k : Nat} (hk : k < M.length) (h : rightB ⟨t, q, M⟩ = true) : rightB ⟨t, q, M.take k ++ M.drop (k + 1)⟩ = true := by
  rw [right_iff] at h ⊢
  obtain ⟨h1, h2, h3, h4⟩ := h
  have hs := sub_less hk
  exact ⟨h1, Nat.le_trans hs.length_le h2, fun x hx => h3 x (hs.subset hx), h4.sublist hs⟩
theorem right_more {t q : Int} {M : List Cl} {k : Nat} (hk : k < M.length) : rightB ⟨t, q, M.take k ++ [M.getD k Cl0] ++ M.drop k⟩ = false := by
  cases h : rightB ⟨t, q, M.take k ++ [M.getD k Cl0] ++ M.drop k⟩ with
  | false => rfl
  | true =>
    rw [right_iff] at h
    have h4 := h.2.2.2
    have e : M.drop k = M.getD k Cl0 :: M.drop (k + 1) := by
      have : M.getD k Cl0 = M[k] := by simp [hk]
      rw [this, List.getElem_cons_drop]
    rw [e, List.append_assoc] at h4
    have h5 := (List.pairwise_append.1 h4).2.1
    have h6 := (List.pairwise_cons.1 h5).1 (M.getD k Cl0) (by simp)
    rw [ltC, bl_irr] at h6
    cases h6
theorem less_no {M : List Cl} {k : Nat} (hk : k < M.length) (h : M.Pairwise ltC) : cellL (M.take k ++ M.drop (k + 1)) (M.getD k Cl0).col = Cl0 := by
  have e : (M.take k ++ M.drop (k + 1)).find? (fun x => x.col.data.toList == (M.getD k Cl0).col.data.toList) = none := by
    rw [List.find?_eq_none]
    intro x hx hq
    rw [split_at hk] at h
    have h1 := List.pairwise_append.1 h
    rcases List.mem_append.1 hx with h2 | h2
    · have := ne_irr (h1.2.2 x h2 (M.getD k Cl0) (by simp))
      rw [this] at hq; cases hq
    · have h3 := (List.pairwise_cons.1 h1.2.1).1 x h2
      have := ne_irr h3
      rw [beq_eq_false_iff_ne] at this
      rw [beq_iff_eq] at hq
      exact this hq.symm
  unfold cellL
  rw [e]; rfl
end Go.Proofs.Ytnhleneknnbhaaa.V
