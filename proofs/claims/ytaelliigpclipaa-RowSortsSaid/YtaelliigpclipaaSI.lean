/- Rows in order: insertion sort, in plain Lean. By hand. -/
import Derived.Test.YtaelliigpclipaaSH
namespace Go.Proofs.Ytaelliigpclipaa.V
open Go Go.RowKit Go.Proofs Go.Proofs.Ytaelliigpclipaa.Eng Go.Proofs.Ytaelliigpclipaa.VPl
set_option linter.unusedVariables false
set_option linter.unusedSimpArgs false

theorem ins_perm (A : List Rw) (x : Rw) : (insRv A x).Perm (x :: A) := by
  induction A with
  | nil => exact .refl _
  | cons y r ih =>
    unfold insRv
    split
    · exact (ih.cons y).trans (.swap x y r)
    · exact .refl _
theorem insAt_at (A : List Rw) (x : Rw) (T : List Rw) : insAt (A.reverse ++ x :: T) A.length = (insRv A x).reverse ++ T := by
  unfold insAt
  have h1 : (A.reverse ++ x :: T).take A.length = A.reverse := List.take_left' (by simp)
  have h2 : (A.reverse ++ x :: T).drop (A.length + 1) = T := by
    have := List.drop_append (l₁ := A.reverse) (l₂ := x :: T) (i := A.length + 1)
    rw [this]
    simp
  have h3 : (A.reverse ++ x :: T).getD A.length Rw0 = x := by simp
  rw [h1, h2, h3, List.reverse_reverse]
theorem foldl_insLen (T A : List Rw) : (T.foldl insRv A).length = A.length + T.length := by
  induction T generalizing A with
  | nil => simp
  | cons x T ih => rw [List.foldl_cons, ih, insRv_len, List.length_cons]; omega
/-- The sort is insertion, one after the other. -/
theorem isort0_eq (M : List Rw) (h0 : 0 < M.length) : isort0 M = (M.foldl insRv []).reverse := by
  have key : ∀ k, k ≤ M.length - 1 → (List.range k).foldl (fun M k => insAt M (k + 1)) M = ((M.take (k + 1)).foldl insRv []).reverse ++ M.drop (k + 1) := by
    intro k
    induction k with
    | zero =>
      intro _
      obtain ⟨x, T, rfl⟩ : ∃ x T, M = x :: T := by cases M with
        | nil => simp at h0
        | cons x T => exact ⟨x, T, rfl⟩
      simp [insRv]
    | succ k ih =>
      intro hk
      rw [List.range_succ, List.foldl_append, ih (by omega)]
      simp only [List.foldl_cons, List.foldl_nil]
      have hlt : k + 1 < M.length := by omega
      have e1 : M.drop (k + 1) = M[k + 1] :: M.drop (k + 1 + 1) := List.drop_eq_getElem_cons hlt
      have e2 : M.take (k + 1 + 1) = M.take (k + 1) ++ [M[k + 1]] := List.take_succ_eq_append_getElem hlt
      have e3 : ((M.take (k + 1)).foldl insRv []).length = k + 1 := by rw [foldl_insLen]; simp; omega
      rw [e1, e2, List.foldl_append]
      have := insAt_at ((M.take (k + 1)).foldl insRv []) M[k + 1] (M.drop (k + 1 + 1))
      rw [e3] at this
      rw [this]
      rfl
  unfold isort0
  rw [key _ (Nat.le_refl _), show M.length - 1 + 1 = M.length by omega, List.take_length, List.drop_length, List.append_nil]
theorem fold_perm (T A : List Rw) : (T.foldl insRv A).Perm (A ++ T) := by
  induction T generalizing A with
  | nil => simp
  | cons x T ih =>
    rw [List.foldl_cons]
    refine (ih _).trans ?_
    have h1 : (insRv A x ++ T).Perm ((x :: A) ++ T) := (ins_perm A x).append_right T
    refine h1.trans ?_
    simp only [List.cons_append]
    exact List.perm_middle.symm
theorem isort0_perm (M : List Rw) (h0 : 0 < M.length) : (isort0 M).Perm M := by
  rw [isort0_eq M h0]
  have := fold_perm M []
  exact (List.reverse_perm _).trans (by simpa using this)

/-- The row a may stand behind b. -/
abbrev After (a b : Rw) : Prop := ¬ ltR a b ∧ (ltR b a ∨ kOf b ≤ kOf a)
theorem ltR_of {x y : Rw} (h : cmpRw x.time x.seq y.time y.seq < 0) : ltR x y := (cmpRw_lt _ _ _ _).1 h
theorem ltR_to {x y : Rw} (h : ¬ cmpRw x.time x.seq y.time y.seq < 0) : ¬ ltR x y := fun g => h ((cmpRw_lt _ _ _ _).2 g)
theorem ins_order (A : List Rw) (x : Rw) (hA : A.Pairwise After) (hk : ∀ y ∈ A, kOf y ≤ kOf x) : (insRv A x).Pairwise After := by
  induction A with
  | nil => simp [insRv]
  | cons y r ih =>
    obtain ⟨h1, h2⟩ := List.pairwise_cons.1 hA
    unfold insRv
    split
    · rename_i hlt
      have hl := ltR_of hlt
      refine List.pairwise_cons.2 ⟨fun z hz => ?_, ih h2 (fun z hz => hk z (by simp [hz]))⟩
      rcases List.mem_cons.1 ((ins_perm r x).mem_iff.1 hz) with rfl | hz
      · exact ⟨by unfold ltR at hl ⊢; omega, .inl hl⟩
      · exact h1 z hz
    · rename_i hlt
      have hl := ltR_to hlt
      refine List.pairwise_cons.2 ⟨fun z hz => ⟨?_, .inr (hk z hz)⟩, hA⟩
      rcases List.mem_cons.1 hz with rfl | hz
      · exact hl
      · have := (h1 z hz).1
        unfold ltR at hl this ⊢
        omega
theorem fold_order (T A : List Rw) (hA : A.Pairwise After) (hk : ∀ y ∈ A, ∀ x ∈ T, kOf y ≤ kOf x) (hT : T.Pairwise (fun a b => kOf a ≤ kOf b)) : (T.foldl insRv A).Pairwise After := by
  induction T generalizing A with
  | nil => exact hA
  | cons x T ih =>
    obtain ⟨t1, t2⟩ := List.pairwise_cons.1 hT
    rw [List.foldl_cons]
    refine ih _ (ins_order A x hA (fun y hy => hk y hy x (by simp))) (fun y hy z hz => ?_) t2
    rcases List.mem_cons.1 ((ins_perm A x).mem_iff.1 hy) with rfl | hy
    · exact t1 z hz
    · exact hk y hy z (by simp [hz])
/-- What is in order stays. -/
theorem fold_same (T A : List Rw) (h : (A.reverse ++ T).Pairwise (fun a b => ¬ ltR b a)) : T.foldl insRv A = T.reverse ++ A := by
  induction T generalizing A with
  | nil => simp
  | cons x T ih =>
    have e : insRv A x = x :: A := by
      cases A with
      | nil => rfl
      | cons y r =>
        unfold insRv
        rw [if_neg]
        intro hlt
        have h2 := List.pairwise_append.1 h
        exact h2.2.2 y (by simp) x (by simp) (ltR_of hlt)
    rw [List.foldl_cons, e, ih (x :: A) (by simpa using h)]
    simp

theorem someL_len (L : List Rw) : (someL L).length = min L.length 20 := by unfold someL; simp
theorem someL_get (L : List Rw) {k : Nat} (h : k < (someL L).length) : (someL L).getD k Rw0 = mkR L k := by
  rw [someL_len] at h
  unfold someL
  have : k < (List.range (min L.length 20)).length := by simpa using h
  simp [List.getD_eq_getElem?_getD, h]
theorem kOf_mkR (L : List Rw) (k : Nat) : kOf (mkR L k) = k := by simp [kOf, mkR]
theorem someL_k (L : List Rw) : (someL L).map kOf = List.range (min L.length 20) := by
  unfold someL
  rw [List.map_map]
  have : kOf ∘ mkR L = id := by funext k; exact kOf_mkR L k
  rw [this, List.map_id]
theorem some_ok (L : List Rw) (h0 : 0 < L.length) : SortOk (someL L) (isort0 (someL L)) ∧ isort0 (isort0 (someL L)) = isort0 (someL L) := by
  have hl := someL_len L
  have hm0 : 0 < (someL L).length := by rw [hl]; omega
  have hp := isort0_perm (someL L) hm0
  have hzl : (isort0 (someL L)).length = (someL L).length := hp.length_eq
  have hnd : ((isort0 (someL L)).map kOf).Nodup := by
    have := (hp.map kOf).nodup_iff.2 (by rw [someL_k]; exact List.nodup_range)
    exact this
  have hord : (someL L).Pairwise (fun a b => kOf a ≤ kOf b) := by
    have : ((someL L).map kOf).Pairwise (· ≤ ·) := by rw [someL_k]; exact List.pairwise_le_range
    exact List.pairwise_map.1 this
  have hA : ((someL L).foldl insRv []).Pairwise After := fold_order _ [] .nil (by simp) hord
  have hZ : (isort0 (someL L)).Pairwise (fun a b => After b a) := by
    rw [isort0_eq _ hm0]
    exact List.pairwise_reverse.2 hA
  have hpw := List.pairwise_iff_getElem.1 hZ
  refine ⟨⟨by rw [hl]; omega, by rw [hzl, hl]; omega, fun i hi => ?_, fun i j hij hj => ?_, fun i h1 h2 => ?_⟩, ?_⟩
  · have hm : (isort0 (someL L)).getD i Rw0 ∈ isort0 (someL L) := by simp [hi]
    have hm2 := hp.mem_iff.1 hm
    obtain ⟨k, hk, hk2⟩ : ∃ k, k < (someL L).length ∧ mkR L k = (isort0 (someL L)).getD i Rw0 := by
      obtain ⟨k, hk, he⟩ := List.getElem_of_mem hm2
      refine ⟨k, hk, ?_⟩
      rw [← someL_get L hk, ← he]
      simp [hk]
    rw [← hk2, kOf_mkR]
    exact ⟨hk, someL_get L hk, rfl⟩
  · have hi : i < (isort0 (someL L)).length := by omega
    intro he
    have h3 : ((isort0 (someL L)).map kOf)[i]'(by simpa using hi) = ((isort0 (someL L)).map kOf)[j]'(by simpa using hj) := by
      simpa [hi, hj] using he
    exact (List.pairwise_iff_getElem.1 hnd) i j (by simpa using hi) (by simpa using hj) hij h3
  · have := hpw (i - 1) i (by omega) h2 (by omega)
    have e1 : (isort0 (someL L)).getD i Rw0 = (isort0 (someL L))[i] := by simp [h2]
    have e2 : (isort0 (someL L)).getD (i - 1) Rw0 = (isort0 (someL L))[i - 1]'(by omega) := by simp [show i - 1 < (isort0 (someL L)).length by omega]
    rw [e1, e2]
    exact this
  · rw [isort0_eq (isort0 (someL L)) (by rw [hzl]; exact hm0), fold_same _ [] (by simpa using hZ.imp (fun h => h.1))]
    simp
theorem someL_room (L : List Rw) : Roomy (someL L) := by
  intro x hx
  unfold someL at hx
  obtain ⟨k, _, rfl⟩ := List.mem_map.1 hx
  simp [mkR]
end Go.Proofs.Ytaelliigpclipaa.V
