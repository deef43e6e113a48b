/- Chapter 8: the plain law of ZoneOrder: bounds hang on which cells there are, and on nothing else. -/
import Derived.Test.YtgejenhcloiieaaZE
namespace Go.Proofs.Ytgejenhcloiieaa.Z8
open Go Go.RowKit Go.Proofs Go.Proofs.Ytgejenhcloiieaa.Eng
set_option linter.unusedVariables false
set_option linter.unusedSimpArgs false

theorem sle_trans {a b c : ByteArray} (h : sle a b = true) (k : sle b c = true) : sle a c = true := by
  have key : ∀ (x y z : List UInt8), Op.bytesLess x y = true → Op.bytesLess y z = true → Op.bytesLess x z = true := by
    intro x
    induction x with
    | nil =>
      intro y z h1 h2
      cases z with
      | nil => simp [Op.bytesLess] at h2
      | cons d z => rfl
    | cons a x ih =>
      intro y z h1 h2
      cases y with
      | nil => simp [Op.bytesLess] at h1
      | cons b y =>
        cases z with
        | nil => simp [Op.bytesLess] at h2
        | cons d z =>
          simp only [Op.bytesLess, Bool.or_eq_true, Bool.and_eq_true, decide_eq_true_eq, beq_iff_eq] at h1 h2 ⊢
          rcases h1 with h1 | ⟨rfl, h1⟩
          · rcases h2 with h2 | ⟨rfl, h2⟩
            · left; rw [UInt8.lt_iff_toNat_lt] at *; omega
            · exact .inl h1
          · rcases h2 with h2 | ⟨rfl, h2⟩
            · exact .inl h2
            · exact .inr ⟨rfl, ih _ _ h1 h2⟩
  simp only [sle, Bool.or_eq_true, beq_iff_eq] at h k ⊢
  rcases h with h | h
  · rcases k with k | k
    · exact .inl (key _ _ _ h k)
    · rw [← k]; exact .inl h
  · rw [h]; exact k
theorem sle_anti {a b : ByteArray} (h : sle a b = true) (k : sle b a = true) : a = b := by
  have : a.data.toList = b.data.toList := by
    simp only [sle, Bool.or_eq_true, beq_iff_eq] at h k
    rcases h with h | h
    · rcases k with k | k
      · rw [bl_asymm _ _ h] at k; cases k
      · exact k.symm
    · exact h
  obtain ⟨⟨l⟩⟩ := a
  obtain ⟨⟨r⟩⟩ := b
  obtain rfl : l = r := this
  rfl
theorem sge_sle {a b : ByteArray} (h : sge a b = true) : sle b a = true := by
  simp only [sge, Bool.not_eq_true'] at h
  cases he : (a.data.toList == b.data.toList) with
  | true => simp only [sle, Bool.or_eq_true, beq_iff_eq] at he ⊢; exact .inr he.symm
  | false => simp only [sle, bl_total _ _ h he, Bool.true_or]
/-- A least of some, and a greatest. -/
structure Bd {α : Type} (le : α → α → Prop) (V : List α) (lo hi : α) : Prop where
  l1 : lo ∈ V
  l2 : ∀ v ∈ V, le lo v
  h1 : hi ∈ V
  h2 : ∀ v ∈ V, le v hi
theorem Bd.unique {α : Type} {le : α → α → Prop} (anti : ∀ a b, le a b → le b a → a = b) {V W : List α} {lo hi lo' hi' : α} (h : Bd le V lo hi) (k : Bd le W lo' hi') (e : ∀ x, x ∈ V ↔ x ∈ W) : lo = lo' ∧ hi = hi' :=
  ⟨anti _ _ (h.l2 _ ((e _).2 k.l1)) (k.l2 _ ((e _).1 h.l1)), anti _ _ (k.h2 _ ((e _).1 h.h1)) (h.h2 _ ((e _).2 k.h1))⟩
abbrev valsI (L : List Cl) : List Int := (L.filter fun x => x.kind = 1).map (·.n)
abbrev valsT (L : List Cl) : List ByteArray := (L.filter fun x => x.kind = 2).map (·.s)
abbrev e0 : ByteArray := ⟨#[]⟩
/-- What is true of bounds, numbers. -/
structure InvI (L : List Cl) (p : Zn × Bool) : Prop where
  none : p.2 = true → valsI L = [] ∧ p.1.minN = 0 ∧ p.1.maxN = 0
  some : p.2 = false → Bd (· ≤ ·) (valsI L) p.1.minN p.1.maxN
  text : p.1.minS = e0 ∧ p.1.maxS = e0
structure InvT (L : List Cl) (p : Zn × Bool) : Prop where
  none : p.2 = true → valsT L = [] ∧ p.1.minS = e0 ∧ p.1.maxS = e0
  some : p.2 = false → Bd (fun a b => sle a b = true) (valsT L) p.1.minS p.1.maxS
  num : p.1.minN = 0 ∧ p.1.maxN = 0
theorem Bd.one {α : Type} {le : α → α → Prop} (refl : ∀ a, le a a) (x : α) : Bd le [x] x x := ⟨by simp, by simp [refl], by simp, by simp [refl]⟩
theorem Bd.snoc {α : Type} {le : α → α → Prop} (trans : ∀ a b c, le a b → le b c → le a c) (refl : ∀ a, le a a) {V : List α} {lo hi lo' hi' x : α} (h : Bd le V lo hi) (a1 : lo' = lo ∨ lo' = x) (a2 : le lo' lo) (a3 : le lo' x) (b1 : hi' = hi ∨ hi' = x) (b2 : le hi hi') (b3 : le x hi') : Bd le (V ++ [x]) lo' hi' := by
  refine ⟨?_, fun v hv => ?_, ?_, fun v hv => ?_⟩
  · rcases a1 with rfl | rfl
    · exact List.mem_append_left _ h.l1
    · simp
  · rcases List.mem_append.1 hv with hv | hv
    · exact trans _ _ _ a2 (h.l2 v hv)
    · obtain rfl : v = x := by simpa using hv
      exact a3
  · rcases b1 with rfl | rfl
    · exact List.mem_append_left _ h.h1
    · simp
  · rcases List.mem_append.1 hv with hv | hv
    · exact trans _ _ _ (h.h2 v hv) b2
    · obtain rfl : v = x := by simpa using hv
      exact b3
theorem mnI_or2 (a b : Int) : mnI a b = a ∨ mnI a b = b := by unfold mnI; split <;> simp
theorem mxI_or2 (a b : Int) : mxI a b = a ∨ mxI a b = b := by unfold mxI; split <;> simp
theorem InvI.step {L : List Cl} {p : Zn × Bool} (h : InvI L p) (x : Cl) : InvI (L ++ [x]) (stepZ 1 p x) := by
  obtain ⟨z, f⟩ := p
  obtain ⟨h1, h2, h3, h4⟩ := h
  have h3 : z.minS = e0 := h3
  have h4 : z.maxS = e0 := h4
  unfold stepZ
  by_cases hx : x.kind = 1
  · have hv : valsI (L ++ [x]) = valsI L ++ [x.n] := by simp [valsI, hx]
    rw [if_pos hx]
    cases f
    · have hb := h2 rfl
      refine ⟨fun h => (by cases h), fun _ => ?_, ?_, ?_⟩
      · rw [hv]
        exact Bd.snoc (le := fun a b : Int => a ≤ b) (lo' := mnI z.minN x.n) (hi' := mxI z.maxN x.n) (x := x.n) (fun _ _ _ => Int.le_trans) Int.le_refl hb (mnI_or2 _ _) (mnI_l _ _) (mnI_r _ _) (mxI_or2 _ _) (mxI_l _ _) (mxI_r _ _)
      · show mnS z.minS e0 = e0; rw [h3]; exact mnS_self _
      · show mxS z.maxS e0 = e0; rw [h4]; exact mxS_self _
    · obtain ⟨g1, _⟩ := h1 rfl
      refine ⟨fun h => (by cases h), fun _ => ?_, ?_, ?_⟩
      · rw [hv, g1]
        show Bd _ [x.n] (mnI x.n x.n) (mxI x.n x.n)
        rw [mnI_self, mxI_self]
        exact Bd.one Int.le_refl x.n
      · show mnS e0 e0 = e0; exact mnS_self _
      · show mxS e0 e0 = e0; exact mxS_self _
  · have hv : valsI (L ++ [x]) = valsI L := by simp [valsI, hx]
    rw [if_neg hx]
    exact ⟨fun h => by rw [hv]; exact h1 h, fun h => by rw [hv]; exact h2 h, h3, h4⟩
theorem InvT.step {L : List Cl} {p : Zn × Bool} (h : InvT L p) (x : Cl) : InvT (L ++ [x]) (stepZ 2 p x) := by
  obtain ⟨z, f⟩ := p
  obtain ⟨h1, h2, h3, h4⟩ := h
  have h3 : z.minN = 0 := h3
  have h4 : z.maxN = 0 := h4
  unfold stepZ
  by_cases hx : x.kind = 2
  · have hv : valsT (L ++ [x]) = valsT L ++ [x.s] := by simp [valsT, hx]
    rw [if_pos hx]
    cases f
    · have hb := h2 rfl
      refine ⟨fun h => (by cases h), fun _ => ?_, ?_, ?_⟩
      · rw [hv]
        exact Bd.snoc (le := fun a b => sle a b = true) (lo' := mnS z.minS x.s) (hi' := mxS z.maxS x.s) (x := x.s) (fun _ _ _ => sle_trans) sle_refl hb (mnS_or _ _) (mnS_l _ _) (mnS_r _ _) (mxS_or _ _) (sge_sle (mxS_l _ _)) (sge_sle (mxS_r _ _))
      · show mnI z.minN 0 = 0; rw [h3]; rfl
      · show mxI z.maxN 0 = 0; rw [h4]; rfl
    · obtain ⟨g1, _⟩ := h1 rfl
      refine ⟨fun h => (by cases h), fun _ => ?_, ?_, ?_⟩
      · rw [hv, g1]
        show Bd _ [x.s] (mnS x.s x.s) (mxS x.s x.s)
        rw [mnS_self, mxS_self]
        exact Bd.one sle_refl x.s
      · rfl
      · rfl
  · have hv : valsT (L ++ [x]) = valsT L := by simp [valsT, hx]
    rw [if_neg hx]
    exact ⟨fun h => by rw [hv]; exact h1 h, fun h => by rw [hv]; exact h2 h, h3, h4⟩
theorem invI_fold : ∀ (L M : List Cl) (p : Zn × Bool), InvI M p → InvI (M ++ L) (L.foldl (stepZ 1) p)
  | [], M, p, h => by rw [List.append_nil]; exact h
  | x :: L, M, p, h => by
    have := invI_fold L (M ++ [x]) _ (h.step x)
    rw [List.append_assoc] at this
    exact this
theorem invT_fold : ∀ (L M : List Cl) (p : Zn × Bool), InvT M p → InvT (M ++ L) (L.foldl (stepZ 2) p)
  | [], M, p, h => by rw [List.append_nil]; exact h
  | x :: L, M, p, h => by
    have := invT_fold L (M ++ [x]) _ (h.step x)
    rw [List.append_assoc] at this
    exact this
theorem invI (L : List Cl) : InvI L (foldZ 1 L) := invI_fold L [] _ ⟨fun _ => ⟨rfl, rfl, rfl⟩, fun h => (by cases h), rfl, rfl⟩
theorem invT (L : List Cl) : InvT L (foldZ 2 L) := invT_fold L [] _ ⟨fun _ => ⟨rfl, rfl, rfl⟩, fun h => (by cases h), rfl, rfl⟩
/-- How many are null. -/
theorem nulls_fold (K : Int) : ∀ (L : List Cl) (p : Zn × Bool), (L.foldl (stepZ K) p).1.nulls = p.1.nulls + (L.filter fun x => decide (x.kind ≠ K)).length
  | [], p => by simp
  | x :: L, p => by
    rw [List.foldl_cons, nulls_fold K L]
    unfold stepZ
    by_cases hx : x.kind = K
    · rw [if_pos hx]
      have : (widen p.1 (if K = 1 then xI x.n else xT x.s) p.2).nulls = p.1.nulls := by cases p.2 <;> rfl
      show (widen p.1 (if K = 1 then xI x.n else xT x.s) p.2).nulls + _ = _
      rw [this]
      simp [hx]
    · rw [if_neg hx]
      show p.1.nulls + 1 + _ = _
      simp [hx]
      omega
/-- The same cells, in whatever order and however often: the same bounds. -/
theorem same_bounds (K : Int) (hK : K = 1 ∨ K = 2) (L M : List Cl) (h : ∀ x, x ∈ L ↔ x ∈ M) : (buildZ K L).minN = (buildZ K M).minN ∧ (buildZ K L).maxN = (buildZ K M).maxN ∧ (buildZ K L).minS = (buildZ K M).minS ∧ (buildZ K L).maxS = (buildZ K M).maxS := by
  rcases hK with rfl | rfl
  · have hL := invI L
    have hM := invI M
    have e : ∀ v, v ∈ valsI L ↔ v ∈ valsI M := by intro v; simp only [valsI, List.mem_map, List.mem_filter, h]
    refine ⟨?_, ?_, hL.text.1.trans hM.text.1.symm, hL.text.2.trans hM.text.2.symm⟩
    all_goals
      cases hf : (foldZ 1 L).2 with
      | true =>
        obtain ⟨g1, g2, g3⟩ := hL.none hf
        cases hg : (foldZ 1 M).2 with
        | true =>
          obtain ⟨k1, k2, k3⟩ := hM.none hg
          first | exact g2.trans k2.symm | exact g3.trans k3.symm
        | false =>
          have := (e _).2 (hM.some hg).l1
          rw [g1] at this
          cases this
      | false =>
        cases hg : (foldZ 1 M).2 with
        | true =>
          have := (e _).1 (hL.some hf).l1
          rw [(hM.none hg).1] at this
          cases this
        | false =>
          have := (hL.some hf).unique (fun _ _ => Int.le_antisymm) (hM.some hg) e
          first | exact this.1 | exact this.2
  · have hL := invT L
    have hM := invT M
    have e : ∀ v, v ∈ valsT L ↔ v ∈ valsT M := by intro v; simp only [valsT, List.mem_map, List.mem_filter, h]
    refine ⟨hL.num.1.trans hM.num.1.symm, hL.num.2.trans hM.num.2.symm, ?_, ?_⟩
    all_goals
      cases hf : (foldZ 2 L).2 with
      | true =>
        obtain ⟨g1, g2, g3⟩ := hL.none hf
        cases hg : (foldZ 2 M).2 with
        | true =>
          obtain ⟨k1, k2, k3⟩ := hM.none hg
          first | exact g2.trans k2.symm | exact g3.trans k3.symm
        | false =>
          have := (e _).2 (hM.some hg).l1
          rw [g1] at this
          cases this
      | false =>
        cases hg : (foldZ 2 M).2 with
        | true =>
          have := (e _).1 (hL.some hf).l1
          rw [(hM.none hg).1] at this
          cases this
        | false =>
          have := (hL.some hf).unique (fun _ _ => sle_anti) (hM.some hg) e
          first | exact this.1 | exact this.2
end Go.Proofs.Ytgejenhcloiieaa.Z8
