/- Chapter 8: the plain law of ZoneGrows. -/
import Derived.Test.YtgejenhcloiieaaZC
namespace Go.Proofs.Ytgejenhcloiieaa.Z8
open Go Go.RowKit Go.Proofs Go.Proofs.Ytgejenhcloiieaa.Eng
set_option linter.unusedVariables false
set_option linter.unusedSimpArgs false

/-! ### The order of texts -/
theorem bl_irrefl : ∀ (l : List UInt8), Op.bytesLess l l = false
  | [] => rfl
  | a :: r => by
    simp only [Op.bytesLess, bl_irrefl r, Bool.and_false, Bool.or_false]
    simp
theorem u8_asymm {a b : UInt8} (h : a < b) : ¬ b < a := by
  rw [UInt8.lt_iff_toNat_lt] at h ⊢
  omega
theorem u8_total {a b : UInt8} (h : ¬ a < b) (hne : a ≠ b) : b < a := by
  rw [UInt8.lt_iff_toNat_lt] at h ⊢
  have : a.toNat ≠ b.toNat := fun e => hne (UInt8.toNat_inj.1 e)
  omega
theorem bl_asymm : ∀ (x y : List UInt8), Op.bytesLess x y = true → Op.bytesLess y x = false
  | [], [], h => by simp [Op.bytesLess] at h
  | [], _ :: _, _ => rfl
  | _ :: _, [], h => by simp [Op.bytesLess] at h
  | a :: x, b :: y, h => by
    simp only [Op.bytesLess, Bool.or_eq_true, Bool.and_eq_true, decide_eq_true_eq, beq_iff_eq] at h
    simp only [Op.bytesLess, Bool.or_eq_false_iff, Bool.and_eq_false_iff, decide_eq_false_iff_not, beq_eq_false_iff_ne]
    rcases h with h | ⟨h1, h2⟩
    · exact ⟨u8_asymm h, .inl (fun e => by subst e; exact u8_asymm h h)⟩
    · subst h1
      exact ⟨fun h => u8_asymm h h, .inr (bl_asymm x y h2)⟩
theorem bl_total : ∀ (x y : List UInt8), Op.bytesLess x y = false → (x == y) = false → Op.bytesLess y x = true
  | [], [], _, h => by simp at h
  | [], _ :: _, h, _ => by simp [Op.bytesLess] at h
  | _ :: _, [], _, _ => rfl
  | a :: x, b :: y, h, hne => by
    simp only [Op.bytesLess, Bool.or_eq_false_iff, Bool.and_eq_false_iff, decide_eq_false_iff_not, beq_eq_false_iff_ne] at h
    simp only [Op.bytesLess, Bool.or_eq_true, Bool.and_eq_true, decide_eq_true_eq, beq_iff_eq]
    by_cases hab : a = b
    · subst hab
      right
      refine ⟨rfl, bl_total x y ?_ ?_⟩
      · rcases h.2 with h | h
        · exact absurd rfl h
        · exact h
      · rw [beq_eq_false_iff_ne] at hne ⊢
        exact fun e => hne (by rw [e])
    · exact .inl (u8_total h.1 hab)
abbrev seq (a b : ByteArray) : Bool := a.data.toList == b.data.toList
abbrev sle (a b : ByteArray) : Bool := Op.bytesLess a.data.toList b.data.toList || a.data.toList == b.data.toList
abbrev sge (a b : ByteArray) : Bool := !Op.bytesLess a.data.toList b.data.toList
theorem sle_refl (a : ByteArray) : sle a a = true := by simp [sle]
theorem sge_refl (a : ByteArray) : sge a a = true := by simp [sge, bl_irrefl]
theorem mnS_l (a b : ByteArray) : sle (mnS a b) a = true := by
  unfold mnS
  split
  · exact sle_refl a
  · rename_i h
    simp only [Bool.or_eq_true, not_or, Bool.not_eq_true] at h
    simp only [sle, bl_total _ _ h.1 h.2, Bool.true_or]
theorem mnS_r (a b : ByteArray) : sle (mnS a b) b = true := by
  unfold mnS
  split
  · rename_i h; exact h
  · exact sle_refl b
theorem mxS_l (a b : ByteArray) : sge (mxS a b) a = true := by
  unfold mxS
  split
  · exact sge_refl a
  · rename_i h
    simp only [Bool.not_eq_true, Bool.not_eq_false', Bool.not_eq_true'] at h
    simp [sge, bl_asymm _ _ (by simpa using h)]
theorem mxS_r (a b : ByteArray) : sge (mxS a b) b = true := by
  unfold mxS
  split
  · rename_i h; exact h
  · exact sge_refl b
theorem mnS_or (a b : ByteArray) : mnS a b = a ∨ mnS a b = b := by unfold mnS; split <;> simp
theorem mxS_or (a b : ByteArray) : mxS a b = a ∨ mxS a b = b := by unfold mxS; split <;> simp
theorem mnS_self (a : ByteArray) : mnS a a = a := by unfold mnS; split <;> rfl
theorem mxS_self (a : ByteArray) : mxS a a = a := by unfold mxS; split <;> rfl
theorem mnI_self (a : Int) : mnI a a = a := by unfold mnI; split <;> rfl
theorem mxI_self (a : Int) : mxI a a = a := by unfold mxI; split <;> rfl
theorem seq_refl (a : ByteArray) : seq a a = true := by simp [seq]
theorem seq_eq {a b : ByteArray} (h : a = b) : seq a b = true := by rw [h]; exact seq_refl b

/-! ### Zones, cell by cell -/
abbrev rowsTo (r : Int) (z : Zn) : Zn := ⟨z.kind, r, z.nulls, z.minN, z.maxN, z.minS, z.maxS⟩
theorem step_rows (K r : Int) (p : Zn × Bool) (x : Cl) : stepZ K (rowsTo r p.1, p.2) x = (rowsTo r (stepZ K p x).1, (stepZ K p x).2) := by
  unfold stepZ
  split
  · cases p.2 <;> rfl
  · rfl
theorem fold_rows (K r : Int) : ∀ (L : List Cl) (p : Zn × Bool), L.foldl (stepZ K) (rowsTo r p.1, p.2) = (rowsTo r (L.foldl (stepZ K) p).1, (L.foldl (stepZ K) p).2)
  | [], _ => rfl
  | x :: L, p => by
    rw [List.foldl_cons, step_rows, fold_rows K r L, List.foldl_cons]
abbrev foldZ (K : Int) (L : List Cl) : Zn × Bool := L.foldl (stepZ K) (zn0 K L.length, true)
theorem build_snoc (K : Int) (L : List Cl) (x : Cl) : buildZ K (L ++ [x]) = rowsTo (L.length + 1 : Nat) (stepZ K (foldZ K L) x).1 := by
  unfold buildZ
  have h : (zn0 K (L ++ [x]).length, true) = ((rowsTo (L.length + 1 : Nat) (zn0 K L.length), true) : Zn × Bool) := by simp [zn0]
  rw [h, fold_rows K _ (L ++ [x]) (zn0 K L.length, true), List.foldl_append]
  rfl
/-- What is true of a zone of cells. -/
structure Inv (K : Int) (n : Nat) (p : Zn × Bool) : Prop where
  kind : p.1.kind = K
  n0 : 0 ≤ p.1.nulls
  n1 : p.1.nulls ≤ n
  none : p.2 = true → p.1.nulls = n
  some : p.2 = false → p.1.nulls < n
theorem Inv.step {K : Int} {n : Nat} {p : Zn × Bool} (h : Inv K n p) (x : Cl) : Inv K (n + 1) (stepZ K p x) := by
  obtain ⟨h1, h2, h3, h4, h5⟩ := h
  obtain ⟨z, f⟩ := p
  have h3 : z.nulls ≤ (n : Int) := h3
  have h2 : 0 ≤ z.nulls := h2
  unfold stepZ
  split
  · cases f
    · exact ⟨h1, h2, by show z.nulls ≤ _; omega, fun h => (by cases h), fun _ => by show z.nulls < _; omega⟩
    · exact ⟨h1, h2, by show z.nulls ≤ _; omega, fun h => (by cases h), fun _ => by show z.nulls < _; omega⟩
  · refine ⟨h1, ?_, ?_, fun h => ?_, fun h => ?_⟩
    · show 0 ≤ z.nulls + 1; omega
    · show z.nulls + 1 ≤ _; omega
    · show z.nulls + 1 = _; have : z.nulls = (n : Int) := h4 h; omega
    · show z.nulls + 1 < _; have : z.nulls < (n : Int) := h5 h; omega
theorem inv_fold (K : Int) : ∀ (L : List Cl) (n : Nat) (p : Zn × Bool), Inv K n p → Inv K (n + L.length) (L.foldl (stepZ K) p)
  | [], _, _, h => h
  | x :: L, n, p, h => by
    have := inv_fold K L (n + 1) _ (h.step x)
    rw [List.foldl_cons, List.length_cons, show n + (L.length + 1) = n + 1 + L.length by omega]
    exact this
theorem inv_build (K : Int) (L : List Cl) : Inv K L.length (foldZ K L) := by
  have := inv_fold K L 0 (zn0 K L.length, true) ⟨rfl, Int.le_refl _, Int.le_refl _, fun _ => rfl, fun h => by cases h⟩
  rwa [Nat.zero_add] at this
theorem rows_fold (K : Int) : ∀ (L : List Cl) (p : Zn × Bool), (L.foldl (stepZ K) p).1.rows = p.1.rows
  | [], _ => rfl
  | x :: L, p => by
    rw [List.foldl_cons, rows_fold K L]
    unfold stepZ
    split
    · cases p.2 <;> rfl
    · rfl
theorem rows_build (K : Int) (L : List Cl) : (buildZ K L).rows = (L.length : Int) := rows_fold K L _

section
variable {K : Int} {F : List Cl} {y : Cl}
theorem snoc_n (hk : y.kind ≠ K) : buildZ K (F ++ [y]) = rowsTo (F.length + 1 : Nat) (nulled (buildZ K F)) := by
  rw [build_snoc]
  show rowsTo _ (if y.kind = K then _ else (nulled (foldZ K F).1, (foldZ K F).2) : Zn × Bool).1 = _
  rw [if_neg hk]
theorem first_iff : (buildZ K F).rows = (buildZ K F).nulls ↔ (foldZ K F).2 = true := by
  have h := inv_build K F
  rw [rows_build]
  constructor
  · intro e
    cases hf : (foldZ K F).2 with
    | true => rfl
    | false => have := h.some hf; have e : (F.length : Int) = (foldZ K F).1.nulls := e; omega
  · intro e
    exact (h.none e).symm
theorem snoc_z (hk : y.kind = K) (hz : (buildZ K F).rows = (buildZ K F).nulls) : buildZ K (F ++ [y]) = rowsTo (F.length + 1 : Nat) (wid (widF (buildZ K F) (if K = 1 then xI y.n else xT y.s)) (if K = 1 then xI y.n else xT y.s)) := by
  rw [build_snoc]
  show rowsTo _ (if y.kind = K then (widen (foldZ K F).1 (if K = 1 then xI y.n else xT y.s) (foldZ K F).2, false) else _ : Zn × Bool).1 = _
  rw [if_pos hk, first_iff.1 hz]
  rfl
theorem snoc_m (hk : y.kind = K) (hz : (buildZ K F).rows ≠ (buildZ K F).nulls) : buildZ K (F ++ [y]) = rowsTo (F.length + 1 : Nat) (wid (buildZ K F) (if K = 1 then xI y.n else xT y.s)) := by
  have h2 : (foldZ K F).2 = false := by
    cases hf : (foldZ K F).2 with
    | true => exact absurd (first_iff.2 hf) hz
    | false => rfl
  rw [build_snoc]
  show rowsTo _ (if y.kind = K then (widen (foldZ K F).1 (if K = 1 then xI y.n else xT y.s) (foldZ K F).2, false) else _ : Zn × Bool).1 = _
  rw [if_pos hk, h2]
  rfl
end
theorem mnI_l (a b : Int) : mnI a b ≤ a := by unfold mnI; split <;> omega
theorem mnI_r (a b : Int) : mnI a b ≤ b := by unfold mnI; split <;> omega
theorem mxI_l (a b : Int) : mxI a b ≥ a := by unfold mxI; split <;> omega
theorem mxI_r (a b : Int) : mxI a b ≥ b := by unfold mxI; split <;> omega
theorem mnI_or (a b : Int) (h : mnI a b ≠ a) : mnI a b = b := by unfold mnI at h ⊢; split <;> simp_all
theorem mxI_or (a b : Int) (h : mxI a b ≠ a) : mxI a b = b := by unfold mxI at h ⊢; split <;> simp_all
theorem mnS_or' (a b : ByteArray) (h : seq (mnS a b) a = false) : seq (mnS a b) b = true := by
  rcases mnS_or a b with e | e
  · rw [e, seq_refl] at h; cases h
  · exact seq_eq e
theorem mxS_or' (a b : ByteArray) (h : seq (mxS a b) a = false) : seq (mxS a b) b = true := by
  rcases mxS_or a b with e | e
  · rw [e, seq_refl] at h; cases h
  · exact seq_eq e
end Go.Proofs.Ytgejenhcloiieaa.Z8
