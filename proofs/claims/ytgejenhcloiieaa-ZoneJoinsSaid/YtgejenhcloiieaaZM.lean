/- Chapter 8: the plain law of ZoneJoins: the zone of two columns, one behind the other. -/
import Derived.Test.YtgejenhcloiieaaZI
import Derived.Test.YtgejenhcloiieaaZL
namespace Go.Proofs.Ytgejenhcloiieaa.Z8
open Go Go.RowKit Go.Proofs Go.Proofs.Ytgejenhcloiieaa.Eng
set_option linter.unusedVariables false
set_option linter.unusedSimpArgs false

theorem Bd.append {α : Type} {le : α → α → Prop} (trans : ∀ a b c, le a b → le b c → le a c) {V W : List α} {lo hi lo2 hi2 lo' hi' : α} (h : Bd le V lo hi) (k : Bd le W lo2 hi2) (a1 : lo' = lo ∨ lo' = lo2) (a2 : le lo' lo) (a3 : le lo' lo2) (b1 : hi' = hi ∨ hi' = hi2) (b2 : le hi hi') (b3 : le hi2 hi') : Bd le (V ++ W) lo' hi' := by
  refine ⟨?_, fun v hv => ?_, ?_, fun v hv => ?_⟩
  · rcases a1 with rfl | rfl
    · exact List.mem_append_left _ h.l1
    · exact List.mem_append_right _ k.l1
  · rcases List.mem_append.1 hv with hv | hv
    · exact trans _ _ _ a2 (h.l2 v hv)
    · exact trans _ _ _ a3 (k.l2 v hv)
  · rcases b1 with rfl | rfl
    · exact List.mem_append_left _ h.h1
    · exact List.mem_append_right _ k.h1
  · rcases List.mem_append.1 hv with hv | hv
    · exact trans _ _ _ (h.h2 v hv) b2
    · exact trans _ _ _ (k.h2 v hv) b3
theorem valsI_append (A B : List Cl) : valsI (A ++ B) = valsI A ++ valsI B := by simp [valsI]
theorem valsT_append (A B : List Cl) : valsT (A ++ B) = valsT A ++ valsT B := by simp [valsT]
abbrev baseZ (a b : Zn) : Zn := ⟨a.kind, a.rows + b.rows, a.nulls + b.nulls, a.minN, a.maxN, a.minS, a.maxS⟩
theorem joinZ_n {a b : Zn} (h : b.rows = b.nulls) : joinZ a b = baseZ a b := by unfold joinZ; rw [if_pos h]
theorem joinZ_t {a b : Zn} (h : ¬ b.rows = b.nulls) (h2 : a.rows = a.nulls) : joinZ a b = wid (widF (baseZ a b) b) b := by unfold joinZ; rw [if_neg h, decide_eq_true h2]; rfl
theorem joinZ_f {a b : Zn} (h : ¬ b.rows = b.nulls) (h2 : ¬ a.rows = a.nulls) : joinZ a b = wid (baseZ a b) b := by unfold joinZ; rw [if_neg h, decide_eq_false h2]; rfl
theorem InvI.join {A B : List Cl} {a b : Zn} {f g : Bool} (ha : InvI A (a, f)) (hb : InvI B (b, g)) (fa : a.rows = a.nulls ↔ f = true) (fb : b.rows = b.nulls ↔ g = true) : InvI (A ++ B) (joinZ a b, f && g) := by
  have hv := valsI_append A B
  have t1 : a.minS = e0 := ha.text.1
  have t2 : a.maxS = e0 := ha.text.2
  have t3 : b.minS = e0 := hb.text.1
  have t4 : b.maxS = e0 := hb.text.2
  cases g
  · have hb' : ¬ b.rows = b.nulls := fun h => by have := fb.1 h; cases this
    have B1 : Bd (· ≤ ·) (valsI B) b.minN b.maxN := hb.some rfl
    cases f
    · have ha' : ¬ a.rows = a.nulls := fun h => by have := fa.1 h; cases this
      have A1 : Bd (· ≤ ·) (valsI A) a.minN a.maxN := ha.some rfl
      rw [joinZ_f hb' ha']
      refine ⟨fun h => (by cases h), fun _ => ?_, ?_, ?_⟩
      · rw [hv]
        exact Bd.append (le := fun a b : Int => a ≤ b) (lo' := mnI a.minN b.minN) (hi' := mxI a.maxN b.maxN) (fun _ _ _ => Int.le_trans) A1 B1 (mnI_or2 _ _) (mnI_l _ _) (mnI_r _ _) (mxI_or2 _ _) (mxI_l _ _) (mxI_r _ _)
      · show mnS a.minS b.minS = e0; rw [t1, t3]; exact mnS_self _
      · show mxS a.maxS b.maxS = e0; rw [t2, t4]; exact mxS_self _
    · have ha' : a.rows = a.nulls := fa.2 rfl
      rw [joinZ_t hb' ha']
      have g1 : valsI A = [] := (ha.none rfl).1
      refine ⟨fun h => (by cases h), fun _ => ?_, ?_, ?_⟩
      · rw [hv, g1, List.nil_append]
        show Bd _ (valsI B) (mnI b.minN b.minN) (mxI b.maxN b.maxN)
        rw [mnI_self, mxI_self]
        exact B1
      · show mnS b.minS b.minS = e0; rw [t3]; exact mnS_self _
      · show mxS b.maxS b.maxS = e0; rw [t4]; exact mxS_self _
  · have hb' : b.rows = b.nulls := fb.2 rfl
    have g1 : valsI B = [] := (hb.none rfl).1
    rw [joinZ_n hb', Bool.and_true]
    refine ⟨fun h => ?_, fun h => ?_, t1, t2⟩
    · rw [hv, g1, List.append_nil]; exact ha.none h
    · rw [hv, g1, List.append_nil]; exact ha.some h
theorem InvT.join {A B : List Cl} {a b : Zn} {f g : Bool} (ha : InvT A (a, f)) (hb : InvT B (b, g)) (fa : a.rows = a.nulls ↔ f = true) (fb : b.rows = b.nulls ↔ g = true) : InvT (A ++ B) (joinZ a b, f && g) := by
  have hv := valsT_append A B
  have t1 : a.minN = 0 := ha.num.1
  have t2 : a.maxN = 0 := ha.num.2
  have t3 : b.minN = 0 := hb.num.1
  have t4 : b.maxN = 0 := hb.num.2
  cases g
  · have hb' : ¬ b.rows = b.nulls := fun h => by have := fb.1 h; cases this
    have B1 : Bd (fun a b => sle a b = true) (valsT B) b.minS b.maxS := hb.some rfl
    cases f
    · have ha' : ¬ a.rows = a.nulls := fun h => by have := fa.1 h; cases this
      have A1 : Bd (fun a b => sle a b = true) (valsT A) a.minS a.maxS := ha.some rfl
      rw [joinZ_f hb' ha']
      refine ⟨fun h => (by cases h), fun _ => ?_, ?_, ?_⟩
      · rw [hv]
        exact Bd.append (le := fun a b => sle a b = true) (lo' := mnS a.minS b.minS) (hi' := mxS a.maxS b.maxS) (fun _ _ _ => sle_trans) A1 B1 (mnS_or _ _) (mnS_l _ _) (mnS_r _ _) (mxS_or _ _) (sge_sle (mxS_l _ _)) (sge_sle (mxS_r _ _))
      · show mnI a.minN b.minN = 0; rw [t1, t3]; rfl
      · show mxI a.maxN b.maxN = 0; rw [t2, t4]; rfl
    · have ha' : a.rows = a.nulls := fa.2 rfl
      rw [joinZ_t hb' ha']
      have g1 : valsT A = [] := (ha.none rfl).1
      refine ⟨fun h => (by cases h), fun _ => ?_, ?_, ?_⟩
      · rw [hv, g1, List.nil_append]
        show Bd _ (valsT B) (mnS b.minS b.minS) (mxS b.maxS b.maxS)
        rw [mnS_self, mxS_self]
        exact B1
      · show mnI b.minN b.minN = 0; rw [t3]; rfl
      · show mxI b.maxN b.maxN = 0; rw [t4]; rfl
  · have hb' : b.rows = b.nulls := fb.2 rfl
    have g1 : valsT B = [] := (hb.none rfl).1
    rw [joinZ_n hb', Bool.and_true]
    refine ⟨fun h => ?_, fun h => ?_, t1, t2⟩
    · rw [hv, g1, List.append_nil]; exact ha.none h
    · rw [hv, g1, List.append_nil]; exact ha.some h
theorem uniqI {L : List Cl} {p q : Zn × Bool} (hL : InvI L p) (hM : InvI L q) : p.1.minN = q.1.minN ∧ p.1.maxN = q.1.maxN ∧ p.1.minS = q.1.minS ∧ p.1.maxS = q.1.maxS := by
  refine ⟨?_, ?_, hL.text.1.trans hM.text.1.symm, hL.text.2.trans hM.text.2.symm⟩
  all_goals
    cases hf : p.2 with
    | true =>
      obtain ⟨g1, g2, g3⟩ := hL.none hf
      cases hg : q.2 with
      | true =>
        obtain ⟨k1, k2, k3⟩ := hM.none hg
        first | exact g2.trans k2.symm | exact g3.trans k3.symm
      | false =>
        have := (hM.some hg).l1
        rw [g1] at this
        cases this
    | false =>
      cases hg : q.2 with
      | true =>
        have := (hL.some hf).l1
        rw [(hM.none hg).1] at this
        cases this
      | false =>
        have := (hL.some hf).unique (fun _ _ => Int.le_antisymm) (hM.some hg) (fun _ => Iff.rfl)
        first | exact this.1 | exact this.2
theorem uniqT {L : List Cl} {p q : Zn × Bool} (hL : InvT L p) (hM : InvT L q) : p.1.minN = q.1.minN ∧ p.1.maxN = q.1.maxN ∧ p.1.minS = q.1.minS ∧ p.1.maxS = q.1.maxS := by
  refine ⟨hL.num.1.trans hM.num.1.symm, hL.num.2.trans hM.num.2.symm, ?_, ?_⟩
  all_goals
    cases hf : p.2 with
    | true =>
      obtain ⟨g1, g2, g3⟩ := hL.none hf
      cases hg : q.2 with
      | true =>
        obtain ⟨k1, k2, k3⟩ := hM.none hg
        first | exact g2.trans k2.symm | exact g3.trans k3.symm
      | false =>
        have := (hM.some hg).l1
        rw [g1] at this
        cases this
    | false =>
      cases hg : q.2 with
      | true =>
        have := (hL.some hf).l1
        rw [(hM.none hg).1] at this
        cases this
      | false =>
        have := (hL.some hf).unique (fun _ _ => sle_anti) (hM.some hg) (fun _ => Iff.rfl)
        first | exact this.1 | exact this.2
theorem none_iff (K : Int) (L : List Cl) : (buildZ K L).rows = (buildZ K L).nulls ↔ (foldZ K L).2 = true := by
  have h := inv_build K L
  have hr := rows_build K L
  constructor
  · intro e
    cases hf : (foldZ K L).2 with
    | true => rfl
    | false =>
      have h1 : (buildZ K L).nulls < (L.length : Int) := h.some hf
      omega
  · intro e
    have h1 : (buildZ K L).nulls = (L.length : Int) := h.none e
    omega
theorem joinZ_kind (a b : Zn) : (joinZ a b).kind = a.kind := by
  unfold joinZ; split
  · rfl
  · cases decide (a.rows = a.nulls) <;> rfl
theorem joinZ_rows (a b : Zn) : (joinZ a b).rows = a.rows + b.rows := by
  unfold joinZ; split
  · rfl
  · cases decide (a.rows = a.nulls) <;> rfl
theorem joinZ_nulls (a b : Zn) : (joinZ a b).nulls = a.nulls + b.nulls := by
  unfold joinZ; split
  · rfl
  · cases decide (a.rows = a.nulls) <;> rfl
/-- The zone of two columns, one behind the other, is that of both zones. -/
theorem join_build (K : Int) (hK : K = 1 ∨ K = 2) (A B : List Cl) : joinZ (buildZ K A) (buildZ K B) = buildZ K (A ++ B) := by
  refine zn_ext ?_ ?_ ?_ ?_
  · rw [joinZ_kind]; exact (inv_build K A).kind.trans (inv_build K (A ++ B)).kind.symm
  · rw [joinZ_rows, rows_build, rows_build, rows_build, List.length_append]; omega
  · rw [joinZ_nulls, nulls_build, nulls_build, nulls_build, List.filter_append, List.length_append]; omega
  · rcases hK with rfl | rfl
    · exact uniqI (InvI.join (f := (foldZ 1 A).2) (g := (foldZ 1 B).2) (invI A) (invI B) (none_iff 1 A) (none_iff 1 B)) (invI (A ++ B))
    · exact uniqT (InvT.join (f := (foldZ 2 A).2) (g := (foldZ 2 B).2) (invT A) (invT B) (none_iff 2 A) (none_iff 2 B)) (invT (A ++ B))
/-- Texts are not too long. -/
abbrev Capped (L : List Cl) : Prop := ∀ x ∈ L, x.kind = 2 → x.s.size ≤ 40
theorem right_build (K : Int) (hK : K = 1 ∨ K = 2) (L : List Cl) (hL : L.length ≤ 40) (hc : Capped L) : Rgt (buildZ K L) := by
  have h := inv_build K L
  have hr := rows_build K L
  have n1 : (buildZ K L).nulls ≤ (L.length : Int) := h.n1
  have hk : (buildZ K L).kind = K := h.kind
  have z0 : e0.size = 0 := rfl
  rcases hK with rfl | rfl
  · have hI := invI L
    have t1 : (buildZ 1 L).minS = e0 := hI.text.1
    have t2 : (buildZ 1 L).maxS = e0 := hI.text.2
    refine ⟨.inl hk, h.n0, by omega, by omega, by rw [t1, z0]; omega, by rw [t2, z0]; omega, fun e => ?_, fun _ => ⟨?_, t1, t2⟩, fun e => ?_⟩
    · obtain ⟨_, g2, g3⟩ := hI.none ((none_iff 1 L).1 e)
      exact ⟨g2, g3, t1, t2⟩
    · cases hf : (foldZ 1 L).2 with
      | true =>
        obtain ⟨_, g2, g3⟩ := hI.none hf
        rw [show (buildZ 1 L).minN = 0 from g2, show (buildZ 1 L).maxN = 0 from g3]
        exact Int.le_refl 0
      | false => exact (hI.some hf).h2 _ (hI.some hf).l1
    · rw [hk] at e; cases e
  · have hI := invT L
    have t1 : (buildZ 2 L).minN = 0 := hI.num.1
    have t2 : (buildZ 2 L).maxN = 0 := hI.num.2
    have hv : ∀ v, v ∈ valsT L → v.size ≤ 40 := by
      intro v hv
      simp only [valsT, List.mem_map, List.mem_filter, decide_eq_true_eq] at hv
      obtain ⟨x, ⟨hx, hx2⟩, rfl⟩ := hv
      exact hc x hx hx2
    have hs : (buildZ 2 L).minS.size ≤ 40 ∧ (buildZ 2 L).maxS.size ≤ 40 := by
      cases hf : (foldZ 2 L).2 with
      | true =>
        obtain ⟨_, g2, g3⟩ := hI.none hf
        rw [show (buildZ 2 L).minS = e0 from g2, show (buildZ 2 L).maxS = e0 from g3, z0]
        omega
      | false => exact ⟨hv _ (hI.some hf).l1, hv _ (hI.some hf).h1⟩
    refine ⟨.inr hk, h.n0, by omega, by omega, hs.1, hs.2, fun e => ?_, fun e => ?_, fun _ => ⟨?_, t1, t2⟩⟩
    · obtain ⟨_, g2, g3⟩ := hI.none ((none_iff 2 L).1 e)
      exact ⟨t1, t2, g2, g3⟩
    · rw [hk] at e; cases e
    · cases hf : (foldZ 2 L).2 with
      | true =>
        obtain ⟨_, g2, g3⟩ := hI.none hf
        rw [show (buildZ 2 L).minS = e0 from g2, show (buildZ 2 L).maxS = e0 from g3]
        exact sle_refl e0
      | false => exact (hI.some hf).h2 _ (hI.some hf).l1
theorem sle_not {a b : ByteArray} (h : sle a b = true) : Op.bytesLess b.data.toList a.data.toList = false := by
  simp only [sle, Bool.or_eq_true, beq_iff_eq] at h
  rcases h with h | h
  · exact bl_asymm _ _ h
  · rw [h]; exact bl_irrefl _
theorem inz_build (K : Int) (hK : K = 1 ∨ K = 2) (L : List Cl) : Inz K L (buildZ K L) := by
  have hm : ∀ i, i < L.length → L.getD i Cl0 ∈ L := fun i hi => by
    rw [show L.getD i Cl0 = L[i] by simp [hi]]
    exact List.getElem_mem hi
  refine ⟨fun e i hi hk => ?_, fun e i hi hk => ?_⟩
  · subst e
    have hI := invI L
    have hv : (L.getD i Cl0).n ∈ valsI L := by
      simp only [valsI, List.mem_map, List.mem_filter, decide_eq_true_eq]
      exact ⟨_, ⟨hm i hi, hk⟩, rfl⟩
    cases hf : (foldZ 1 L).2 with
    | true => rw [(hI.none hf).1] at hv; cases hv
    | false => exact ⟨(hI.some hf).l2 _ hv, (hI.some hf).h2 _ hv⟩
  · subst e
    have hI := invT L
    have hv : (L.getD i Cl0).s ∈ valsT L := by
      simp only [valsT, List.mem_map, List.mem_filter, decide_eq_true_eq]
      exact ⟨_, ⟨hm i hi, hk⟩, rfl⟩
    cases hf : (foldZ 2 L).2 with
    | true => rw [(hI.none hf).1] at hv; cases hv
    | false =>
      refine ⟨sle_not ((hI.some hf).l2 _ hv), ?_⟩
      have : sle (L.getD i Cl0).s (buildZ 2 L).maxS = true := (hI.some hf).h2 _ hv
      rw [Bool.not_eq_false']
      exact this
theorem cap_capped (F : List Cl) : Capped (capL F) := by
  intro x hx hk
  obtain ⟨y, hy, rfl⟩ := List.mem_map.1 hx
  unfold capC at hk ⊢
  by_cases h2 : y.kind = 2
  · rw [if_pos h2]
    by_cases hs : 40 < y.s.size
    · rw [if_pos hs]
      show (y.s.extract 0 40).size ≤ 40
      rw [ByteArray.size_extract]
      omega
    · rw [if_neg hs]; omega
  · rw [if_neg h2] at hk; exact absurd hk h2
theorem Capped.take {L : List Cl} (h : Capped L) (k : Nat) : Capped (L.take k) := fun x hx => h x (List.mem_of_mem_take hx)
theorem Capped.drop {L : List Cl} (h : Capped L) (k : Nat) : Capped (L.drop k) := fun x hx => h x (List.mem_of_mem_drop hx)
end Go.Proofs.Ytgejenhcloiieaa.Z8
