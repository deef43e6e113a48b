/- ZoneGrows answers true. Printed by gen_zonef.py. -/
import Derived.Test.YtgejenhcloiieaaZD
import Derived.Test.YtgejenhcloiieaaZE
import Derived.Test.YtgejenhcloiieaaEngRS
namespace Go.Proofs.Ytgejenhcloiieaa.Z8
open Go Go.RowKit Go.Proofs Go.Proofs.Ytgejenhcloiieaa.Eng
set_option linter.unusedVariables false
set_option linter.unusedSimpArgs false

theorem few_len (L : List Cl) : (fewL L).length ≤ 40 := by rw [List.length_map, List.length_take]; omega
theorem few_pos {L : List Cl} (h : 0 < L.length) : 0 < (fewL L).length := by rw [List.length_map, List.length_take]; omega
abbrev GrowsEnd (B : Nat) (s : St) : Prop := ∃ c', CodeDoes Try.prog B (Try.f3.body.getD .skip) s .ret ⟨⟨247, [(6, .s (.bool true))]⟩, [], c'⟩
theorem grows_nil {B : Nat} (q : Int) (x : Cl) (cp : Option Nat) : GrowsEnd B ⟨⟨247, [(0, .s (.int .i64 q)), (1, .s .sl0), (2, .agg x.cells)]⟩, [], 1⟩ := by
  have hlen : ([] : List Cl).length ≤ 40 := (Nat.zero_le _)
  by_cases hq : q % 2 = 0
  · have hI := inv_build 1 ([] : List Cl)
    have hR := rows_build 1 ([] : List Cl)
    have hr0 : 0 ≤ (buildZ 1 ([] : List Cl)).rows ∧ (buildZ 1 ([] : List Cl)).rows ≤ 100 := by rw [hR]; omega
    have hn0 : 0 ≤ (buildZ 1 ([] : List Cl)).nulls ∧ (buildZ 1 ([] : List Cl)).nulls ≤ 100 := ⟨hI.n0, by have : (buildZ 1 ([] : List Cl)).nulls ≤ (([] : List Cl).length : Int) := hI.n1; omega⟩
    by_cases hk : (cutC x).kind = 1
    · by_cases hz : (buildZ 1 ([] : List Cl)).rows = (buildZ 1 ([] : List Cl)).nulls
      · exact ⟨_, gr_nil1Z0 q x (cutC x) (buildZ 1 ([] : List Cl)) (rowsTo (([] : List Cl).length + 1 : Nat) (wid (widF (buildZ 1 ([] : List Cl)) (xI (cutC x).n)) (xI (cutC x).n))) rfl hq cp rfl (snoc_z hk hz) (by rw [hR]; rfl) hr0 hI.kind hI.kind hn0 hk rfl hz (mnI_self _) (mxI_self _)⟩
      · exact absurd rfl hz
    · exact ⟨_, gr_nil1N0 q x (cutC x) (buildZ 1 ([] : List Cl)) (rowsTo (([] : List Cl).length + 1 : Nat) (nulled (buildZ 1 ([] : List Cl)))) rfl hq cp rfl (snoc_n hk) (by rw [hR]; rfl) hr0 hI.kind hI.kind hn0 hk rfl rfl rfl (seq_refl _) (seq_refl _)⟩
  · have hI := inv_build 2 ([] : List Cl)
    have hR := rows_build 2 ([] : List Cl)
    have hr0 : 0 ≤ (buildZ 2 ([] : List Cl)).rows ∧ (buildZ 2 ([] : List Cl)).rows ≤ 100 := by rw [hR]; omega
    have hn0 : 0 ≤ (buildZ 2 ([] : List Cl)).nulls ∧ (buildZ 2 ([] : List Cl)).nulls ≤ 100 := ⟨hI.n0, by have : (buildZ 2 ([] : List Cl)).nulls ≤ (([] : List Cl).length : Int) := hI.n1; omega⟩
    by_cases hk : (cutC x).kind = 2
    · by_cases hz : (buildZ 2 ([] : List Cl)).rows = (buildZ 2 ([] : List Cl)).nulls
      · exact ⟨_, gr_nil2Z0 q x (cutC x) (buildZ 2 ([] : List Cl)) (rowsTo (([] : List Cl).length + 1 : Nat) (wid (widF (buildZ 2 ([] : List Cl)) (xT (cutC x).s)) (xT (cutC x).s))) rfl hq cp rfl (snoc_z hk hz) (by rw [hR]; rfl) hr0 hI.kind hI.kind hn0 hk rfl hz (seq_eq (mnS_self _)) (seq_eq (mxS_self _))⟩
      · exact absurd rfl hz
    · exact ⟨_, gr_nil2N0 q x (cutC x) (buildZ 2 ([] : List Cl)) (rowsTo (([] : List Cl).length + 1 : Nat) (nulled (buildZ 2 ([] : List Cl)))) rfl hq cp rfl (snoc_n hk) (by rw [hR]; rfl) hr0 hI.kind hI.kind hn0 hk rfl rfl rfl (seq_refl _) (seq_refl _)⟩
theorem grows_emp {B : Nat} (q : Int) (x : Cl) (cp : Option Nat) : GrowsEnd B ⟨⟨247, [(0, .s (.int .i64 q)), (1, .s (.sl 0 0 0 cp 4)), (2, .agg x.cells)]⟩, [], 1⟩ := by
  have hlen : ([] : List Cl).length ≤ 40 := (Nat.zero_le _)
  by_cases hq : q % 2 = 0
  · have hI := inv_build 1 ([] : List Cl)
    have hR := rows_build 1 ([] : List Cl)
    have hr0 : 0 ≤ (buildZ 1 ([] : List Cl)).rows ∧ (buildZ 1 ([] : List Cl)).rows ≤ 100 := by rw [hR]; omega
    have hn0 : 0 ≤ (buildZ 1 ([] : List Cl)).nulls ∧ (buildZ 1 ([] : List Cl)).nulls ≤ 100 := ⟨hI.n0, by have : (buildZ 1 ([] : List Cl)).nulls ≤ (([] : List Cl).length : Int) := hI.n1; omega⟩
    by_cases hk : (cutC x).kind = 1
    · by_cases hz : (buildZ 1 ([] : List Cl)).rows = (buildZ 1 ([] : List Cl)).nulls
      · exact ⟨_, gr_emp1Z0 q x (cutC x) (buildZ 1 ([] : List Cl)) (rowsTo (([] : List Cl).length + 1 : Nat) (wid (widF (buildZ 1 ([] : List Cl)) (xI (cutC x).n)) (xI (cutC x).n))) rfl hq cp rfl (snoc_z hk hz) (by rw [hR]; rfl) hr0 hI.kind hI.kind hn0 hk rfl hz (mnI_self _) (mxI_self _)⟩
      · exact absurd rfl hz
    · exact ⟨_, gr_emp1N0 q x (cutC x) (buildZ 1 ([] : List Cl)) (rowsTo (([] : List Cl).length + 1 : Nat) (nulled (buildZ 1 ([] : List Cl)))) rfl hq cp rfl (snoc_n hk) (by rw [hR]; rfl) hr0 hI.kind hI.kind hn0 hk rfl rfl rfl (seq_refl _) (seq_refl _)⟩
  · have hI := inv_build 2 ([] : List Cl)
    have hR := rows_build 2 ([] : List Cl)
    have hr0 : 0 ≤ (buildZ 2 ([] : List Cl)).rows ∧ (buildZ 2 ([] : List Cl)).rows ≤ 100 := by rw [hR]; omega
    have hn0 : 0 ≤ (buildZ 2 ([] : List Cl)).nulls ∧ (buildZ 2 ([] : List Cl)).nulls ≤ 100 := ⟨hI.n0, by have : (buildZ 2 ([] : List Cl)).nulls ≤ (([] : List Cl).length : Int) := hI.n1; omega⟩
    by_cases hk : (cutC x).kind = 2
    · by_cases hz : (buildZ 2 ([] : List Cl)).rows = (buildZ 2 ([] : List Cl)).nulls
      · exact ⟨_, gr_emp2Z0 q x (cutC x) (buildZ 2 ([] : List Cl)) (rowsTo (([] : List Cl).length + 1 : Nat) (wid (widF (buildZ 2 ([] : List Cl)) (xT (cutC x).s)) (xT (cutC x).s))) rfl hq cp rfl (snoc_z hk hz) (by rw [hR]; rfl) hr0 hI.kind hI.kind hn0 hk rfl hz (seq_eq (mnS_self _)) (seq_eq (mxS_self _))⟩
      · exact absurd rfl hz
    · exact ⟨_, gr_emp2N0 q x (cutC x) (buildZ 2 ([] : List Cl)) (rowsTo (([] : List Cl).length + 1 : Nat) (nulled (buildZ 2 ([] : List Cl)))) rfl hq cp rfl (snoc_n hk) (by rw [hR]; rfl) hr0 hI.kind hI.kind hn0 hk rfl rfl rfl (seq_refl _) (seq_refl _)⟩
theorem grows_one {B : Nat} (q : Int) (x : Cl) (L : List Cl) (cp : Option Nat) (o : Bool) (h0 : 0 < L.length) : GrowsEnd B ⟨⟨247, [(0, .s (.int .i64 q)), (1, .s (.sl 0 0 L.length cp 4)), (2, .agg x.cells)]⟩, [(0, some ⟨flat Cl.cells L, o⟩)], 1⟩ := by
  have hlen : (fewL L).length ≤ 40 := (few_len L)
  by_cases hq : q % 2 = 0
  · have hI := inv_build 1 (fewL L)
    have hR := rows_build 1 (fewL L)
    have hr0 : 0 ≤ (buildZ 1 (fewL L)).rows ∧ (buildZ 1 (fewL L)).rows ≤ 100 := by rw [hR]; omega
    have hn0 : 0 ≤ (buildZ 1 (fewL L)).nulls ∧ (buildZ 1 (fewL L)).nulls ≤ 100 := ⟨hI.n0, by have : (buildZ 1 (fewL L)).nulls ≤ ((fewL L).length : Int) := hI.n1; omega⟩
    by_cases hk : (cutC x).kind = 1
    · by_cases hz : (buildZ 1 (fewL L)).rows = (buildZ 1 (fewL L)).nulls
      · exact ⟨_, gr_one1Z0 q x (cutC x) (buildZ 1 (fewL L)) (rowsTo ((fewL L).length + 1 : Nat) (wid (widF (buildZ 1 (fewL L)) (xI (cutC x).n)) (xI (cutC x).n))) rfl hq L (fewL L) cp o h0 rfl (few_pos h0) (few_len L) rfl (snoc_z hk hz) (by rw [hR]; rfl) hr0 hI.kind hI.kind hn0 hk rfl hz (mnI_self _) (mxI_self _)⟩
      · by_cases f5 : mnI (buildZ 1 (fewL L)).minN (cutC x).n = (buildZ 1 (fewL L)).minN
        · by_cases f6 : mxI (buildZ 1 (fewL L)).maxN (cutC x).n = (buildZ 1 (fewL L)).maxN
          · exact ⟨_, gr_one1M0 q x (cutC x) (buildZ 1 (fewL L)) (rowsTo ((fewL L).length + 1 : Nat) (wid (buildZ 1 (fewL L)) (xI (cutC x).n))) rfl hq L (fewL L) cp o h0 rfl (few_pos h0) (few_len L) rfl (snoc_m hk hz) (by rw [hR]; rfl) hr0 hI.kind hI.kind hn0 hk rfl hz (mnI_l _ _) (mxI_l _ _) (mnI_r _ _) (mxI_r _ _) f5 f6⟩
          · exact ⟨_, gr_one1M2 q x (cutC x) (buildZ 1 (fewL L)) (rowsTo ((fewL L).length + 1 : Nat) (wid (buildZ 1 (fewL L)) (xI (cutC x).n))) rfl hq L (fewL L) cp o h0 rfl (few_pos h0) (few_len L) rfl (snoc_m hk hz) (by rw [hR]; rfl) hr0 hI.kind hI.kind hn0 hk rfl hz (mnI_l _ _) (mxI_l _ _) (mnI_r _ _) (mxI_r _ _) f5 f6 (mxI_or _ _ f6)⟩
        · by_cases f6 : mxI (buildZ 1 (fewL L)).maxN (cutC x).n = (buildZ 1 (fewL L)).maxN
          · exact ⟨_, gr_one1M1 q x (cutC x) (buildZ 1 (fewL L)) (rowsTo ((fewL L).length + 1 : Nat) (wid (buildZ 1 (fewL L)) (xI (cutC x).n))) rfl hq L (fewL L) cp o h0 rfl (few_pos h0) (few_len L) rfl (snoc_m hk hz) (by rw [hR]; rfl) hr0 hI.kind hI.kind hn0 hk rfl hz (mnI_l _ _) (mxI_l _ _) (mnI_r _ _) (mxI_r _ _) f5 (mnI_or _ _ f5) f6⟩
          · exact ⟨_, gr_one1M3 q x (cutC x) (buildZ 1 (fewL L)) (rowsTo ((fewL L).length + 1 : Nat) (wid (buildZ 1 (fewL L)) (xI (cutC x).n))) rfl hq L (fewL L) cp o h0 rfl (few_pos h0) (few_len L) rfl (snoc_m hk hz) (by rw [hR]; rfl) hr0 hI.kind hI.kind hn0 hk rfl hz (mnI_l _ _) (mxI_l _ _) (mnI_r _ _) (mxI_r _ _) f5 (mnI_or _ _ f5) f6 (mxI_or _ _ f6)⟩
    · exact ⟨_, gr_one1N0 q x (cutC x) (buildZ 1 (fewL L)) (rowsTo ((fewL L).length + 1 : Nat) (nulled (buildZ 1 (fewL L)))) rfl hq L (fewL L) cp o h0 rfl (few_pos h0) (few_len L) rfl (snoc_n hk) (by rw [hR]; rfl) hr0 hI.kind hI.kind hn0 hk rfl rfl rfl (seq_refl _) (seq_refl _)⟩
  · have hI := inv_build 2 (fewL L)
    have hR := rows_build 2 (fewL L)
    have hr0 : 0 ≤ (buildZ 2 (fewL L)).rows ∧ (buildZ 2 (fewL L)).rows ≤ 100 := by rw [hR]; omega
    have hn0 : 0 ≤ (buildZ 2 (fewL L)).nulls ∧ (buildZ 2 (fewL L)).nulls ≤ 100 := ⟨hI.n0, by have : (buildZ 2 (fewL L)).nulls ≤ ((fewL L).length : Int) := hI.n1; omega⟩
    by_cases hk : (cutC x).kind = 2
    · by_cases hz : (buildZ 2 (fewL L)).rows = (buildZ 2 (fewL L)).nulls
      · exact ⟨_, gr_one2Z0 q x (cutC x) (buildZ 2 (fewL L)) (rowsTo ((fewL L).length + 1 : Nat) (wid (widF (buildZ 2 (fewL L)) (xT (cutC x).s)) (xT (cutC x).s))) rfl hq L (fewL L) cp o h0 rfl (few_pos h0) (few_len L) rfl (snoc_z hk hz) (by rw [hR]; rfl) hr0 hI.kind hI.kind hn0 hk rfl hz (seq_eq (mnS_self _)) (seq_eq (mxS_self _))⟩
      · cases f5 : seq (mnS (buildZ 2 (fewL L)).minS (cutC x).s) (buildZ 2 (fewL L)).minS with
        | true => cases f6 : seq (mxS (buildZ 2 (fewL L)).maxS (cutC x).s) (buildZ 2 (fewL L)).maxS with
          | true => exact ⟨_, gr_one2M0 q x (cutC x) (buildZ 2 (fewL L)) (rowsTo ((fewL L).length + 1 : Nat) (wid (buildZ 2 (fewL L)) (xT (cutC x).s))) rfl hq L (fewL L) cp o h0 rfl (few_pos h0) (few_len L) rfl (snoc_m hk hz) (by rw [hR]; rfl) hr0 hI.kind hI.kind hn0 hk rfl hz (mnS_l _ _) (mxS_l _ _) (mnS_r _ _) (mxS_r _ _) f5 f6⟩
          | false => exact ⟨_, gr_one2M2 q x (cutC x) (buildZ 2 (fewL L)) (rowsTo ((fewL L).length + 1 : Nat) (wid (buildZ 2 (fewL L)) (xT (cutC x).s))) rfl hq L (fewL L) cp o h0 rfl (few_pos h0) (few_len L) rfl (snoc_m hk hz) (by rw [hR]; rfl) hr0 hI.kind hI.kind hn0 hk rfl hz (mnS_l _ _) (mxS_l _ _) (mnS_r _ _) (mxS_r _ _) f5 f6 (mxS_or' _ _ f6)⟩
        | false => cases f6 : seq (mxS (buildZ 2 (fewL L)).maxS (cutC x).s) (buildZ 2 (fewL L)).maxS with
          | true => exact ⟨_, gr_one2M1 q x (cutC x) (buildZ 2 (fewL L)) (rowsTo ((fewL L).length + 1 : Nat) (wid (buildZ 2 (fewL L)) (xT (cutC x).s))) rfl hq L (fewL L) cp o h0 rfl (few_pos h0) (few_len L) rfl (snoc_m hk hz) (by rw [hR]; rfl) hr0 hI.kind hI.kind hn0 hk rfl hz (mnS_l _ _) (mxS_l _ _) (mnS_r _ _) (mxS_r _ _) f5 (mnS_or' _ _ f5) f6⟩
          | false => exact ⟨_, gr_one2M3 q x (cutC x) (buildZ 2 (fewL L)) (rowsTo ((fewL L).length + 1 : Nat) (wid (buildZ 2 (fewL L)) (xT (cutC x).s))) rfl hq L (fewL L) cp o h0 rfl (few_pos h0) (few_len L) rfl (snoc_m hk hz) (by rw [hR]; rfl) hr0 hI.kind hI.kind hn0 hk rfl hz (mnS_l _ _) (mxS_l _ _) (mnS_r _ _) (mxS_r _ _) f5 (mnS_or' _ _ f5) f6 (mxS_or' _ _ f6)⟩
    · exact ⟨_, gr_one2N0 q x (cutC x) (buildZ 2 (fewL L)) (rowsTo ((fewL L).length + 1 : Nat) (nulled (buildZ 2 (fewL L)))) rfl hq L (fewL L) cp o h0 rfl (few_pos h0) (few_len L) rfl (snoc_n hk) (by rw [hR]; rfl) hr0 hI.kind hI.kind hn0 hk rfl rfl rfl (seq_refl _) (seq_refl _)⟩

theorem grows_pure (q : Int) (x : Cl) (A : AV) (m : Mem) (h : ∀ B, GrowsEnd B ⟨⟨247, [(0, .s (.int .i64 q)), (1, A), (2, .agg x.cells)]⟩, m, 1⟩) : PureDoes Try.prog 3 [.s (.int .i64 q), A, .agg x.cells] m 1 (.s (.bool true)) :=
  PureDoes.of_ends (fn := Try.f3) (body := Try.f3.body.getD .skip) Try.func3 (by kernel_rfl) (by kernel_rfl) (k := 247) (by kernel_rfl) fun B => by
    obtain ⟨c', hc⟩ := h B
    exact ⟨.ret, _, .inr rfl, hc, by kernel_rfl⟩
theorem GrowsEnd.before {B n c : Nat} {l : List (Nat × AV)} {m : Mem} (h : GrowsEnd B ⟨⟨n, l⟩, [], c⟩) : GrowsEnd B ⟨⟨n, l⟩, m, c⟩ := by
  obtain ⟨c', hc⟩ := h
  exact ⟨c', hc.before Less.empty⟩
end Go.Proofs.Ytgejenhcloiieaa.Z8
