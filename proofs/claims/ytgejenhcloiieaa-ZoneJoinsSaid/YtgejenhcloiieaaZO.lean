/- ZoneJoins answers true. Printed by gen_zonen.py. -/
import Derived.Test.YtgejenhcloiieaaZM
import Derived.Test.YtgejenhcloiieaaZLN
namespace Go.Proofs.Ytgejenhcloiieaa.Z8
open Go Go.RowKit Go.Proofs Go.Proofs.Ytgejenhcloiieaa.Eng
set_option linter.unusedVariables false
set_option linter.unusedSimpArgs false

abbrev JoinsEnd (B : Nat) (s : St) : Prop := ∃ c', CodeDoes Try.prog B (Try.f5.body.getD .skip) s .ret ⟨⟨205, [(8, .s (.bool true))]⟩, [], c'⟩
theorem within_zero (x : Int) : within x 0 = 0 := by
  have := within_range (x := x) (hi := 0) (by omega)
  omega
theorem nil_right (K : Int) (hK : K = 1 ∨ K = 2) : Rgt (buildZ K []) := right_build K hK [] (by simp) (fun x hx => by cases hx)
theorem nil_join (K : Int) (hK : K = 1 ∨ K = 2) : jz (buildZ K []) (buildZ K []) = buildZ K [] := by
  rw [jz_def]; exact join_build K hK [] []
theorem rows40 (K : Int) (L : List Cl) (h : L.length ≤ 40) : (buildZ K L).rows ≤ 40 := by rw [rows_build]; omega
theorem joins_nil {B : Nat} (q cu mo : Int) : JoinsEnd B ⟨⟨205, [(0, .s (.int .i64 q)), (1, .s .sl0), (2, .s (.int .i64 cu)), (3, .s (.int .i64 mo))]⟩, [], 1⟩ := by
  by_cases hq : q % 2 = 0
  · exact ⟨_, jo_nil1 q cu mo hq none (within_zero cu) (within_zero mo) (buildZ 1 []) (bz_def 1 []) (nil_join 1 (.inl rfl)) (nil_right 1 (.inl rfl)) rfl rfl rfl⟩
  · exact ⟨_, jo_nil2 q cu mo hq none (within_zero cu) (within_zero mo) (buildZ 2 []) (bz_def 2 []) (nil_join 2 (.inr rfl)) (nil_right 2 (.inr rfl)) rfl rfl rfl⟩
theorem joins_emp {B : Nat} (q cu mo : Int) (cp : Option Nat) : JoinsEnd B ⟨⟨205, [(0, .s (.int .i64 q)), (1, .s (.sl 0 0 0 cp 4)), (2, .s (.int .i64 cu)), (3, .s (.int .i64 mo))]⟩, [], 1⟩ := by
  by_cases hq : q % 2 = 0
  · exact ⟨_, jo_emp1 q cu mo hq cp (within_zero cu) (within_zero mo) (buildZ 1 []) (bz_def 1 []) (nil_join 1 (.inl rfl)) (nil_right 1 (.inl rfl)) rfl rfl rfl⟩
  · exact ⟨_, jo_emp2 q cu mo hq cp (within_zero cu) (within_zero mo) (buildZ 2 []) (bz_def 2 []) (nil_join 2 (.inr rfl)) (nil_right 2 (.inr rfl)) rfl rfl rfl⟩
theorem joins_one {B : Nat} (q cu mo : Int) (L : List Cl) (cp : Option Nat) (o : Bool) (h0 : 0 < L.length) : JoinsEnd B ⟨⟨205, [(0, .s (.int .i64 q)), (1, .s (.sl 0 0 L.length cp 4)), (2, .s (.int .i64 cu)), (3, .s (.int .i64 mo))]⟩, [(0, some ⟨flat Cl.cells L, o⟩)], 1⟩ := by
  obtain ⟨F, hF⟩ : ∃ F, fewL L = F := ⟨_, rfl⟩
  obtain ⟨G, hG⟩ : ∃ G, capL F = G := ⟨_, rfl⟩
  have hF1 : F.length ≤ 40 := by rw [← hF]; exact few_len L
  have hF0 : 0 < F.length := by rw [← hF]; exact few_pos h0
  have hGl : G.length = F.length := by rw [← hG, List.length_map]
  have hG0 : 0 < G.length := by omega
  have hG1 : G.length ≤ 40 := by omega
  have hc : Capped G := by rw [← hG]; exact cap_capped F
  have hw := within_range (x := cu) (hi := (G.length : Int)) (by omega)
  obtain ⟨k, hk⟩ : ∃ k : Nat, within cu (G.length : Int) = (k : Int) := ⟨_, (Int.toNat_of_nonneg hw.1).symm⟩
  have hkl : k ≤ G.length := by omega
  have hv := within_range (x := mo) (hi := (G.length : Int) - (k : Int)) (by omega)
  obtain ⟨m, hm⟩ : ∃ m : Nat, within mo ((G.length : Int) - (k : Int)) = (m : Int) := ⟨_, (Int.toNat_of_nonneg hv.1).symm⟩
  have hml : k + m ≤ G.length := by omega
  have cases6 : (k = 0 ∧ k + m = 0) ∨ (k = 0 ∧ 0 < k + m ∧ k + m < G.length) ∨ (k = 0 ∧ 0 < k + m ∧ k + m = G.length) ∨ ((0 < k ∧ k < G.length) ∧ 0 < k + m ∧ k + m < G.length) ∨ ((0 < k ∧ k < G.length) ∧ 0 < k + m ∧ k + m = G.length) ∨ ((0 < k ∧ k = G.length ∧ m = 0) ∧ 0 < k + m ∧ k + m = G.length) := by omega
  by_cases hq : q % 2 = 0
  · have hK : (1 : Int) = 1 ∨ (1 : Int) = 2 := by simp
    have R : ∀ X : List Cl, X.length ≤ 40 → Capped X → Rgt (buildZ 1 X) := fun X hX hX2 => right_build 1 hK X hX hX2
    have J1 : joinZ (buildZ 1 (G.take k)) (buildZ 1 (G.drop k)) = buildZ 1 G := by rw [join_build 1 hK, List.take_append_drop]
    have J2 : joinZ (buildZ 1 ((G.drop k).take m)) (buildZ 1 (G.drop (k + m))) = buildZ 1 (G.drop k) := by rw [join_build 1 hK, ← List.drop_drop, List.take_append_drop]
    rcases cases6 with ⟨k0, n0⟩ | ⟨k0, n0, n1⟩ | ⟨k0, n0, n1⟩ | ⟨⟨k0, k1⟩, n0, n1⟩ | ⟨⟨k0, k1⟩, n0, n1⟩ | ⟨⟨k0, k1, m0⟩, n0, n1⟩
    · -- SS
      have hD : G.drop k = G := by rw [k0, List.drop_zero]
      have hN : G.drop (k + m) = G := by rw [n0, List.drop_zero]
      have hM : G.take m = (G.drop k).take m := by rw [hD]
      have j1 : jz (buildZ 1 (G.take k)) (buildZ 1 (G)) = (buildZ 1 (G)) := by
        have J := J1
        rw [hD] at J
        rw [jz_def]; exact J
      have j2 : jz (buildZ 1 ((G.drop k).take m)) (buildZ 1 (G)) = (buildZ 1 (G.drop k)) := by
        have J := J2
        rw [hN] at J
        rw [jz_def]; exact J
      have j3 : jz (buildZ 1 (G.take k)) (buildZ 1 (G.drop k)) = (buildZ 1 (G)) := by
        have J := J1
        rw [jz_def]; exact J
      exact ⟨_, jo_SS1 q cu mo hq L F G cp o h0 hF hF1 hG hG0 hG1 k m hk hm k0 n0 (buildZ 1 (G)) (buildZ 1 (G.take k)) (buildZ 1 (G.drop k)) (buildZ 1 ((G.drop k).take m)) (buildZ 1 (G.drop (k + m))) (buildZ 1 (G.drop k)) (bz_def 1 G) (bz_def 1 _) (congrArg (buildZ 1) hD) ((bz_def 1 _).trans (congrArg (buildZ 1) hM)) (congrArg (buildZ 1) hN) j1 j2 j3 (R _ (by first | exact hG1 | (simp only [List.length_take, List.length_drop]; omega)) (by first | exact hc | exact hc.take _ | exact hc.drop _ | exact (hc.drop _).take _)) (inv_build 1 _).kind (rows40 1 _ (by first | exact hG1 | (simp only [List.length_take, List.length_drop]; omega))) (R _ (by first | exact hG1 | (simp only [List.length_take, List.length_drop]; omega)) (by first | exact hc | exact hc.take _ | exact hc.drop _ | exact (hc.drop _).take _)) (inv_build 1 _).kind (rows40 1 _ (by first | exact hG1 | (simp only [List.length_take, List.length_drop]; omega))) (R _ (by first | exact hG1 | (simp only [List.length_take, List.length_drop]; omega)) (by first | exact hc | exact hc.take _ | exact hc.drop _ | exact (hc.drop _).take _)) (inv_build 1 _).kind (rows40 1 _ (by first | exact hG1 | (simp only [List.length_take, List.length_drop]; omega))) (R _ (by first | exact hG1 | (simp only [List.length_take, List.length_drop]; omega)) (by first | exact hc | exact hc.take _ | exact hc.drop _ | exact (hc.drop _).take _)) (inv_build 1 _).kind (rows40 1 _ (by first | exact hG1 | (simp only [List.length_take, List.length_drop]; omega))) (R _ (by first | exact hG1 | (simp only [List.length_take, List.length_drop]; omega)) (by first | exact hc | exact hc.take _ | exact hc.drop _ | exact (hc.drop _).take _)) (inv_build 1 _).kind (rows40 1 _ (by first | exact hG1 | (simp only [List.length_take, List.length_drop]; omega))) (R _ (by first | exact hG1 | (simp only [List.length_take, List.length_drop]; omega)) (by first | exact hc | exact hc.take _ | exact hc.drop _ | exact (hc.drop _).take _)) (inv_build 1 _).kind (rows40 1 _ (by first | exact hG1 | (simp only [List.length_take, List.length_drop]; omega))) (inz_build 1 (by simp) G) (nulls_build 1 G).symm (rows_build 1 G)⟩
    · -- SZ
      have hD : G.drop k = G := by rw [k0, List.drop_zero]
      have hM : G.take m = (G.drop k).take m := by rw [hD]
      have j1 : jz (buildZ 1 (G.take k)) (buildZ 1 (G)) = (buildZ 1 (G)) := by
        have J := J1
        rw [hD] at J
        rw [jz_def]; exact J
      have j2 : jz (buildZ 1 ((G.drop k).take m)) (buildZ 1 (G.drop (k + m))) = (buildZ 1 (G.drop k)) := by
        have J := J2
        rw [jz_def]; exact J
      have j3 : jz (buildZ 1 (G.take k)) (buildZ 1 (G.drop k)) = (buildZ 1 (G)) := by
        have J := J1
        rw [jz_def]; exact J
      exact ⟨_, jo_SZ1 q cu mo hq L F G cp o h0 hF hF1 hG hG0 hG1 k m hk hm k0 n0 n1 (buildZ 1 (G)) (buildZ 1 (G.take k)) (buildZ 1 (G.drop k)) (buildZ 1 ((G.drop k).take m)) (buildZ 1 (G.drop (k + m))) (buildZ 1 (G.drop k)) (bz_def 1 G) (bz_def 1 _) (congrArg (buildZ 1) hD) ((bz_def 1 _).trans (congrArg (buildZ 1) hM)) (bz_def 1 _) j1 j2 j3 (R _ (by first | exact hG1 | (simp only [List.length_take, List.length_drop]; omega)) (by first | exact hc | exact hc.take _ | exact hc.drop _ | exact (hc.drop _).take _)) (inv_build 1 _).kind (rows40 1 _ (by first | exact hG1 | (simp only [List.length_take, List.length_drop]; omega))) (R _ (by first | exact hG1 | (simp only [List.length_take, List.length_drop]; omega)) (by first | exact hc | exact hc.take _ | exact hc.drop _ | exact (hc.drop _).take _)) (inv_build 1 _).kind (rows40 1 _ (by first | exact hG1 | (simp only [List.length_take, List.length_drop]; omega))) (R _ (by first | exact hG1 | (simp only [List.length_take, List.length_drop]; omega)) (by first | exact hc | exact hc.take _ | exact hc.drop _ | exact (hc.drop _).take _)) (inv_build 1 _).kind (rows40 1 _ (by first | exact hG1 | (simp only [List.length_take, List.length_drop]; omega))) (R _ (by first | exact hG1 | (simp only [List.length_take, List.length_drop]; omega)) (by first | exact hc | exact hc.take _ | exact hc.drop _ | exact (hc.drop _).take _)) (inv_build 1 _).kind (rows40 1 _ (by first | exact hG1 | (simp only [List.length_take, List.length_drop]; omega))) (R _ (by first | exact hG1 | (simp only [List.length_take, List.length_drop]; omega)) (by first | exact hc | exact hc.take _ | exact hc.drop _ | exact (hc.drop _).take _)) (inv_build 1 _).kind (rows40 1 _ (by first | exact hG1 | (simp only [List.length_take, List.length_drop]; omega))) (R _ (by first | exact hG1 | (simp only [List.length_take, List.length_drop]; omega)) (by first | exact hc | exact hc.take _ | exact hc.drop _ | exact (hc.drop _).take _)) (inv_build 1 _).kind (rows40 1 _ (by first | exact hG1 | (simp only [List.length_take, List.length_drop]; omega))) (inz_build 1 (by simp) G) (nulls_build 1 G).symm (rows_build 1 G)⟩
    · -- SE
      have hD : G.drop k = G := by rw [k0, List.drop_zero]
      have hN : G.drop (k + m) = [] := List.drop_eq_nil_of_le (by omega)
      have hM : (G.drop k).take m = G := by rw [hD]; exact List.take_of_length_le (by omega)
      have j1 : jz (buildZ 1 (G.take k)) (buildZ 1 (G)) = (buildZ 1 (G)) := by
        have J := J1
        rw [hD] at J
        rw [jz_def]; exact J
      have j2 : jz (buildZ 1 (G)) (buildZ 1 (G.drop (k + m))) = (buildZ 1 (G.drop k)) := by
        have J := J2
        rw [hM] at J
        rw [jz_def]; exact J
      have j3 : jz (buildZ 1 (G.take k)) (buildZ 1 (G.drop k)) = (buildZ 1 (G)) := by
        have J := J1
        rw [jz_def]; exact J
      exact ⟨_, jo_SE1 q cu mo hq L F G cp o h0 hF hF1 hG hG0 hG1 k m hk hm k0 n0 n1 (buildZ 1 (G)) (buildZ 1 (G.take k)) (buildZ 1 (G.drop k)) (buildZ 1 ((G.drop k).take m)) (buildZ 1 (G.drop (k + m))) (buildZ 1 (G.drop k)) (bz_def 1 G) (bz_def 1 _) (congrArg (buildZ 1) hD) (congrArg (buildZ 1) hM) ((bz_def 1 []).trans (congrArg (buildZ 1) hN.symm)) j1 j2 j3 (R _ (by first | exact hG1 | (simp only [List.length_take, List.length_drop]; omega)) (by first | exact hc | exact hc.take _ | exact hc.drop _ | exact (hc.drop _).take _)) (inv_build 1 _).kind (rows40 1 _ (by first | exact hG1 | (simp only [List.length_take, List.length_drop]; omega))) (R _ (by first | exact hG1 | (simp only [List.length_take, List.length_drop]; omega)) (by first | exact hc | exact hc.take _ | exact hc.drop _ | exact (hc.drop _).take _)) (inv_build 1 _).kind (rows40 1 _ (by first | exact hG1 | (simp only [List.length_take, List.length_drop]; omega))) (R _ (by first | exact hG1 | (simp only [List.length_take, List.length_drop]; omega)) (by first | exact hc | exact hc.take _ | exact hc.drop _ | exact (hc.drop _).take _)) (inv_build 1 _).kind (rows40 1 _ (by first | exact hG1 | (simp only [List.length_take, List.length_drop]; omega))) (R _ (by first | exact hG1 | (simp only [List.length_take, List.length_drop]; omega)) (by first | exact hc | exact hc.take _ | exact hc.drop _ | exact (hc.drop _).take _)) (inv_build 1 _).kind (rows40 1 _ (by first | exact hG1 | (simp only [List.length_take, List.length_drop]; omega))) (R _ (by first | exact hG1 | (simp only [List.length_take, List.length_drop]; omega)) (by first | exact hc | exact hc.take _ | exact hc.drop _ | exact (hc.drop _).take _)) (inv_build 1 _).kind (rows40 1 _ (by first | exact hG1 | (simp only [List.length_take, List.length_drop]; omega))) (R _ (by first | exact hG1 | (simp only [List.length_take, List.length_drop]; omega)) (by first | exact hc | exact hc.take _ | exact hc.drop _ | exact (hc.drop _).take _)) (inv_build 1 _).kind (rows40 1 _ (by first | exact hG1 | (simp only [List.length_take, List.length_drop]; omega))) (inz_build 1 (by simp) G) (nulls_build 1 G).symm (rows_build 1 G)⟩
    · -- ZZ
      have j1 : jz (buildZ 1 (G.take k)) (buildZ 1 (G.drop k)) = (buildZ 1 (G)) := by
        have J := J1
        rw [jz_def]; exact J
      have j2 : jz (buildZ 1 ((G.drop k).take m)) (buildZ 1 (G.drop (k + m))) = (buildZ 1 (G.drop k)) := by
        have J := J2
        rw [jz_def]; exact J
      have j3 : jz (buildZ 1 (G.take k)) (buildZ 1 (G.drop k)) = (buildZ 1 (G)) := by
        have J := J1
        rw [jz_def]; exact J
      exact ⟨_, jo_ZZ1 q cu mo hq L F G cp o h0 hF hF1 hG hG0 hG1 k m hk hm k0 k1 n0 n1 (buildZ 1 (G)) (buildZ 1 (G.take k)) (buildZ 1 (G.drop k)) (buildZ 1 ((G.drop k).take m)) (buildZ 1 (G.drop (k + m))) (buildZ 1 (G.drop k)) (bz_def 1 G) (bz_def 1 _) (bz_def 1 _) (bz_def 1 _) (bz_def 1 _) j1 j2 j3 (R _ (by first | exact hG1 | (simp only [List.length_take, List.length_drop]; omega)) (by first | exact hc | exact hc.take _ | exact hc.drop _ | exact (hc.drop _).take _)) (inv_build 1 _).kind (rows40 1 _ (by first | exact hG1 | (simp only [List.length_take, List.length_drop]; omega))) (R _ (by first | exact hG1 | (simp only [List.length_take, List.length_drop]; omega)) (by first | exact hc | exact hc.take _ | exact hc.drop _ | exact (hc.drop _).take _)) (inv_build 1 _).kind (rows40 1 _ (by first | exact hG1 | (simp only [List.length_take, List.length_drop]; omega))) (R _ (by first | exact hG1 | (simp only [List.length_take, List.length_drop]; omega)) (by first | exact hc | exact hc.take _ | exact hc.drop _ | exact (hc.drop _).take _)) (inv_build 1 _).kind (rows40 1 _ (by first | exact hG1 | (simp only [List.length_take, List.length_drop]; omega))) (R _ (by first | exact hG1 | (simp only [List.length_take, List.length_drop]; omega)) (by first | exact hc | exact hc.take _ | exact hc.drop _ | exact (hc.drop _).take _)) (inv_build 1 _).kind (rows40 1 _ (by first | exact hG1 | (simp only [List.length_take, List.length_drop]; omega))) (R _ (by first | exact hG1 | (simp only [List.length_take, List.length_drop]; omega)) (by first | exact hc | exact hc.take _ | exact hc.drop _ | exact (hc.drop _).take _)) (inv_build 1 _).kind (rows40 1 _ (by first | exact hG1 | (simp only [List.length_take, List.length_drop]; omega))) (R _ (by first | exact hG1 | (simp only [List.length_take, List.length_drop]; omega)) (by first | exact hc | exact hc.take _ | exact hc.drop _ | exact (hc.drop _).take _)) (inv_build 1 _).kind (rows40 1 _ (by first | exact hG1 | (simp only [List.length_take, List.length_drop]; omega))) (inz_build 1 (by simp) G) (nulls_build 1 G).symm (rows_build 1 G)⟩
    · -- ZE
      have hN : G.drop (k + m) = [] := List.drop_eq_nil_of_le (by omega)
      have hM : (G.drop k).take m = G.drop k := List.take_of_length_le (by rw [List.length_drop]; omega)
      have j1 : jz (buildZ 1 (G.take k)) (buildZ 1 (G.drop k)) = (buildZ 1 (G)) := by
        have J := J1
        rw [jz_def]; exact J
      have j2 : jz (buildZ 1 (G.drop k)) (buildZ 1 (G.drop (k + m))) = (buildZ 1 (G.drop k)) := by
        have J := J2
        rw [hM] at J
        rw [jz_def]; exact J
      have j3 : jz (buildZ 1 (G.take k)) (buildZ 1 (G.drop k)) = (buildZ 1 (G)) := by
        have J := J1
        rw [jz_def]; exact J
      exact ⟨_, jo_ZE1 q cu mo hq L F G cp o h0 hF hF1 hG hG0 hG1 k m hk hm k0 k1 n0 n1 (buildZ 1 (G)) (buildZ 1 (G.take k)) (buildZ 1 (G.drop k)) (buildZ 1 ((G.drop k).take m)) (buildZ 1 (G.drop (k + m))) (buildZ 1 (G.drop k)) (bz_def 1 G) (bz_def 1 _) (bz_def 1 _) (congrArg (buildZ 1) hM) ((bz_def 1 []).trans (congrArg (buildZ 1) hN.symm)) j1 j2 j3 (R _ (by first | exact hG1 | (simp only [List.length_take, List.length_drop]; omega)) (by first | exact hc | exact hc.take _ | exact hc.drop _ | exact (hc.drop _).take _)) (inv_build 1 _).kind (rows40 1 _ (by first | exact hG1 | (simp only [List.length_take, List.length_drop]; omega))) (R _ (by first | exact hG1 | (simp only [List.length_take, List.length_drop]; omega)) (by first | exact hc | exact hc.take _ | exact hc.drop _ | exact (hc.drop _).take _)) (inv_build 1 _).kind (rows40 1 _ (by first | exact hG1 | (simp only [List.length_take, List.length_drop]; omega))) (R _ (by first | exact hG1 | (simp only [List.length_take, List.length_drop]; omega)) (by first | exact hc | exact hc.take _ | exact hc.drop _ | exact (hc.drop _).take _)) (inv_build 1 _).kind (rows40 1 _ (by first | exact hG1 | (simp only [List.length_take, List.length_drop]; omega))) (R _ (by first | exact hG1 | (simp only [List.length_take, List.length_drop]; omega)) (by first | exact hc | exact hc.take _ | exact hc.drop _ | exact (hc.drop _).take _)) (inv_build 1 _).kind (rows40 1 _ (by first | exact hG1 | (simp only [List.length_take, List.length_drop]; omega))) (R _ (by first | exact hG1 | (simp only [List.length_take, List.length_drop]; omega)) (by first | exact hc | exact hc.take _ | exact hc.drop _ | exact (hc.drop _).take _)) (inv_build 1 _).kind (rows40 1 _ (by first | exact hG1 | (simp only [List.length_take, List.length_drop]; omega))) (R _ (by first | exact hG1 | (simp only [List.length_take, List.length_drop]; omega)) (by first | exact hc | exact hc.take _ | exact hc.drop _ | exact (hc.drop _).take _)) (inv_build 1 _).kind (rows40 1 _ (by first | exact hG1 | (simp only [List.length_take, List.length_drop]; omega))) (inz_build 1 (by simp) G) (nulls_build 1 G).symm (rows_build 1 G)⟩
    · -- EE
      have hD : G.drop k = [] := List.drop_eq_nil_of_le (by omega)
      have hT : G.take k = G := List.take_of_length_le (by omega)
      have hN : G.drop (k + m) = G.drop k := by rw [hD]; exact List.drop_eq_nil_of_le (by omega)
      have hM : (G.drop k).take m = G.drop k := List.take_of_length_le (by rw [List.length_drop]; omega)
      have j1 : jz (buildZ 1 (G)) (buildZ 1 (G.drop k)) = (buildZ 1 (G)) := by
        have J := J1
        rw [hT] at J
        rw [jz_def]; exact J
      have j2 : jz (buildZ 1 (G.drop k)) (buildZ 1 (G.drop k)) = (buildZ 1 (G.drop k)) := by
        have J := J2
        rw [hM] at J
        rw [hN] at J
        rw [jz_def]; exact J
      have j3 : jz (buildZ 1 (G)) (buildZ 1 (G.drop k)) = (buildZ 1 (G)) := by
        have J := J1
        rw [hT] at J
        rw [jz_def]; exact J
      exact ⟨_, jo_EE1 q cu mo hq L F G cp o h0 hF hF1 hG hG0 hG1 k m hk hm k0 k1 m0 n0 n1 (buildZ 1 (G)) (buildZ 1 (G.take k)) (buildZ 1 (G.drop k)) (buildZ 1 ((G.drop k).take m)) (buildZ 1 (G.drop (k + m))) (buildZ 1 (G.drop k)) (bz_def 1 G) (congrArg (buildZ 1) hT) ((bz_def 1 []).trans (congrArg (buildZ 1) hD.symm)) (congrArg (buildZ 1) hM) (congrArg (buildZ 1) hN) j1 j2 j3 (R _ (by first | exact hG1 | (simp only [List.length_take, List.length_drop]; omega)) (by first | exact hc | exact hc.take _ | exact hc.drop _ | exact (hc.drop _).take _)) (inv_build 1 _).kind (rows40 1 _ (by first | exact hG1 | (simp only [List.length_take, List.length_drop]; omega))) (R _ (by first | exact hG1 | (simp only [List.length_take, List.length_drop]; omega)) (by first | exact hc | exact hc.take _ | exact hc.drop _ | exact (hc.drop _).take _)) (inv_build 1 _).kind (rows40 1 _ (by first | exact hG1 | (simp only [List.length_take, List.length_drop]; omega))) (R _ (by first | exact hG1 | (simp only [List.length_take, List.length_drop]; omega)) (by first | exact hc | exact hc.take _ | exact hc.drop _ | exact (hc.drop _).take _)) (inv_build 1 _).kind (rows40 1 _ (by first | exact hG1 | (simp only [List.length_take, List.length_drop]; omega))) (R _ (by first | exact hG1 | (simp only [List.length_take, List.length_drop]; omega)) (by first | exact hc | exact hc.take _ | exact hc.drop _ | exact (hc.drop _).take _)) (inv_build 1 _).kind (rows40 1 _ (by first | exact hG1 | (simp only [List.length_take, List.length_drop]; omega))) (R _ (by first | exact hG1 | (simp only [List.length_take, List.length_drop]; omega)) (by first | exact hc | exact hc.take _ | exact hc.drop _ | exact (hc.drop _).take _)) (inv_build 1 _).kind (rows40 1 _ (by first | exact hG1 | (simp only [List.length_take, List.length_drop]; omega))) (R _ (by first | exact hG1 | (simp only [List.length_take, List.length_drop]; omega)) (by first | exact hc | exact hc.take _ | exact hc.drop _ | exact (hc.drop _).take _)) (inv_build 1 _).kind (rows40 1 _ (by first | exact hG1 | (simp only [List.length_take, List.length_drop]; omega))) (inz_build 1 (by simp) G) (nulls_build 1 G).symm (rows_build 1 G)⟩
  · have hK : (2 : Int) = 1 ∨ (2 : Int) = 2 := by simp
    have R : ∀ X : List Cl, X.length ≤ 40 → Capped X → Rgt (buildZ 2 X) := fun X hX hX2 => right_build 2 hK X hX hX2
    have J1 : joinZ (buildZ 2 (G.take k)) (buildZ 2 (G.drop k)) = buildZ 2 G := by rw [join_build 2 hK, List.take_append_drop]
    have J2 : joinZ (buildZ 2 ((G.drop k).take m)) (buildZ 2 (G.drop (k + m))) = buildZ 2 (G.drop k) := by rw [join_build 2 hK, ← List.drop_drop, List.take_append_drop]
    rcases cases6 with ⟨k0, n0⟩ | ⟨k0, n0, n1⟩ | ⟨k0, n0, n1⟩ | ⟨⟨k0, k1⟩, n0, n1⟩ | ⟨⟨k0, k1⟩, n0, n1⟩ | ⟨⟨k0, k1, m0⟩, n0, n1⟩
    · -- SS
      have hD : G.drop k = G := by rw [k0, List.drop_zero]
      have hN : G.drop (k + m) = G := by rw [n0, List.drop_zero]
      have hM : G.take m = (G.drop k).take m := by rw [hD]
      have j1 : jz (buildZ 2 (G.take k)) (buildZ 2 (G)) = (buildZ 2 (G)) := by
        have J := J1
        rw [hD] at J
        rw [jz_def]; exact J
      have j2 : jz (buildZ 2 ((G.drop k).take m)) (buildZ 2 (G)) = (buildZ 2 (G.drop k)) := by
        have J := J2
        rw [hN] at J
        rw [jz_def]; exact J
      have j3 : jz (buildZ 2 (G.take k)) (buildZ 2 (G.drop k)) = (buildZ 2 (G)) := by
        have J := J1
        rw [jz_def]; exact J
      exact ⟨_, jo_SS2 q cu mo hq L F G cp o h0 hF hF1 hG hG0 hG1 k m hk hm k0 n0 (buildZ 2 (G)) (buildZ 2 (G.take k)) (buildZ 2 (G.drop k)) (buildZ 2 ((G.drop k).take m)) (buildZ 2 (G.drop (k + m))) (buildZ 2 (G.drop k)) (bz_def 2 G) (bz_def 2 _) (congrArg (buildZ 2) hD) ((bz_def 2 _).trans (congrArg (buildZ 2) hM)) (congrArg (buildZ 2) hN) j1 j2 j3 (R _ (by first | exact hG1 | (simp only [List.length_take, List.length_drop]; omega)) (by first | exact hc | exact hc.take _ | exact hc.drop _ | exact (hc.drop _).take _)) (inv_build 2 _).kind (rows40 2 _ (by first | exact hG1 | (simp only [List.length_take, List.length_drop]; omega))) (R _ (by first | exact hG1 | (simp only [List.length_take, List.length_drop]; omega)) (by first | exact hc | exact hc.take _ | exact hc.drop _ | exact (hc.drop _).take _)) (inv_build 2 _).kind (rows40 2 _ (by first | exact hG1 | (simp only [List.length_take, List.length_drop]; omega))) (R _ (by first | exact hG1 | (simp only [List.length_take, List.length_drop]; omega)) (by first | exact hc | exact hc.take _ | exact hc.drop _ | exact (hc.drop _).take _)) (inv_build 2 _).kind (rows40 2 _ (by first | exact hG1 | (simp only [List.length_take, List.length_drop]; omega))) (R _ (by first | exact hG1 | (simp only [List.length_take, List.length_drop]; omega)) (by first | exact hc | exact hc.take _ | exact hc.drop _ | exact (hc.drop _).take _)) (inv_build 2 _).kind (rows40 2 _ (by first | exact hG1 | (simp only [List.length_take, List.length_drop]; omega))) (R _ (by first | exact hG1 | (simp only [List.length_take, List.length_drop]; omega)) (by first | exact hc | exact hc.take _ | exact hc.drop _ | exact (hc.drop _).take _)) (inv_build 2 _).kind (rows40 2 _ (by first | exact hG1 | (simp only [List.length_take, List.length_drop]; omega))) (R _ (by first | exact hG1 | (simp only [List.length_take, List.length_drop]; omega)) (by first | exact hc | exact hc.take _ | exact hc.drop _ | exact (hc.drop _).take _)) (inv_build 2 _).kind (rows40 2 _ (by first | exact hG1 | (simp only [List.length_take, List.length_drop]; omega))) (inz_build 2 (by simp) G) (nulls_build 2 G).symm (rows_build 2 G)⟩
    · -- SZ
      have hD : G.drop k = G := by rw [k0, List.drop_zero]
      have hM : G.take m = (G.drop k).take m := by rw [hD]
      have j1 : jz (buildZ 2 (G.take k)) (buildZ 2 (G)) = (buildZ 2 (G)) := by
        have J := J1
        rw [hD] at J
        rw [jz_def]; exact J
      have j2 : jz (buildZ 2 ((G.drop k).take m)) (buildZ 2 (G.drop (k + m))) = (buildZ 2 (G.drop k)) := by
        have J := J2
        rw [jz_def]; exact J
      have j3 : jz (buildZ 2 (G.take k)) (buildZ 2 (G.drop k)) = (buildZ 2 (G)) := by
        have J := J1
        rw [jz_def]; exact J
      exact ⟨_, jo_SZ2 q cu mo hq L F G cp o h0 hF hF1 hG hG0 hG1 k m hk hm k0 n0 n1 (buildZ 2 (G)) (buildZ 2 (G.take k)) (buildZ 2 (G.drop k)) (buildZ 2 ((G.drop k).take m)) (buildZ 2 (G.drop (k + m))) (buildZ 2 (G.drop k)) (bz_def 2 G) (bz_def 2 _) (congrArg (buildZ 2) hD) ((bz_def 2 _).trans (congrArg (buildZ 2) hM)) (bz_def 2 _) j1 j2 j3 (R _ (by first | exact hG1 | (simp only [List.length_take, List.length_drop]; omega)) (by first | exact hc | exact hc.take _ | exact hc.drop _ | exact (hc.drop _).take _)) (inv_build 2 _).kind (rows40 2 _ (by first | exact hG1 | (simp only [List.length_take, List.length_drop]; omega))) (R _ (by first | exact hG1 | (simp only [List.length_take, List.length_drop]; omega)) (by first | exact hc | exact hc.take _ | exact hc.drop _ | exact (hc.drop _).take _)) (inv_build 2 _).kind (rows40 2 _ (by first | exact hG1 | (simp only [List.length_take, List.length_drop]; omega))) (R _ (by first | exact hG1 | (simp only [List.length_take, List.length_drop]; omega)) (by first | exact hc | exact hc.take _ | exact hc.drop _ | exact (hc.drop _).take _)) (inv_build 2 _).kind (rows40 2 _ (by first | exact hG1 | (simp only [List.length_take, List.length_drop]; omega))) (R _ (by first | exact hG1 | (simp only [List.length_take, List.length_drop]; omega)) (by first | exact hc | exact hc.take _ | exact hc.drop _ | exact (hc.drop _).take _)) (inv_build 2 _).kind (rows40 2 _ (by first | exact hG1 | (simp only [List.length_take, List.length_drop]; omega))) (R _ (by first | exact hG1 | (simp only [List.length_take, List.length_drop]; omega)) (by first | exact hc | exact hc.take _ | exact hc.drop _ | exact (hc.drop _).take _)) (inv_build 2 _).kind (rows40 2 _ (by first | exact hG1 | (simp only [List.length_take, List.length_drop]; omega))) (R _ (by first | exact hG1 | (simp only [List.length_take, List.length_drop]; omega)) (by first | exact hc | exact hc.take _ | exact hc.drop _ | exact (hc.drop _).take _)) (inv_build 2 _).kind (rows40 2 _ (by first | exact hG1 | (simp only [List.length_take, List.length_drop]; omega))) (inz_build 2 (by simp) G) (nulls_build 2 G).symm (rows_build 2 G)⟩
    · -- SE
      have hD : G.drop k = G := by rw [k0, List.drop_zero]
      have hN : G.drop (k + m) = [] := List.drop_eq_nil_of_le (by omega)
      have hM : (G.drop k).take m = G := by rw [hD]; exact List.take_of_length_le (by omega)
      have j1 : jz (buildZ 2 (G.take k)) (buildZ 2 (G)) = (buildZ 2 (G)) := by
        have J := J1
        rw [hD] at J
        rw [jz_def]; exact J
      have j2 : jz (buildZ 2 (G)) (buildZ 2 (G.drop (k + m))) = (buildZ 2 (G.drop k)) := by
        have J := J2
        rw [hM] at J
        rw [jz_def]; exact J
      have j3 : jz (buildZ 2 (G.take k)) (buildZ 2 (G.drop k)) = (buildZ 2 (G)) := by
        have J := J1
        rw [jz_def]; exact J
      exact ⟨_, jo_SE2 q cu mo hq L F G cp o h0 hF hF1 hG hG0 hG1 k m hk hm k0 n0 n1 (buildZ 2 (G)) (buildZ 2 (G.take k)) (buildZ 2 (G.drop k)) (buildZ 2 ((G.drop k).take m)) (buildZ 2 (G.drop (k + m))) (buildZ 2 (G.drop k)) (bz_def 2 G) (bz_def 2 _) (congrArg (buildZ 2) hD) (congrArg (buildZ 2) hM) ((bz_def 2 []).trans (congrArg (buildZ 2) hN.symm)) j1 j2 j3 (R _ (by first | exact hG1 | (simp only [List.length_take, List.length_drop]; omega)) (by first | exact hc | exact hc.take _ | exact hc.drop _ | exact (hc.drop _).take _)) (inv_build 2 _).kind (rows40 2 _ (by first | exact hG1 | (simp only [List.length_take, List.length_drop]; omega))) (R _ (by first | exact hG1 | (simp only [List.length_take, List.length_drop]; omega)) (by first | exact hc | exact hc.take _ | exact hc.drop _ | exact (hc.drop _).take _)) (inv_build 2 _).kind (rows40 2 _ (by first | exact hG1 | (simp only [List.length_take, List.length_drop]; omega))) (R _ (by first | exact hG1 | (simp only [List.length_take, List.length_drop]; omega)) (by first | exact hc | exact hc.take _ | exact hc.drop _ | exact (hc.drop _).take _)) (inv_build 2 _).kind (rows40 2 _ (by first | exact hG1 | (simp only [List.length_take, List.length_drop]; omega))) (R _ (by first | exact hG1 | (simp only [List.length_take, List.length_drop]; omega)) (by first | exact hc | exact hc.take _ | exact hc.drop _ | exact (hc.drop _).take _)) (inv_build 2 _).kind (rows40 2 _ (by first | exact hG1 | (simp only [List.length_take, List.length_drop]; omega))) (R _ (by first | exact hG1 | (simp only [List.length_take, List.length_drop]; omega)) (by first | exact hc | exact hc.take _ | exact hc.drop _ | exact (hc.drop _).take _)) (inv_build 2 _).kind (rows40 2 _ (by first | exact hG1 | (simp only [List.length_take, List.length_drop]; omega))) (R _ (by first | exact hG1 | (simp only [List.length_take, List.length_drop]; omega)) (by first | exact hc | exact hc.take _ | exact hc.drop _ | exact (hc.drop _).take _)) (inv_build 2 _).kind (rows40 2 _ (by first | exact hG1 | (simp only [List.length_take, List.length_drop]; omega))) (inz_build 2 (by simp) G) (nulls_build 2 G).symm (rows_build 2 G)⟩
    · -- ZZ
      have j1 : jz (buildZ 2 (G.take k)) (buildZ 2 (G.drop k)) = (buildZ 2 (G)) := by
        have J := J1
        rw [jz_def]; exact J
      have j2 : jz (buildZ 2 ((G.drop k).take m)) (buildZ 2 (G.drop (k + m))) = (buildZ 2 (G.drop k)) := by
        have J := J2
        rw [jz_def]; exact J
      have j3 : jz (buildZ 2 (G.take k)) (buildZ 2 (G.drop k)) = (buildZ 2 (G)) := by
        have J := J1
        rw [jz_def]; exact J
      exact ⟨_, jo_ZZ2 q cu mo hq L F G cp o h0 hF hF1 hG hG0 hG1 k m hk hm k0 k1 n0 n1 (buildZ 2 (G)) (buildZ 2 (G.take k)) (buildZ 2 (G.drop k)) (buildZ 2 ((G.drop k).take m)) (buildZ 2 (G.drop (k + m))) (buildZ 2 (G.drop k)) (bz_def 2 G) (bz_def 2 _) (bz_def 2 _) (bz_def 2 _) (bz_def 2 _) j1 j2 j3 (R _ (by first | exact hG1 | (simp only [List.length_take, List.length_drop]; omega)) (by first | exact hc | exact hc.take _ | exact hc.drop _ | exact (hc.drop _).take _)) (inv_build 2 _).kind (rows40 2 _ (by first | exact hG1 | (simp only [List.length_take, List.length_drop]; omega))) (R _ (by first | exact hG1 | (simp only [List.length_take, List.length_drop]; omega)) (by first | exact hc | exact hc.take _ | exact hc.drop _ | exact (hc.drop _).take _)) (inv_build 2 _).kind (rows40 2 _ (by first | exact hG1 | (simp only [List.length_take, List.length_drop]; omega))) (R _ (by first | exact hG1 | (simp only [List.length_take, List.length_drop]; omega)) (by first | exact hc | exact hc.take _ | exact hc.drop _ | exact (hc.drop _).take _)) (inv_build 2 _).kind (rows40 2 _ (by first | exact hG1 | (simp only [List.length_take, List.length_drop]; omega))) (R _ (by first | exact hG1 | (simp only [List.length_take, List.length_drop]; omega)) (by first | exact hc | exact hc.take _ | exact hc.drop _ | exact (hc.drop _).take _)) (inv_build 2 _).kind (rows40 2 _ (by first | exact hG1 | (simp only [List.length_take, List.length_drop]; omega))) (R _ (by first | exact hG1 | (simp only [List.length_take, List.length_drop]; omega)) (by first | exact hc | exact hc.take _ | exact hc.drop _ | exact (hc.drop _).take _)) (inv_build 2 _).kind (rows40 2 _ (by first | exact hG1 | (simp only [List.length_take, List.length_drop]; omega))) (R _ (by first | exact hG1 | (simp only [List.length_take, List.length_drop]; omega)) (by first | exact hc | exact hc.take _ | exact hc.drop _ | exact (hc.drop _).take _)) (inv_build 2 _).kind (rows40 2 _ (by first | exact hG1 | (simp only [List.length_take, List.length_drop]; omega))) (inz_build 2 (by simp) G) (nulls_build 2 G).symm (rows_build 2 G)⟩
    · -- ZE
      have hN : G.drop (k + m) = [] := List.drop_eq_nil_of_le (by omega)
      have hM : (G.drop k).take m = G.drop k := List.take_of_length_le (by rw [List.length_drop]; omega)
      have j1 : jz (buildZ 2 (G.take k)) (buildZ 2 (G.drop k)) = (buildZ 2 (G)) := by
        have J := J1
        rw [jz_def]; exact J
      have j2 : jz (buildZ 2 (G.drop k)) (buildZ 2 (G.drop (k + m))) = (buildZ 2 (G.drop k)) := by
        have J := J2
        rw [hM] at J
        rw [jz_def]; exact J
      have j3 : jz (buildZ 2 (G.take k)) (buildZ 2 (G.drop k)) = (buildZ 2 (G)) := by
        have J := J1
        rw [jz_def]; exact J
      exact ⟨_, jo_ZE2 q cu mo hq L F G cp o h0 hF hF1 hG hG0 hG1 k m hk hm k0 k1 n0 n1 (buildZ 2 (G)) (buildZ 2 (G.take k)) (buildZ 2 (G.drop k)) (buildZ 2 ((G.drop k).take m)) (buildZ 2 (G.drop (k + m))) (buildZ 2 (G.drop k)) (bz_def 2 G) (bz_def 2 _) (bz_def 2 _) (congrArg (buildZ 2) hM) ((bz_def 2 []).trans (congrArg (buildZ 2) hN.symm)) j1 j2 j3 (R _ (by first | exact hG1 | (simp only [List.length_take, List.length_drop]; omega)) (by first | exact hc | exact hc.take _ | exact hc.drop _ | exact (hc.drop _).take _)) (inv_build 2 _).kind (rows40 2 _ (by first | exact hG1 | (simp only [List.length_take, List.length_drop]; omega))) (R _ (by first | exact hG1 | (simp only [List.length_take, List.length_drop]; omega)) (by first | exact hc | exact hc.take _ | exact hc.drop _ | exact (hc.drop _).take _)) (inv_build 2 _).kind (rows40 2 _ (by first | exact hG1 | (simp only [List.length_take, List.length_drop]; omega))) (R _ (by first | exact hG1 | (simp only [List.length_take, List.length_drop]; omega)) (by first | exact hc | exact hc.take _ | exact hc.drop _ | exact (hc.drop _).take _)) (inv_build 2 _).kind (rows40 2 _ (by first | exact hG1 | (simp only [List.length_take, List.length_drop]; omega))) (R _ (by first | exact hG1 | (simp only [List.length_take, List.length_drop]; omega)) (by first | exact hc | exact hc.take _ | exact hc.drop _ | exact (hc.drop _).take _)) (inv_build 2 _).kind (rows40 2 _ (by first | exact hG1 | (simp only [List.length_take, List.length_drop]; omega))) (R _ (by first | exact hG1 | (simp only [List.length_take, List.length_drop]; omega)) (by first | exact hc | exact hc.take _ | exact hc.drop _ | exact (hc.drop _).take _)) (inv_build 2 _).kind (rows40 2 _ (by first | exact hG1 | (simp only [List.length_take, List.length_drop]; omega))) (R _ (by first | exact hG1 | (simp only [List.length_take, List.length_drop]; omega)) (by first | exact hc | exact hc.take _ | exact hc.drop _ | exact (hc.drop _).take _)) (inv_build 2 _).kind (rows40 2 _ (by first | exact hG1 | (simp only [List.length_take, List.length_drop]; omega))) (inz_build 2 (by simp) G) (nulls_build 2 G).symm (rows_build 2 G)⟩
    · -- EE
      have hD : G.drop k = [] := List.drop_eq_nil_of_le (by omega)
      have hT : G.take k = G := List.take_of_length_le (by omega)
      have hN : G.drop (k + m) = G.drop k := by rw [hD]; exact List.drop_eq_nil_of_le (by omega)
      have hM : (G.drop k).take m = G.drop k := List.take_of_length_le (by rw [List.length_drop]; omega)
      have j1 : jz (buildZ 2 (G)) (buildZ 2 (G.drop k)) = (buildZ 2 (G)) := by
        have J := J1
        rw [hT] at J
        rw [jz_def]; exact J
      have j2 : jz (buildZ 2 (G.drop k)) (buildZ 2 (G.drop k)) = (buildZ 2 (G.drop k)) := by
        have J := J2
        rw [hM] at J
        rw [hN] at J
        rw [jz_def]; exact J
      have j3 : jz (buildZ 2 (G)) (buildZ 2 (G.drop k)) = (buildZ 2 (G)) := by
        have J := J1
        rw [hT] at J
        rw [jz_def]; exact J
      exact ⟨_, jo_EE2 q cu mo hq L F G cp o h0 hF hF1 hG hG0 hG1 k m hk hm k0 k1 m0 n0 n1 (buildZ 2 (G)) (buildZ 2 (G.take k)) (buildZ 2 (G.drop k)) (buildZ 2 ((G.drop k).take m)) (buildZ 2 (G.drop (k + m))) (buildZ 2 (G.drop k)) (bz_def 2 G) (congrArg (buildZ 2) hT) ((bz_def 2 []).trans (congrArg (buildZ 2) hD.symm)) (congrArg (buildZ 2) hM) (congrArg (buildZ 2) hN) j1 j2 j3 (R _ (by first | exact hG1 | (simp only [List.length_take, List.length_drop]; omega)) (by first | exact hc | exact hc.take _ | exact hc.drop _ | exact (hc.drop _).take _)) (inv_build 2 _).kind (rows40 2 _ (by first | exact hG1 | (simp only [List.length_take, List.length_drop]; omega))) (R _ (by first | exact hG1 | (simp only [List.length_take, List.length_drop]; omega)) (by first | exact hc | exact hc.take _ | exact hc.drop _ | exact (hc.drop _).take _)) (inv_build 2 _).kind (rows40 2 _ (by first | exact hG1 | (simp only [List.length_take, List.length_drop]; omega))) (R _ (by first | exact hG1 | (simp only [List.length_take, List.length_drop]; omega)) (by first | exact hc | exact hc.take _ | exact hc.drop _ | exact (hc.drop _).take _)) (inv_build 2 _).kind (rows40 2 _ (by first | exact hG1 | (simp only [List.length_take, List.length_drop]; omega))) (R _ (by first | exact hG1 | (simp only [List.length_take, List.length_drop]; omega)) (by first | exact hc | exact hc.take _ | exact hc.drop _ | exact (hc.drop _).take _)) (inv_build 2 _).kind (rows40 2 _ (by first | exact hG1 | (simp only [List.length_take, List.length_drop]; omega))) (R _ (by first | exact hG1 | (simp only [List.length_take, List.length_drop]; omega)) (by first | exact hc | exact hc.take _ | exact hc.drop _ | exact (hc.drop _).take _)) (inv_build 2 _).kind (rows40 2 _ (by first | exact hG1 | (simp only [List.length_take, List.length_drop]; omega))) (R _ (by first | exact hG1 | (simp only [List.length_take, List.length_drop]; omega)) (by first | exact hc | exact hc.take _ | exact hc.drop _ | exact (hc.drop _).take _)) (inv_build 2 _).kind (rows40 2 _ (by first | exact hG1 | (simp only [List.length_take, List.length_drop]; omega))) (inz_build 2 (by simp) G) (nulls_build 2 G).symm (rows_build 2 G)⟩
theorem joins_pure (q cu mo : Int) (A : AV) (m : Mem) (h : ∀ B, JoinsEnd B ⟨⟨205, [(0, .s (.int .i64 q)), (1, A), (2, .s (.int .i64 cu)), (3, .s (.int .i64 mo))]⟩, m, 1⟩) : PureDoes Try.prog 5 [.s (.int .i64 q), A, .s (.int .i64 cu), .s (.int .i64 mo)] m 1 (.s (.bool true)) :=
  PureDoes.of_ends (fn := Try.f5) (body := Try.f5.body.getD .skip) Try.func5 (by kernel_rfl) (by kernel_rfl) (k := 205) (by kernel_rfl) fun B => by
    obtain ⟨c', hc⟩ := h B
    exact ⟨.ret, _, .inr rfl, hc, by kernel_rfl⟩
theorem JoinsEnd.before {B n c : Nat} {l : List (Nat × AV)} {m : Mem} (h : JoinsEnd B ⟨⟨n, l⟩, [], c⟩) : JoinsEnd B ⟨⟨n, l⟩, m, c⟩ := by
  obtain ⟨c', hc⟩ := h
  exact ⟨c', hc.before Less.empty⟩
end Go.Proofs.Ytgejenhcloiieaa.Z8
