/- Sealed blocks behind one another: as lists, and what All comes to on them. -/
import Derived.Test.YtfgceanepgjfiaaPSblockAll
import Derived.Test.YtfgceanepgjfiaaBlk
namespace Go.Proofs.Ytfgceanepgjfiaa.BAll
open Go.RowKit Go.Proofs.Ytfgceanepgjfiaa.PS Go.Proofs.YtfgceanepgjfiaaW.PrintWords Go.Proofs.YtfgceanepgjfiaaW.PrintLast Go.Proofs.Ytfgceanepgjfiaa.Base Go.Proofs.Ytfgceanepgjfiaa.BlkPlain Go.Proofs.Ytfgceanepgjfiaa.Blk
/-- Sealed, one behind another. -/
def sealAll : List (List Int) → List Int
  | [] => []
  | b :: t => sealL b ++ sealAll t
theorem sealAll_append (a b : List (List Int)) : sealAll (a ++ b) = sealAll a ++ sealAll b := by
  induction a with
  | nil => rfl
  | cons x a ih => simp only [List.cons_append, sealAll, ih, List.append_assoc]
theorem sealAll_byte {ws : List (List Int)} (h : ∀ b ∈ ws, b.length ≤ 1048576 ∧ ∀ x ∈ b, 0 ≤ x ∧ x ≤ 255) : ∀ x ∈ sealAll ws, 0 ≤ x ∧ x ≤ 255 := by
  induction ws with
  | nil => intro x hx; simp [sealAll] at hx
  | cons b t ih =>
    intro x hx
    simp only [sealAll] at hx
    rcases List.mem_append.1 hx with hx | hx
    · have hb := h b (by simp)
      exact sealL_byte hb.1 hb.2 x hx
    · exact ih (fun c hc => h c (by simp [hc])) x hx
theorem open_cut {b : List Int} (hb : b.length ≤ 1048576) {m : Nat} (hm : m < (sealL b).length) : openL ((sealL b).take m) = ([], 0, 10) := by
  have hl := sealL_len b
  have hlen : ((sealL b).take m).length = m := by rw [List.length_take]; omega
  unfold openL
  by_cases h8 : m < 8
  · rw [if_pos (by omega)]
  · rw [if_neg (by omega)]
    obtain ⟨q, rfl⟩ : ∃ q, m = 8 + q := ⟨m - 8, by omega⟩
    have e : (sealL b).take (8 + q) = B4 b.length ++ (B4 (4294967295 - (b.length : Int)) ++ (b ++ B4 (crcI b)).take q) := by
      unfold sealL
      rw [List.append_assoc, List.append_assoc, List.take_append, List.take_of_length_le (by rw [B4_len]; omega), List.take_append, List.take_of_length_le (by rw [B4_len, B4_len]; omega), B4_len, B4_len, show 8 + q - 4 - 4 = q from by omega]
    have g1 : get4 ((sealL b).take (8 + q)) = b.length := by rw [e]; exact get4_B4 (by omega) (by omega) _
    have g2 : get4 (((sealL b).take (8 + q)).drop 4) = 4294967295 - (b.length : Int) := by
      rw [e, List.drop_append, List.drop_of_length_le (by rw [B4_len]; omega), B4_len, Nat.sub_self, List.drop_zero, List.nil_append]
      exact get4_B4 (by omega) (by omega) _
    rw [g1, g2, if_pos rfl, if_neg (by omega), if_pos (by omega)]
theorem sealAll_take (ws : List (List Int)) : (∀ b ∈ ws, b.length ≤ 1048576) → ∀ c, c ≤ (sealAll ws).length → ∃ a r t, ws = a ++ r ∧ (sealAll ws).take c = sealAll a ++ t ∧ (t = [] ∨ t ≠ [] ∧ openL t = ([], 0, 10)) := by
  induction ws with
  | nil => intro _ c _; exact ⟨[], [], [], rfl, by simp [sealAll], .inl rfl⟩
  | cons b ws ih =>
    intro hb c hc
    simp only [sealAll, List.length_append] at hc ⊢
    by_cases h : c < (sealL b).length
    · refine ⟨[], b :: ws, (sealL b).take c, rfl, by rw [List.take_append_of_le_length (by omega)]; rfl, ?_⟩
      by_cases h0 : c = 0
      · subst h0; exact .inl rfl
      · refine .inr ⟨?_, open_cut (hb b (by simp)) h⟩
        intro he
        have := congrArg List.length he
        rw [List.length_take, List.length_nil] at this
        omega
    · obtain ⟨a, r, t, rfl, h2, h3⟩ := ih (fun c hc => hb c (by simp [hc])) (c - (sealL b).length) (by omega)
      refine ⟨b :: a, r, t, rfl, ?_, h3⟩
      rw [List.take_append, List.take_of_length_le (by omega), h2, sealAll, List.append_assoc]
/-- All over whole blocks and then a rest that opens to nothing. -/
theorem all_loop (t : List Int) (x : List Int) (n e : Int) (ht : openL t = (x, n, e)) (he : t = [] ∨ e ≠ 0) (ws : List (List Int)) : ∀ (pre : List Int) (acc : List (List Int)) (k : Nat), (∀ b ∈ ws, b.length ≤ 1048576) → acc.length + ws.length ≤ 1000000000 →
    (pre ++ sealAll ws ++ t).length ≤ 140737488355328 → (∀ y ∈ pre ++ sealAll ws ++ t, 0 ≤ y ∧ y ≤ 255) → 10485772 + ws.length < k →
    block_All.l0 k (pre ++ sealAll ws ++ t) acc (pre.length : Int) = some (acc ++ ws, ((pre ++ sealAll ws).length : Int), if t = [] then 0 else e) := by
  induction ws with
  | nil =>
    intro pre acc k _ ha hl hb hk
    obtain ⟨k, rfl⟩ : ∃ m, k = m + 1 := ⟨k - 1, by omega⟩
    simp only [sealAll, List.append_nil] at hl hb ⊢
    rw [block_All.l0]
    by_cases h : t = []
    · subst h
      rw [if_neg (by rw [List.append_nil]; omega), if_pos rfl]
    · rw [if_pos (by rw [List.length_append]; have := List.length_pos_iff.2 h; omega), open_f hl hb _ (by simp only [List.length_nil] at hk; omega), Option.bind_some]
      have ho : openI (pre ++ t) (pre.length : Int) = ([], 0, e) := by
        unfold openI
        rw [if_neg (by rw [List.length_append]; push_cast; omega), Int.toNat_natCast, List.drop_left, ht]
        rcases he with he | he
        · exact absurd he h
        · show (if e = 0 then (x, (pre.length : Int) + n, 0) else ([], 0, e)) = _
          rw [if_neg he]
      have hne : ¬ e = 0 := by rcases he with he | he; exact absurd he h; exact he
      rw [ho, if_neg hne, if_neg h]
  | cons b ws ih =>
    intro pre acc k hw ha hl hb hk
    obtain ⟨k, rfl⟩ : ∃ m, k = m + 1 := ⟨k - 1, by omega⟩
    have hbl := hw b (by simp)
    have hsl := sealL_len b
    have e1 : pre ++ sealAll (b :: ws) ++ t = (pre ++ sealL b) ++ sealAll ws ++ t := by simp only [sealAll, List.append_assoc]
    have e2 : pre ++ sealAll (b :: ws) ++ t = pre ++ (sealL b ++ (sealAll ws ++ t)) := by simp only [sealAll, List.append_assoc]
    have ho : openI (pre ++ sealAll (b :: ws) ++ t) (pre.length : Int) = (b, ((pre ++ sealL b).length : Int), 0) := by
      rw [e2]
      unfold openI
      rw [if_neg (by rw [List.length_append]; push_cast; omega), Int.toNat_natCast, List.drop_left, open_seal _ _ hbl]
      show (b, (pre.length : Int) + ((b.length + 12 : Nat) : Int), 0) = _
      rw [List.length_append, hsl, ← Int.natCast_add]
    rw [block_All.l0, if_pos (by rw [e2, List.length_append, List.length_append]; omega), open_f hl hb _ (by simp only [List.length_cons] at hk; omega), Option.bind_some, ho]
    simp only [List.length_cons] at ha hk
    rw [if_pos rfl, if_pos (by omega)]
    have key := ih (pre ++ sealL b) (acc ++ [b]) k (fun c hc => hw c (by simp [hc])) (by rw [List.length_append, List.length_singleton]; omega) (by rw [← e1]; exact hl) (by rw [← e1]; exact hb) (by omega)
    rw [← e1] at key
    refine key.trans ?_
    simp only [sealAll, List.append_assoc, List.cons_append, List.nil_append]
theorem all_f {t : List Int} {x : List Int} {n e : Int} (ht : openL t = (x, n, e)) (he : t = [] ∨ e ≠ 0) {ws : List (List Int)} (hw : ∀ b ∈ ws, b.length ≤ 1048576) (ha : ws.length ≤ 1000000000)
    (hl : (sealAll ws ++ t).length ≤ 140737488355328) (hb : ∀ y ∈ sealAll ws ++ t, 0 ≤ y ∧ y ≤ 255) {k : Nat} (hk : 10485772 + ws.length < k) :
    block_All.f k (sealAll ws ++ t) = some (ws, ((sealAll ws).length : Int), if t = [] then 0 else e) := by
  unfold block_All.f
  have := all_loop t x n e ht he ws [] [] k hw (by rw [List.length_nil]; omega) (by rw [List.nil_append]; exact hl) (by rw [List.nil_append]; exact hb) hk
  simpa using this
end Go.Proofs.Ytfgceanepgjfiaa.BAll
