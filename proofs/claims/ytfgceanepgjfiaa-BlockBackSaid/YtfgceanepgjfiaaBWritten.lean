/- What chapter 6's own Seal comes to, and the first ten strings sealed. -/
import Derived.Test.YtfgceanepgjfiaaPScolumbariumlaw6written
import Derived.Test.YtfgceanepgjfiaaCrcRefF
import Derived.Test.YtfgceanepgjfiaaBFew
import Derived.Test.YtfgceanepgjfiaaBAll
namespace Go.Proofs.Ytfgceanepgjfiaa.BWritten
open Go.RowKit Go.Proofs.Ytfgceanepgjfiaa.PS Go.Proofs.YtfgceanepgjfiaaW.PrintWords Go.Proofs.YtfgceanepgjfiaaW.PrintLast Go.Proofs.Ytfgceanepgjfiaa.Base Go.Proofs.Ytfgceanepgjfiaa.BlkPlain Go.Proofs.Ytfgceanepgjfiaa.CrcRefF Go.Proofs.Ytfgceanepgjfiaa.BFew Go.Proofs.Ytfgceanepgjfiaa.BAll
theorem refSeal_f {b : List Int} (hl : b.length ≤ 1048576) (hb : ∀ x ∈ b, 0 ≤ x ∧ x ≤ 255) {k : Nat} (hk : 10 * b.length < k) : columbariumref6_Seal.f k b = some (sealL b, 0) := by
  unfold columbariumref6_Seal.f
  have f4 : ∀ n, columbariumref6_four.f n = some (B4 n) := fun n => rfl
  have e : (b.length : Int) % 4294967296 = (b.length : Int) := by omega
  have hB : ∀ n, (B4 n).length = 4 := B4_len
  rw [if_neg (by omega), e, f4, Option.bind_some, xor_u32_ones (by omega) (by omega), f4, Option.bind_some, if_pos (by rw [hB, hB]; omega), Option.bind_some, if_pos (by rw [List.length_append, hB, hB]; omega), Option.bind_some, crcRef_f (by omega) hb hk, Option.bind_some, f4, Option.bind_some,
    if_pos (by rw [List.length_append, List.length_append, hB, hB, hB]; omega)]
  rfl
/-- The first ten, cut. -/
def firsts (l : List ByteArray) : List (List Int) := (l.take 10).map fun a => bytesOf (cut200 a)
theorem firsts_short (l : List ByteArray) : ∀ b ∈ firsts l, b.length ≤ 200 ∧ ∀ x ∈ b, 0 ≤ x ∧ x ≤ 255 := by
  intro b hb
  unfold firsts at hb
  obtain ⟨a, _, rfl⟩ := List.mem_map.1 hb
  exact ⟨by rw [bytesOf_size]; exact cut200_size a, fun x hx => bytesOf_range hx⟩
theorem firsts_len (l : List ByteArray) : (firsts l).length ≤ 10 ∧ (firsts l).length ≤ l.length := by
  unfold firsts
  rw [List.length_map, List.length_take]
  omega
theorem sealAll_len {ws : List (List Int)} (h : ∀ b ∈ ws, b.length ≤ 200) : 12 * ws.length ≤ (sealAll ws).length ∧ (sealAll ws).length ≤ 212 * ws.length := by
  induction ws with
  | nil => simp [sealAll]
  | cons b t ih =>
    have := ih (fun c hc => h c (by simp [hc]))
    have hb := h b (by simp)
    have hs := sealL_len b
    rw [sealAll, List.length_append, List.length_cons]
    omega
theorem rdOf_nat {l : List ByteArray} {i : Nat} (h : i < l.length) : rdOf ByteArray.empty l (i : Int) = l[i] := by
  unfold rdOf
  rw [Int.toNat_natCast, List.getD_eq_getElem?_getD, List.getElem?_eq_getElem h]
  rfl
theorem written_loop (l : List ByteArray) (_hl : l.length ≤ 140737488355328) (d : Nat) : ∀ (k i : Nat) (acc : List Int), i ≤ 10 → i ≤ l.length → 10 - i = d → 2 * d + 2010 < k → acc.length ≤ 212 * i →
    columbariumlaw6_written.l0 k l acc (i : Int) = some (acc ++ sealAll (((l.drop i).take (10 - i)).map fun a => bytesOf (cut200 a))) := by
  induction d with
  | zero =>
    intro k i acc h10 hi hd hk ha
    obtain ⟨k, rfl⟩ : ∃ m, k = m + 2 := ⟨k - 2, by omega⟩
    have : i = 10 := by omega
    subst this
    rw [columbariumlaw6_written.l0]
    have e : columbariumlaw6_written.j1 (k + 1) l acc ((10 : Nat) : Int) false = some acc := by rw [columbariumlaw6_written.j1, if_neg (by decide)]
    rw [show decide (((10 : Nat) : Int) < 10) = false from rfl, e]
    split <;> simp [sealAll]
  | succ d ih =>
    intro k i acc h10 hi hd hk ha
    obtain ⟨k, rfl⟩ : ∃ m, k = m + 2 := ⟨k - 2, by omega⟩
    rw [columbariumlaw6_written.l0]
    by_cases h : i < l.length
    · have hc := cut200_size l[i]
      have hs := bytesOf_size (cut200 l[i])
      have hsl := sealL_len (bytesOf (cut200 l[i]))
      rw [if_pos (by omega), show decide ((i : Int) < 10) = true from by rw [decide_eq_true_iff]; omega, columbariumlaw6_written.j1, if_pos rfl, if_pos (by omega), if_pos (by omega), rdOf_nat h, few_f, Option.bind_some, if_pos (by omega), refSeal_f (by omega) (fun x hx => bytesOf_range hx) (by omega), Option.bind_some, if_pos (show acc.length + (sealL (bytesOf (cut200 l[i])), (0 : Int)).1.length < 140737488355328 from by show acc.length + (sealL (bytesOf (cut200 l[i]))).length < _; omega),
        show wrap64 ((i : Int) + 1) = ((i + 1 : Nat) : Int) from by rw [w64_id (by omega) (by omega)]; push_cast; rfl, ih k (i + 1) _ (by omega) (by omega) (by omega) (by omega) (by rw [List.length_append]; show acc.length + (sealL (bytesOf (cut200 l[i]))).length ≤ _; omega)]
      rw [List.drop_eq_getElem_cons h, show 10 - i = (10 - (i + 1)) + 1 from by omega, List.take_succ_cons, List.map_cons, sealAll, List.append_assoc]
    · have : i = l.length := by omega
      subst this
      rw [if_neg (by omega), columbariumlaw6_written.j1, if_neg (by decide)]
      simp [sealAll]
theorem written_f {l : List ByteArray} (hl : l.length ≤ 140737488355328) {k : Nat} (hk : 2100 ≤ k) : columbariumlaw6_written.f k l = some (sealAll (firsts l)) := by
  unfold columbariumlaw6_written.f firsts
  have := written_loop l hl 10 k 0 [] (by omega) (by omega) (by omega) (by omega) (by simp)
  simpa using this
end Go.Proofs.Ytfgceanepgjfiaa.BWritten
