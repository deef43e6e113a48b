/- What the statements' own book of memory comes to: a list with room behind it, and that it is as it was. -/
import Derived.Test.YthpomojgkhjhbaaPScolumbariumbookRoomybyte
import Derived.Test.YthpomojgkhjhbaaPScolumbariumbookIntactbyte
import Derived.Test.YthpomojgkhjhbaaBase
namespace Go.Proofs.Ythpomojgkhjhbaa.Book
open Go.RowKit Go.Proofs.Ythpomojgkhjhbaa.PS Go.Proofs.YthpomojgkhjhbaaW.PrintWords Go.Proofs.YthpomojgkhjhbaaW.PrintLast Go.Proofs.Ythpomojgkhjhbaa.Base

theorem roomy_loop (l : List Int) (m : Int) (n : Nat) (hn : n ≤ 140737488355328) (d : Nat) : ∀ (k i : Nat), i ≤ n → n - i = d → d < k →
    columbariumbook_Roomy_byte.l0 k m (l ++ List.replicate i m ++ List.replicate (n - i) 0) ((l.length + i : Nat) : Int) = some (l ++ List.replicate n m) ∨ ¬ l.length ≤ 140737488355328 := by
  induction d with
  | zero =>
    intro k i hi hd hk
    obtain ⟨k, rfl⟩ : ∃ m, k = m + 1 := ⟨k - 1, by omega⟩
    have : i = n := by omega
    subst this
    rw [columbariumbook_Roomy_byte.l0, if_neg (by simp), Nat.sub_self, List.replicate_zero, List.append_nil]
    exact .inl rfl
  | succ d ih =>
    intro k i hi hd hk
    obtain ⟨k, rfl⟩ : ∃ m, k = m + 1 := ⟨k - 1, by omega⟩
    by_cases hl : l.length ≤ 140737488355328
    · have hw : wrap64 (((l.length + i : Nat) : Int) + 1) = ((l.length + (i + 1) : Nat) : Int) := by rw [w64_id (by omega) (by omega)]; omega
      have hs : (l ++ List.replicate i m ++ List.replicate (n - i) 0).set (l.length + i) m = l ++ List.replicate (i + 1) m ++ List.replicate (n - (i + 1)) 0 := by
        rw [List.set_append, if_neg (by simp)]
        obtain ⟨q, hq⟩ : ∃ q, n - i = q + 1 := ⟨n - i - 1, by omega⟩
        rw [hq, show n - (i + 1) = q from by omega, show l.length + i - (l ++ List.replicate i m).length = 0 from by simp, List.replicate_succ, List.set_cons_zero, List.append_assoc, List.append_assoc, List.replicate_succ', List.append_assoc]
        rfl
      rw [columbariumbook_Roomy_byte.l0, if_pos (by simp; omega), if_pos (by omega), hw, Int.toNat_natCast, hs]
      exact ih k (i + 1) (by omega) (by omega) (by omega)
    · exact .inr hl
theorem roomy_f {l : List Int} (hl : l.length ≤ 140737488355000) (m : Int) {k : Nat} (hk : 81 ≤ k) : columbariumbook_Roomy_byte.f k l m = some (l ++ List.replicate 80 m) := by
  unfold columbariumbook_Roomy_byte.f
  have e : wrap64 ((l.length : Int) + 80) = ((l.length + 80 : Nat) : Int) := by rw [w64_id (by omega) (by omega)]; omega
  rw [e, if_pos (by omega), Int.toNat_natCast, if_pos (by omega), Option.bind_some, List.length_replicate, List.take_of_length_le (by omega), List.drop_replicate, Nat.add_sub_cancel_left]
  have := roomy_loop l m 80 (by omega) 80 k 0 (by omega) (by omega) (by omega)
  rcases this with h | h
  · simpa using h
  · omega
theorem same_loop (l : List Int) (hl : l.length ≤ 140737488355328) (d : Nat) : ∀ (k i : Nat), i ≤ l.length → l.length - i = d → d < k → columbariumbook_Same_byte.l0 k l l (i : Int) = some true := by
  induction d with
  | zero =>
    intro k i hi hd hk
    obtain ⟨k, rfl⟩ : ∃ m, k = m + 1 := ⟨k - 1, by omega⟩
    rw [columbariumbook_Same_byte.l0, if_neg (by omega)]
  | succ d ih =>
    intro k i hi hd hk
    obtain ⟨k, rfl⟩ : ∃ m, k = m + 1 := ⟨k - 1, by omega⟩
    rw [columbariumbook_Same_byte.l0, if_pos (by omega), if_pos (by omega), if_pos (by omega), if_pos rfl, show wrap64 ((i : Int) + 1) = ((i + 1 : Nat) : Int) from by rw [w64_id (by omega) (by omega)]; push_cast; rfl]
    exact ih k (i + 1) (by omega) (by omega) (by omega)
theorem same_f {l : List Int} (hl : l.length ≤ 140737488355328) {k : Nat} (hk : l.length < k) : columbariumbook_Same_byte.f k l l = some true := by
  unfold columbariumbook_Same_byte.f
  rw [if_pos rfl]
  exact same_loop l hl l.length k 0 (by omega) (by omega) (by omega)
theorem intact_loop (l : List Int) (m : Int) (hl : l.length ≤ 140737488355000) (d : Nat) : ∀ (k i : Nat), i ≤ 80 → 80 - i = d → d < k → columbariumbook_Intact_byte.l0 k (l ++ List.replicate 80 m) m ((l.length + i : Nat) : Int) = some true := by
  induction d with
  | zero =>
    intro k i hi hd hk
    obtain ⟨k, rfl⟩ : ∃ m, k = m + 1 := ⟨k - 1, by omega⟩
    rw [columbariumbook_Intact_byte.l0, if_neg (by simp; omega)]
  | succ d ih =>
    intro k i hi hd hk
    obtain ⟨k, rfl⟩ : ∃ m, k = m + 1 := ⟨k - 1, by omega⟩
    have hr : rd (l ++ List.replicate 80 m) ((l.length + i : Nat) : Int) = m := by
      rw [rd_nat (by simp; omega), List.getElem_append_right (by omega), List.getElem_replicate]
    rw [columbariumbook_Intact_byte.l0, if_pos (by simp; omega), if_pos (by omega), if_pos hr, show wrap64 (((l.length + i : Nat) : Int) + 1) = ((l.length + (i + 1) : Nat) : Int) from by rw [w64_id (by omega) (by omega)]; omega]
    exact ih k (i + 1) (by omega) (by omega) (by omega)
theorem intact_f {l : List Int} (hl : l.length ≤ 140737488355000) (m : Int) {k : Nat} (hk : l.length + 100 < k) : columbariumbook_Intact_byte.f k (l ++ List.replicate 80 m) l m = some true := by
  unfold columbariumbook_Intact_byte.f
  obtain ⟨k, rfl⟩ : ∃ m, k = m + 1 := ⟨k - 1, by omega⟩
  have e : wrap64 ((l.length : Int) + 80) = ((l.length + 80 : Nat) : Int) := by rw [w64_id (by omega) (by omega)]; omega
  rw [e, if_pos (by simp), if_pos (by omega), if_pos (by simp; omega), Int.toNat_natCast, List.take_left, same_f (by omega) (by omega), Option.bind_some, columbariumbook_Intact_byte.j0, if_neg (by decide)]
  exact intact_loop l m hl 80 k 0 (by omega) (by omega) (by omega)
end Go.Proofs.Ythpomojgkhjhbaa.Book
