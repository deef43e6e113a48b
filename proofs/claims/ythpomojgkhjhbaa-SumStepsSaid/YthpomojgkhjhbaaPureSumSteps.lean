/- The FNV of a text grows byte by byte: for every text, no condition. -/
import Derived.Test.YthpomojgkhjhbaaPSx8
import Derived.Test.YthpomojgkhjhbaaCrc
namespace Go.Proofs.Ythpomojgkhjhbaa.Pure
open Go.RowKit Go.Proofs.Ythpomojgkhjhbaa.PS Go.Proofs.YthpomojgkhjhbaaW.PrintWords Go.Proofs.YthpomojgkhjhbaaW.PrintLast Go.Proofs.Ythpomojgkhjhbaa.Base Go.Proofs.Ythpomojgkhjhbaa.Crc

theorem bytes_extract (s : ByteArray) (n : Nat) : bytesOf (s.extract 0 n) = (bytesOf s).take n := by
  unfold bytesOf
  rw [← List.map_take]
  congr 1
  simp [ByteArray.extract, ByteArray.copySlice]
theorem steps_loop (s : ByteArray) (hs : s.size ≤ 300) (d : Nat) : ∀ (k i : Nat), i ≤ s.size → s.size - i = d → d + 600 < k →
    columbariumlaw2_SumSteps.l0 k s (((bytesOf s).take i).foldl fnvS 14695981039346656037) (i : Int) = some true := by
  induction d with
  | zero =>
    intro k i hi hd hk
    obtain ⟨k, rfl⟩ : ∃ m, k = m + 1 := ⟨k - 1, by omega⟩
    simp only [columbariumlaw2_SumSteps.l0]
    have hfin : (bytesOf s).foldl fnvS 14695981039346656037 = fnvI (bytesOf s) := rfl
    rw [if_neg (by omega), fnv_f (by omega) (by omega), Option.bind_some, List.take_of_length_le (by rw [bytesOf_size]; omega), if_pos hfin, known_f (by omega)]
    rfl
  | succ d ih =>
    intro k i hi hd hk
    obtain ⟨k, rfl⟩ : ∃ m, k = m + 1 := ⟨k - 1, by omega⟩
    have hw : wrap64 ((i : Int) + 1) = ((i + 1 : Nat) : Int) := by rw [w64_id (by omega) (by omega)]; push_cast; rfl
    simp only [columbariumlaw2_SumSteps.l0]
    have hlt : i < (bytesOf s).length := by rw [bytesOf_size]; omega
    have ht : (bytesOf s).take (i + 1) = (bytesOf s).take i ++ [rd (bytesOf s) i] := by
      rw [List.take_succ_eq_append_getElem hlt, rd_nat hlt]
    have he : IntKind.u64.wrap ((bits .xor .u64 (((bytesOf s).take i).foldl fnvS 14695981039346656037) (IntKind.u64.wrap (bt s i))) * 1099511628211) = ((bytesOf s).take (i + 1)).foldl fnvS 14695981039346656037 := by
      rw [ht, List.foldl_append, bt_rd s i (by omega)]
      rfl
    have hfin : fnvI ((bytesOf s).take (i + 1)) = ((bytesOf s).take (i + 1)).foldl fnvS 14695981039346656037 := rfl
    rw [if_pos (by omega), if_pos (by omega), hw, if_pos (by omega), if_pos (by omega), he, Int.toNat_natCast, fnv_f (by simp; omega) (by simp; omega), Option.bind_some, bytes_extract s (i + 1), if_pos hfin]
    exact ih k (i + 1) (by omega) (by omega) (by omega)
theorem steps_any (s : ByteArray) (hs : s.size ≤ 300) : columbariumlaw2_SumSteps.j0 2001 s = some true := by
  rw [columbariumlaw2_SumSteps.j0, fnv_f (by decide) (by decide), Option.bind_some]
  exact steps_loop s hs s.size 2000 0 (by omega) (by omega) (by omega)
theorem SumSteps : columbariumlaw2_SumSteps.Pure := by
  intro s hs
  refine ⟨2001, ?_⟩
  unfold columbariumlaw2_SumSteps.f
  by_cases h : (s.size : Int) > 300
  · rw [if_pos h, if_pos (by decide), if_pos (by omega)]
    exact steps_any _ (by simp; omega)
  · rw [if_neg h]
    exact steps_any _ (by omega)
end Go.Proofs.Ythpomojgkhjhbaa.Pure
