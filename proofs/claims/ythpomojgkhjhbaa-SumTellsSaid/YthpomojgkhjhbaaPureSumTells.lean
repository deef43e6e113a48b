/- Sums are those that the document says: for any bytes, no condition. -/
import Derived.Test.YthpomojgkhjhbaaPScolumbariumlaw2SumTells
import Derived.Test.YthpomojgkhjhbaaBook
import Derived.Test.YthpomojgkhjhbaaCrcRef
namespace Go.Proofs.Ythpomojgkhjhbaa.Pure
open Go.RowKit Go.Proofs.Ythpomojgkhjhbaa.PS Go.Proofs.YthpomojgkhjhbaaW.PrintWords Go.Proofs.YthpomojgkhjhbaaW.PrintLast Go.Proofs.Ythpomojgkhjhbaa.Base Go.Proofs.Ythpomojgkhjhbaa.Crc Go.Proofs.Ythpomojgkhjhbaa.CrcRef Go.Proofs.Ythpomojgkhjhbaa.Book
theorem SumTells : columbariumlaw2_SumTells.Pure := by
  intro l _ hl hb
  have hb2 : ∀ u ∈ l, 0 ≤ u ∧ u ≤ 255 := fun u h => u8wf (hb u h)
  refine ⟨40000, ?_⟩
  unfold columbariumlaw2_SumTells.f
  have core : ∀ y : List Int, y.length ≤ 3000 → (∀ u ∈ y, 0 ≤ u ∧ u ≤ 255) → ((columbariumbook_Roomy_byte.f 40000 y 165).bind fun t176 => (if 0 ≤ (y.length : Int) then (if (y.length : Int) ≤ (t176.length : Int) then ((sum_Crc.f 40000 (t176.take ((y.length : Int) : Int).toNat)).bind fun t183 => ((columbariumref2_Crc.f 40000 y).bind fun t184 => (if t183 = t184 then ((sum_Fnv.f 40000 (strOfNums y)).bind fun t185 => ((columbariumref2_Fnv.f 40000 (strOfNums y)).bind fun t186 => (if t185 = t186 then ((columbariumbook_Intact_byte.f 40000 t176 y 165).bind fun t187 => (if t187 = true then ((columbariumlaw2_known.f 40000).bind fun t188 => (some t188)) else (some false))) else (some false)))) else (some false)))) else (none)) else (none))) = some true := by
    intro y hy hyb
    have hs : (strOfNums y).size = y.length := strOfNums_size _
    rw [roomy_f (by omega) _ (by decide), Option.bind_some, if_pos (by omega), if_pos (by simp; omega), Int.toNat_natCast, List.take_left, crc_f (by omega) hyb (by omega), Option.bind_some, crcRef_f (by omega) hyb (by omega), Option.bind_some, if_pos rfl,
      fnv_f (by omega) (by omega), Option.bind_some, fnvRef_f (by omega) (by omega), Option.bind_some, if_pos rfl, intact_f (by omega) _ (by omega), Option.bind_some, if_pos rfl, known_f (by decide)]
    rfl
  by_cases h : (l.length : Int) > 3000
  · rw [if_pos h, if_pos (by omega), Option.bind_some]
    exact core (l.take 3000) (by rw [List.length_take]; omega) (fun u hu => hb2 u (List.mem_of_mem_take hu))
  · rw [if_neg h]
    exact core l (by omega) hb2
end Go.Proofs.Ythpomojgkhjhbaa.Pure
