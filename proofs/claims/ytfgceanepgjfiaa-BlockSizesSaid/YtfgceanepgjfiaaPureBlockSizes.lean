/- A sealed string is twelve bytes longer, holds the string, and two are alike when the strings are: no condition. -/
import Derived.Test.YtfgceanepgjfiaaPScolumbariumlaw6BlockSizes
import Derived.Test.YtfgceanepgjfiaaBlk
import Derived.Test.YtfgceanepgjfiaaBKnown
import Derived.Test.YtfgceanepgjfiaaBFew
namespace Go.Proofs.Ytfgceanepgjfiaa.Pure
open Go.RowKit Go.Proofs.Ytfgceanepgjfiaa.PS Go.Proofs.YtfgceanepgjfiaaW.PrintWords Go.Proofs.YtfgceanepgjfiaaW.PrintLast Go.Proofs.Ytfgceanepgjfiaa.Base Go.Proofs.Ytfgceanepgjfiaa.BlkPlain Go.Proofs.Ytfgceanepgjfiaa.Blk Go.Proofs.Ytfgceanepgjfiaa.BKnown Go.Proofs.Ytfgceanepgjfiaa.BFew
theorem BlockSizes : columbariumlaw6_BlockSizes.Pure := by
  intro a b _ _
  refine ⟨3000, ?_⟩
  unfold columbariumlaw6_BlockSizes.f
  have ha := cut200_size a
  have hb := cut200_size b
  rw [few_f, few_f, Option.bind_some, Option.bind_some]
  generalize cut200 a = s at *
  generalize cut200 b = t at *
  have hs := bytesOf_size s
  have ht := bytesOf_size t
  have bs : ∀ x ∈ bytesOf s, 0 ≤ x ∧ x ≤ 255 := fun x hx => bytesOf_range hx
  have bt : ∀ x ∈ bytesOf t, 0 ≤ x ∧ x ≤ 255 := fun x hx => bytesOf_range hx
  have e1 := seal_f (b := bytesOf s) (by omega) bs (k := 3000) (by omega)
  have e2 := seal_f (b := bytesOf t) (by omega) bt (k := 3000) (by omega)
  have hl := sealL_len (bytesOf s)
  have hp := (sealL_parts (bytesOf s) [] (by omega)).2.2.1
  rw [List.append_nil] at hp
  have w1 : wrap64 ((s.size : Int) + 12) = (s.size : Int) + 12 := w64_id (by omega) (by omega)
  have w2 : wrap64 (8 + (s.size : Int)) = ((8 + (bytesOf s).length : Nat) : Int) := by rw [w64_id (by omega) (by omega)]; omega
  rw [if_pos (by omega), e1, Option.bind_some, if_pos (by omega), e2, Option.bind_some, if_pos rfl, if_pos rfl, w1, if_pos (show ((sealL (bytesOf s)).length : Int) = (s.size : Int) + 12 by omega), w2, if_pos (by omega), if_pos (show ((8 + (bytesOf s).length : Nat) : Int) ≤ ((sealL (bytesOf s)).length : Int) by omega), Int.toNat_natCast, hp, str_bytesOf, if_pos rfl]
  have hiff : (strOfNums (sealL (bytesOf s))).toList = (strOfNums (sealL (bytesOf t))).toList ↔ s.toList = t.toList := by
    rw [str_inj (sealL_byte (by omega) bs) (sealL_byte (by omega) bt)]
    constructor
    · intro h
      have := sealL_inj (by omega) (by omega) h
      rw [← str_bytesOf s, ← str_bytesOf t, this]
    · intro h
      rw [str_ext h]
  by_cases h : s.toList = t.toList
  · rw [if_pos (hiff.2 h), if_pos h, known_f (by omega), Option.bind_some]
  · rw [if_neg (fun h2 => h (hiff.1 h2)), if_neg h, known_f (by omega), Option.bind_some]
end Go.Proofs.Ytfgceanepgjfiaa.Pure
