-- Written by a program of this session, out of the translation; Lean checks it.
import Derived.Test.YtjpeojohakhmdaaPSx0
import Derived.Test.YtjpeojohakhmdaaPSticksBuild
import Derived.Test.YtjpeojohakhmdaaPSticksRight
import Derived.Test.YtjpeojohakhmdaaPSticksSpan
import Derived.Test.YtjpeojohakhmdaaPScolumbariumlaw10known
import Derived.Test.YtjpeojohakhmdaaPScolumbariumref10Build
import Derived.Test.YtjpeojohakhmdaaPScolumbariumlaw10same
import Derived.Test.YtjpeojohakhmdaaPScolumbariumref10Right
import Derived.Test.YtjpeojohakhmdaaPScolumbariumref10Span
import Derived.Test.YtjpeojohakhmdaaPSticksEncode
import Derived.Test.YtjpeojohakhmdaaPScolumbariumref10Encode
import Derived.Test.YtjpeojohakhmdaaPScolumbariumlaw10in
import Derived.Test.YtjpeojohakhmdaaPSticksDecode
import Derived.Test.YtjpeojohakhmdaaPScolumbariumref10Decode
namespace Go.Proofs.Ytjpeojohakhmdaa.PS
open Go.RowKit Go.Proofs.YtjpeojohakhmdaaW.PrintWords Go.Proofs.YtjpeojohakhmdaaW.PrintLast Go.Proofs.YtjpeojohakhmdaaW.PrintMore
attribute [local go_sem high] pw_str_leq pw_str_gtr
attribute [local go_sem] pw_us8 pw_us32 pw_us64 pw_max2_str pw_min2_str max2_int min2_int max_two min_two max_three min_three max_four min_four   -- for this text's walks alone
set_option linter.unusedVariables false
set_option linter.unusedSimpArgs false

/-! ### columbariumlaw10_TicksNumbers: function 12 -/
mutual
def columbariumlaw10_TicksNumbers.l0 : Nat → List Int → Int → Option (Bool)
  | 0, _, _ => none
  | k + 1, x1, x2 => if x2 < 14 then ((ticks_Build.f k x1).bind fun bt26001 => ((columbariumref10_Build.f k x1).bind fun bt26008 => ((columbariumlaw10_same.f k bt26001.1 bt26001.2.1 bt26001.2.2.1 bt26008.1 bt26008.2.1 bt26008.2.2.1).bind fun t26015 => (if t26015 = true then (if bt26001.2.2.2 = bt26008.2.2.2 then (columbariumlaw10_TicksNumbers.l1 k x1 x2 (-1) bt26001.1 bt26001.2.1 bt26001.2.2.1 bt26008.1 bt26008.2.1 bt26008.2.2.1) else (some false)) else (some false))))) else ((some (([(⟨1, 0, ([] : List Int)⟩ : S61), (⟨1, 5, (([5] : List Int))⟩ : S61), (⟨1, 6, (([5] : List Int))⟩ : S61), (⟨2, 6, (([5] : List Int))⟩ : S61), (⟨2, 4, (([5] : List Int))⟩ : S61), (⟨0, 1, ([] : List Int)⟩ : S61), (⟨(-1), 0, ([] : List Int)⟩ : S61), (⟨5, 4, (([5, 4] : List Int))⟩ : S61), (⟨4, 7, (([5, 6] : List Int))⟩ : S61)] : List (S61)) : List (S61))).bind fun y26041 => (columbariumlaw10_TicksNumbers.l3 k y26041 (y26041.length : Int) 0))
def columbariumlaw10_TicksNumbers.l1 : Nat → List Int → Int → Int → Int → Int → List Int → Int → Int → List Int → Option (Bool)
  | 0, _, _, _, _, _, _, _, _, _ => none
  | k + 1, x1, x2, x7, x26008000, x26008001, x26008002, x26015000, x26015001, x26015002 => if x7 < 16 then (columbariumlaw10_TicksNumbers.l2 k x1 x2 x7 (-1) x26008000 x26008001 x26008002 x26015000 x26015001 x26015002) else (if x1.length < 17592186044416 then (columbariumlaw10_TicksNumbers.l0 k (x1 ++ [wrap64 ((wrap64 (Int.tdiv x2 2)) * 2)]) (wrap64 (x2 + 1))) else (none))
def columbariumlaw10_TicksNumbers.l2 : Nat → List Int → Int → Int → Int → Int → Int → List Int → Int → Int → List Int → Option (Bool)
  | 0, _, _, _, _, _, _, _, _, _, _ => none
  | k + 1, x1, x2, x7, x8, x26008000, x26008001, x26008002, x26015000, x26015001, x26015002 => if x8 < 16 then ((ticks_Span.f k x26008000 x26008001 x26008002 x7 x8).bind fun bt26019 => ((columbariumref10_Span.f k x26015000 x26015001 x26015002 x7 x8).bind fun bt26021 => (if bt26019.1 = bt26021.1 then (if bt26019.2 = bt26021.2 then (columbariumlaw10_TicksNumbers.l2 k x1 x2 x7 (wrap64 (x8 + 1)) x26008000 x26008001 x26008002 x26015000 x26015001 x26015002) else (some false)) else (some false)))) else (columbariumlaw10_TicksNumbers.l1 k x1 x2 (wrap64 (x7 + 1)) x26008000 x26008001 x26008002 x26015000 x26015001 x26015002)
def columbariumlaw10_TicksNumbers.l3 : Nat → List (S61) → Int → Int → Option (Bool)
  | 0, _, _, _ => none
  | k + 1, x104, x105, x106 => if x106 < x105 then (if 0 ≤ x106 then (if x106 < (x104.length : Int) then ((ticks_Encode.f k ((rd_T61 x104 x106).f0) ((rd_T61 x104 x106).f1) ((rd_T61 x104 x106).f2)).bind fun bt26046 => ((columbariumlaw10_in.f ((rd_T61 x104 x106).f0) ((rd_T61 x104 x106).f1) ((rd_T61 x104 x106).f2)).bind fun bt26050 => ((columbariumref10_Encode.f k bt26050.1 bt26050.2.1 bt26050.2.2).bind fun bt26055 => ((ticks_Right.f k ((rd_T61 x104 x106).f0) ((rd_T61 x104 x106).f1) ((rd_T61 x104 x106).f2)).bind fun t26059 => ((columbariumlaw10_in.f ((rd_T61 x104 x106).f0) ((rd_T61 x104 x106).f1) ((rd_T61 x104 x106).f2)).bind fun bt26060 => ((columbariumref10_Right.f k bt26060.1 bt26060.2.1 bt26060.2.2).bind fun t26065 => (if t26059 = true then (if t26065 = true then (if (strOfNums bt26046.1).toList = (strOfNums bt26055.1).toList then (if bt26046.2 = bt26055.2 then (columbariumlaw10_TicksNumbers.l3 k x104 x105 (wrap64 (x106 + 1))) else (some false)) else (some false)) else (some false)) else (if t26065 = true then (some false) else (if (strOfNums bt26046.1).toList = (strOfNums bt26055.1).toList then (if bt26046.2 = bt26055.2 then (columbariumlaw10_TicksNumbers.l3 k x104 x105 (wrap64 (x106 + 1))) else (some false)) else (some false)))))))))) else (none)) else (none)) else ((some (([[], (([0, 0, 0] : List Int)), (([1, 10, 1, 10] : List Int)), (([1, 10, 1, 12] : List Int)), (([2, 10, 1, 8] : List Int)), (([1, 10] : List Int)), (([129, 128, 64, 0, 0] : List Int))] : List (List Int)) : List (List Int))).bind fun y26084 => (columbariumlaw10_TicksNumbers.l4 k y26084 (y26084.length : Int) 0))
def columbariumlaw10_TicksNumbers.l4 : Nat → List (List Int) → Int → Int → Option (Bool)
  | 0, _, _, _ => none
  | k + 1, x146, x147, x148 => if x148 < x147 then (if 0 ≤ x148 then (if x148 < (x146.length : Int) then ((ticks_Decode.f k (rd_L5 x146 x148) 0).bind fun bt26097 => ((columbariumref10_Decode.f k (rd_L5 x146 x148) 0).bind fun bt26105 => ((columbariumlaw10_same.f k bt26097.1 bt26097.2.1 bt26097.2.2.1 bt26105.1 bt26105.2.1 bt26105.2.2.1).bind fun t26113 => (if t26113 = true then (if bt26097.2.2.2.1 = bt26105.2.2.2.1 then (if bt26097.2.2.2.2 = bt26105.2.2.2.2 then (columbariumlaw10_TicksNumbers.l4 k x146 x147 (wrap64 (x148 + 1))) else (some false)) else (some false)) else (some false))))) else (none)) else (none)) else ((ticks_Decode.f k ([] : List Int) 1).bind fun bt26087 => (if bt26087.2.2.2.2 = 1 then ((columbariumlaw10_known.f k).bind fun t26095 => (some t26095)) else (some false)))
end
def columbariumlaw10_TicksNumbers.f (k : Nat)  : Option (Bool) := columbariumlaw10_TicksNumbers.l0 k ([] : List Int) 0
theorem columbariumlaw10_TicksNumbers.mono_l : ∀ k, (∀ y0 y1, LeO (columbariumlaw10_TicksNumbers.l0 k y0 y1) (columbariumlaw10_TicksNumbers.l0 (k + 1) y0 y1)) ∧ (∀ y0 y1 y2 y3 y4 y5 y6 y7 y8, LeO (columbariumlaw10_TicksNumbers.l1 k y0 y1 y2 y3 y4 y5 y6 y7 y8) (columbariumlaw10_TicksNumbers.l1 (k + 1) y0 y1 y2 y3 y4 y5 y6 y7 y8)) ∧ (∀ y0 y1 y2 y3 y4 y5 y6 y7 y8 y9, LeO (columbariumlaw10_TicksNumbers.l2 k y0 y1 y2 y3 y4 y5 y6 y7 y8 y9) (columbariumlaw10_TicksNumbers.l2 (k + 1) y0 y1 y2 y3 y4 y5 y6 y7 y8 y9)) ∧ (∀ y0 y1 y2, LeO (columbariumlaw10_TicksNumbers.l3 k y0 y1 y2) (columbariumlaw10_TicksNumbers.l3 (k + 1) y0 y1 y2)) ∧ (∀ y0 y1 y2, LeO (columbariumlaw10_TicksNumbers.l4 k y0 y1 y2) (columbariumlaw10_TicksNumbers.l4 (k + 1) y0 y1 y2))
  | 0 => ⟨fun _ _ r h => by simp [columbariumlaw10_TicksNumbers.l0] at h, fun _ _ _ _ _ _ _ _ _ r h => by simp [columbariumlaw10_TicksNumbers.l1] at h, fun _ _ _ _ _ _ _ _ _ _ r h => by simp [columbariumlaw10_TicksNumbers.l2] at h, fun _ _ _ r h => by simp [columbariumlaw10_TicksNumbers.l3] at h, fun _ _ _ r h => by simp [columbariumlaw10_TicksNumbers.l4] at h⟩
  | k + 1 => by
    obtain ⟨ih0, ih1, ih2, ih3, ih4⟩ := columbariumlaw10_TicksNumbers.mono_l k
    refine ⟨?_, ?_, ?_, ?_, ?_⟩
    · intro y0 y1
      unfold columbariumlaw10_TicksNumbers.l0
      repeat' first
      | (with_reducible exact ih0 _ _)
      | (with_reducible exact ih1 _ _ _ _ _ _ _ _ _)
      | (with_reducible exact ih2 _ _ _ _ _ _ _ _ _ _)
      | (with_reducible exact ih3 _ _ _)
      | (with_reducible exact ih4 _ _ _)
      | (with_reducible exact columbariumlaw10_known.mono _)
      | (with_reducible exact columbariumlaw10_same.mono _ _ _ _ _ _ _)
      | (with_reducible exact columbariumref10_Build.mono _ _)
      | (with_reducible exact columbariumref10_Decode.mono _ _ _)
      | (with_reducible exact columbariumref10_Encode.mono _ _ _ _)
      | (with_reducible exact columbariumref10_Right.mono _ _ _ _)
      | (with_reducible exact columbariumref10_Span.mono _ _ _ _ _ _)
      | (with_reducible exact ticks_Build.mono _ _)
      | (with_reducible exact ticks_Decode.mono _ _ _)
      | (with_reducible exact ticks_Encode.mono _ _ _ _)
      | (with_reducible exact ticks_Right.mono _ _ _ _)
      | (with_reducible exact ticks_Span.mono _ _ _ _ _ _)
      | (with_reducible exact LeO.refl _)
      | (with_reducible exact LeO.none _)
      | (with_reducible refine LeO.ite ?_ ?_)
      | (with_reducible refine LeO.bind ?_ (fun _ => ?_))
      | exact ih0 _ _
      | exact ih1 _ _ _ _ _ _ _ _ _
      | exact ih2 _ _ _ _ _ _ _ _ _ _
      | exact ih3 _ _ _
      | exact ih4 _ _ _
      | exact columbariumlaw10_known.mono _
      | exact columbariumlaw10_same.mono _ _ _ _ _ _ _
      | exact columbariumref10_Build.mono _ _
      | exact columbariumref10_Decode.mono _ _ _
      | exact columbariumref10_Encode.mono _ _ _ _
      | exact columbariumref10_Right.mono _ _ _ _
      | exact columbariumref10_Span.mono _ _ _ _ _ _
      | exact ticks_Build.mono _ _
      | exact ticks_Decode.mono _ _ _
      | exact ticks_Encode.mono _ _ _ _
      | exact ticks_Right.mono _ _ _ _
      | exact ticks_Span.mono _ _ _ _ _ _
      | exact LeO.none _
      | refine LeO.ite ?_ ?_
      | refine LeO.bind ?_ (fun _ => ?_)
    · intro y0 y1 y2 y3 y4 y5 y6 y7 y8
      unfold columbariumlaw10_TicksNumbers.l1
      repeat' first
      | (with_reducible exact ih0 _ _)
      | (with_reducible exact ih1 _ _ _ _ _ _ _ _ _)
      | (with_reducible exact ih2 _ _ _ _ _ _ _ _ _ _)
      | (with_reducible exact ih3 _ _ _)
      | (with_reducible exact ih4 _ _ _)
      | (with_reducible exact columbariumlaw10_known.mono _)
      | (with_reducible exact columbariumlaw10_same.mono _ _ _ _ _ _ _)
      | (with_reducible exact columbariumref10_Build.mono _ _)
      | (with_reducible exact columbariumref10_Decode.mono _ _ _)
      | (with_reducible exact columbariumref10_Encode.mono _ _ _ _)
      | (with_reducible exact columbariumref10_Right.mono _ _ _ _)
      | (with_reducible exact columbariumref10_Span.mono _ _ _ _ _ _)
      | (with_reducible exact ticks_Build.mono _ _)
      | (with_reducible exact ticks_Decode.mono _ _ _)
      | (with_reducible exact ticks_Encode.mono _ _ _ _)
      | (with_reducible exact ticks_Right.mono _ _ _ _)
      | (with_reducible exact ticks_Span.mono _ _ _ _ _ _)
      | (with_reducible exact LeO.refl _)
      | (with_reducible exact LeO.none _)
      | (with_reducible refine LeO.ite ?_ ?_)
      | (with_reducible refine LeO.bind ?_ (fun _ => ?_))
      | exact ih0 _ _
      | exact ih1 _ _ _ _ _ _ _ _ _
      | exact ih2 _ _ _ _ _ _ _ _ _ _
      | exact ih3 _ _ _
      | exact ih4 _ _ _
      | exact columbariumlaw10_known.mono _
      | exact columbariumlaw10_same.mono _ _ _ _ _ _ _
      | exact columbariumref10_Build.mono _ _
      | exact columbariumref10_Decode.mono _ _ _
      | exact columbariumref10_Encode.mono _ _ _ _
      | exact columbariumref10_Right.mono _ _ _ _
      | exact columbariumref10_Span.mono _ _ _ _ _ _
      | exact ticks_Build.mono _ _
      | exact ticks_Decode.mono _ _ _
      | exact ticks_Encode.mono _ _ _ _
      | exact ticks_Right.mono _ _ _ _
      | exact ticks_Span.mono _ _ _ _ _ _
      | exact LeO.none _
      | refine LeO.ite ?_ ?_
      | refine LeO.bind ?_ (fun _ => ?_)
    · intro y0 y1 y2 y3 y4 y5 y6 y7 y8 y9
      unfold columbariumlaw10_TicksNumbers.l2
      repeat' first
      | (with_reducible exact ih0 _ _)
      | (with_reducible exact ih1 _ _ _ _ _ _ _ _ _)
      | (with_reducible exact ih2 _ _ _ _ _ _ _ _ _ _)
      | (with_reducible exact ih3 _ _ _)
      | (with_reducible exact ih4 _ _ _)
      | (with_reducible exact columbariumlaw10_known.mono _)
      | (with_reducible exact columbariumlaw10_same.mono _ _ _ _ _ _ _)
      | (with_reducible exact columbariumref10_Build.mono _ _)
      | (with_reducible exact columbariumref10_Decode.mono _ _ _)
      | (with_reducible exact columbariumref10_Encode.mono _ _ _ _)
      | (with_reducible exact columbariumref10_Right.mono _ _ _ _)
      | (with_reducible exact columbariumref10_Span.mono _ _ _ _ _ _)
      | (with_reducible exact ticks_Build.mono _ _)
      | (with_reducible exact ticks_Decode.mono _ _ _)
      | (with_reducible exact ticks_Encode.mono _ _ _ _)
      | (with_reducible exact ticks_Right.mono _ _ _ _)
      | (with_reducible exact ticks_Span.mono _ _ _ _ _ _)
      | (with_reducible exact LeO.refl _)
      | (with_reducible exact LeO.none _)
      | (with_reducible refine LeO.ite ?_ ?_)
      | (with_reducible refine LeO.bind ?_ (fun _ => ?_))
      | exact ih0 _ _
      | exact ih1 _ _ _ _ _ _ _ _ _
      | exact ih2 _ _ _ _ _ _ _ _ _ _
      | exact ih3 _ _ _
      | exact ih4 _ _ _
      | exact columbariumlaw10_known.mono _
      | exact columbariumlaw10_same.mono _ _ _ _ _ _ _
      | exact columbariumref10_Build.mono _ _
      | exact columbariumref10_Decode.mono _ _ _
      | exact columbariumref10_Encode.mono _ _ _ _
      | exact columbariumref10_Right.mono _ _ _ _
      | exact columbariumref10_Span.mono _ _ _ _ _ _
      | exact ticks_Build.mono _ _
      | exact ticks_Decode.mono _ _ _
      | exact ticks_Encode.mono _ _ _ _
      | exact ticks_Right.mono _ _ _ _
      | exact ticks_Span.mono _ _ _ _ _ _
      | exact LeO.none _
      | refine LeO.ite ?_ ?_
      | refine LeO.bind ?_ (fun _ => ?_)
    · intro y0 y1 y2
      unfold columbariumlaw10_TicksNumbers.l3
      repeat' first
      | (with_reducible exact ih0 _ _)
      | (with_reducible exact ih1 _ _ _ _ _ _ _ _ _)
      | (with_reducible exact ih2 _ _ _ _ _ _ _ _ _ _)
      | (with_reducible exact ih3 _ _ _)
      | (with_reducible exact ih4 _ _ _)
      | (with_reducible exact columbariumlaw10_known.mono _)
      | (with_reducible exact columbariumlaw10_same.mono _ _ _ _ _ _ _)
      | (with_reducible exact columbariumref10_Build.mono _ _)
      | (with_reducible exact columbariumref10_Decode.mono _ _ _)
      | (with_reducible exact columbariumref10_Encode.mono _ _ _ _)
      | (with_reducible exact columbariumref10_Right.mono _ _ _ _)
      | (with_reducible exact columbariumref10_Span.mono _ _ _ _ _ _)
      | (with_reducible exact ticks_Build.mono _ _)
      | (with_reducible exact ticks_Decode.mono _ _ _)
      | (with_reducible exact ticks_Encode.mono _ _ _ _)
      | (with_reducible exact ticks_Right.mono _ _ _ _)
      | (with_reducible exact ticks_Span.mono _ _ _ _ _ _)
      | (with_reducible exact LeO.refl _)
      | (with_reducible exact LeO.none _)
      | (with_reducible refine LeO.ite ?_ ?_)
      | (with_reducible refine LeO.bind ?_ (fun _ => ?_))
      | exact ih0 _ _
      | exact ih1 _ _ _ _ _ _ _ _ _
      | exact ih2 _ _ _ _ _ _ _ _ _ _
      | exact ih3 _ _ _
      | exact ih4 _ _ _
      | exact columbariumlaw10_known.mono _
      | exact columbariumlaw10_same.mono _ _ _ _ _ _ _
      | exact columbariumref10_Build.mono _ _
      | exact columbariumref10_Decode.mono _ _ _
      | exact columbariumref10_Encode.mono _ _ _ _
      | exact columbariumref10_Right.mono _ _ _ _
      | exact columbariumref10_Span.mono _ _ _ _ _ _
      | exact ticks_Build.mono _ _
      | exact ticks_Decode.mono _ _ _
      | exact ticks_Encode.mono _ _ _ _
      | exact ticks_Right.mono _ _ _ _
      | exact ticks_Span.mono _ _ _ _ _ _
      | exact LeO.none _
      | refine LeO.ite ?_ ?_
      | refine LeO.bind ?_ (fun _ => ?_)
    · intro y0 y1 y2
      unfold columbariumlaw10_TicksNumbers.l4
      repeat' first
      | (with_reducible exact ih0 _ _)
      | (with_reducible exact ih1 _ _ _ _ _ _ _ _ _)
      | (with_reducible exact ih2 _ _ _ _ _ _ _ _ _ _)
      | (with_reducible exact ih3 _ _ _)
      | (with_reducible exact ih4 _ _ _)
      | (with_reducible exact columbariumlaw10_known.mono _)
      | (with_reducible exact columbariumlaw10_same.mono _ _ _ _ _ _ _)
      | (with_reducible exact columbariumref10_Build.mono _ _)
      | (with_reducible exact columbariumref10_Decode.mono _ _ _)
      | (with_reducible exact columbariumref10_Encode.mono _ _ _ _)
      | (with_reducible exact columbariumref10_Right.mono _ _ _ _)
      | (with_reducible exact columbariumref10_Span.mono _ _ _ _ _ _)
      | (with_reducible exact ticks_Build.mono _ _)
      | (with_reducible exact ticks_Decode.mono _ _ _)
      | (with_reducible exact ticks_Encode.mono _ _ _ _)
      | (with_reducible exact ticks_Right.mono _ _ _ _)
      | (with_reducible exact ticks_Span.mono _ _ _ _ _ _)
      | (with_reducible exact LeO.refl _)
      | (with_reducible exact LeO.none _)
      | (with_reducible refine LeO.ite ?_ ?_)
      | (with_reducible refine LeO.bind ?_ (fun _ => ?_))
      | exact ih0 _ _
      | exact ih1 _ _ _ _ _ _ _ _ _
      | exact ih2 _ _ _ _ _ _ _ _ _ _
      | exact ih3 _ _ _
      | exact ih4 _ _ _
      | exact columbariumlaw10_known.mono _
      | exact columbariumlaw10_same.mono _ _ _ _ _ _ _
      | exact columbariumref10_Build.mono _ _
      | exact columbariumref10_Decode.mono _ _ _
      | exact columbariumref10_Encode.mono _ _ _ _
      | exact columbariumref10_Right.mono _ _ _ _
      | exact columbariumref10_Span.mono _ _ _ _ _ _
      | exact ticks_Build.mono _ _
      | exact ticks_Decode.mono _ _ _
      | exact ticks_Encode.mono _ _ _ _
      | exact ticks_Right.mono _ _ _ _
      | exact ticks_Span.mono _ _ _ _ _ _
      | exact LeO.none _
      | refine LeO.ite ?_ ?_
      | refine LeO.bind ?_ (fun _ => ?_)
theorem columbariumlaw10_TicksNumbers.mono : ∀ k, LeO (columbariumlaw10_TicksNumbers.f k ) (columbariumlaw10_TicksNumbers.f (k + 1) ) := by
  intro  k
  obtain ⟨ih0, ih1, ih2, ih3, ih4⟩ := columbariumlaw10_TicksNumbers.mono_l k
  unfold columbariumlaw10_TicksNumbers.f
  repeat' first
      | (with_reducible exact ih0 _ _)
      | (with_reducible exact ih1 _ _ _ _ _ _ _ _ _)
      | (with_reducible exact ih2 _ _ _ _ _ _ _ _ _ _)
      | (with_reducible exact ih3 _ _ _)
      | (with_reducible exact ih4 _ _ _)
      | (with_reducible exact columbariumlaw10_known.mono _)
      | (with_reducible exact columbariumlaw10_same.mono _ _ _ _ _ _ _)
      | (with_reducible exact columbariumref10_Build.mono _ _)
      | (with_reducible exact columbariumref10_Decode.mono _ _ _)
      | (with_reducible exact columbariumref10_Encode.mono _ _ _ _)
      | (with_reducible exact columbariumref10_Right.mono _ _ _ _)
      | (with_reducible exact columbariumref10_Span.mono _ _ _ _ _ _)
      | (with_reducible exact ticks_Build.mono _ _)
      | (with_reducible exact ticks_Decode.mono _ _ _)
      | (with_reducible exact ticks_Encode.mono _ _ _ _)
      | (with_reducible exact ticks_Right.mono _ _ _ _)
      | (with_reducible exact ticks_Span.mono _ _ _ _ _ _)
      | (with_reducible exact LeO.refl _)
      | (with_reducible exact LeO.none _)
      | (with_reducible refine LeO.ite ?_ ?_)
      | (with_reducible refine LeO.bind ?_ (fun _ => ?_))
      | exact ih0 _ _
      | exact ih1 _ _ _ _ _ _ _ _ _
      | exact ih2 _ _ _ _ _ _ _ _ _ _
      | exact ih3 _ _ _
      | exact ih4 _ _ _
      | exact columbariumlaw10_known.mono _
      | exact columbariumlaw10_same.mono _ _ _ _ _ _ _
      | exact columbariumref10_Build.mono _ _
      | exact columbariumref10_Decode.mono _ _ _
      | exact columbariumref10_Encode.mono _ _ _ _
      | exact columbariumref10_Right.mono _ _ _ _
      | exact columbariumref10_Span.mono _ _ _ _ _ _
      | exact ticks_Build.mono _ _
      | exact ticks_Decode.mono _ _ _
      | exact ticks_Encode.mono _ _ _ _
      | exact ticks_Right.mono _ _ _ _
      | exact ticks_Span.mono _ _ _ _ _ _
      | exact LeO.none _
      | refine LeO.ite ?_ ?_
      | refine LeO.bind ?_ (fun _ => ?_)
def columbariumlaw10_TicksNumbers.T25 : Bool × List (List Nat × List Nat) := (true, [([], []), ([0], [0]), ([], []), ([2, 1], [2]), ([3, 3], [3]), ([1, 4], [1, 4]), ([5, 4], [5]), ([6], [6]), ([7, 6], [6, 7]), ([6], [6]), ([9, 6], [6, 9]), ([8, 10, 6], [6, 8, 10]), ([6, 11], [6, 11]), ([12, 6], [12]), ([13], [13]), ([13], [13]), ([14, 15, 13], [13, 14, 15]), ([13, 16], [13, 16])])
def columbariumlaw10_TicksNumbers.B25 : List Nat := [0, 1, 0, 7, 15, 31, 63, 127, 255, 127, 639, 2047, 4095, 8191, 16383, 16383, 65535, 131071]
theorem columbariumlaw10_TicksNumbers.tab25 : rtab .any (opsOf Try.f12 25) = columbariumlaw10_TicksNumbers.T25 := by kernel_rfl
theorem columbariumlaw10_TicksNumbers.bits25 : waitsOk columbariumlaw10_TicksNumbers.T25.2 columbariumlaw10_TicksNumbers.B25 = true := by kernel_rfl
set_option maxHeartbeats 8000000 in
set_option maxRecDepth 100000 in
theorem columbariumlaw10_TicksNumbers.calls (k : Nat)  (r : Bool) (w : World) (h : columbariumlaw10_TicksNumbers.f k  = some r) (hr_ : Aside0 (r = true)) :
    Calls Try.prog 12 #[] w fun e w' => e = .returned (.bool r) ∧ Below w.heap.size w w' := by
  have hu61 := Try.underlying61
  have hu70 := Try.underlying70
  have HB := Aside0.mk (Below.refl w.heap.size w)
  have H : (columbariumlaw10_TicksNumbers.l0 k ([] : List Int) 0) = some r := h
  clear h
  have H' := Aside0.mk H
  clear H
  go_enter Try.func12, Try.ntmps12
  go_wp2
  go_loopg [1, 2] k (fun kq v1 v2 w' => ∃ (x1_1 : List Int) (x2_1 : Int), v2 = .int .i64 x2_1 ∧ Aside0 (columbariumlaw10_TicksNumbers.l0 kq x1_1 x2_1 = some r) ∧ Aside0 (kq ≤ k) ∧ Aside0 (Kd.R (Kd.int .i64) 2 w' w.heap.size (fun _ => True) v1 x1_1) ∧ Aside0 (Below w.heap.size w w'))
  case atStart => exact ⟨(([] : List Int)), (0), (by first | rfl | (simp; done) | (simp [*]; done) | (refine congrArg (Value.int .i64) ?_; (try simp only [decide_eq_true_eq, decide_eq_false_iff_not] at *) <;> (unfold wrap64; omega))), H', ⟨Nat.le_refl _⟩, ⟨by first | exact Kd.R_nil _ _ _ _ _ | exact Kd.N_nil _ _ _ _ _ | exact Kd.V_nil _ _ _ _ _ | exact Kd.Q_nil _ _ _ _ _ | exact Kd.S_nil _ _ _ _ _⟩, ⟨by repeat (first | (with_reducible first | exact HB.out | apply below_alloc | apply pw_below_drewN | apply below_drew1) | exact HB.out | exact Below.refl w.heap.size w)⟩⟩
  case round =>
    clear H'
    obtain ⟨x1_1, x2_1, rfl, HA, HK1, HO_1, HB⟩ := hrel
    cases gk with
    | zero => exact absurd HA.out (by simp [columbariumlaw10_TicksNumbers.l0])
    | succ k1 =>
      have H := HA.out
      clear HA
      simp only [columbariumlaw10_TicksNumbers.l0] at H
      by_cases c1 : x2_1 < 14
      · rw [if_pos c1] at H
        have c1b0 : decide (x2_1 < 14) = true := decide_eq_true c1
        clear c1
        replace H := Option.bind_eq_some_iff.mp H
        obtain ⟨⟨t26001, t26002, t26003, t26006⟩, A20, H⟩ := H
        replace H : ((columbariumref10_Build.f k1 x1_1).bind fun bt26008 => ((columbariumlaw10_same.f k1 t26001 t26002 t26003 bt26008.1 bt26008.2.1 bt26008.2.2.1).bind fun t26015 => (if t26015 = true then (if t26006 = bt26008.2.2.2 then (columbariumlaw10_TicksNumbers.l1 k1 x1_1 x2_1 (-1) t26001 t26002 t26003 bt26008.1 bt26008.2.1 bt26008.2.2.1) else (some false)) else (some false)))) = some r := H
        have A2 := Aside0.mk A20
        clear A20
        replace H := Option.bind_eq_some_iff.mp H
        obtain ⟨⟨t26008, t26009, t26010, t26013⟩, A30, H⟩ := H
        replace H : ((columbariumlaw10_same.f k1 t26001 t26002 t26003 t26008 t26009 t26010).bind fun t26015 => (if t26015 = true then (if t26006 = t26013 then (columbariumlaw10_TicksNumbers.l1 k1 x1_1 x2_1 (-1) t26001 t26002 t26003 t26008 t26009 t26010) else (some false)) else (some false))) = some r := H
        have A3 := Aside0.mk A30
        clear A30
        replace H := Option.bind_eq_some_iff.mp H
        obtain ⟨t26015, A40, H⟩ := H
        replace H : (if t26015 = true then (if t26006 = t26013 then (columbariumlaw10_TicksNumbers.l1 k1 x1_1 x2_1 (-1) t26001 t26002 t26003 t26008 t26009 t26010) else (some false)) else (some false)) = some r := H
        have A4 := Aside0.mk A40
        clear A40
        by_cases c5 : t26015 = true
        · subst c5
          have H1 : (if t26006 = t26013 then (columbariumlaw10_TicksNumbers.l1 k1 x1_1 x2_1 (-1) t26001 t26002 t26003 t26008 t26009 t26010) else (some false)) = some r := by rw [if_pos rfl] at H; exact H
          clear H
          have H := H1
          clear H1
          by_cases c6 : t26006 = t26013
          · rw [if_pos c6] at H
            have c6b0 : (t26006 == t26013) = true := beq_iff_eq.mpr c6
            have c6b1 : (t26006 != t26013) = false := bne_eq_false_iff_eq.mpr c6
            clear c6
            have H' := Aside0.mk H
            clear H
            obtain ⟨Ao7, co7, eo7⟩ := Kd.R_slice HO_1.out
            subst eo7
            go_wp2_with (first | ((with_reducible refine gate_callee (f := 30) rfl ?_); refine goesL_ (some 36) rfl rfl Try.func30 (by kernel_rfl) rfl #[.slice Ao7 x1_1.length co7] rfl (by (try simp only [List.map_toArray, List.map_cons, List.map_nil]); first | done | rfl | (simp only [List.length_drop, List.length_take]; rfl)) ?_; (with_reducible refine (ticks_Build.calls k1 _ _ x1_1 t26001 t26002 t26003 t26006 _ ?side1 ?side2 A2.out).mono ?_); (case side1 => repeat (first | exact (Kd.R_reads' HO_1.out).2.2 | (with_reducible refine Kd.C_alloc ?_ _) | (with_reducible refine Kd.C_drewN ?_ _) | (with_reducible refine Kd.C_drew ?_))); (case side2 => exact (Kd.R_reads' HO_1.out).2.1); rintro e w8 ⟨v26004, rfl, ho0, hb⟩; refine ⟨_, rfl, ?_⟩; have n0_ := Aside0.mk (Kd.R_elder' (by (with_reducible repeat (first | apply Kd.R_alloc | apply Kd.R_drewN | apply Kd.R_drew)); exact HO_1.out) (Kd.R_base ho0) hb); have n1_ := Aside0.mk (Kd.R_lower (Kd.R_new' ho0 (Kd.R_lt (by (with_reducible repeat (first | apply Kd.R_alloc | apply Kd.R_drewN | apply Kd.R_drew)); exact HO_1.out))) (below_size (by repeat (first | (with_reducible first | exact HB.out | apply below_alloc | apply pw_below_drewN | apply below_drew1) | exact HB.out | exact Below.refl w.heap.size w)))); have n2_ := Aside0.mk (below_step (by repeat (first | (with_reducible first | exact HB.out | apply below_alloc | apply pw_below_drewN | apply below_drew1) | exact HB.out | exact Below.refl w.heap.size w)) hb); clear HO_1; clear HB; have HO_1 := n0_; have HO26005 := n1_; have HB := n2_; clear n0_ n1_ n2_; (try clear hb); (try clear hb2); (try clear hk); (try clear hi); (try clear ho0)) | ((with_reducible refine gate_dst (N := 3) rfl ?_); refine box_event ?hg (N := 3) ?hd (cs := #[.int .i64 0, .int .i64 0, .slice none 0 0]) (t := 61) ?hr ?_; (case hd => rfl); (case hg => rfl); (case hr => first | (go_simp; done) | (go_simp; rfl)); intro gb26007 hg w9 hbox hb; have n0_ := Aside0.mk (Kd.R_below (by (with_reducible repeat (first | apply Kd.R_alloc | apply Kd.R_drewN | apply Kd.R_drew)); exact HO_1.out) hb); have n1_ := Aside0.mk (Kd.R_below (by (with_reducible repeat (first | apply Kd.R_alloc | apply Kd.R_drewN | apply Kd.R_drew)); exact HO26005.out) hb); have n2_ := Aside0.mk (below_step (by repeat (first | (with_reducible first | exact HB.out | apply below_alloc | apply pw_below_drewN | apply below_drew1) | exact HB.out | exact Below.refl w.heap.size w)) hb); have n3_ := Aside0.mk (hbox); have n4_ := Aside0.mk ((by rw [hg]; exact (below_size (by repeat (first | (with_reducible first | exact HB.out | apply below_alloc | apply pw_below_drewN | apply below_drew1) | exact HB.out | exact Below.refl w.heap.size w))) : w.heap.size ≤ gb26007)); have n5_ := Aside0.mk ((by rw [hg]; exact (below_size (by repeat (first | (with_reducible first | exact HB.out | apply below_alloc | apply pw_below_drewN | apply below_drew1) | exact HB.out | exact Below.refl w.heap.size w))) : w.heap.size ≤ gb26007)); clear HO_1; clear HO26005; clear HB; have HO_1 := n0_; have HO26005 := n1_; have HB := n2_; have BK26007 := n3_; have GW26007 := n4_; have GE26007 := n5_; clear n0_ n1_ n2_ n3_ n4_ n5_; clear hb hbox hg; have hcz10_0 : w9.cell? ⟨gb26007, 0, none⟩ = some (.int .i64 0) := (blk_cell BK26007.out 0).trans rfl; have hcz10_1 : w9.cell? ⟨gb26007, 1, none⟩ = some (.int .i64 0) := (blk_cell BK26007.out 1).trans rfl; have hcz10_2 : w9.cell? ⟨gb26007, 2, none⟩ = some (.slice none 0 0) := (blk_cell BK26007.out 2).trans rfl; have hfz10_0 := blk_frozen BK26007.out 0; have hfz10_1 := blk_frozen BK26007.out 1; have hfz10_2 := blk_frozen BK26007.out 2; obtain ⟨Ao11, co11, eo11⟩ := Kd.R_slice HO26005.out; subst eo11) | ((with_reducible refine gate_callee (f := 34) rfl ?_); refine goesL_ (some 41) rfl rfl Try.func34 (by kernel_rfl) rfl #[.slice Ao7 x1_1.length co7] rfl (by (try simp only [List.map_toArray, List.map_cons, List.map_nil]); first | done | rfl | (simp only [List.length_drop, List.length_take]; rfl)) ?_; (with_reducible refine (columbariumref10_Build.calls k1 _ _ x1_1 t26008 t26009 t26010 t26013 _ ?side1 ?side2 A3.out).mono ?_); (case side1 => refine (Kd.R_reads' (e := 2) (base := w.heap.size) (ok := fun k_ => (True ∧ some k_ ≠ (.slice Ao11 t26003.length co11 : Value).ownBlock)) (n := x1_1.length) (c := co7) ?_).2.2; exact (by (with_reducible repeat (first | apply Kd.R_alloc | apply Kd.R_drewN | apply Kd.R_drew)); exact (Kd.R_mono (Kd.R_far (p := ⟨gb26007, 2, none⟩) (Kd.R_far (p := ⟨gb26007, 1, none⟩) (Kd.R_far (p := ⟨gb26007, 0, none⟩) (Kd.R_types HO_1.out BK26007.out (by decide)) (fun _ hk => hk.2) (.int .i64 t26001)) (fun _ hk => hk.2) (.int .i64 t26002)) (fun _ hk => hk.2) (.slice Ao11 t26003.length co11)) (fun _ h_ => h_.1)))); (case side2 => exact (Kd.R_reads' HO_1.out).2.1); rintro e w12 ⟨v26011, rfl, ho0, hb⟩; refine ⟨_, rfl, ?_⟩; have n0_ := Aside0.mk (Kd.R_elder' (by (with_reducible repeat (first | apply Kd.R_alloc | apply Kd.R_drewN | apply Kd.R_drew)); exact (Kd.R_mono (Kd.R_far (p := ⟨gb26007, 2, none⟩) (Kd.R_far (p := ⟨gb26007, 1, none⟩) (Kd.R_far (p := ⟨gb26007, 0, none⟩) (Kd.R_types HO_1.out BK26007.out (by decide)) (fun _ hk => hk.2) (.int .i64 t26001)) (fun _ hk => hk.2) (.int .i64 t26002)) (fun _ hk => hk.2) (.slice Ao11 t26003.length co11)) (fun _ h_ => h_.1))) (Kd.R_base ho0) hb); have n1_ := Aside0.mk (Kd.R_elder' (by (with_reducible repeat (first | apply Kd.R_alloc | apply Kd.R_drewN | apply Kd.R_drew)); exact (Kd.R_mono (Kd.R_far (p := ⟨gb26007, 2, none⟩) (Kd.R_far (p := ⟨gb26007, 1, none⟩) (Kd.R_far (p := ⟨gb26007, 0, none⟩) (Kd.R_types HO26005.out BK26007.out (by decide)) (fun _ hk => hk.2) (.int .i64 t26001)) (fun _ hk => hk.2) (.int .i64 t26002)) (fun _ hk => hk.2) (.slice Ao11 t26003.length co11)) (fun _ h_ => h_.1))) (Kd.R_base ho0) hb); have n2_ := Aside0.mk (Kd.R_lower (Kd.R_new' (Kd.R_new' ho0 (Kd.R_lt (by (with_reducible repeat (first | apply Kd.R_alloc | apply Kd.R_drewN | apply Kd.R_drew)); exact (Kd.R_mono (Kd.R_far (p := ⟨gb26007, 2, none⟩) (Kd.R_far (p := ⟨gb26007, 1, none⟩) (Kd.R_far (p := ⟨gb26007, 0, none⟩) (Kd.R_types HO_1.out BK26007.out (by decide)) (fun _ hk => hk.2) (.int .i64 t26001)) (fun _ hk => hk.2) (.int .i64 t26002)) (fun _ hk => hk.2) (.slice Ao11 t26003.length co11)) (fun _ h_ => h_.1))))) (Kd.R_lt (by (with_reducible repeat (first | apply Kd.R_alloc | apply Kd.R_drewN | apply Kd.R_drew)); exact (Kd.R_mono (Kd.R_far (p := ⟨gb26007, 2, none⟩) (Kd.R_far (p := ⟨gb26007, 1, none⟩) (Kd.R_far (p := ⟨gb26007, 0, none⟩) (Kd.R_types HO26005.out BK26007.out (by decide)) (fun _ hk => hk.2) (.int .i64 t26001)) (fun _ hk => hk.2) (.int .i64 t26002)) (fun _ hk => hk.2) (.slice Ao11 t26003.length co11)) (fun _ h_ => h_.1))))) (below_size (by repeat (first | (with_reducible first | exact HB.out | apply below_alloc | apply pw_below_drewN | apply below_drew1 | refine below_set ?_ GE26007.out) | exact HB.out | exact Below.refl w.heap.size w)))); have n3_ := Aside0.mk (blk_below (g := gb26007) (o := .cells #[.int .i64 t26001, .int .i64 t26002, .slice Ao11 t26003.length co11] 61 (0, 0)) (by (with_reducible repeat (first | refine blk_drewN ?_ _ | refine blk_drew ?_ | refine blk_alloc ?_ _)); refine blk_put (cs := #[.int .i64 t26001, .int .i64 t26002, .slice none 0 0]) ?_ 2 _ rfl; (with_reducible repeat (first | refine blk_drewN ?_ _ | refine blk_drew ?_ | refine blk_alloc ?_ _)); refine blk_put (cs := #[.int .i64 t26001, .int .i64 0, .slice none 0 0]) ?_ 1 _ rfl; (with_reducible repeat (first | refine blk_drewN ?_ _ | refine blk_drew ?_ | refine blk_alloc ?_ _)); refine blk_put (cs := #[.int .i64 0, .int .i64 0, .slice none 0 0]) ?_ 0 _ rfl; (with_reducible repeat (first | refine blk_drewN ?_ _ | refine blk_drew ?_ | refine blk_alloc ?_ _)); exact BK26007.out) hb); have n4_ := Aside0.mk (below_step (by repeat (first | (with_reducible first | exact HB.out | apply below_alloc | apply pw_below_drewN | apply below_drew1 | refine below_set ?_ GE26007.out) | exact HB.out | exact Below.refl w.heap.size w)) hb); clear HO_1; clear HO26005; clear BK26007; clear HB; have HO_1 := n0_; have HO26005 := n1_; have HO26012 := n2_; have BK26007 := n3_; have HB := n4_; clear n0_ n1_ n2_ n3_ n4_; (try clear hb); (try clear hb2); (try clear hk); (try clear hi); (try clear ho0)) | ((with_reducible refine gate_dst (N := 5) rfl ?_); refine box_event ?hg (N := 5) ?hd (cs := #[.int .i64 0, .int .i64 0, .slice none 0 0]) (t := 70) ?hr ?_; (case hd => rfl); (case hg => rfl); (case hr => first | (go_simp; done) | (go_simp; rfl)); intro gb26014 hg w13 hbox hb; have n0_ := Aside0.mk (Kd.R_below (by (with_reducible repeat (first | apply Kd.R_alloc | apply Kd.R_drewN | apply Kd.R_drew)); exact HO_1.out) hb); have n1_ := Aside0.mk (Kd.R_below (by (with_reducible repeat (first | apply Kd.R_alloc | apply Kd.R_drewN | apply Kd.R_drew)); exact HO26005.out) hb); have n2_ := Aside0.mk (Kd.R_below (by (with_reducible repeat (first | apply Kd.R_alloc | apply Kd.R_drewN | apply Kd.R_drew)); exact HO26012.out) hb); have n3_ := Aside0.mk (blk_below (g := gb26007) (o := .cells #[.int .i64 t26001, .int .i64 t26002, .slice Ao11 t26003.length co11] 61 (0, 0)) (by (with_reducible repeat (first | refine blk_drewN ?_ _ | refine blk_drew ?_ | refine blk_alloc ?_ _)); exact BK26007.out) hb); have n4_ := Aside0.mk (below_step (by repeat (first | (with_reducible first | exact HB.out | apply below_alloc | apply pw_below_drewN | apply below_drew1 | refine below_set ?_ GE26007.out) | exact HB.out | exact Below.refl w.heap.size w)) hb); have n5_ := Aside0.mk (hbox); have n6_ := Aside0.mk ((by rw [hg]; exact (below_size (by repeat (first | (with_reducible first | exact HB.out | apply below_alloc | apply pw_below_drewN | apply below_drew1 | refine below_set ?_ GE26007.out) | exact HB.out | exact Below.refl w.heap.size w))) : w.heap.size ≤ gb26014)); have n7_ := Aside0.mk ((by rw [hg]; exact (below_size (by repeat (first | (with_reducible first | exact HB.out | apply below_alloc | apply pw_below_drewN | apply below_drew1 | refine below_set ?_ GE26007.out) | exact HB.out | exact Below.refl w.heap.size w))) : w.heap.size ≤ gb26014)); have n8_ := Aside0.mk ((by rw [hg]; exact Nat.ne_of_lt (blk_lt (g := gb26007) (o := .cells #[.int .i64 t26001, .int .i64 t26002, .slice Ao11 t26003.length co11] 61 (0, 0)) (by (with_reducible repeat (first | refine blk_drewN ?_ _ | refine blk_drew ?_ | refine blk_alloc ?_ _)); exact BK26007.out)) : gb26007 ≠ gb26014)); have n9_ := Aside0.mk ((by rw [hg]; exact Nat.ne_of_gt (blk_lt (g := gb26007) (o := .cells #[.int .i64 t26001, .int .i64 t26002, .slice Ao11 t26003.length co11] 61 (0, 0)) (by (with_reducible repeat (first | refine blk_drewN ?_ _ | refine blk_drew ?_ | refine blk_alloc ?_ _)); exact BK26007.out)) : gb26014 ≠ gb26007)); clear HO_1; clear HO26005; clear HO26012; clear BK26007; clear HB; have HO_1 := n0_; have HO26005 := n1_; have HO26012 := n2_; have BK26007 := n3_; have HB := n4_; have BK26014 := n5_; have GW26014 := n6_; have GE26014 := n7_; have NB26007_26014 := n8_; have NB26014_26007 := n9_; clear n0_ n1_ n2_ n3_ n4_ n5_ n6_ n7_ n8_ n9_; clear hb hbox hg; have hnb14 := NB26014_26007.out; have hnc14 := NB26007_26014.out; have hcz15_0 : w13.cell? ⟨gb26014, 0, none⟩ = some (.int .i64 0) := (blk_cell BK26014.out 0).trans rfl; have hcz15_1 : w13.cell? ⟨gb26014, 1, none⟩ = some (.int .i64 0) := (blk_cell BK26014.out 1).trans rfl; have hcz15_2 : w13.cell? ⟨gb26014, 2, none⟩ = some (.slice none 0 0) := (blk_cell BK26014.out 2).trans rfl; have hfz15_0 := blk_frozen BK26014.out 0; have hfz15_1 := blk_frozen BK26014.out 1; have hfz15_2 := blk_frozen BK26014.out 2; obtain ⟨Ao16, co16, eo16⟩ := Kd.R_slice HO26012.out; subst eo16; have hcz17_0 : w13.cell? ⟨gb26007, 0, none⟩ = some (.int .i64 t26001) := (blk_cell BK26007.out 0).trans rfl; have hcz17_1 : w13.cell? ⟨gb26007, 1, none⟩ = some (.int .i64 t26002) := (blk_cell BK26007.out 1).trans rfl; have hcz17_2 : w13.cell? ⟨gb26007, 2, none⟩ = some (.slice Ao11 t26003.length co11) := (blk_cell BK26007.out 2).trans rfl; have hfz17_0 := blk_frozen BK26007.out 0; have hfz17_1 := blk_frozen BK26007.out 1; have hfz17_2 := blk_frozen BK26007.out 2) | ((with_reducible refine gate_callee (f := 35) rfl ?_); refine goesL_ (some 46) rfl rfl Try.func35 (by kernel_rfl) rfl #[.agg #[.int .i64 t26001, .int .i64 t26002, .slice Ao11 t26003.length co11], .agg #[.int .i64 t26008, .int .i64 t26009, .slice Ao16 t26010.length co16]] rfl (by (try simp only [List.map_toArray, List.map_cons, List.map_nil]); first | done | rfl | (simp only [List.length_drop, List.length_take]; rfl)) ?_; (with_reducible refine (columbariumlaw10_same.calls k1 t26001 t26002 _ _ t26003 t26008 t26009 _ _ t26010 true _ ?side1 ?side2 ?side3 ?side4 A4.out).mono ?_); (case side1 => refine (Kd.R_reads' (e := 2) (base := w.heap.size) (ok := fun k_ => ((True ∧ some k_ ≠ (.slice Ao7 x1_1.length co7 : Value).ownBlock) ∧ some k_ ≠ (.slice Ao16 t26010.length co16 : Value).ownBlock)) (n := t26003.length) (c := co11) ?_).2.2; exact (by (with_reducible repeat (first | apply Kd.R_alloc | apply Kd.R_drewN | apply Kd.R_drew)); exact (Kd.R_mono (Kd.R_far (p := ⟨gb26014, 2, none⟩) (Kd.R_far (p := ⟨gb26014, 1, none⟩) (Kd.R_far (p := ⟨gb26014, 0, none⟩) (Kd.R_types HO26005.out BK26014.out (by decide)) (fun _ hk => hk.2) (.int .i64 t26008)) (fun _ hk => hk.2) (.int .i64 t26009)) (fun _ hk => hk.2) (.slice Ao16 t26010.length co16)) (fun _ h_ => h_.1)))); (case side2 => exact (Kd.R_reads' HO26005.out).2.1); (case side3 => refine (Kd.R_reads' (e := 2) (base := w.heap.size) (ok := fun k_ => ((True ∧ some k_ ≠ (.slice Ao7 x1_1.length co7 : Value).ownBlock) ∧ some k_ ≠ (.slice Ao11 t26003.length co11 : Value).ownBlock)) (n := t26010.length) (c := co16) ?_).2.2; exact (by (with_reducible repeat (first | apply Kd.R_alloc | apply Kd.R_drewN | apply Kd.R_drew)); exact (Kd.R_mono (Kd.R_far (p := ⟨gb26014, 2, none⟩) (Kd.R_far (p := ⟨gb26014, 1, none⟩) (Kd.R_far (p := ⟨gb26014, 0, none⟩) (Kd.R_types HO26012.out BK26014.out (by decide)) (fun _ hk => hk.2) (.int .i64 t26008)) (fun _ hk => hk.2) (.int .i64 t26009)) (fun _ hk => hk.2) (.slice Ao16 t26010.length co16)) (fun _ h_ => h_.1)))); (case side4 => exact (Kd.R_reads' HO26012.out).2.1); rintro e w18 ⟨rfl, hb⟩; refine ⟨_, rfl, ?_⟩; have n0_ := Aside0.mk (Kd.R_below (by (with_reducible repeat (first | apply Kd.R_alloc | apply Kd.R_drewN | apply Kd.R_drew)); exact (Kd.R_mono (Kd.R_far (p := ⟨gb26014, 2, none⟩) (Kd.R_far (p := ⟨gb26014, 1, none⟩) (Kd.R_far (p := ⟨gb26014, 0, none⟩) (Kd.R_types HO_1.out BK26014.out (by decide)) (fun _ hk => hk.2) (.int .i64 t26008)) (fun _ hk => hk.2) (.int .i64 t26009)) (fun _ hk => hk.2) (.slice Ao16 t26010.length co16)) (fun _ h_ => h_.1))) hb); have n1_ := Aside0.mk (Kd.R_below (by (with_reducible repeat (first | apply Kd.R_alloc | apply Kd.R_drewN | apply Kd.R_drew)); exact (Kd.R_mono (Kd.R_far (p := ⟨gb26014, 2, none⟩) (Kd.R_far (p := ⟨gb26014, 1, none⟩) (Kd.R_far (p := ⟨gb26014, 0, none⟩) (Kd.R_types HO26005.out BK26014.out (by decide)) (fun _ hk => hk.2) (.int .i64 t26008)) (fun _ hk => hk.2) (.int .i64 t26009)) (fun _ hk => hk.2) (.slice Ao16 t26010.length co16)) (fun _ h_ => h_.1))) hb); have n2_ := Aside0.mk (Kd.R_below (by (with_reducible repeat (first | apply Kd.R_alloc | apply Kd.R_drewN | apply Kd.R_drew)); exact (Kd.R_mono (Kd.R_far (p := ⟨gb26014, 2, none⟩) (Kd.R_far (p := ⟨gb26014, 1, none⟩) (Kd.R_far (p := ⟨gb26014, 0, none⟩) (Kd.R_types HO26012.out BK26014.out (by decide)) (fun _ hk => hk.2) (.int .i64 t26008)) (fun _ hk => hk.2) (.int .i64 t26009)) (fun _ hk => hk.2) (.slice Ao16 t26010.length co16)) (fun _ h_ => h_.1))) hb); have n3_ := Aside0.mk (blk_below (g := gb26007) (o := .cells #[.int .i64 t26001, .int .i64 t26002, .slice Ao11 t26003.length co11] 61 (0, 0)) (by (with_reducible repeat (first | refine blk_drewN ?_ _ | refine blk_drew ?_ | refine blk_alloc ?_ _)); refine blk_far ?_ NB26007_26014.out _; (with_reducible repeat (first | refine blk_drewN ?_ _ | refine blk_drew ?_ | refine blk_alloc ?_ _)); refine blk_far ?_ NB26007_26014.out _; (with_reducible repeat (first | refine blk_drewN ?_ _ | refine blk_drew ?_ | refine blk_alloc ?_ _)); refine blk_far ?_ NB26007_26014.out _; (with_reducible repeat (first | refine blk_drewN ?_ _ | refine blk_drew ?_ | refine blk_alloc ?_ _)); exact BK26007.out) hb); have n4_ := Aside0.mk (blk_below (g := gb26014) (o := .cells #[.int .i64 t26008, .int .i64 t26009, .slice Ao16 t26010.length co16] 70 (0, 0)) (by (with_reducible repeat (first | refine blk_drewN ?_ _ | refine blk_drew ?_ | refine blk_alloc ?_ _)); refine blk_put (cs := #[.int .i64 t26008, .int .i64 t26009, .slice none 0 0]) ?_ 2 _ rfl; (with_reducible repeat (first | refine blk_drewN ?_ _ | refine blk_drew ?_ | refine blk_alloc ?_ _)); refine blk_put (cs := #[.int .i64 t26008, .int .i64 0, .slice none 0 0]) ?_ 1 _ rfl; (with_reducible repeat (first | refine blk_drewN ?_ _ | refine blk_drew ?_ | refine blk_alloc ?_ _)); refine blk_put (cs := #[.int .i64 0, .int .i64 0, .slice none 0 0]) ?_ 0 _ rfl; (with_reducible repeat (first | refine blk_drewN ?_ _ | refine blk_drew ?_ | refine blk_alloc ?_ _)); exact BK26014.out) hb); have n5_ := Aside0.mk (below_step (by repeat (first | (with_reducible first | exact HB.out | apply below_alloc | apply pw_below_drewN | apply below_drew1 | refine below_set ?_ GE26007.out | refine below_set ?_ GE26014.out) | exact HB.out | exact Below.refl w.heap.size w)) hb); clear HO_1; clear HO26005; clear HO26012; clear BK26007; clear BK26014; clear HB; have HO_1 := n0_; have HO26005 := n1_; have HO26012 := n2_; have BK26007 := n3_; have BK26014 := n4_; have HB := n5_; clear n0_ n1_ n2_ n3_ n4_ n5_; (try clear hb); (try clear hb2); (try clear hk); (try clear hi)))
            go_loopg [7] k1 (fun kq v7 w' => ∃ (x7_2 : Int), v7 = .int .i64 x7_2 ∧ Aside0 (columbariumlaw10_TicksNumbers.l1 kq x1_1 x2_1 x7_2 t26001 t26002 t26003 t26008 t26009 t26010 = some r) ∧ Aside0 (kq ≤ k1) ∧ Aside0 (Kd.R (Kd.int .i64) 2 w' w.heap.size (fun k_ => some k_ ≠ ((.slice Ao11 t26003.length co11) : Value).ownBlock ∧ some k_ ≠ ((.slice Ao16 t26010.length co16) : Value).ownBlock) (.slice Ao7 x1_1.length co7) x1_1) ∧ Aside0 (Kd.R (Kd.int .i64) 2 w' w.heap.size (fun k_ => some k_ ≠ ((.slice Ao7 x1_1.length co7) : Value).ownBlock ∧ some k_ ≠ ((.slice Ao16 t26010.length co16) : Value).ownBlock) (.slice Ao11 t26003.length co11) t26003) ∧ Aside0 (Kd.R (Kd.int .i64) 2 w' w.heap.size (fun k_ => some k_ ≠ ((.slice Ao7 x1_1.length co7) : Value).ownBlock ∧ some k_ ≠ ((.slice Ao11 t26003.length co11) : Value).ownBlock) (.slice Ao16 t26010.length co16) t26010) ∧ Aside0 (w'.heap[gb26007]? = some (.cells #[.int .i64 t26001, .int .i64 t26002, (.slice Ao11 t26003.length co11)] 61 (0, 0))) ∧ Aside0 (w'.heap[gb26014]? = some (.cells #[.int .i64 t26008, .int .i64 t26009, (.slice Ao16 t26010.length co16)] 70 (0, 0))) ∧ Aside0 (Below w.heap.size w w'))
            case atStart => exact ⟨((-1)), (by first | rfl | (simp; done) | (simp [*]; done) | (refine congrArg (Value.int .i64) ?_; (try simp only [decide_eq_true_eq, decide_eq_false_iff_not] at *) <;> (unfold wrap64; omega))), H', ⟨Nat.le_refl _⟩, ⟨by (with_reducible repeat (first | apply Kd.R_alloc | apply Kd.R_drewN | apply Kd.R_drew)); exact Kd.R_mono HO_1.out (fun _ hk => ⟨hk.1.2, hk.2⟩)⟩, ⟨by (with_reducible repeat (first | apply Kd.R_alloc | apply Kd.R_drewN | apply Kd.R_drew)); exact Kd.R_mono HO26005.out (fun _ hk => ⟨hk.1.2, hk.2⟩)⟩, ⟨by (with_reducible repeat (first | apply Kd.R_alloc | apply Kd.R_drewN | apply Kd.R_drew)); exact Kd.R_mono HO26012.out (fun _ hk => ⟨hk.1.2, hk.2⟩)⟩, ⟨by (with_reducible repeat (first | refine blk_drewN ?_ _ | refine blk_drew ?_ | refine blk_alloc ?_ _)); exact BK26007.out⟩, ⟨by (with_reducible repeat (first | refine blk_drewN ?_ _ | refine blk_drew ?_ | refine blk_alloc ?_ _)); exact BK26014.out⟩, ⟨by repeat (first | (with_reducible first | exact HB.out | apply below_alloc | apply pw_below_drewN | apply below_drew1 | refine below_set ?_ GE26007.out | refine below_set ?_ GE26014.out) | exact HB.out | exact Below.refl w.heap.size w)⟩⟩
            case round =>
              clear H'
              try clear c1
              try clear c1b0
              try clear p2
              try clear c3
              try clear c5
              try clear c6
              try clear c6b0
              try clear c6b1
              try clear p6
              try clear c12
              try clear c14
              try clear hcz10_0
              try clear hcz10_1
              try clear hcz10_2
              try clear hcz15_0
              try clear hcz15_1
              try clear hcz15_2
              try clear hcz17_0
              try clear hcz17_1
              try clear hcz17_2
              try clear hfz10_0
              try clear hfz10_1
              try clear hfz10_2
              try clear hfz15_0
              try clear hfz15_1
              try clear hfz15_2
              try clear hfz17_0
              try clear hfz17_1
              try clear hfz17_2
              obtain ⟨x7_2, rfl, HA, HK2, HO_1, HO_26008002, HO_26015002, BK26007, BK26014, HB⟩ := hrel
              cases gk with
              | zero => exact absurd HA.out (by simp [columbariumlaw10_TicksNumbers.l1])
              | succ k2 =>
                have H := HA.out
                clear HA
                simp only [columbariumlaw10_TicksNumbers.l1] at H
                by_cases c19 : x7_2 < 16
                · rw [if_pos c19] at H
                  have c19b0 : decide (x7_2 < 16) = true := decide_eq_true c19
                  clear c19
                  have H' := Aside0.mk H
                  clear H
                  go_wp2
                  go_loopg [8] k2 (fun kq v8 w' => ∃ (x8_3 : Int), v8 = .int .i64 x8_3 ∧ Aside0 (columbariumlaw10_TicksNumbers.l2 kq x1_1 x2_1 x7_2 x8_3 t26001 t26002 t26003 t26008 t26009 t26010 = some r) ∧ Aside0 (kq ≤ k2) ∧ Aside0 (Kd.R (Kd.int .i64) 2 w' w.heap.size (fun k_ => some k_ ≠ ((.slice Ao11 t26003.length co11) : Value).ownBlock ∧ some k_ ≠ ((.slice Ao16 t26010.length co16) : Value).ownBlock) (.slice Ao7 x1_1.length co7) x1_1) ∧ Aside0 (Kd.R (Kd.int .i64) 2 w' w.heap.size (fun k_ => some k_ ≠ ((.slice Ao7 x1_1.length co7) : Value).ownBlock ∧ some k_ ≠ ((.slice Ao16 t26010.length co16) : Value).ownBlock) (.slice Ao11 t26003.length co11) t26003) ∧ Aside0 (Kd.R (Kd.int .i64) 2 w' w.heap.size (fun k_ => some k_ ≠ ((.slice Ao7 x1_1.length co7) : Value).ownBlock ∧ some k_ ≠ ((.slice Ao11 t26003.length co11) : Value).ownBlock) (.slice Ao16 t26010.length co16) t26010) ∧ Aside0 (w'.heap[gb26007]? = some (.cells #[.int .i64 t26001, .int .i64 t26002, (.slice Ao11 t26003.length co11)] 61 (0, 0))) ∧ Aside0 (w'.heap[gb26014]? = some (.cells #[.int .i64 t26008, .int .i64 t26009, (.slice Ao16 t26010.length co16)] 70 (0, 0))) ∧ Aside0 (Below w.heap.size w w'))
                  case atStart => exact ⟨((-1)), (by first | rfl | (simp; done) | (simp [*]; done) | (refine congrArg (Value.int .i64) ?_; (try simp only [decide_eq_true_eq, decide_eq_false_iff_not] at *) <;> (unfold wrap64; omega))), H', ⟨Nat.le_refl _⟩, ⟨by (with_reducible repeat (first | apply Kd.R_alloc | apply Kd.R_drewN | apply Kd.R_drew)); exact HO_1.out⟩, ⟨by (with_reducible repeat (first | apply Kd.R_alloc | apply Kd.R_drewN | apply Kd.R_drew)); exact HO_26008002.out⟩, ⟨by (with_reducible repeat (first | apply Kd.R_alloc | apply Kd.R_drewN | apply Kd.R_drew)); exact HO_26015002.out⟩, ⟨by (with_reducible repeat (first | refine blk_drewN ?_ _ | refine blk_drew ?_ | refine blk_alloc ?_ _)); exact BK26007.out⟩, ⟨by (with_reducible repeat (first | refine blk_drewN ?_ _ | refine blk_drew ?_ | refine blk_alloc ?_ _)); exact BK26014.out⟩, ⟨by repeat (first | (with_reducible first | exact HB.out | apply below_alloc | apply pw_below_drewN | apply below_drew1 | refine below_set ?_ GE26007.out | refine below_set ?_ GE26014.out) | exact HB.out | exact Below.refl w.heap.size w)⟩⟩
                  case round =>
                    clear H'
                    try clear c1
                    try clear c1b0
                    try clear p2
                    try clear c3
                    try clear c5
                    try clear c6
                    try clear c6b0
                    try clear c6b1
                    try clear p6
                    try clear c12
                    try clear c14
                    try clear c19
                    try clear c19b0
                    try clear hcz10_0
                    try clear hcz10_1
                    try clear hcz10_2
                    try clear hcz15_0
                    try clear hcz15_1
                    try clear hcz15_2
                    try clear hcz17_0
                    try clear hcz17_1
                    try clear hcz17_2
                    try clear hfz10_0
                    try clear hfz10_1
                    try clear hfz10_2
                    try clear hfz15_0
                    try clear hfz15_1
                    try clear hfz15_2
                    try clear hfz17_0
                    try clear hfz17_1
                    try clear hfz17_2
                    try clear p2
                    try clear p6
                    obtain ⟨x8_3, rfl, HA, HK3, HO_1, HO_26008002, HO_26015002, BK26007, BK26014, HB⟩ := hrel
                    cases gk with
                    | zero => exact absurd HA.out (by simp [columbariumlaw10_TicksNumbers.l2])
                    | succ k3 =>
                      have H := HA.out
                      clear HA
                      simp only [columbariumlaw10_TicksNumbers.l2] at H
                      by_cases c20 : x8_3 < 16
                      · rw [if_pos c20] at H
                        have c20b0 : decide (x8_3 < 16) = true := decide_eq_true c20
                        clear c20
                        replace H := Option.bind_eq_some_iff.mp H
                        obtain ⟨⟨t26019, t26020⟩, A210, H⟩ := H
                        replace H : ((columbariumref10_Span.f k3 t26008 t26009 t26010 x7_2 x8_3).bind fun bt26021 => (if t26019 = bt26021.1 then (if t26020 = bt26021.2 then (columbariumlaw10_TicksNumbers.l2 k3 x1_1 x2_1 x7_2 (wrap64 (x8_3 + 1)) t26001 t26002 t26003 t26008 t26009 t26010) else (some false)) else (some false))) = some r := H
                        have A21 := Aside0.mk A210
                        clear A210
                        replace H := Option.bind_eq_some_iff.mp H
                        obtain ⟨⟨t26021, t26022⟩, A220, H⟩ := H
                        replace H : (if t26019 = t26021 then (if t26020 = t26022 then (columbariumlaw10_TicksNumbers.l2 k3 x1_1 x2_1 x7_2 (wrap64 (x8_3 + 1)) t26001 t26002 t26003 t26008 t26009 t26010) else (some false)) else (some false)) = some r := H
                        have A22 := Aside0.mk A220
                        clear A220
                        by_cases c23 : t26019 = t26021
                        · rw [if_pos c23] at H
                          have c23b0 : (t26019 == t26021) = true := beq_iff_eq.mpr c23
                          have c23b1 : (t26019 != t26021) = false := bne_eq_false_iff_eq.mpr c23
                          clear c23
                          by_cases c24 : t26020 = t26022
                          · rw [if_pos c24] at H
                            have c24b0 : (t26020 == t26022) = true := beq_iff_eq.mpr c24
                            have c24b1 : (t26020 != t26022) = false := bne_eq_false_iff_eq.mpr c24
                            clear c24
                            have H' := Aside0.mk H
                            clear H
                            have hnb25 := NB26007_26014.out
                            have hnc25 := NB26014_26007.out
                            have hcz26_0 : wr.cell? ⟨gb26007, 0, none⟩ = some (.int .i64 t26001) := (blk_cell BK26007.out 0).trans rfl
                            have hcz26_1 : wr.cell? ⟨gb26007, 1, none⟩ = some (.int .i64 t26002) := (blk_cell BK26007.out 1).trans rfl
                            have hcz26_2 : wr.cell? ⟨gb26007, 2, none⟩ = some (.slice Ao11 t26003.length co11) := (blk_cell BK26007.out 2).trans rfl
                            have hfz26_0 := blk_frozen BK26007.out 0
                            have hfz26_1 := blk_frozen BK26007.out 1
                            have hfz26_2 := blk_frozen BK26007.out 2
                            go_wp2_with (first | ((with_reducible refine gate_callee (f := 32) rfl ?_); refine goesL_ (some 65) rfl rfl Try.func32 (by kernel_rfl) rfl #[.agg #[.int .i64 t26001, .int .i64 t26002, .slice Ao11 t26003.length co11], .int .i64 x7_2, .int .i64 x8_3] rfl (by (try simp only [List.map_toArray, List.map_cons, List.map_nil]); first | done | rfl | (simp only [List.length_drop, List.length_take]; rfl)) ?_; (with_reducible refine (ticks_Span.calls k3 t26001 t26002 _ _ t26003 x7_2 x8_3 t26019 t26020 _ ?side1 ?side2 A21.out).mono ?_); (case side1 => repeat (first | exact (Kd.R_reads' HO_26008002.out).2.2 | (with_reducible refine Kd.C_alloc ?_ _) | (with_reducible refine Kd.C_drewN ?_ _) | (with_reducible refine Kd.C_drew ?_))); (case side2 => exact (Kd.R_reads' HO_26008002.out).2.1); rintro e w27 ⟨rfl, hb⟩; refine ⟨_, rfl, ?_⟩; have n0_ := Aside0.mk (Kd.R_below (by (with_reducible repeat (first | apply Kd.R_alloc | apply Kd.R_drewN | apply Kd.R_drew)); exact HO_1.out) hb); have n1_ := Aside0.mk (Kd.R_below (by (with_reducible repeat (first | apply Kd.R_alloc | apply Kd.R_drewN | apply Kd.R_drew)); exact HO_26008002.out) hb); have n2_ := Aside0.mk (Kd.R_below (by (with_reducible repeat (first | apply Kd.R_alloc | apply Kd.R_drewN | apply Kd.R_drew)); exact HO_26015002.out) hb); have n3_ := Aside0.mk (blk_below (g := gb26007) (o := .cells #[.int .i64 t26001, .int .i64 t26002, .slice Ao11 t26003.length co11] 61 (0, 0)) (by (with_reducible repeat (first | refine blk_drewN ?_ _ | refine blk_drew ?_ | refine blk_alloc ?_ _)); exact BK26007.out) hb); have n4_ := Aside0.mk (blk_below (g := gb26014) (o := .cells #[.int .i64 t26008, .int .i64 t26009, .slice Ao16 t26010.length co16] 70 (0, 0)) (by (with_reducible repeat (first | refine blk_drewN ?_ _ | refine blk_drew ?_ | refine blk_alloc ?_ _)); exact BK26014.out) hb); have n5_ := Aside0.mk (below_step (by repeat (first | (with_reducible first | exact HB.out | apply below_alloc | apply pw_below_drewN | apply below_drew1 | refine below_set ?_ GE26007.out | refine below_set ?_ GE26014.out) | exact HB.out | exact Below.refl w.heap.size w)) hb); clear HO_1; clear HO_26008002; clear HO_26015002; clear BK26007; clear BK26014; clear HB; have HO_1 := n0_; have HO_26008002 := n1_; have HO_26015002 := n2_; have BK26007 := n3_; have BK26014 := n4_; have HB := n5_; clear n0_ n1_ n2_ n3_ n4_ n5_; (try clear hb); (try clear hb2); (try clear hk); (try clear hi); have hcz28_0 : w27.cell? ⟨gb26014, 0, none⟩ = some (.int .i64 t26008) := (blk_cell BK26014.out 0).trans rfl; have hcz28_1 : w27.cell? ⟨gb26014, 1, none⟩ = some (.int .i64 t26009) := (blk_cell BK26014.out 1).trans rfl; have hcz28_2 : w27.cell? ⟨gb26014, 2, none⟩ = some (.slice Ao16 t26010.length co16) := (blk_cell BK26014.out 2).trans rfl; have hfz28_0 := blk_frozen BK26014.out 0; have hfz28_1 := blk_frozen BK26014.out 1; have hfz28_2 := blk_frozen BK26014.out 2) | ((with_reducible refine gate_callee (f := 36) rfl ?_); refine goesL_ (some 72) rfl rfl Try.func36 (by kernel_rfl) rfl #[.agg #[.int .i64 t26008, .int .i64 t26009, .slice Ao16 t26010.length co16], .int .i64 x7_2, .int .i64 x8_3] rfl (by (try simp only [List.map_toArray, List.map_cons, List.map_nil]); first | done | rfl | (simp only [List.length_drop, List.length_take]; rfl)) ?_; (with_reducible refine (columbariumref10_Span.calls k3 t26008 t26009 _ _ t26010 x7_2 x8_3 t26021 t26022 _ ?side1 ?side2 A22.out).mono ?_); (case side1 => repeat (first | exact (Kd.R_reads' HO_26015002.out).2.2 | (with_reducible refine Kd.C_alloc ?_ _) | (with_reducible refine Kd.C_drewN ?_ _) | (with_reducible refine Kd.C_drew ?_))); (case side2 => exact (Kd.R_reads' HO_26015002.out).2.1); rintro e w29 ⟨rfl, hb⟩; refine ⟨_, rfl, ?_⟩; have n0_ := Aside0.mk (Kd.R_below (by (with_reducible repeat (first | apply Kd.R_alloc | apply Kd.R_drewN | apply Kd.R_drew)); exact HO_1.out) hb); have n1_ := Aside0.mk (Kd.R_below (by (with_reducible repeat (first | apply Kd.R_alloc | apply Kd.R_drewN | apply Kd.R_drew)); exact HO_26008002.out) hb); have n2_ := Aside0.mk (Kd.R_below (by (with_reducible repeat (first | apply Kd.R_alloc | apply Kd.R_drewN | apply Kd.R_drew)); exact HO_26015002.out) hb); have n3_ := Aside0.mk (blk_below (g := gb26007) (o := .cells #[.int .i64 t26001, .int .i64 t26002, .slice Ao11 t26003.length co11] 61 (0, 0)) (by (with_reducible repeat (first | refine blk_drewN ?_ _ | refine blk_drew ?_ | refine blk_alloc ?_ _)); exact BK26007.out) hb); have n4_ := Aside0.mk (blk_below (g := gb26014) (o := .cells #[.int .i64 t26008, .int .i64 t26009, .slice Ao16 t26010.length co16] 70 (0, 0)) (by (with_reducible repeat (first | refine blk_drewN ?_ _ | refine blk_drew ?_ | refine blk_alloc ?_ _)); exact BK26014.out) hb); have n5_ := Aside0.mk (below_step (by repeat (first | (with_reducible first | exact HB.out | apply below_alloc | apply pw_below_drewN | apply below_drew1 | refine below_set ?_ GE26007.out | refine below_set ?_ GE26014.out) | exact HB.out | exact Below.refl w.heap.size w)) hb); clear HO_1; clear HO_26008002; clear HO_26015002; clear BK26007; clear BK26014; clear HB; have HO_1 := n0_; have HO_26008002 := n1_; have HO_26015002 := n2_; have BK26007 := n3_; have BK26014 := n4_; have HB := n5_; clear n0_ n1_ n2_ n3_ n4_ n5_; (try clear hb); (try clear hb2); (try clear hk); (try clear hi)))
                            go_roundg k3
                            case measure => have := HK1.out; have := HK2.out; have := HK3.out; omega
                            case rel => exact ⟨(wrap64 (x8_3 + 1)), (by first | rfl | (simp; done) | (simp [*]; done) | (refine congrArg (Value.int .i64) ?_; (try simp only [decide_eq_true_eq, decide_eq_false_iff_not] at *) <;> (unfold wrap64; omega))), H', ⟨by have := HK1.out; have := HK2.out; have := HK3.out; omega⟩, ⟨by (with_reducible repeat (first | apply Kd.R_alloc | apply Kd.R_drewN | apply Kd.R_drew)); exact HO_1.out⟩, ⟨by (with_reducible repeat (first | apply Kd.R_alloc | apply Kd.R_drewN | apply Kd.R_drew)); exact HO_26008002.out⟩, ⟨by (with_reducible repeat (first | apply Kd.R_alloc | apply Kd.R_drewN | apply Kd.R_drew)); exact HO_26015002.out⟩, ⟨by (with_reducible repeat (first | refine blk_drewN ?_ _ | refine blk_drew ?_ | refine blk_alloc ?_ _)); exact BK26007.out⟩, ⟨by (with_reducible repeat (first | refine blk_drewN ?_ _ | refine blk_drew ?_ | refine blk_alloc ?_ _)); exact BK26014.out⟩, ⟨by repeat (first | (with_reducible first | exact HB.out | apply below_alloc | apply pw_below_drewN | apply below_drew1 | refine below_set ?_ GE26007.out | refine below_set ?_ GE26014.out) | exact HB.out | exact Below.refl w.heap.size w)⟩⟩
                          · rw [if_neg c24] at H
                            have c24b0 : (t26020 == t26022) = false := beq_eq_false_iff_ne.mpr c24
                            have c24b1 : (t26020 != t26022) = true := bne_iff_ne.mpr c24
                            exact absurd ((Option.some.inj H).trans hr_.out) (by decide)
                        · rw [if_neg c23] at H
                          have c23b0 : (t26019 == t26021) = false := beq_eq_false_iff_ne.mpr c23
                          have c23b1 : (t26019 != t26021) = true := bne_iff_ne.mpr c23
                          exact absurd ((Option.some.inj H).trans hr_.out) (by decide)
                      · rw [if_neg c20] at H
                        have c20b0 : decide (x8_3 < 16) = false := decide_eq_false c20
                        clear c20
                        have H' := Aside0.mk H
                        clear H
                        go_wp2
                        go_roundg k3
                        case measure => have := HK1.out; have := HK2.out; have := HK3.out; omega
                        case rel => exact ⟨(wrap64 (x7_2 + 1)), (by first | rfl | (simp; done) | (simp [*]; done) | (refine congrArg (Value.int .i64) ?_; (try simp only [decide_eq_true_eq, decide_eq_false_iff_not] at *) <;> (unfold wrap64; omega))), H', ⟨by have := HK1.out; have := HK2.out; have := HK3.out; omega⟩, ⟨by (with_reducible repeat (first | apply Kd.R_alloc | apply Kd.R_drewN | apply Kd.R_drew)); exact HO_1.out⟩, ⟨by (with_reducible repeat (first | apply Kd.R_alloc | apply Kd.R_drewN | apply Kd.R_drew)); exact HO_26008002.out⟩, ⟨by (with_reducible repeat (first | apply Kd.R_alloc | apply Kd.R_drewN | apply Kd.R_drew)); exact HO_26015002.out⟩, ⟨by (with_reducible repeat (first | refine blk_drewN ?_ _ | refine blk_drew ?_ | refine blk_alloc ?_ _)); exact BK26007.out⟩, ⟨by (with_reducible repeat (first | refine blk_drewN ?_ _ | refine blk_drew ?_ | refine blk_alloc ?_ _)); exact BK26014.out⟩, ⟨by repeat (first | (with_reducible first | exact HB.out | apply below_alloc | apply pw_below_drewN | apply below_drew1 | refine below_set ?_ GE26007.out | refine below_set ?_ GE26014.out) | exact HB.out | exact Below.refl w.heap.size w)⟩⟩
                · rw [if_neg c19] at H
                  have c19b0 : decide (x7_2 < 16) = false := decide_eq_false c19
                  clear c19
                  by_cases c30 : x1_1.length < 17592186044416
                  · rw [if_pos c30] at H
                    have LMc30 := Aside0.mk c30
                    clear c30
                    obtain ⟨y26016, hy26016⟩ : ∃ y_ : List Int, y_ = (x1_1 ++ [wrap64 ((wrap64 (Int.tdiv x2_1 2)) * 2)]) := ⟨_, rfl⟩
                    replace H : (columbariumlaw10_TicksNumbers.l0 k2 y26016 (wrap64 (x2_1 + 1))) = some r := by first | (rw [hy26016]; with_reducible exact H) | (have H2_ := (Option.bind_some _ _).symm.trans H; rw [hy26016]; with_reducible exact H2_) | (have H2_ := (Option.bind_some _ _).symm.trans H; with_reducible exact H2_) | with_reducible exact H | (rw [hy26016]; exact H) | exact H
                    have Ny26016 := Aside0.mk hy26016
                    clear hy26016
                    have H' := Aside0.mk H
                    clear H
                    go_wp2_with (first | ((with_reducible refine gate_builtin (b := .append) (xs := #[.tmp 83, .tmp 87]) rfl ?_); at_builtin; refine Kd.R_append (Kd.int .i64) (w0 := w) w.heap.size rfl (.tmp 83) (.tmp 87) 58 2 (.int .i64 0) 8 rfl Try.underlying58 info2 rfl (by decide) (by omega) (.slice Ao7 x1_1.length co7) x1_1 (wrap64 ((wrap64 (Int.tdiv x2_1 2)) * 2)) [.int .i64 (wrap64 ((wrap64 (Int.tdiv x2_1 2)) * 2))] (fun k_ => some k_ ≠ (.slice Ao11 t26003.length co11 : Value).ownBlock ∧ some k_ ≠ (.slice Ao16 t26010.length co16 : Value).ownBlock) (fun _ => False) rfl rfl ?aP (fun _ hk => hk.elim) ?aF ?aO ?aB ?aS ?aL ?_; (case aP => exact rfl); (case aB => exact (by repeat (first | (with_reducible first | exact HB.out | apply below_alloc | apply pw_below_drewN | apply below_drew1 | refine below_set ?_ GE26007.out | refine below_set ?_ GE26014.out) | exact HB.out | exact Below.refl w.heap.size w))); (case aF => exact (fun k_ hk => ⟨Kd.fresh' (Kd.R_lt (by (with_reducible repeat (first | apply Kd.R_alloc | apply Kd.R_drewN | apply Kd.R_drew)); exact HO_26008002.out)) k_ hk, Kd.fresh' (Kd.R_lt (by (with_reducible repeat (first | apply Kd.R_alloc | apply Kd.R_drewN | apply Kd.R_drew)); exact HO_26015002.out)) k_ hk⟩)); (case aO => exact (by (with_reducible repeat (first | apply Kd.R_alloc | apply Kd.R_drewN | apply Kd.R_drew)); exact HO_1.out)); (case aS => exact (below_size (by repeat (first | (with_reducible first | exact HB.out | apply below_alloc | apply pw_below_drewN | apply below_drew1 | refine below_set ?_ GE26007.out | refine below_set ?_ GE26014.out) | exact HB.out | exact Below.refl w.heap.size w)))); (case aL => have := LMc30.out; omega); intro v26017 w31 ho hb hg hat; rw [← Ny26016.out] at ho; have n0_ := Aside0.mk (Kd.R_after (ok := (fun k_ => some k_ ≠ (.slice Ao16 t26010.length co16 : Value).ownBlock)) (by (with_reducible repeat (first | apply Kd.R_alloc | apply Kd.R_drewN | apply Kd.R_drew)); exact Kd.R_mono HO_26008002.out (fun _ hk => ⟨hk.2, hk.1⟩)) hg hat); have n1_ := Aside0.mk (Kd.R_after (ok := (fun k_ => some k_ ≠ (.slice Ao11 t26003.length co11 : Value).ownBlock)) (by (with_reducible repeat (first | apply Kd.R_alloc | apply Kd.R_drewN | apply Kd.R_drew)); exact Kd.R_mono HO_26015002.out (fun _ hk => ⟨hk.2, hk.1⟩)) hg hat); have n2_ := Aside0.mk (blk_grown (g := gb26007) (o := .cells #[.int .i64 t26001, .int .i64 t26002, .slice Ao11 t26003.length co11] 61 (0, 0)) (by (with_reducible repeat (first | refine blk_drewN ?_ _ | refine blk_drew ?_ | refine blk_alloc ?_ _)); exact BK26007.out) hg (Kd.R_ne HO_1.out BK26007.out (by decide))); have n3_ := Aside0.mk (blk_grown (g := gb26014) (o := .cells #[.int .i64 t26008, .int .i64 t26009, .slice Ao16 t26010.length co16] 70 (0, 0)) (by (with_reducible repeat (first | refine blk_drewN ?_ _ | refine blk_drew ?_ | refine blk_alloc ?_ _)); exact BK26014.out) hg (Kd.R_ne HO_1.out BK26014.out (by decide))); have n4_ := Aside0.mk (hb); have n5_ := Aside0.mk (ho); clear HO_26008002; clear HO_26015002; clear BK26007; clear BK26014; clear HB; clear HO_1; have HO_26008002 := n0_; have HO_26015002 := n1_; have BK26007 := n2_; have BK26014 := n3_; have HB := n4_; have HO26018 := n5_; clear n0_ n1_ n2_ n3_ n4_ n5_; clear ho hb hg hat))
                    go_roundg k2
                    case measure => have := HK1.out; have := HK2.out; omega
                    case rel => exact ⟨(y26016), (wrap64 (x2_1 + 1)), (by first | rfl | (simp; done) | (simp [*]; done) | (refine congrArg (Value.int .i64) ?_; (try simp only [decide_eq_true_eq, decide_eq_false_iff_not] at *) <;> (unfold wrap64; omega))), H', ⟨by have := HK1.out; have := HK2.out; omega⟩, ⟨by (with_reducible repeat (first | apply Kd.R_alloc | apply Kd.R_drewN | apply Kd.R_drew)); exact Kd.R_mono HO26018.out (fun _ hk => trivial)⟩, ⟨by repeat (first | (with_reducible first | exact HB.out | apply below_alloc | apply pw_below_drewN | apply below_drew1 | refine below_set ?_ GE26007.out | refine below_set ?_ GE26014.out) | exact HB.out | exact Below.refl w.heap.size w)⟩⟩
                  · rw [if_neg c30] at H
                    exact absurd H (by simp)
          · rw [if_neg c6] at H
            have c6b0 : (t26006 == t26013) = false := beq_eq_false_iff_ne.mpr c6
            have c6b1 : (t26006 != t26013) = true := bne_iff_ne.mpr c6
            exact absurd ((Option.some.inj H).trans hr_.out) (by decide)
        · replace c5 := Bool.eq_false_iff.mpr c5
          subst c5
          have H1 : (some false) = some r := by rw [if_neg (show ¬ (false = true) by decide)] at H; exact H
          clear H
          have H := H1
          clear H1
          exact absurd ((Option.some.inj H).trans hr_.out) (by decide)
      · rw [if_neg c1] at H
        have c1b0 : decide (x2_1 < 14) = false := decide_eq_false c1
        clear c1
        obtain ⟨y26023, hy26023⟩ : ∃ y_ : List Int, y_ = (([5] : List Int)) := ⟨_, rfl⟩
        replace H : ((some (([(⟨1, 0, ([] : List Int)⟩ : S61), (⟨1, 5, y26023⟩ : S61), (⟨1, 6, (([5] : List Int))⟩ : S61), (⟨2, 6, (([5] : List Int))⟩ : S61), (⟨2, 4, (([5] : List Int))⟩ : S61), (⟨0, 1, ([] : List Int)⟩ : S61), (⟨(-1), 0, ([] : List Int)⟩ : S61), (⟨5, 4, (([5, 4] : List Int))⟩ : S61), (⟨4, 7, (([5, 6] : List Int))⟩ : S61)] : List (S61)) : List (S61))).bind fun y26041 => (columbariumlaw10_TicksNumbers.l3 k1 y26041 (y26041.length : Int) 0)) = some r := by first | (rw [hy26023]; with_reducible exact H) | (have H2_ := (Option.bind_some _ _).symm.trans H; rw [hy26023]; with_reducible exact H2_) | (have H2_ := (Option.bind_some _ _).symm.trans H; with_reducible exact H2_) | with_reducible exact H | (rw [hy26023]; exact H) | exact H
        have Ny26023 := Aside0.mk hy26023
        clear hy26023
        obtain ⟨y26026, hy26026⟩ : ∃ y_ : List Int, y_ = (([5] : List Int)) := ⟨_, rfl⟩
        replace H : ((some (([(⟨1, 0, ([] : List Int)⟩ : S61), (⟨1, 5, y26023⟩ : S61), (⟨1, 6, y26026⟩ : S61), (⟨2, 6, (([5] : List Int))⟩ : S61), (⟨2, 4, (([5] : List Int))⟩ : S61), (⟨0, 1, ([] : List Int)⟩ : S61), (⟨(-1), 0, ([] : List Int)⟩ : S61), (⟨5, 4, (([5, 4] : List Int))⟩ : S61), (⟨4, 7, (([5, 6] : List Int))⟩ : S61)] : List (S61)) : List (S61))).bind fun y26041 => (columbariumlaw10_TicksNumbers.l3 k1 y26041 (y26041.length : Int) 0)) = some r := by first | (rw [hy26026]; with_reducible exact H) | (have H2_ := (Option.bind_some _ _).symm.trans H; rw [hy26026]; with_reducible exact H2_) | (have H2_ := (Option.bind_some _ _).symm.trans H; with_reducible exact H2_) | with_reducible exact H | (rw [hy26026]; exact H) | exact H
        have Ny26026 := Aside0.mk hy26026
        clear hy26026
        obtain ⟨y26029, hy26029⟩ : ∃ y_ : List Int, y_ = (([5] : List Int)) := ⟨_, rfl⟩
        replace H : ((some (([(⟨1, 0, ([] : List Int)⟩ : S61), (⟨1, 5, y26023⟩ : S61), (⟨1, 6, y26026⟩ : S61), (⟨2, 6, y26029⟩ : S61), (⟨2, 4, (([5] : List Int))⟩ : S61), (⟨0, 1, ([] : List Int)⟩ : S61), (⟨(-1), 0, ([] : List Int)⟩ : S61), (⟨5, 4, (([5, 4] : List Int))⟩ : S61), (⟨4, 7, (([5, 6] : List Int))⟩ : S61)] : List (S61)) : List (S61))).bind fun y26041 => (columbariumlaw10_TicksNumbers.l3 k1 y26041 (y26041.length : Int) 0)) = some r := by first | (rw [hy26029]; with_reducible exact H) | (have H2_ := (Option.bind_some _ _).symm.trans H; rw [hy26029]; with_reducible exact H2_) | (have H2_ := (Option.bind_some _ _).symm.trans H; with_reducible exact H2_) | with_reducible exact H | (rw [hy26029]; exact H) | exact H
        have Ny26029 := Aside0.mk hy26029
        clear hy26029
        obtain ⟨y26032, hy26032⟩ : ∃ y_ : List Int, y_ = (([5] : List Int)) := ⟨_, rfl⟩
        replace H : ((some (([(⟨1, 0, ([] : List Int)⟩ : S61), (⟨1, 5, y26023⟩ : S61), (⟨1, 6, y26026⟩ : S61), (⟨2, 6, y26029⟩ : S61), (⟨2, 4, y26032⟩ : S61), (⟨0, 1, ([] : List Int)⟩ : S61), (⟨(-1), 0, ([] : List Int)⟩ : S61), (⟨5, 4, (([5, 4] : List Int))⟩ : S61), (⟨4, 7, (([5, 6] : List Int))⟩ : S61)] : List (S61)) : List (S61))).bind fun y26041 => (columbariumlaw10_TicksNumbers.l3 k1 y26041 (y26041.length : Int) 0)) = some r := by first | (rw [hy26032]; with_reducible exact H) | (have H2_ := (Option.bind_some _ _).symm.trans H; rw [hy26032]; with_reducible exact H2_) | (have H2_ := (Option.bind_some _ _).symm.trans H; with_reducible exact H2_) | with_reducible exact H | (rw [hy26032]; exact H) | exact H
        have Ny26032 := Aside0.mk hy26032
        clear hy26032
        obtain ⟨y26035, hy26035⟩ : ∃ y_ : List Int, y_ = (([5, 4] : List Int)) := ⟨_, rfl⟩
        replace H : ((some (([(⟨1, 0, ([] : List Int)⟩ : S61), (⟨1, 5, y26023⟩ : S61), (⟨1, 6, y26026⟩ : S61), (⟨2, 6, y26029⟩ : S61), (⟨2, 4, y26032⟩ : S61), (⟨0, 1, ([] : List Int)⟩ : S61), (⟨(-1), 0, ([] : List Int)⟩ : S61), (⟨5, 4, y26035⟩ : S61), (⟨4, 7, (([5, 6] : List Int))⟩ : S61)] : List (S61)) : List (S61))).bind fun y26041 => (columbariumlaw10_TicksNumbers.l3 k1 y26041 (y26041.length : Int) 0)) = some r := by first | (rw [hy26035]; with_reducible exact H) | (have H2_ := (Option.bind_some _ _).symm.trans H; rw [hy26035]; with_reducible exact H2_) | (have H2_ := (Option.bind_some _ _).symm.trans H; with_reducible exact H2_) | with_reducible exact H | (rw [hy26035]; exact H) | exact H
        have Ny26035 := Aside0.mk hy26035
        clear hy26035
        obtain ⟨y26038, hy26038⟩ : ∃ y_ : List Int, y_ = (([5, 6] : List Int)) := ⟨_, rfl⟩
        replace H : ((some (([(⟨1, 0, ([] : List Int)⟩ : S61), (⟨1, 5, y26023⟩ : S61), (⟨1, 6, y26026⟩ : S61), (⟨2, 6, y26029⟩ : S61), (⟨2, 4, y26032⟩ : S61), (⟨0, 1, ([] : List Int)⟩ : S61), (⟨(-1), 0, ([] : List Int)⟩ : S61), (⟨5, 4, y26035⟩ : S61), (⟨4, 7, y26038⟩ : S61)] : List (S61)) : List (S61))).bind fun y26041 => (columbariumlaw10_TicksNumbers.l3 k1 y26041 (y26041.length : Int) 0)) = some r := by first | (rw [hy26038]; with_reducible exact H) | (have H2_ := (Option.bind_some _ _).symm.trans H; rw [hy26038]; with_reducible exact H2_) | (have H2_ := (Option.bind_some _ _).symm.trans H; with_reducible exact H2_) | with_reducible exact H | (rw [hy26038]; exact H) | exact H
        have Ny26038 := Aside0.mk hy26038
        clear hy26038
        obtain ⟨y26041, hy26041⟩ : ∃ y_ : List (S61), y_ = (([(⟨1, 0, ([] : List Int)⟩ : S61), (⟨1, 5, y26023⟩ : S61), (⟨1, 6, y26026⟩ : S61), (⟨2, 6, y26029⟩ : S61), (⟨2, 4, y26032⟩ : S61), (⟨0, 1, ([] : List Int)⟩ : S61), (⟨(-1), 0, ([] : List Int)⟩ : S61), (⟨5, 4, y26035⟩ : S61), (⟨4, 7, y26038⟩ : S61)] : List (S61))) := ⟨_, rfl⟩
        replace H : (columbariumlaw10_TicksNumbers.l3 k1 y26041 (y26041.length : Int) 0) = some r := by first | (rw [hy26041]; with_reducible exact H) | (have H2_ := (Option.bind_some _ _).symm.trans H; rw [hy26041]; with_reducible exact H2_) | (have H2_ := (Option.bind_some _ _).symm.trans H; with_reducible exact H2_) | with_reducible exact H | (rw [hy26041]; exact H) | exact H
        have Ny26041 := Aside0.mk hy26041
        clear hy26041
        have H' := Aside0.mk H
        clear H
        go_wp2_with (first | ((with_reducible refine gate_dst (N := 90) rfl ?_); refine Kd.R_lit (Kd.int .i64) _ 2 ?hg (N := 90) ?hd (xs := ([5] : List Int)) (inner := [.int .i64 5]) (ok := fun _ => True) (okp := fun _ => True) ?hr ?hp (fun _ hk => hk) trivial (Below.refl _ _) (Nat.le_refl _) (by simp) ?_; (case hd => rfl); (case hg => rfl); (case hr => first | (go_simp; done) | (go_simp; rfl)); (case hp => exact (Reps.one (show Kd.M (Kd.int .i64) _ _ _ 5 [.int .i64 5] from rfl) (Reps.none _ _))); intro v26024 w32 ho33 hb hg_ hnew_; clear hg_ hnew_; (first | rw [← Ny26023.out] at ho33 | (simp only [Int.reduceToNat] at ho33; rw [← Ny26023.out] at ho33)); have n0_ := Aside0.mk (Kd.R_elder' (by (with_reducible repeat (first | apply Kd.R_alloc | apply Kd.R_drewN | apply Kd.R_drew)); exact HO_1.out) (Kd.R_base ho33) hb); have n1_ := Aside0.mk (Kd.R_lower (Kd.R_new' ho33 (Kd.R_lt (by (with_reducible repeat (first | apply Kd.R_alloc | apply Kd.R_drewN | apply Kd.R_drew)); exact HO_1.out))) (below_size (by repeat (first | (with_reducible first | exact HB.out | apply below_alloc | apply pw_below_drewN | apply below_drew1) | exact HB.out | exact Below.refl w.heap.size w)))); have n2_ := Aside0.mk (below_step (by repeat (first | (with_reducible first | exact HB.out | apply below_alloc | apply pw_below_drewN | apply below_drew1) | exact HB.out | exact Below.refl w.heap.size w)) hb); clear HO_1; clear HB; have HO_1 := n0_; have HO26025 := n1_; have HB := n2_; clear n0_ n1_ n2_; clear hb ho33; obtain ⟨Ao34, co34, eo34⟩ := Kd.R_slice HO26025.out; subst eo34) | ((with_reducible refine gate_dst (N := 92) rfl ?_); refine Kd.R_lit (Kd.int .i64) _ 2 ?hg (N := 92) ?hd (xs := ([5] : List Int)) (inner := [.int .i64 5]) (ok := fun _ => True) (okp := fun _ => True) ?hr ?hp (fun _ hk => hk) trivial (Below.refl _ _) (Nat.le_refl _) (by simp) ?_; (case hd => rfl); (case hg => rfl); (case hr => first | (go_simp; done) | (go_simp; rfl)); (case hp => exact (Reps.one (show Kd.M (Kd.int .i64) _ _ _ 5 [.int .i64 5] from rfl) (Reps.none _ _))); intro v26027 w35 ho36 hb hg_ hnew_; clear hg_ hnew_; (first | rw [← Ny26026.out] at ho36 | (simp only [Int.reduceToNat] at ho36; rw [← Ny26026.out] at ho36)); have n0_ := Aside0.mk (Kd.R_elder' (by (with_reducible repeat (first | apply Kd.R_alloc | apply Kd.R_drewN | apply Kd.R_drew)); exact HO_1.out) (Kd.R_base ho36) hb); have n1_ := Aside0.mk (Kd.R_elder' (by (with_reducible repeat (first | apply Kd.R_alloc | apply Kd.R_drewN | apply Kd.R_drew)); exact HO26025.out) (Kd.R_base ho36) hb); have n2_ := Aside0.mk (Kd.R_lower (Kd.R_new' (Kd.R_new' ho36 (Kd.R_lt (by (with_reducible repeat (first | apply Kd.R_alloc | apply Kd.R_drewN | apply Kd.R_drew)); exact HO_1.out))) (Kd.R_lt (by (with_reducible repeat (first | apply Kd.R_alloc | apply Kd.R_drewN | apply Kd.R_drew)); exact HO26025.out))) (below_size (by repeat (first | (with_reducible first | exact HB.out | apply below_alloc | apply pw_below_drewN | apply below_drew1) | exact HB.out | exact Below.refl w.heap.size w)))); have n3_ := Aside0.mk (below_step (by repeat (first | (with_reducible first | exact HB.out | apply below_alloc | apply pw_below_drewN | apply below_drew1) | exact HB.out | exact Below.refl w.heap.size w)) hb); clear HO_1; clear HO26025; clear HB; have HO_1 := n0_; have HO26025 := n1_; have HO26028 := n2_; have HB := n3_; clear n0_ n1_ n2_ n3_; clear hb ho36; obtain ⟨Ao37, co37, eo37⟩ := Kd.R_slice HO26028.out; subst eo37) | ((with_reducible refine gate_dst (N := 94) rfl ?_); refine Kd.R_lit (Kd.int .i64) _ 2 ?hg (N := 94) ?hd (xs := ([5] : List Int)) (inner := [.int .i64 5]) (ok := fun _ => True) (okp := fun _ => True) ?hr ?hp (fun _ hk => hk) trivial (Below.refl _ _) (Nat.le_refl _) (by simp) ?_; (case hd => rfl); (case hg => rfl); (case hr => first | (go_simp; done) | (go_simp; rfl)); (case hp => exact (Reps.one (show Kd.M (Kd.int .i64) _ _ _ 5 [.int .i64 5] from rfl) (Reps.none _ _))); intro v26030 w38 ho39 hb hg_ hnew_; clear hg_ hnew_; (first | rw [← Ny26029.out] at ho39 | (simp only [Int.reduceToNat] at ho39; rw [← Ny26029.out] at ho39)); have n0_ := Aside0.mk (Kd.R_elder' (by (with_reducible repeat (first | apply Kd.R_alloc | apply Kd.R_drewN | apply Kd.R_drew)); exact HO_1.out) (Kd.R_base ho39) hb); have n1_ := Aside0.mk (Kd.R_elder' (by (with_reducible repeat (first | apply Kd.R_alloc | apply Kd.R_drewN | apply Kd.R_drew)); exact HO26025.out) (Kd.R_base ho39) hb); have n2_ := Aside0.mk (Kd.R_elder' (by (with_reducible repeat (first | apply Kd.R_alloc | apply Kd.R_drewN | apply Kd.R_drew)); exact HO26028.out) (Kd.R_base ho39) hb); have n3_ := Aside0.mk (Kd.R_lower (Kd.R_new' (Kd.R_new' (Kd.R_new' ho39 (Kd.R_lt (by (with_reducible repeat (first | apply Kd.R_alloc | apply Kd.R_drewN | apply Kd.R_drew)); exact HO_1.out))) (Kd.R_lt (by (with_reducible repeat (first | apply Kd.R_alloc | apply Kd.R_drewN | apply Kd.R_drew)); exact HO26025.out))) (Kd.R_lt (by (with_reducible repeat (first | apply Kd.R_alloc | apply Kd.R_drewN | apply Kd.R_drew)); exact HO26028.out))) (below_size (by repeat (first | (with_reducible first | exact HB.out | apply below_alloc | apply pw_below_drewN | apply below_drew1) | exact HB.out | exact Below.refl w.heap.size w)))); have n4_ := Aside0.mk (below_step (by repeat (first | (with_reducible first | exact HB.out | apply below_alloc | apply pw_below_drewN | apply below_drew1) | exact HB.out | exact Below.refl w.heap.size w)) hb); clear HO_1; clear HO26025; clear HO26028; clear HB; have HO_1 := n0_; have HO26025 := n1_; have HO26028 := n2_; have HO26031 := n3_; have HB := n4_; clear n0_ n1_ n2_ n3_ n4_; clear hb ho39; obtain ⟨Ao40, co40, eo40⟩ := Kd.R_slice HO26031.out; subst eo40) | ((with_reducible refine gate_dst (N := 96) rfl ?_); refine Kd.R_lit (Kd.int .i64) _ 2 ?hg (N := 96) ?hd (xs := ([5] : List Int)) (inner := [.int .i64 5]) (ok := fun _ => True) (okp := fun _ => True) ?hr ?hp (fun _ hk => hk) trivial (Below.refl _ _) (Nat.le_refl _) (by simp) ?_; (case hd => rfl); (case hg => rfl); (case hr => first | (go_simp; done) | (go_simp; rfl)); (case hp => exact (Reps.one (show Kd.M (Kd.int .i64) _ _ _ 5 [.int .i64 5] from rfl) (Reps.none _ _))); intro v26033 w41 ho42 hb hg_ hnew_; clear hg_ hnew_; (first | rw [← Ny26032.out] at ho42 | (simp only [Int.reduceToNat] at ho42; rw [← Ny26032.out] at ho42)); have n0_ := Aside0.mk (Kd.R_elder' (by (with_reducible repeat (first | apply Kd.R_alloc | apply Kd.R_drewN | apply Kd.R_drew)); exact HO_1.out) (Kd.R_base ho42) hb); have n1_ := Aside0.mk (Kd.R_elder' (by (with_reducible repeat (first | apply Kd.R_alloc | apply Kd.R_drewN | apply Kd.R_drew)); exact HO26025.out) (Kd.R_base ho42) hb); have n2_ := Aside0.mk (Kd.R_elder' (by (with_reducible repeat (first | apply Kd.R_alloc | apply Kd.R_drewN | apply Kd.R_drew)); exact HO26028.out) (Kd.R_base ho42) hb); have n3_ := Aside0.mk (Kd.R_elder' (by (with_reducible repeat (first | apply Kd.R_alloc | apply Kd.R_drewN | apply Kd.R_drew)); exact HO26031.out) (Kd.R_base ho42) hb); have n4_ := Aside0.mk (Kd.R_lower (Kd.R_new' (Kd.R_new' (Kd.R_new' (Kd.R_new' ho42 (Kd.R_lt (by (with_reducible repeat (first | apply Kd.R_alloc | apply Kd.R_drewN | apply Kd.R_drew)); exact HO_1.out))) (Kd.R_lt (by (with_reducible repeat (first | apply Kd.R_alloc | apply Kd.R_drewN | apply Kd.R_drew)); exact HO26025.out))) (Kd.R_lt (by (with_reducible repeat (first | apply Kd.R_alloc | apply Kd.R_drewN | apply Kd.R_drew)); exact HO26028.out))) (Kd.R_lt (by (with_reducible repeat (first | apply Kd.R_alloc | apply Kd.R_drewN | apply Kd.R_drew)); exact HO26031.out))) (below_size (by repeat (first | (with_reducible first | exact HB.out | apply below_alloc | apply pw_below_drewN | apply below_drew1) | exact HB.out | exact Below.refl w.heap.size w)))); have n5_ := Aside0.mk (below_step (by repeat (first | (with_reducible first | exact HB.out | apply below_alloc | apply pw_below_drewN | apply below_drew1) | exact HB.out | exact Below.refl w.heap.size w)) hb); clear HO_1; clear HO26025; clear HO26028; clear HO26031; clear HB; have HO_1 := n0_; have HO26025 := n1_; have HO26028 := n2_; have HO26031 := n3_; have HO26034 := n4_; have HB := n5_; clear n0_ n1_ n2_ n3_ n4_ n5_; clear hb ho42; obtain ⟨Ao43, co43, eo43⟩ := Kd.R_slice HO26034.out; subst eo43) | ((with_reducible refine gate_dst (N := 100) rfl ?_); refine Kd.R_lit (Kd.int .i64) _ 2 ?hg (N := 100) ?hd (xs := ([5, 4] : List Int)) (inner := [.int .i64 5, .int .i64 4]) (ok := fun _ => True) (okp := fun _ => True) ?hr ?hp (fun _ hk => hk) trivial (Below.refl _ _) (Nat.le_refl _) (by simp) ?_; (case hd => rfl); (case hg => rfl); (case hr => first | (go_simp; done) | (go_simp; rfl)); (case hp => exact (Reps.one (show Kd.M (Kd.int .i64) _ _ _ 5 [.int .i64 5] from rfl) (Reps.one (show Kd.M (Kd.int .i64) _ _ _ 4 [.int .i64 4] from rfl) (Reps.none _ _)))); intro v26036 w44 ho45 hb hg_ hnew_; clear hg_ hnew_; (first | rw [← Ny26035.out] at ho45 | (simp only [Int.reduceToNat] at ho45; rw [← Ny26035.out] at ho45)); have n0_ := Aside0.mk (Kd.R_elder' (by (with_reducible repeat (first | apply Kd.R_alloc | apply Kd.R_drewN | apply Kd.R_drew)); exact HO_1.out) (Kd.R_base ho45) hb); have n1_ := Aside0.mk (Kd.R_elder' (by (with_reducible repeat (first | apply Kd.R_alloc | apply Kd.R_drewN | apply Kd.R_drew)); exact HO26025.out) (Kd.R_base ho45) hb); have n2_ := Aside0.mk (Kd.R_elder' (by (with_reducible repeat (first | apply Kd.R_alloc | apply Kd.R_drewN | apply Kd.R_drew)); exact HO26028.out) (Kd.R_base ho45) hb); have n3_ := Aside0.mk (Kd.R_elder' (by (with_reducible repeat (first | apply Kd.R_alloc | apply Kd.R_drewN | apply Kd.R_drew)); exact HO26031.out) (Kd.R_base ho45) hb); have n4_ := Aside0.mk (Kd.R_elder' (by (with_reducible repeat (first | apply Kd.R_alloc | apply Kd.R_drewN | apply Kd.R_drew)); exact HO26034.out) (Kd.R_base ho45) hb); have n5_ := Aside0.mk (Kd.R_lower (Kd.R_new' (Kd.R_new' (Kd.R_new' (Kd.R_new' (Kd.R_new' ho45 (Kd.R_lt (by (with_reducible repeat (first | apply Kd.R_alloc | apply Kd.R_drewN | apply Kd.R_drew)); exact HO_1.out))) (Kd.R_lt (by (with_reducible repeat (first | apply Kd.R_alloc | apply Kd.R_drewN | apply Kd.R_drew)); exact HO26025.out))) (Kd.R_lt (by (with_reducible repeat (first | apply Kd.R_alloc | apply Kd.R_drewN | apply Kd.R_drew)); exact HO26028.out))) (Kd.R_lt (by (with_reducible repeat (first | apply Kd.R_alloc | apply Kd.R_drewN | apply Kd.R_drew)); exact HO26031.out))) (Kd.R_lt (by (with_reducible repeat (first | apply Kd.R_alloc | apply Kd.R_drewN | apply Kd.R_drew)); exact HO26034.out))) (below_size (by repeat (first | (with_reducible first | exact HB.out | apply below_alloc | apply pw_below_drewN | apply below_drew1) | exact HB.out | exact Below.refl w.heap.size w)))); have n6_ := Aside0.mk (below_step (by repeat (first | (with_reducible first | exact HB.out | apply below_alloc | apply pw_below_drewN | apply below_drew1) | exact HB.out | exact Below.refl w.heap.size w)) hb); clear HO_1; clear HO26025; clear HO26028; clear HO26031; clear HO26034; clear HB; have HO_1 := n0_; have HO26025 := n1_; have HO26028 := n2_; have HO26031 := n3_; have HO26034 := n4_; have HO26037 := n5_; have HB := n6_; clear n0_ n1_ n2_ n3_ n4_ n5_ n6_; clear hb ho45; obtain ⟨Ao46, co46, eo46⟩ := Kd.R_slice HO26037.out; subst eo46) | ((with_reducible refine gate_dst (N := 102) rfl ?_); refine Kd.R_lit (Kd.int .i64) _ 2 ?hg (N := 102) ?hd (xs := ([5, 6] : List Int)) (inner := [.int .i64 5, .int .i64 6]) (ok := fun _ => True) (okp := fun _ => True) ?hr ?hp (fun _ hk => hk) trivial (Below.refl _ _) (Nat.le_refl _) (by simp) ?_; (case hd => rfl); (case hg => rfl); (case hr => first | (go_simp; done) | (go_simp; rfl)); (case hp => exact (Reps.one (show Kd.M (Kd.int .i64) _ _ _ 5 [.int .i64 5] from rfl) (Reps.one (show Kd.M (Kd.int .i64) _ _ _ 6 [.int .i64 6] from rfl) (Reps.none _ _)))); intro v26039 w47 ho48 hb hg_ hnew_; clear hg_ hnew_; (first | rw [← Ny26038.out] at ho48 | (simp only [Int.reduceToNat] at ho48; rw [← Ny26038.out] at ho48)); have n0_ := Aside0.mk (Kd.R_elder' (by (with_reducible repeat (first | apply Kd.R_alloc | apply Kd.R_drewN | apply Kd.R_drew)); exact HO_1.out) (Kd.R_base ho48) hb); have n1_ := Aside0.mk (Kd.R_elder' (by (with_reducible repeat (first | apply Kd.R_alloc | apply Kd.R_drewN | apply Kd.R_drew)); exact HO26025.out) (Kd.R_base ho48) hb); have n2_ := Aside0.mk (Kd.R_elder' (by (with_reducible repeat (first | apply Kd.R_alloc | apply Kd.R_drewN | apply Kd.R_drew)); exact HO26028.out) (Kd.R_base ho48) hb); have n3_ := Aside0.mk (Kd.R_elder' (by (with_reducible repeat (first | apply Kd.R_alloc | apply Kd.R_drewN | apply Kd.R_drew)); exact HO26031.out) (Kd.R_base ho48) hb); have n4_ := Aside0.mk (Kd.R_elder' (by (with_reducible repeat (first | apply Kd.R_alloc | apply Kd.R_drewN | apply Kd.R_drew)); exact HO26034.out) (Kd.R_base ho48) hb); have n5_ := Aside0.mk (Kd.R_elder' (by (with_reducible repeat (first | apply Kd.R_alloc | apply Kd.R_drewN | apply Kd.R_drew)); exact HO26037.out) (Kd.R_base ho48) hb); have n6_ := Aside0.mk (Kd.R_lower (Kd.R_new' (Kd.R_new' (Kd.R_new' (Kd.R_new' (Kd.R_new' (Kd.R_new' ho48 (Kd.R_lt (by (with_reducible repeat (first | apply Kd.R_alloc | apply Kd.R_drewN | apply Kd.R_drew)); exact HO_1.out))) (Kd.R_lt (by (with_reducible repeat (first | apply Kd.R_alloc | apply Kd.R_drewN | apply Kd.R_drew)); exact HO26025.out))) (Kd.R_lt (by (with_reducible repeat (first | apply Kd.R_alloc | apply Kd.R_drewN | apply Kd.R_drew)); exact HO26028.out))) (Kd.R_lt (by (with_reducible repeat (first | apply Kd.R_alloc | apply Kd.R_drewN | apply Kd.R_drew)); exact HO26031.out))) (Kd.R_lt (by (with_reducible repeat (first | apply Kd.R_alloc | apply Kd.R_drewN | apply Kd.R_drew)); exact HO26034.out))) (Kd.R_lt (by (with_reducible repeat (first | apply Kd.R_alloc | apply Kd.R_drewN | apply Kd.R_drew)); exact HO26037.out))) (below_size (by repeat (first | (with_reducible first | exact HB.out | apply below_alloc | apply pw_below_drewN | apply below_drew1) | exact HB.out | exact Below.refl w.heap.size w)))); have n7_ := Aside0.mk (below_step (by repeat (first | (with_reducible first | exact HB.out | apply below_alloc | apply pw_below_drewN | apply below_drew1) | exact HB.out | exact Below.refl w.heap.size w)) hb); clear HO_1; clear HO26025; clear HO26028; clear HO26031; clear HO26034; clear HO26037; clear HB; have HO_1 := n0_; have HO26025 := n1_; have HO26028 := n2_; have HO26031 := n3_; have HO26034 := n4_; have HO26037 := n5_; have HO26040 := n6_; have HB := n7_; clear n0_ n1_ n2_ n3_ n4_ n5_ n6_ n7_; clear hb ho48; obtain ⟨Ao49, co49, eo49⟩ := Kd.R_slice HO26040.out; subst eo49) | ((with_reducible refine gate_dst (N := 104) rfl ?_); refine Kd.N_lit k61 _ 61 ?hg (N' := 104) ?hd (xs := ([(⟨1, 0, ([] : List Int)⟩ : S61), (⟨1, 5, y26023⟩ : S61), (⟨1, 6, y26026⟩ : S61), (⟨2, 6, y26029⟩ : S61), (⟨2, 4, y26032⟩ : S61), (⟨0, 1, ([] : List Int)⟩ : S61), (⟨(-1), 0, ([] : List Int)⟩ : S61), (⟨5, 4, y26035⟩ : S61), (⟨4, 7, y26038⟩ : S61)] : List (S61))) (inner := [.int .i64 1, .int .i64 0, .slice none 0 0, .int .i64 1, .int .i64 5, .slice Ao34 y26023.length co34, .int .i64 1, .int .i64 6, .slice Ao37 y26026.length co37, .int .i64 2, .int .i64 6, .slice Ao40 y26029.length co40, .int .i64 2, .int .i64 4, .slice Ao43 y26032.length co43, .int .i64 0, .int .i64 1, .slice none 0 0, .int .i64 (-1), .int .i64 0, .slice none 0 0, .int .i64 5, .int .i64 4, .slice Ao46 y26035.length co46, .int .i64 4, .int .i64 7, .slice Ao49 y26038.length co49]) (ok := (fun k_ => some k_ ≠ (u1 : Value).ownBlock)) (okp := (fun k_ => some k_ ≠ (u1 : Value).ownBlock)) ?hr ?hp (fun _ hk => hk) ((show ∀ k_, w47.heap.size ≤ k_ → (fun k_ => some k_ ≠ (u1 : Value).ownBlock) k_ from fun k_ hk => Kd.fresh' (Kd.R_lt (by (with_reducible repeat (first | apply Kd.R_alloc | apply Kd.R_drewN | apply Kd.R_drew)); exact HO_1.out)) k_ hk) _ (Nat.le_refl _)) (Below.refl _ _) (Nat.le_refl _) (by simp) ?_; (case hd => rfl); (case hg => rfl); (case hr => first | (go_simp; done) | (go_simp; rfl)); (case hp => exact (Reps.c3 (show Kd.FK k61 _ _ (⟨1, 0, ([] : List Int)⟩ : S61) [.int .i64 1, .int .i64 0, .slice none 0 0] from (k61_mkF _ _ (⟨1, 0, ([] : List Int)⟩ : S61) (Nat.le_refl _) (Kd.F_nil _ _ _))) (Reps.c3 (show Kd.FK k61 _ _ (⟨1, 5, y26023⟩ : S61) [.int .i64 1, .int .i64 5, .slice Ao34 y26023.length co34] from (k61_mkF _ _ (⟨1, 5, y26023⟩ : S61) (Kd.R_reads' (Kd.R_mono (ok' := (fun k_ => some k_ ≠ (u1 : Value).ownBlock)) (HO26025.out) (fun k_ hk => hk.1.1.1.1.1.2))).2.1 (Kd.R_F (Kd.R_mono (ok' := (fun k_ => some k_ ≠ (u1 : Value).ownBlock)) (HO26025.out) (fun k_ hk => hk.1.1.1.1.1.2))))) (Reps.c3 (show Kd.FK k61 _ _ (⟨1, 6, y26026⟩ : S61) [.int .i64 1, .int .i64 6, .slice Ao37 y26026.length co37] from (k61_mkF _ _ (⟨1, 6, y26026⟩ : S61) (Kd.R_reads' (Kd.R_mono (ok' := (fun k_ => some k_ ≠ (u1 : Value).ownBlock)) (HO26028.out) (fun k_ hk => hk.1.1.1.1.1.2))).2.1 (Kd.R_F (Kd.R_mono (ok' := (fun k_ => some k_ ≠ (u1 : Value).ownBlock)) (HO26028.out) (fun k_ hk => hk.1.1.1.1.1.2))))) (Reps.c3 (show Kd.FK k61 _ _ (⟨2, 6, y26029⟩ : S61) [.int .i64 2, .int .i64 6, .slice Ao40 y26029.length co40] from (k61_mkF _ _ (⟨2, 6, y26029⟩ : S61) (Kd.R_reads' (Kd.R_mono (ok' := (fun k_ => some k_ ≠ (u1 : Value).ownBlock)) (HO26031.out) (fun k_ hk => hk.1.1.1.1.1.2))).2.1 (Kd.R_F (Kd.R_mono (ok' := (fun k_ => some k_ ≠ (u1 : Value).ownBlock)) (HO26031.out) (fun k_ hk => hk.1.1.1.1.1.2))))) (Reps.c3 (show Kd.FK k61 _ _ (⟨2, 4, y26032⟩ : S61) [.int .i64 2, .int .i64 4, .slice Ao43 y26032.length co43] from (k61_mkF _ _ (⟨2, 4, y26032⟩ : S61) (Kd.R_reads' (Kd.R_mono (ok' := (fun k_ => some k_ ≠ (u1 : Value).ownBlock)) (HO26034.out) (fun k_ hk => hk.1.1.1.1.1.2))).2.1 (Kd.R_F (Kd.R_mono (ok' := (fun k_ => some k_ ≠ (u1 : Value).ownBlock)) (HO26034.out) (fun k_ hk => hk.1.1.1.1.1.2))))) (Reps.c3 (show Kd.FK k61 _ _ (⟨0, 1, ([] : List Int)⟩ : S61) [.int .i64 0, .int .i64 1, .slice none 0 0] from (k61_mkF _ _ (⟨0, 1, ([] : List Int)⟩ : S61) (Nat.le_refl _) (Kd.F_nil _ _ _))) (Reps.c3 (show Kd.FK k61 _ _ (⟨(-1), 0, ([] : List Int)⟩ : S61) [.int .i64 (-1), .int .i64 0, .slice none 0 0] from (k61_mkF _ _ (⟨(-1), 0, ([] : List Int)⟩ : S61) (Nat.le_refl _) (Kd.F_nil _ _ _))) (Reps.c3 (show Kd.FK k61 _ _ (⟨5, 4, y26035⟩ : S61) [.int .i64 5, .int .i64 4, .slice Ao46 y26035.length co46] from (k61_mkF _ _ (⟨5, 4, y26035⟩ : S61) (Kd.R_reads' (Kd.R_mono (ok' := (fun k_ => some k_ ≠ (u1 : Value).ownBlock)) (HO26037.out) (fun k_ hk => hk.1.1.1.1.1.2))).2.1 (Kd.R_F (Kd.R_mono (ok' := (fun k_ => some k_ ≠ (u1 : Value).ownBlock)) (HO26037.out) (fun k_ hk => hk.1.1.1.1.1.2))))) (Reps.c3 (show Kd.FK k61 _ _ (⟨4, 7, y26038⟩ : S61) [.int .i64 4, .int .i64 7, .slice Ao49 y26038.length co49] from (k61_mkF _ _ (⟨4, 7, y26038⟩ : S61) (Kd.R_reads' (Kd.R_mono (ok' := (fun k_ => some k_ ≠ (u1 : Value).ownBlock)) (HO26040.out) (fun k_ hk => hk.1.1.1.1.1.2))).2.1 (Kd.R_F (Kd.R_mono (ok' := (fun k_ => some k_ ≠ (u1 : Value).ownBlock)) (HO26040.out) (fun k_ hk => hk.1.1.1.1.1.2))))) (Reps.none _ _))))))))))); intro v26042 w50 ho51 hb hg_ hnew_; clear hg_ hnew_; (first | rw [← Ny26041.out] at ho51 | (simp only [Int.reduceToNat] at ho51; rw [← Ny26041.out] at ho51)); have n0_ := Aside0.mk (Kd.R_below (by (with_reducible repeat (first | apply Kd.R_alloc | apply Kd.R_drewN | apply Kd.R_drew)); exact HO_1.out) hb); have n1_ := Aside0.mk (Kd.N_lower ho51 (below_size (by repeat (first | (with_reducible first | exact HB.out | apply below_alloc | apply pw_below_drewN | apply below_drew1) | exact HB.out | exact Below.refl w.heap.size w)))); have n2_ := Aside0.mk (below_step (by repeat (first | (with_reducible first | exact HB.out | apply below_alloc | apply pw_below_drewN | apply below_drew1) | exact HB.out | exact Below.refl w.heap.size w)) hb); clear HO_1; clear HB; clear HO26025; clear HO26028; clear HO26031; clear HO26034; clear HO26037; clear HO26040; have HO_1 := n0_; have HO26043 := n1_; have HB := n2_; clear n0_ n1_ n2_; clear hb ho51; obtain ⟨Ao52, co52, eo52⟩ := Kd.N_slice HO26043.out; subst eo52))
        go_loopg [106] k1 (fun kq v106 w' => ∃ (x106_2 : Int), v106 = .int .i64 x106_2 ∧ Aside0 (columbariumlaw10_TicksNumbers.l3 kq y26041 (y26041.length : Int) x106_2 = some r) ∧ Aside0 (kq ≤ k1) ∧ Aside0 (Kd.N k61 61 w' w.heap.size (fun _ => True) (.slice Ao52 y26041.length co52) y26041) ∧ Aside0 (Below w.heap.size w w'))
        case atStart => exact ⟨(0), (by first | rfl | (simp; done) | (simp [*]; done) | (refine congrArg (Value.int .i64) ?_; (try simp only [decide_eq_true_eq, decide_eq_false_iff_not] at *) <;> (unfold wrap64; omega))), H', ⟨Nat.le_refl _⟩, ⟨by (with_reducible repeat (first | apply Kd.N_alloc | apply Kd.N_drewN | apply Kd.N_drew)); exact Kd.N_mono HO26043.out (fun _ hk => trivial)⟩, ⟨by repeat (first | (with_reducible first | exact HB.out | apply below_alloc | apply pw_below_drewN | apply below_drew1) | exact HB.out | exact Below.refl w.heap.size w)⟩⟩
        case round =>
          clear H'
          try clear c1
          try clear c1b0
          try clear c2
          try clear p2
          try clear c3
          try clear c5
          try clear c6
          try clear c6b0
          try clear c6b1
          try clear p6
          try clear c12
          try clear c14
          try clear c19
          try clear c19b0
          try clear c20
          try clear c20b0
          try clear c23
          try clear c23b0
          try clear c23b1
          try clear c24
          try clear c24b0
          try clear c24b1
          try clear c25
          try clear c30
          try clear c32
          try clear c34
          try clear c35
          try clear c36
          try clear hcz10_0
          try clear hcz10_1
          try clear hcz10_2
          try clear hcz15_0
          try clear hcz15_1
          try clear hcz15_2
          try clear hcz17_0
          try clear hcz17_1
          try clear hcz17_2
          try clear hcz26_0
          try clear hcz26_1
          try clear hcz26_2
          try clear hcz28_0
          try clear hcz28_1
          try clear hcz28_2
          try clear hfz10_0
          try clear hfz10_1
          try clear hfz10_2
          try clear hfz15_0
          try clear hfz15_1
          try clear hfz15_2
          try clear hfz17_0
          try clear hfz17_1
          try clear hfz17_2
          try clear hfz26_0
          try clear hfz26_1
          try clear hfz26_2
          try clear hfz28_0
          try clear hfz28_1
          try clear hfz28_2
          try clear p2
          try clear p6
          obtain ⟨x106_2, rfl, HA, HK2, HO_104, HB⟩ := hrel
          cases gk with
          | zero => exact absurd HA.out (by simp [columbariumlaw10_TicksNumbers.l3])
          | succ k2 =>
            have H := HA.out
            clear HA
            simp only [columbariumlaw10_TicksNumbers.l3] at H
            by_cases c53 : x106_2 < (y26041.length : Int)
            · rw [if_pos c53] at H
              have c53b0 : decide (x106_2 < (y26041.length : Int)) = true := decide_eq_true c53
              clear c53
              by_cases c54 : 0 ≤ x106_2
              · rw [if_pos c54] at H
                have c54b0 : decide (0 ≤ x106_2) = true := decide_eq_true c54
                clear c54
                by_cases c55 : x106_2 < (y26041.length : Int)
                · rw [if_pos c55] at H
                  have c55b0 : decide (x106_2 < (y26041.length : Int)) = true := decide_eq_true c55
                  clear c55
                  replace H := Option.bind_eq_some_iff.mp H
                  obtain ⟨⟨t26046, t26049⟩, A560, H⟩ := H
                  replace H : ((columbariumlaw10_in.f ((rd_T61 y26041 x106_2).f0) ((rd_T61 y26041 x106_2).f1) ((rd_T61 y26041 x106_2).f2)).bind fun bt26050 => ((columbariumref10_Encode.f k2 bt26050.1 bt26050.2.1 bt26050.2.2).bind fun bt26055 => ((ticks_Right.f k2 ((rd_T61 y26041 x106_2).f0) ((rd_T61 y26041 x106_2).f1) ((rd_T61 y26041 x106_2).f2)).bind fun t26059 => ((columbariumlaw10_in.f ((rd_T61 y26041 x106_2).f0) ((rd_T61 y26041 x106_2).f1) ((rd_T61 y26041 x106_2).f2)).bind fun bt26060 => ((columbariumref10_Right.f k2 bt26060.1 bt26060.2.1 bt26060.2.2).bind fun t26065 => (if t26059 = true then (if t26065 = true then (if (strOfNums t26046).toList = (strOfNums bt26055.1).toList then (if t26049 = bt26055.2 then (columbariumlaw10_TicksNumbers.l3 k2 y26041 (y26041.length : Int) (wrap64 (x106_2 + 1))) else (some false)) else (some false)) else (some false)) else (if t26065 = true then (some false) else (if (strOfNums t26046).toList = (strOfNums bt26055.1).toList then (if t26049 = bt26055.2 then (columbariumlaw10_TicksNumbers.l3 k2 y26041 (y26041.length : Int) (wrap64 (x106_2 + 1))) else (some false)) else (some false))))))))) = some r := H
                  have A56 := Aside0.mk A560
                  clear A560
                  replace H := Option.bind_eq_some_iff.mp H
                  obtain ⟨⟨t26050, t26051, t26052⟩, A570, H⟩ := H
                  replace H : ((columbariumref10_Encode.f k2 t26050 t26051 t26052).bind fun bt26055 => ((ticks_Right.f k2 ((rd_T61 y26041 x106_2).f0) ((rd_T61 y26041 x106_2).f1) ((rd_T61 y26041 x106_2).f2)).bind fun t26059 => ((columbariumlaw10_in.f ((rd_T61 y26041 x106_2).f0) ((rd_T61 y26041 x106_2).f1) ((rd_T61 y26041 x106_2).f2)).bind fun bt26060 => ((columbariumref10_Right.f k2 bt26060.1 bt26060.2.1 bt26060.2.2).bind fun t26065 => (if t26059 = true then (if t26065 = true then (if (strOfNums t26046).toList = (strOfNums bt26055.1).toList then (if t26049 = bt26055.2 then (columbariumlaw10_TicksNumbers.l3 k2 y26041 (y26041.length : Int) (wrap64 (x106_2 + 1))) else (some false)) else (some false)) else (some false)) else (if t26065 = true then (some false) else (if (strOfNums t26046).toList = (strOfNums bt26055.1).toList then (if t26049 = bt26055.2 then (columbariumlaw10_TicksNumbers.l3 k2 y26041 (y26041.length : Int) (wrap64 (x106_2 + 1))) else (some false)) else (some false)))))))) = some r := H
                  have A57 := Aside0.mk A570
                  clear A570
                  replace H := Option.bind_eq_some_iff.mp H
                  obtain ⟨⟨t26055, t26058⟩, A580, H⟩ := H
                  replace H : ((ticks_Right.f k2 ((rd_T61 y26041 x106_2).f0) ((rd_T61 y26041 x106_2).f1) ((rd_T61 y26041 x106_2).f2)).bind fun t26059 => ((columbariumlaw10_in.f ((rd_T61 y26041 x106_2).f0) ((rd_T61 y26041 x106_2).f1) ((rd_T61 y26041 x106_2).f2)).bind fun bt26060 => ((columbariumref10_Right.f k2 bt26060.1 bt26060.2.1 bt26060.2.2).bind fun t26065 => (if t26059 = true then (if t26065 = true then (if (strOfNums t26046).toList = (strOfNums t26055).toList then (if t26049 = t26058 then (columbariumlaw10_TicksNumbers.l3 k2 y26041 (y26041.length : Int) (wrap64 (x106_2 + 1))) else (some false)) else (some false)) else (some false)) else (if t26065 = true then (some false) else (if (strOfNums t26046).toList = (strOfNums t26055).toList then (if t26049 = t26058 then (columbariumlaw10_TicksNumbers.l3 k2 y26041 (y26041.length : Int) (wrap64 (x106_2 + 1))) else (some false)) else (some false))))))) = some r := H
                  have A58 := Aside0.mk A580
                  clear A580
                  replace H := Option.bind_eq_some_iff.mp H
                  obtain ⟨t26059, A590, H⟩ := H
                  replace H : ((columbariumlaw10_in.f ((rd_T61 y26041 x106_2).f0) ((rd_T61 y26041 x106_2).f1) ((rd_T61 y26041 x106_2).f2)).bind fun bt26060 => ((columbariumref10_Right.f k2 bt26060.1 bt26060.2.1 bt26060.2.2).bind fun t26065 => (if t26059 = true then (if t26065 = true then (if (strOfNums t26046).toList = (strOfNums t26055).toList then (if t26049 = t26058 then (columbariumlaw10_TicksNumbers.l3 k2 y26041 (y26041.length : Int) (wrap64 (x106_2 + 1))) else (some false)) else (some false)) else (some false)) else (if t26065 = true then (some false) else (if (strOfNums t26046).toList = (strOfNums t26055).toList then (if t26049 = t26058 then (columbariumlaw10_TicksNumbers.l3 k2 y26041 (y26041.length : Int) (wrap64 (x106_2 + 1))) else (some false)) else (some false)))))) = some r := H
                  have A59 := Aside0.mk A590
                  clear A590
                  replace H := Option.bind_eq_some_iff.mp H
                  obtain ⟨⟨t26060, t26061, t26062⟩, A600, H⟩ := H
                  replace H : ((columbariumref10_Right.f k2 t26060 t26061 t26062).bind fun t26065 => (if t26059 = true then (if t26065 = true then (if (strOfNums t26046).toList = (strOfNums t26055).toList then (if t26049 = t26058 then (columbariumlaw10_TicksNumbers.l3 k2 y26041 (y26041.length : Int) (wrap64 (x106_2 + 1))) else (some false)) else (some false)) else (some false)) else (if t26065 = true then (some false) else (if (strOfNums t26046).toList = (strOfNums t26055).toList then (if t26049 = t26058 then (columbariumlaw10_TicksNumbers.l3 k2 y26041 (y26041.length : Int) (wrap64 (x106_2 + 1))) else (some false)) else (some false))))) = some r := H
                  have A60 := Aside0.mk A600
                  clear A600
                  replace H := Option.bind_eq_some_iff.mp H
                  obtain ⟨t26065, A610, H⟩ := H
                  replace H : (if t26059 = true then (if t26065 = true then (if (strOfNums t26046).toList = (strOfNums t26055).toList then (if t26049 = t26058 then (columbariumlaw10_TicksNumbers.l3 k2 y26041 (y26041.length : Int) (wrap64 (x106_2 + 1))) else (some false)) else (some false)) else (some false)) else (if t26065 = true then (some false) else (if (strOfNums t26046).toList = (strOfNums t26055).toList then (if t26049 = t26058 then (columbariumlaw10_TicksNumbers.l3 k2 y26041 (y26041.length : Int) (wrap64 (x106_2 + 1))) else (some false)) else (some false)))) = some r := H
                  have A61 := Aside0.mk A610
                  clear A610
                  by_cases c62 : t26059 = true
                  · subst c62
                    have H1 : (if t26065 = true then (if (strOfNums t26046).toList = (strOfNums t26055).toList then (if t26049 = t26058 then (columbariumlaw10_TicksNumbers.l3 k2 y26041 (y26041.length : Int) (wrap64 (x106_2 + 1))) else (some false)) else (some false)) else (some false)) = some r := by rw [if_pos rfl] at H; exact H
                    clear H
                    have H := H1
                    clear H1
                    by_cases c63 : t26065 = true
                    · subst c63
                      have H1 : (if (strOfNums t26046).toList = (strOfNums t26055).toList then (if t26049 = t26058 then (columbariumlaw10_TicksNumbers.l3 k2 y26041 (y26041.length : Int) (wrap64 (x106_2 + 1))) else (some false)) else (some false)) = some r := by rw [if_pos rfl] at H; exact H
                      clear H
                      have H := H1
                      clear H1
                      by_cases c64 : (strOfNums t26046).toList = (strOfNums t26055).toList
                      · rw [if_pos c64] at H
                        have c64b0 : ((strOfNums t26046).toList == (strOfNums t26055).toList) = true := beq_iff_eq.mpr c64
                        have c64b1 : ((strOfNums t26046).toList != (strOfNums t26055).toList) = false := bne_eq_false_iff_eq.mpr c64
                        clear c64
                        by_cases c65 : t26049 = t26058
                        · rw [if_pos c65] at H
                          have c65b0 : (t26049 == t26058) = true := beq_iff_eq.mpr c65
                          have c65b1 : (t26049 != t26058) = false := bne_eq_false_iff_eq.mpr c65
                          clear c65
                          have H' := Aside0.mk H
                          clear H
                          have p26044 : 0 ≤ (x106_2 : Int) := of_decide_eq_true (by first | (with_reducible assumption) | assumption)
                          have q26044 : x106_2 < (y26041.length : Int) := of_decide_eq_true (by first | (with_reducible assumption) | assumption)
                          obtain ⟨ad26044, A26044_2, c26044_2, e26044, hx26044_0, hx26044_1, hx26044_2, hl26044_2, hi26044_2⟩ := at_T61 (Kd.N_reads' HO_104.out).2.2 x106_2 p26044 q26044
                          cases e26044
                          obtain ⟨ce26044, hce26044, hMe26044, hcc26044⟩ := Kd.N_get HO_104.out z61 x106_2 p26044 (by first | exact q26044 | exact of_decide_eq_true (by first | (with_reducible assumption) | assumption) | (have e_ := (Kd.N_reads' HO_104.out).1; omega))
                          obtain ⟨ua26044_2, uc26044_2, rfl, ul26044_2, ge26044_2⟩ := k61_openF hMe26044
                          have hv26044_2 := hcc26044 2 _ rfl
                          rw [add_field _ _ 2 (by omega)] at hv26044_2
                          replace hv26044_2 := Option.some.inj (hv26044_2.symm.trans hx26044_2)
                          injection hv26044_2 with hva_ hvn_ hvc_
                          rw [hva_] at ge26044_2
                          rw [hvc_] at ul26044_2
                          have HL26044_2 := Aside0.mk (show Kd.V (Kd.int .i64) 2 _ w.heap.size _ _ ((rd_T61 y26041 x106_2).f2) from Kd.V_mk ul26044_2 ge26044_2)
                          clear hva_ hvn_ hvc_ ge26044_2 ul26044_2
                          clear hcc26044 hce26044
                          have HR26044_2 := Aside0.mk hi26044_2
                          have HC26044_2 := Aside0.mk hl26044_2
                          clear hi26044_2 hl26044_2
                          replace p26044 := eq_true p26044
                          replace q26044 := eq_true q26044
                          try go_wp2_with (first | ((with_reducible refine gate_dst (N := 14) rfl ?_); refine box_event ?hg (N := 14) ?hd (cs := #[.int .i64 0, .int .i64 0, .slice none 0 0]) (t := 61) ?hr ?_; (case hd => rfl); (case hg => rfl); (case hr => first | (go_simp; done) | (go_simp; rfl)); intro gb26045 hg w66 hbox hb; have n0_ := Aside0.mk (Kd.N_below (Kd.N_elderB (by (with_reducible repeat (first | apply Kd.N_alloc | apply Kd.N_drewN | apply Kd.N_drew)); exact HO_104.out) gb26045 (Nat.le_of_eq hg.symm)) hb); have n1_ := Aside0.mk (Kd.V_below (Kd.V_elderB (by (with_reducible repeat (first | apply Kd.V_alloc | apply Kd.V_drewN | apply Kd.V_drew)); exact HL26044_2.out) gb26045 (Nat.le_of_eq hg.symm)) hb); have n2_ := Aside0.mk (Kd.C_below (by repeat (first | (with_reducible exact HR26044_2.out) | (with_reducible refine Kd.C_alloc ?_ _) | (with_reducible refine Kd.C_drewN ?_ _) | (with_reducible refine Kd.C_drew ?_) | exact HR26044_2.out)) hb); have n3_ := Aside0.mk (below_step (by repeat (first | (with_reducible first | exact HB.out | apply below_alloc | apply pw_below_drewN | apply below_drew1) | exact HB.out | exact Below.refl w.heap.size w)) hb); have n4_ := Aside0.mk (hbox); have n5_ := Aside0.mk ((by rw [hg]; exact (below_size (by repeat (first | (with_reducible first | exact HB.out | apply below_alloc | apply pw_below_drewN | apply below_drew1) | exact HB.out | exact Below.refl w.heap.size w))) : w.heap.size ≤ gb26045)); have n6_ := Aside0.mk ((by rw [hg]; exact (below_size (by repeat (first | (with_reducible first | exact HB.out | apply below_alloc | apply pw_below_drewN | apply below_drew1) | exact HB.out | exact Below.refl w.heap.size w))) : w.heap.size ≤ gb26045)); clear HO_104; clear HL26044_2; clear HR26044_2; clear HB; have HO_104 := n0_; have HL26044_2 := n1_; have HR26044_2 := n2_; have HB := n3_; have BK26045 := n4_; have GW26045 := n5_; have GE26045 := n6_; clear n0_ n1_ n2_ n3_ n4_ n5_ n6_; clear hb hbox hg; have hcz67_0 : w66.cell? ⟨gb26045, 0, none⟩ = some (.int .i64 0) := (blk_cell BK26045.out 0).trans rfl; have hcz67_1 : w66.cell? ⟨gb26045, 1, none⟩ = some (.int .i64 0) := (blk_cell BK26045.out 1).trans rfl; have hcz67_2 : w66.cell? ⟨gb26045, 2, none⟩ = some (.slice none 0 0) := (blk_cell BK26045.out 2).trans rfl; have hfz67_0 := blk_frozen BK26045.out 0; have hfz67_1 := blk_frozen BK26045.out 1; have hfz67_2 := blk_frozen BK26045.out 2) | ((with_reducible refine gate_callee (f := 37) rfl ?_); refine goesL_ (some 112) rfl rfl Try.func37 (by kernel_rfl) rfl #[.agg #[.int .i64 ((rd_T61 y26041 x106_2).f0), .int .i64 ((rd_T61 y26041 x106_2).f1), .slice A26044_2 ((rd_T61 y26041 x106_2).f2).length c26044_2]] rfl (by (try simp only [List.map_toArray, List.map_cons, List.map_nil]); first | done | rfl | (simp only [List.length_drop, List.length_take]; rfl)) ?_; (with_reducible refine (ticks_Encode.calls k2 ((rd_T61 y26041 x106_2).f0) ((rd_T61 y26041 x106_2).f1) _ _ ((rd_T61 y26041 x106_2).f2) t26046 t26049 _ ?side1 ?side2 A56.out).mono ?_); (case side1 => repeat (first | exact ((Kd.V_reads' (by (with_reducible repeat (first | apply Kd.V_alloc | apply Kd.V_drewN | apply Kd.V_drew)); exact (Kd.V_mono (Kd.V_far (p := ⟨gb26045, 2, none⟩) (Kd.V_far (p := ⟨gb26045, 1, none⟩) (Kd.V_far (p := ⟨gb26045, 0, none⟩) (Kd.V_mono HL26044_2.out (fun k_ hk => (⟨hk, hk.2⟩ : _ ∧ k_ ≠ gb26045))) (fun _ hk => hk.2) (.int .i64 ((rd_T61 y26041 x106_2).f0))) (fun _ hk => hk.2) (.int .i64 ((rd_T61 y26041 x106_2).f1))) (fun _ hk => hk.2) (.slice A26044_2 ((rd_T61 y26041 x106_2).f2).length c26044_2)) (fun _ h_ => h_.1)))).2.2) | (with_reducible refine Kd.C_alloc ?_ _) | (with_reducible refine Kd.C_drewN ?_ _) | (with_reducible refine Kd.C_drew ?_))); (case side2 => exact HC26044_2.out); rintro e w68 ⟨v26047, rfl, ho0, hb⟩; refine ⟨_, rfl, ?_⟩; have n0_ := Aside0.mk (Kd.N_elder' (by (with_reducible repeat (first | apply Kd.N_alloc | apply Kd.N_drewN | apply Kd.N_drew)); exact (Kd.N_mono (Kd.N_far (p := ⟨gb26045, 2, none⟩) (Kd.N_far (p := ⟨gb26045, 1, none⟩) (Kd.N_far (p := ⟨gb26045, 0, none⟩) (Kd.N_mono HO_104.out (fun k_ hk => (⟨hk, hk.2⟩ : _ ∧ k_ ≠ gb26045))) (fun _ hk => hk.2) (.int .i64 ((rd_T61 y26041 x106_2).f0))) (fun _ hk => hk.2) (.int .i64 ((rd_T61 y26041 x106_2).f1))) (fun _ hk => hk.2) (.slice A26044_2 ((rd_T61 y26041 x106_2).f2).length c26044_2)) (fun _ h_ => h_.1))) (Kd.R_base ho0) hb); have n1_ := Aside0.mk (Kd.V_elder' (by (with_reducible repeat (first | apply Kd.V_alloc | apply Kd.V_drewN | apply Kd.V_drew)); exact (Kd.V_mono (Kd.V_far (p := ⟨gb26045, 2, none⟩) (Kd.V_far (p := ⟨gb26045, 1, none⟩) (Kd.V_far (p := ⟨gb26045, 0, none⟩) (Kd.V_mono HL26044_2.out (fun k_ hk => (⟨hk, hk.2⟩ : _ ∧ k_ ≠ gb26045))) (fun _ hk => hk.2) (.int .i64 ((rd_T61 y26041 x106_2).f0))) (fun _ hk => hk.2) (.int .i64 ((rd_T61 y26041 x106_2).f1))) (fun _ hk => hk.2) (.slice A26044_2 ((rd_T61 y26041 x106_2).f2).length c26044_2)) (fun _ h_ => h_.1))) (Kd.R_base ho0) hb); have n2_ := Aside0.mk (Kd.R_lower ho0 (below_size (by repeat (first | (with_reducible first | exact HB.out | apply below_alloc | apply pw_below_drewN | apply below_drew1 | refine below_set ?_ GE26045.out) | exact HB.out | exact Below.refl w.heap.size w)))); have n3_ := Aside0.mk (Kd.C_below ((Kd.V_reads' (by (with_reducible repeat (first | apply Kd.V_alloc | apply Kd.V_drewN | apply Kd.V_drew)); exact (Kd.V_mono (Kd.V_far (p := ⟨gb26045, 2, none⟩) (Kd.V_far (p := ⟨gb26045, 1, none⟩) (Kd.V_far (p := ⟨gb26045, 0, none⟩) (Kd.V_mono HL26044_2.out (fun k_ hk => (⟨hk, hk.2⟩ : _ ∧ k_ ≠ gb26045))) (fun _ hk => hk.2) (.int .i64 ((rd_T61 y26041 x106_2).f0))) (fun _ hk => hk.2) (.int .i64 ((rd_T61 y26041 x106_2).f1))) (fun _ hk => hk.2) (.slice A26044_2 ((rd_T61 y26041 x106_2).f2).length c26044_2)) (fun _ h_ => h_.1)))).2.2) hb); have n4_ := Aside0.mk (blk_below (g := gb26045) (o := .cells #[.int .i64 ((rd_T61 y26041 x106_2).f0), .int .i64 ((rd_T61 y26041 x106_2).f1), .slice A26044_2 ((rd_T61 y26041 x106_2).f2).length c26044_2] 61 (0, 0)) (by (with_reducible repeat (first | refine blk_drewN ?_ _ | refine blk_drew ?_ | refine blk_alloc ?_ _)); refine blk_put (cs := #[.int .i64 ((rd_T61 y26041 x106_2).f0), .int .i64 ((rd_T61 y26041 x106_2).f1), .slice none 0 0]) ?_ 2 _ rfl; (with_reducible repeat (first | refine blk_drewN ?_ _ | refine blk_drew ?_ | refine blk_alloc ?_ _)); refine blk_put (cs := #[.int .i64 ((rd_T61 y26041 x106_2).f0), .int .i64 0, .slice none 0 0]) ?_ 1 _ rfl; (with_reducible repeat (first | refine blk_drewN ?_ _ | refine blk_drew ?_ | refine blk_alloc ?_ _)); refine blk_put (cs := #[.int .i64 0, .int .i64 0, .slice none 0 0]) ?_ 0 _ rfl; (with_reducible repeat (first | refine blk_drewN ?_ _ | refine blk_drew ?_ | refine blk_alloc ?_ _)); exact BK26045.out) hb); have n5_ := Aside0.mk (below_step (by repeat (first | (with_reducible first | exact HB.out | apply below_alloc | apply pw_below_drewN | apply below_drew1 | refine below_set ?_ GE26045.out) | exact HB.out | exact Below.refl w.heap.size w)) hb); clear HO_104; clear HL26044_2; clear HR26044_2; clear BK26045; clear HB; have HO_104 := n0_; have HL26044_2 := n1_; have HO26048 := n2_; have HR26044_2 := n3_; have BK26045 := n4_; have HB := n5_; clear n0_ n1_ n2_ n3_ n4_ n5_; (try clear hb); (try clear hb2); (try clear hk); (try clear hi); (try clear ho0); have hcz69_0 : w68.cell? ⟨gb26045, 0, none⟩ = some (.int .i64 ((rd_T61 y26041 x106_2).f0)) := (blk_cell BK26045.out 0).trans rfl; have hcz69_1 : w68.cell? ⟨gb26045, 1, none⟩ = some (.int .i64 ((rd_T61 y26041 x106_2).f1)) := (blk_cell BK26045.out 1).trans rfl; have hcz69_2 : w68.cell? ⟨gb26045, 2, none⟩ = some (.slice A26044_2 ((rd_T61 y26041 x106_2).f2).length c26044_2) := (blk_cell BK26045.out 2).trans rfl; have hfz69_0 := blk_frozen BK26045.out 0; have hfz69_1 := blk_frozen BK26045.out 1; have hfz69_2 := blk_frozen BK26045.out 2) | ((with_reducible refine gate_callee (f := 39) rfl ?_); refine goesL_ (some 117) rfl rfl Try.func39 (by kernel_rfl) rfl #[.agg #[.int .i64 ((rd_T61 y26041 x106_2).f0), .int .i64 ((rd_T61 y26041 x106_2).f1), .slice A26044_2 ((rd_T61 y26041 x106_2).f2).length c26044_2]] rfl (by (try simp only [List.map_toArray, List.map_cons, List.map_nil]); first | done | rfl | (simp only [List.length_drop, List.length_take]; rfl)) ?_; (with_reducible refine (columbariumlaw10_in.calls ((rd_T61 y26041 x106_2).f0) ((rd_T61 y26041 x106_2).f1) (fun k_ => (((True ∧ some k_ ≠ (.slice (some ad26044) y26041.length co52 : Value).ownBlock) ∧ k_ ≠ gb26045) ∧ some k_ ≠ (v26047 : Value).ownBlock)) _ _ ((rd_T61 y26041 x106_2).f2) t26050 t26051 t26052 _ ?side1 A57.out).mono ?_); (case side1 => exact HL26044_2.out); rintro e w70 ⟨v26053, rfl, ho0, hb⟩; refine ⟨_, rfl, ?_⟩; have n0_ := Aside0.mk (Kd.N_below (by (with_reducible repeat (first | apply Kd.N_alloc | apply Kd.N_drewN | apply Kd.N_drew)); exact HO_104.out) hb); have n1_ := Aside0.mk (Kd.V_below (by (with_reducible repeat (first | apply Kd.V_alloc | apply Kd.V_drewN | apply Kd.V_drew)); exact HL26044_2.out) hb); have n2_ := Aside0.mk (Kd.R_below (by (with_reducible repeat (first | apply Kd.R_alloc | apply Kd.R_drewN | apply Kd.R_drew)); exact HO26048.out) hb); have n3_ := Aside0.mk (Kd.V_lower (Kd.V_mono (ok' := fun k_ => some k_ ≠ (.slice (some ad26044) y26041.length co52 : Value).ownBlock ∧ some k_ ≠ (v26047 : Value).ownBlock ∧ k_ ≠ gb26045) ho0 (fun k_ hk_ => ⟨Or.elim hk_ (fun hs_ => hs_.1.1.2) (fun hn_ => (Kd.fresh' (Kd.N_lt (by (with_reducible repeat (first | apply Kd.N_alloc | apply Kd.N_drewN | apply Kd.N_drew)); exact HO_104.out)) k_ hn_)), Or.elim hk_ (fun hs_ => hs_.2) (fun hn_ => (Kd.fresh' (Kd.R_lt (by (with_reducible repeat (first | apply Kd.R_alloc | apply Kd.R_drewN | apply Kd.R_drew)); exact HO26048.out)) k_ hn_)), Or.elim hk_ (fun hs_ => hs_.1.2) (fun hn_ => (Kd.freshB (g := gb26045) (o := .cells #[.int .i64 ((rd_T61 y26041 x106_2).f0), .int .i64 ((rd_T61 y26041 x106_2).f1), .slice A26044_2 ((rd_T61 y26041 x106_2).f2).length c26044_2] 61 (0, 0)) (by (with_reducible repeat (first | refine blk_drewN ?_ _ | refine blk_drew ?_ | refine blk_alloc ?_ _)); exact BK26045.out) k_ hn_))⟩)) (below_size (by repeat (first | (with_reducible first | exact HB.out | apply below_alloc | apply pw_below_drewN | apply below_drew1 | refine below_set ?_ GE26045.out) | exact HB.out | exact Below.refl w.heap.size w)))); have n4_ := Aside0.mk (Kd.C_below (by repeat (first | (with_reducible exact HR26044_2.out) | (with_reducible refine Kd.C_alloc ?_ _) | (with_reducible refine Kd.C_drewN ?_ _) | (with_reducible refine Kd.C_drew ?_) | exact HR26044_2.out)) hb); have n5_ := Aside0.mk (blk_below (g := gb26045) (o := .cells #[.int .i64 ((rd_T61 y26041 x106_2).f0), .int .i64 ((rd_T61 y26041 x106_2).f1), .slice A26044_2 ((rd_T61 y26041 x106_2).f2).length c26044_2] 61 (0, 0)) (by (with_reducible repeat (first | refine blk_drewN ?_ _ | refine blk_drew ?_ | refine blk_alloc ?_ _)); exact BK26045.out) hb); have n6_ := Aside0.mk (below_step (by repeat (first | (with_reducible first | exact HB.out | apply below_alloc | apply pw_below_drewN | apply below_drew1 | refine below_set ?_ GE26045.out) | exact HB.out | exact Below.refl w.heap.size w)) hb); clear HO_104; clear HL26044_2; clear HO26048; clear HR26044_2; clear BK26045; clear HB; have HO_104 := n0_; have HL26044_2 := n1_; have HO26048 := n2_; have HO26054 := n3_; have HR26044_2 := n4_; have BK26045 := n5_; have HB := n6_; clear n0_ n1_ n2_ n3_ n4_ n5_ n6_; (try clear hb); (try clear hb2); (try clear hk); (try clear hi); (try clear ho0); obtain ⟨Ao71, co71, eo71⟩ := Kd.V_slice HO26054.out; subst eo71) | ((with_reducible refine gate_callee (f := 38) rfl ?_); refine goesL_ (some 118) rfl rfl Try.func38 (by kernel_rfl) rfl #[.agg #[.int .i64 t26050, .int .i64 t26051, .slice Ao71 t26052.length co71]] rfl (by (try simp only [List.map_toArray, List.map_cons, List.map_nil]); first | done | rfl | (simp only [List.length_drop, List.length_take]; rfl)) ?_; (with_reducible refine (columbariumref10_Encode.calls k2 t26050 t26051 _ _ t26052 t26055 t26058 _ ?side1 ?side2 A58.out).mono ?_); (case side1 => repeat (first | exact (Kd.V_reads' HO26054.out).2.2 | (with_reducible refine Kd.C_alloc ?_ _) | (with_reducible refine Kd.C_drewN ?_ _) | (with_reducible refine Kd.C_drew ?_))); (case side2 => exact (Kd.V_reads' HO26054.out).2.1); rintro e w72 ⟨v26056, rfl, ho0, hb⟩; refine ⟨_, rfl, ?_⟩; have n0_ := Aside0.mk (Kd.N_elder' (by (with_reducible repeat (first | apply Kd.N_alloc | apply Kd.N_drewN | apply Kd.N_drew)); exact HO_104.out) (Kd.R_base ho0) hb); have n1_ := Aside0.mk (Kd.V_elder' (by (with_reducible repeat (first | apply Kd.V_alloc | apply Kd.V_drewN | apply Kd.V_drew)); exact HL26044_2.out) (Kd.R_base ho0) hb); have n2_ := Aside0.mk (Kd.R_elder' (by (with_reducible repeat (first | apply Kd.R_alloc | apply Kd.R_drewN | apply Kd.R_drew)); exact HO26048.out) (Kd.R_base ho0) hb); have n3_ := Aside0.mk (Kd.V_elder' (by (with_reducible repeat (first | apply Kd.V_alloc | apply Kd.V_drewN | apply Kd.V_drew)); exact HO26054.out) (Kd.R_base ho0) hb); have n4_ := Aside0.mk (Kd.R_lower (Kd.R_new' ho0 (Kd.R_lt (by (with_reducible repeat (first | apply Kd.R_alloc | apply Kd.R_drewN | apply Kd.R_drew)); exact HO26048.out))) (below_size (by repeat (first | (with_reducible first | exact HB.out | apply below_alloc | apply pw_below_drewN | apply below_drew1 | refine below_set ?_ GE26045.out) | exact HB.out | exact Below.refl w.heap.size w)))); have n5_ := Aside0.mk (Kd.C_below (by repeat (first | (with_reducible exact HR26044_2.out) | (with_reducible refine Kd.C_alloc ?_ _) | (with_reducible refine Kd.C_drewN ?_ _) | (with_reducible refine Kd.C_drew ?_) | exact HR26044_2.out)) hb); have n6_ := Aside0.mk (blk_below (g := gb26045) (o := .cells #[.int .i64 ((rd_T61 y26041 x106_2).f0), .int .i64 ((rd_T61 y26041 x106_2).f1), .slice A26044_2 ((rd_T61 y26041 x106_2).f2).length c26044_2] 61 (0, 0)) (by (with_reducible repeat (first | refine blk_drewN ?_ _ | refine blk_drew ?_ | refine blk_alloc ?_ _)); exact BK26045.out) hb); have n7_ := Aside0.mk (below_step (by repeat (first | (with_reducible first | exact HB.out | apply below_alloc | apply pw_below_drewN | apply below_drew1 | refine below_set ?_ GE26045.out) | exact HB.out | exact Below.refl w.heap.size w)) hb); clear HO_104; clear HL26044_2; clear HO26048; clear HO26054; clear HR26044_2; clear BK26045; clear HB; have HO_104 := n0_; have HL26044_2 := n1_; have HO26048 := n2_; have HO26054 := n3_; have HO26057 := n4_; have HR26044_2 := n5_; have BK26045 := n6_; have HB := n7_; clear n0_ n1_ n2_ n3_ n4_ n5_ n6_ n7_; (try clear hb); (try clear hb2); (try clear hk); (try clear hi); (try clear ho0)))
                          have n0_ := Aside0.mk (Kd.N_drew HO_104.out)
                          have n1_ := Aside0.mk (Kd.V_drew HL26044_2.out)
                          have n2_ := Aside0.mk (Kd.R_drew HO26048.out)
                          have n3_ := Aside0.mk (Kd.V_drew HO26054.out)
                          have n4_ := Aside0.mk (Kd.R_drew HO26057.out)
                          have n5_ := Aside0.mk (blk_drew BK26045.out)
                          have n6_ := Aside0.mk (Kd.C_drew HR26044_2.out)
                          have n7_ := Aside0.mk (below_drew1 HB.out)
                          clear HO_104
                          clear HL26044_2
                          clear HO26048
                          clear HO26054
                          clear HO26057
                          clear BK26045
                          clear HR26044_2
                          clear HB
                          have HO_104 := n0_
                          have HL26044_2 := n1_
                          have HO26048 := n2_
                          have HO26054 := n3_
                          have HO26057 := n4_
                          have BK26045 := n5_
                          have HR26044_2 := n6_
                          have HB := n7_
                          clear n0_ n1_ n2_ n3_ n4_ n5_ n6_ n7_
                          refine start_ (n := 18) (S := fun w' => w'.cell? ⟨gb26045, 0, none⟩ = some (.int .i64 ((rd_T61 y26041 x106_2).f0)) ∧ w'.cell? ⟨gb26045, 1, none⟩ = some (.int .i64 ((rd_T61 y26041 x106_2).f1)) ∧ w'.cell? ⟨gb26045, 2, none⟩ = some (.slice A26044_2 ((rd_T61 y26041 x106_2).f2).length c26044_2) ∧ ((convert 40 9 v26047).run Try.prog w' = .ok (.string (strOfNums t26046)) w') ∧ ((convert 40 9 v26056).run Try.prog w' = .ok (.string (strOfNums t26055)) w')) (ds := []) #[false, false, false, false, false, false, false, false, false, false, false, false, false, false, false, false, false, false] (by kernel_rfl) rfl rfl ⟨(blk_cell BK26045.out 0).trans rfl, (blk_cell BK26045.out 1).trans rfl, (blk_cell BK26045.out 2).trans rfl, (by first | exact own_string Try.underlying40 Try.underlying5 Try.underlying9 (Kd.own_of_R (HO26048.out)) | exact own_string Try.underlying40 Try.underlying5 Try.underlying9 (Kd.own_of_R (Kd.R_drew HO26048.out))), (by first | exact own_string Try.underlying40 Try.underlying5 Try.underlying9 (Kd.own_of_R (HO26057.out)) | exact own_string Try.underlying40 Try.underlying5 Try.underlying9 (Kd.own_of_R (Kd.R_drew HO26057.out)))⟩ (fun hHeld => ?_); refine with_tabW columbariumlaw10_TicksNumbers.tab25 columbariumlaw10_TicksNumbers.bits25 (fun HT_ HW_ => ?_)
                          generalize w72.drew = w73 at HO_104 HL26044_2 HO26048 HO26054 HO26057 BK26045 HR26044_2 HB hHeld ⊢
                          refine take_ (i := 0) (N := some 121) (v := ?_) (a' := ?_) #[true, false, false, false, false, false, false, false, false, false, false, false, false, false, false, false, false, false] rfl rfl (take_ofW HT_.out HW_.out (by kernel_rfl)) (fun _ _ _ h => h) (Or.inl ⟨by rfl, ?_⟩) hHeld ?_ ?_
                          rotate_left
                          · rintro w' ⟨s0, s1, s2, s3, s4⟩
                            go_simp
                            with_reducible rfl
                          rotate_left
                          · simp only [Act.put, List.setIfInBounds_toArray, List.set_cons_zero, List.set_cons_succ, i64_w, i32_w]
                            rfl
                          refine take_ (i := 2) (N := some 123) (v := ?_) (a' := ?_) #[true, false, true, false, false, false, false, false, false, false, false, false, false, false, false, false, false, false] rfl rfl (take_ofW HT_.out HW_.out (by kernel_rfl)) (fun _ _ _ h => h) (Or.inl ⟨by rfl, ?_⟩) hHeld ?_ ?_
                          rotate_left
                          · rintro w' ⟨s0, s1, s2, s3, s4⟩
                            go_simp
                            with_reducible rfl
                          rotate_left
                          · simp only [Act.put, List.setIfInBounds_toArray, List.set_cons_zero, List.set_cons_succ, i64_w, i32_w]
                            rfl
                          refine one_ (i := 1) (N := some 122) #[true, true, true, false, false, false, false, false, false, false, false, false, false, false, false, false, false, false] rfl rfl (one_of HT_.out (by kernel_rfl)) (by decide) (fun K hK => ?_)
                          refine goes_ Try.func31 (by kernel_rfl) rfl #[.agg #[.int .i64 ((rd_T61 y26041 x106_2).f0), .int .i64 ((rd_T61 y26041 x106_2).f1), .slice A26044_2 ((rd_T61 y26041 x106_2).f2).length c26044_2]] (by rfl) rfl rfl (by (try simp only [List.map_toArray, List.map_cons, List.map_nil]); first | done | rfl | (simp only [List.length_drop, List.length_take]; rfl)) ?_
                          with_reducible refine (ticks_Right.calls k2 ((rd_T61 y26041 x106_2).f0) ((rd_T61 y26041 x106_2).f1) _ _ ((rd_T61 y26041 x106_2).f2) true _ ?side1 ?side2 A59.out).mono ?_
                          (case side1 => repeat (first | exact (by repeat (first | (with_reducible exact HR26044_2.out) | (with_reducible refine Kd.C_alloc ?_ _) | (with_reducible refine Kd.C_drewN ?_ _) | (with_reducible refine Kd.C_drew ?_) | exact HR26044_2.out)) | (with_reducible refine Kd.C_alloc ?_ _) | (with_reducible refine Kd.C_drewN ?_ _) | (with_reducible refine Kd.C_drew ?_)))
                          (case side2 => exact HC26044_2.out)
                          rintro e w74 ⟨rfl, hb⟩
                          refine ⟨_, rfl, ?_⟩
                          have n0_ := Aside0.mk (Kd.N_below (by (with_reducible repeat (first | apply Kd.N_alloc | apply Kd.N_drewN | apply Kd.N_drew)); exact HO_104.out) hb)
                          have n1_ := Aside0.mk (Kd.V_below (by (with_reducible repeat (first | apply Kd.V_alloc | apply Kd.V_drewN | apply Kd.V_drew)); exact HL26044_2.out) hb)
                          have n2_ := Aside0.mk (Kd.R_below (by (with_reducible repeat (first | apply Kd.R_alloc | apply Kd.R_drewN | apply Kd.R_drew)); exact HO26048.out) hb)
                          have n3_ := Aside0.mk (Kd.V_below (by (with_reducible repeat (first | apply Kd.V_alloc | apply Kd.V_drewN | apply Kd.V_drew)); exact HO26054.out) hb)
                          have n4_ := Aside0.mk (Kd.R_below (by (with_reducible repeat (first | apply Kd.R_alloc | apply Kd.R_drewN | apply Kd.R_drew)); exact HO26057.out) hb)
                          have n5_ := Aside0.mk (Kd.C_below (by repeat (first | (with_reducible exact HR26044_2.out) | (with_reducible refine Kd.C_alloc ?_ _) | (with_reducible refine Kd.C_drewN ?_ _) | (with_reducible refine Kd.C_drew ?_) | exact HR26044_2.out)) hb)
                          have n6_ := Aside0.mk (blk_below (g := gb26045) (o := .cells #[.int .i64 ((rd_T61 y26041 x106_2).f0), .int .i64 ((rd_T61 y26041 x106_2).f1), .slice A26044_2 ((rd_T61 y26041 x106_2).f2).length c26044_2] 61 (0, 0)) (by (with_reducible repeat (first | refine blk_drewN ?_ _ | refine blk_drew ?_ | refine blk_alloc ?_ _)); exact BK26045.out) hb)
                          have n7_ := Aside0.mk (below_step (by repeat (first | (with_reducible first | exact HB.out | apply below_alloc | apply pw_below_drewN | apply below_drew1 | refine below_set ?_ GE26045.out) | exact HB.out | exact Below.refl w.heap.size w)) hb)
                          clear HO_104
                          clear HL26044_2
                          clear HO26048
                          clear HO26054
                          clear HO26057
                          clear HR26044_2
                          clear BK26045
                          clear HB
                          have HO_104 := n0_
                          have HL26044_2 := n1_
                          have HO26048 := n2_
                          have HO26054 := n3_
                          have HO26057 := n4_
                          have HR26044_2 := n5_
                          have BK26045 := n6_
                          have HB := n7_
                          clear n0_ n1_ n2_ n3_ n4_ n5_ n6_ n7_
                          (try clear hb)
                          (try clear hb2)
                          (try clear hk)
                          (try clear hi)
                          refine hK.out _ _ ⟨(blk_cell BK26045.out 0).trans rfl, (blk_cell BK26045.out 1).trans rfl, (blk_cell BK26045.out 2).trans rfl, (by first | exact own_string Try.underlying40 Try.underlying5 Try.underlying9 (Kd.own_of_R (HO26048.out)) | exact own_string Try.underlying40 Try.underlying5 Try.underlying9 (Kd.own_of_R (Kd.R_drew HO26048.out))), (by first | exact own_string Try.underlying40 Try.underlying5 Try.underlying9 (Kd.own_of_R (HO26057.out)) | exact own_string Try.underlying40 Try.underlying5 Try.underlying9 (Kd.own_of_R (Kd.R_drew HO26057.out)))⟩ (fun hHeld => ?_)
                          clear hK K
                          refine norm_ (a' := ?_) ?_ ?_
                          rotate_left
                          · show Act.put _ (some 122) _ = _
                            simp only [Act.put, List.setIfInBounds_toArray, List.set_cons_zero, List.set_cons_succ, i64_w, i32_w]
                            rfl
                          refine one_ (i := 3) (N := some 124) #[true, true, true, true, false, false, false, false, false, false, false, false, false, false, false, false, false, false] rfl rfl (one_of HT_.out (by kernel_rfl)) (by decide) (fun K hK => ?_)
                          refine goes_ Try.func39 (by kernel_rfl) rfl #[.agg #[.int .i64 ((rd_T61 y26041 x106_2).f0), .int .i64 ((rd_T61 y26041 x106_2).f1), .slice A26044_2 ((rd_T61 y26041 x106_2).f2).length c26044_2]] (by rfl) rfl rfl (by (try simp only [List.map_toArray, List.map_cons, List.map_nil]); first | done | rfl | (simp only [List.length_drop, List.length_take]; rfl)) ?_
                          with_reducible refine (columbariumlaw10_in.calls ((rd_T61 y26041 x106_2).f0) ((rd_T61 y26041 x106_2).f1) (fun k_ => ((((True ∧ some k_ ≠ (.slice (some ad26044) y26041.length co52 : Value).ownBlock) ∧ k_ ≠ gb26045) ∧ some k_ ≠ (v26047 : Value).ownBlock) ∧ some k_ ≠ (v26056 : Value).ownBlock)) _ _ ((rd_T61 y26041 x106_2).f2) t26060 t26061 t26062 _ ?side1 A60.out).mono ?_
                          (case side1 => exact HL26044_2.out)
                          rintro e w75 ⟨v26063, rfl, ho0, hb⟩
                          refine ⟨_, rfl, ?_⟩
                          have n0_ := Aside0.mk (Kd.N_below (by (with_reducible repeat (first | apply Kd.N_alloc | apply Kd.N_drewN | apply Kd.N_drew)); exact HO_104.out) hb)
                          have n1_ := Aside0.mk (Kd.V_below (by (with_reducible repeat (first | apply Kd.V_alloc | apply Kd.V_drewN | apply Kd.V_drew)); exact HL26044_2.out) hb)
                          have n2_ := Aside0.mk (Kd.R_below (by (with_reducible repeat (first | apply Kd.R_alloc | apply Kd.R_drewN | apply Kd.R_drew)); exact HO26048.out) hb)
                          have n3_ := Aside0.mk (Kd.V_below (by (with_reducible repeat (first | apply Kd.V_alloc | apply Kd.V_drewN | apply Kd.V_drew)); exact HO26054.out) hb)
                          have n4_ := Aside0.mk (Kd.R_below (by (with_reducible repeat (first | apply Kd.R_alloc | apply Kd.R_drewN | apply Kd.R_drew)); exact HO26057.out) hb)
                          have n5_ := Aside0.mk (Kd.V_lower (Kd.V_mono (ok' := fun k_ => some k_ ≠ (.slice (some ad26044) y26041.length co52 : Value).ownBlock ∧ some k_ ≠ (v26047 : Value).ownBlock ∧ some k_ ≠ (v26056 : Value).ownBlock ∧ k_ ≠ gb26045) ho0 (fun k_ hk_ => ⟨Or.elim hk_ (fun hs_ => hs_.1.1.1.2) (fun hn_ => (Kd.fresh' (Kd.N_lt (by (with_reducible repeat (first | apply Kd.N_alloc | apply Kd.N_drewN | apply Kd.N_drew)); exact HO_104.out)) k_ hn_)), Or.elim hk_ (fun hs_ => hs_.1.2) (fun hn_ => (Kd.fresh' (Kd.R_lt (by (with_reducible repeat (first | apply Kd.R_alloc | apply Kd.R_drewN | apply Kd.R_drew)); exact HO26048.out)) k_ hn_)), Or.elim hk_ (fun hs_ => hs_.2) (fun hn_ => (Kd.fresh' (Kd.R_lt (by (with_reducible repeat (first | apply Kd.R_alloc | apply Kd.R_drewN | apply Kd.R_drew)); exact HO26057.out)) k_ hn_)), Or.elim hk_ (fun hs_ => hs_.1.1.2) (fun hn_ => (Kd.freshB (g := gb26045) (o := .cells #[.int .i64 ((rd_T61 y26041 x106_2).f0), .int .i64 ((rd_T61 y26041 x106_2).f1), .slice A26044_2 ((rd_T61 y26041 x106_2).f2).length c26044_2] 61 (0, 0)) (by (with_reducible repeat (first | refine blk_drewN ?_ _ | refine blk_drew ?_ | refine blk_alloc ?_ _)); exact BK26045.out) k_ hn_))⟩)) (below_size (by repeat (first | (with_reducible first | exact HB.out | apply below_alloc | apply pw_below_drewN | apply below_drew1 | refine below_set ?_ GE26045.out) | exact HB.out | exact Below.refl w.heap.size w))))
                          have n6_ := Aside0.mk (Kd.C_below (by repeat (first | (with_reducible exact HR26044_2.out) | (with_reducible refine Kd.C_alloc ?_ _) | (with_reducible refine Kd.C_drewN ?_ _) | (with_reducible refine Kd.C_drew ?_) | exact HR26044_2.out)) hb)
                          have n7_ := Aside0.mk (blk_below (g := gb26045) (o := .cells #[.int .i64 ((rd_T61 y26041 x106_2).f0), .int .i64 ((rd_T61 y26041 x106_2).f1), .slice A26044_2 ((rd_T61 y26041 x106_2).f2).length c26044_2] 61 (0, 0)) (by (with_reducible repeat (first | refine blk_drewN ?_ _ | refine blk_drew ?_ | refine blk_alloc ?_ _)); exact BK26045.out) hb)
                          have n8_ := Aside0.mk (below_step (by repeat (first | (with_reducible first | exact HB.out | apply below_alloc | apply pw_below_drewN | apply below_drew1 | refine below_set ?_ GE26045.out) | exact HB.out | exact Below.refl w.heap.size w)) hb)
                          clear HO_104
                          clear HL26044_2
                          clear HO26048
                          clear HO26054
                          clear HO26057
                          clear HR26044_2
                          clear BK26045
                          clear HB
                          have HO_104 := n0_
                          have HL26044_2 := n1_
                          have HO26048 := n2_
                          have HO26054 := n3_
                          have HO26057 := n4_
                          have HO26064 := n5_
                          have HR26044_2 := n6_
                          have BK26045 := n7_
                          have HB := n8_
                          clear n0_ n1_ n2_ n3_ n4_ n5_ n6_ n7_ n8_
                          (try clear hb)
                          (try clear hb2)
                          (try clear hk)
                          (try clear hi)
                          (try clear ho0)
                          obtain ⟨Ao76, co76, eo76⟩ := Kd.V_slice HO26064.out
                          (first | subst eo76 | (injection eo76 with f1_ f2_ f3_; have f4_ := f1_.symm; have f5_ := f3_.symm; clear f1_ f2_ f3_; subst f4_; subst f5_))
                          refine hK.out _ _ ⟨(blk_cell BK26045.out 0).trans rfl, (blk_cell BK26045.out 1).trans rfl, (blk_cell BK26045.out 2).trans rfl, (by first | exact own_string Try.underlying40 Try.underlying5 Try.underlying9 (Kd.own_of_R (HO26048.out)) | exact own_string Try.underlying40 Try.underlying5 Try.underlying9 (Kd.own_of_R (Kd.R_drew HO26048.out))), (by first | exact own_string Try.underlying40 Try.underlying5 Try.underlying9 (Kd.own_of_R (HO26057.out)) | exact own_string Try.underlying40 Try.underlying5 Try.underlying9 (Kd.own_of_R (Kd.R_drew HO26057.out)))⟩ (fun hHeld => ?_)
                          clear hK K
                          refine norm_ (a' := ?_) ?_ ?_
                          rotate_left
                          · show Act.put _ (some 124) _ = _
                            simp only [Act.put, List.setIfInBounds_toArray, List.set_cons_zero, List.set_cons_succ, i64_w, i32_w]
                            rfl
                          refine one_ (i := 4) (N := some 125) #[true, true, true, true, true, false, false, false, false, false, false, false, false, false, false, false, false, false] rfl rfl (one_of HT_.out (by kernel_rfl)) (by decide) (fun K hK => ?_)
                          refine goes_ Try.func40 (by kernel_rfl) rfl #[.agg #[.int .i64 t26060, .int .i64 t26061, .slice Ao76 t26062.length co76]] (by rfl) rfl rfl (by (try simp only [List.map_toArray, List.map_cons, List.map_nil]); first | done | rfl | (simp only [List.length_drop, List.length_take]; rfl)) ?_
                          with_reducible refine (columbariumref10_Right.calls k2 t26060 t26061 _ _ t26062 true _ ?side1 ?side2 A61.out).mono ?_
                          (case side1 => repeat (first | exact (Kd.V_reads' HO26064.out).2.2 | (with_reducible refine Kd.C_alloc ?_ _) | (with_reducible refine Kd.C_drewN ?_ _) | (with_reducible refine Kd.C_drew ?_)))
                          (case side2 => exact (Kd.V_reads' HO26064.out).2.1)
                          rintro e w77 ⟨rfl, hb⟩
                          refine ⟨_, rfl, ?_⟩
                          have n0_ := Aside0.mk (Kd.N_below (by (with_reducible repeat (first | apply Kd.N_alloc | apply Kd.N_drewN | apply Kd.N_drew)); exact HO_104.out) hb)
                          have n1_ := Aside0.mk (Kd.V_below (by (with_reducible repeat (first | apply Kd.V_alloc | apply Kd.V_drewN | apply Kd.V_drew)); exact HL26044_2.out) hb)
                          have n2_ := Aside0.mk (Kd.R_below (by (with_reducible repeat (first | apply Kd.R_alloc | apply Kd.R_drewN | apply Kd.R_drew)); exact HO26048.out) hb)
                          have n3_ := Aside0.mk (Kd.V_below (by (with_reducible repeat (first | apply Kd.V_alloc | apply Kd.V_drewN | apply Kd.V_drew)); exact HO26054.out) hb)
                          have n4_ := Aside0.mk (Kd.R_below (by (with_reducible repeat (first | apply Kd.R_alloc | apply Kd.R_drewN | apply Kd.R_drew)); exact HO26057.out) hb)
                          have n5_ := Aside0.mk (Kd.V_below (by (with_reducible repeat (first | apply Kd.V_alloc | apply Kd.V_drewN | apply Kd.V_drew)); exact HO26064.out) hb)
                          have n6_ := Aside0.mk (Kd.C_below (by repeat (first | (with_reducible exact HR26044_2.out) | (with_reducible refine Kd.C_alloc ?_ _) | (with_reducible refine Kd.C_drewN ?_ _) | (with_reducible refine Kd.C_drew ?_) | exact HR26044_2.out)) hb)
                          have n7_ := Aside0.mk (blk_below (g := gb26045) (o := .cells #[.int .i64 ((rd_T61 y26041 x106_2).f0), .int .i64 ((rd_T61 y26041 x106_2).f1), .slice A26044_2 ((rd_T61 y26041 x106_2).f2).length c26044_2] 61 (0, 0)) (by (with_reducible repeat (first | refine blk_drewN ?_ _ | refine blk_drew ?_ | refine blk_alloc ?_ _)); exact BK26045.out) hb)
                          have n8_ := Aside0.mk (below_step (by repeat (first | (with_reducible first | exact HB.out | apply below_alloc | apply pw_below_drewN | apply below_drew1 | refine below_set ?_ GE26045.out) | exact HB.out | exact Below.refl w.heap.size w)) hb)
                          clear HO_104
                          clear HL26044_2
                          clear HO26048
                          clear HO26054
                          clear HO26057
                          clear HO26064
                          clear HR26044_2
                          clear BK26045
                          clear HB
                          have HO_104 := n0_
                          have HL26044_2 := n1_
                          have HO26048 := n2_
                          have HO26054 := n3_
                          have HO26057 := n4_
                          have HO26064 := n5_
                          have HR26044_2 := n6_
                          have BK26045 := n7_
                          have HB := n8_
                          clear n0_ n1_ n2_ n3_ n4_ n5_ n6_ n7_ n8_
                          (try clear hb)
                          (try clear hb2)
                          (try clear hk)
                          (try clear hi)
                          refine hK.out _ _ ⟨(blk_cell BK26045.out 0).trans rfl, (blk_cell BK26045.out 1).trans rfl, (blk_cell BK26045.out 2).trans rfl, (by first | exact own_string Try.underlying40 Try.underlying5 Try.underlying9 (Kd.own_of_R (HO26048.out)) | exact own_string Try.underlying40 Try.underlying5 Try.underlying9 (Kd.own_of_R (Kd.R_drew HO26048.out))), (by first | exact own_string Try.underlying40 Try.underlying5 Try.underlying9 (Kd.own_of_R (HO26057.out)) | exact own_string Try.underlying40 Try.underlying5 Try.underlying9 (Kd.own_of_R (Kd.R_drew HO26057.out)))⟩ (fun hHeld => ?_)
                          clear hK K
                          refine norm_ (a' := ?_) ?_ ?_
                          rotate_left
                          · show Act.put _ (some 125) _ = _
                            simp only [Act.put, List.setIfInBounds_toArray, List.set_cons_zero, List.set_cons_succ, i64_w, i32_w]
                            rfl
                          refine pure_ (i := 5) (N := some 126) (v := ?_) (a' := ?_) #[true, true, true, true, true, true, false, false, false, false, false, false, false, false, false, false, false, false] rfl rfl (any_of HT_.out (by kernel_rfl)) (fun _ _ _ h => h) (Or.inl ⟨by rfl, ?_⟩) ?_ ?_
                          rotate_left
                          · intro w'
                            go_simp
                            with_reducible rfl
                          rotate_left
                          · simp only [Act.put, List.setIfInBounds_toArray, List.set_cons_zero, List.set_cons_succ, i64_w, i32_w]
                            rfl
                          refine pure_ (i := 6) (N := some 127) (v := ?_) (a' := ?_) #[true, true, true, true, true, true, true, false, false, false, false, false, false, false, false, false, false, false] rfl rfl (any_of HT_.out (by kernel_rfl)) (fun _ _ _ h => h) (Or.inl ⟨by rfl, ?_⟩) ?_ ?_
                          rotate_left
                          · intro w'
                            go_simp
                            with_reducible rfl
                          rotate_left
                          · simp only [Act.put, List.setIfInBounds_toArray, List.set_cons_zero, List.set_cons_succ, i64_w, i32_w]
                            rfl
                          refine pure_ (i := 7) (N := some 128) (v := ?_) (a' := ?_) #[true, true, true, true, true, true, true, true, false, false, false, false, false, false, false, false, false, false] rfl rfl (any_of HT_.out (by kernel_rfl)) (fun _ _ _ h => h) (Or.inl ⟨by rfl, ?_⟩) ?_ ?_
                          rotate_left
                          · intro w'
                            go_simp
                            with_reducible rfl
                          rotate_left
                          · simp only [Act.put, List.setIfInBounds_toArray, List.set_cons_zero, List.set_cons_succ, i64_w, i32_w]
                            rfl
                          refine pure_ (i := 9) (N := some 130) (v := ?_) (a' := ?_) #[true, true, true, true, true, true, true, true, false, true, false, false, false, false, false, false, false, false] rfl rfl (any_of HT_.out (by kernel_rfl)) (fun _ _ _ h => h) (Or.inl ⟨by rfl, ?_⟩) ?_ ?_
                          rotate_left
                          · intro w'
                            go_simp
                            with_reducible rfl
                          rotate_left
                          · simp only [Act.put, List.setIfInBounds_toArray, List.set_cons_zero, List.set_cons_succ, i64_w, i32_w]
                            rfl
                          refine take_ (i := 8) (N := some 129) (v := ?_) (a' := ?_) #[true, true, true, true, true, true, true, true, true, true, false, false, false, false, false, false, false, false] rfl rfl (take_ofW HT_.out HW_.out (by kernel_rfl)) (fun _ _ _ h => h) (Or.inl ⟨by rfl, ?_⟩) hHeld ?_ ?_
                          rotate_left
                          · rintro w' ⟨s0, s1, s2, s3, s4⟩
                            go_simp
                            with_reducible rfl
                          rotate_left
                          · simp only [Act.put, List.setIfInBounds_toArray, List.set_cons_zero, List.set_cons_succ, i64_w, i32_w]
                            rfl
                          refine take_ (i := 10) (N := some 131) (v := ?_) (a' := ?_) #[true, true, true, true, true, true, true, true, true, true, true, false, false, false, false, false, false, false] rfl rfl (take_ofW HT_.out HW_.out (by kernel_rfl)) (fun _ _ _ h => h) (Or.inl ⟨by rfl, ?_⟩) hHeld ?_ ?_
                          rotate_left
                          · rintro w' ⟨s0, s1, s2, s3, s4⟩
                            go_simp
                            with_reducible rfl
                          rotate_left
                          · simp only [Act.put, List.setIfInBounds_toArray, List.set_cons_zero, List.set_cons_succ, i64_w, i32_w]
                            rfl
                          refine pure_ (i := 11) (N := some 132) (v := ?_) (a' := ?_) #[true, true, true, true, true, true, true, true, true, true, true, true, false, false, false, false, false, false] rfl rfl (any_of HT_.out (by kernel_rfl)) (fun _ _ _ h => h) (Or.inl ⟨by rfl, ?_⟩) ?_ ?_
                          rotate_left
                          · intro w'
                            go_simp
                            with_reducible rfl
                          rotate_left
                          · simp only [Act.put, List.setIfInBounds_toArray, List.set_cons_zero, List.set_cons_succ, i64_w, i32_w]
                            rfl
                          refine pure_ (i := 12) (N := some 133) (v := ?_) (a' := ?_) #[true, true, true, true, true, true, true, true, true, true, true, true, true, false, false, false, false, false] rfl rfl (any_of HT_.out (by kernel_rfl)) (fun _ _ _ h => h) (Or.inl ⟨by rfl, ?_⟩) ?_ ?_
                          rotate_left
                          · intro w'
                            go_simp
                            with_reducible rfl
                          rotate_left
                          · simp only [Act.put, List.setIfInBounds_toArray, List.set_cons_zero, List.set_cons_succ, i64_w, i32_w]
                            rfl
                          refine pure_ (i := 13) (N := some 134) (v := ?_) (a' := ?_) #[true, true, true, true, true, true, true, true, true, true, true, true, true, true, false, false, false, false] rfl rfl (any_of HT_.out (by kernel_rfl)) (fun _ _ _ h => h) (Or.inl ⟨by rfl, ?_⟩) ?_ ?_
                          rotate_left
                          · intro w'
                            go_simp
                            with_reducible rfl
                          rotate_left
                          · simp only [Act.put, List.setIfInBounds_toArray, List.set_cons_zero, List.set_cons_succ, i64_w, i32_w]
                            rfl
                          refine pure_ (i := 14) (N := some 135) (v := ?_) (a' := ?_) #[true, true, true, true, true, true, true, true, true, true, true, true, true, true, true, false, false, false] rfl rfl (any_of HT_.out (by kernel_rfl)) (fun _ _ _ h => h) (Or.inl ⟨by rfl, ?_⟩) ?_ ?_
                          rotate_left
                          · intro w'
                            go_simp
                            with_reducible rfl
                          rotate_left
                          · simp only [Act.put, List.setIfInBounds_toArray, List.set_cons_zero, List.set_cons_succ, i64_w, i32_w]
                            rfl
                          refine pure_ (i := 15) (N := some 136) (v := ?_) (a' := ?_) #[true, true, true, true, true, true, true, true, true, true, true, true, true, true, true, true, false, false] rfl rfl (any_of HT_.out (by kernel_rfl)) (fun _ _ _ h => h) (Or.inl ⟨by rfl, ?_⟩) ?_ ?_
                          rotate_left
                          · intro w'
                            go_simp
                            with_reducible rfl
                          rotate_left
                          · simp only [Act.put, List.setIfInBounds_toArray, List.set_cons_zero, List.set_cons_succ, i64_w, i32_w]
                            rfl
                          refine pure_ (i := 16) (N := some 137) (v := ?_) (a' := ?_) #[true, true, true, true, true, true, true, true, true, true, true, true, true, true, true, true, true, false] rfl rfl (any_of HT_.out (by kernel_rfl)) (fun _ _ _ h => h) (Or.inl ⟨by rfl, ?_⟩) ?_ ?_
                          rotate_left
                          · intro w'
                            go_simp
                            with_reducible rfl
                          rotate_left
                          · simp only [Act.put, List.setIfInBounds_toArray, List.set_cons_zero, List.set_cons_succ, i64_w, i32_w]
                            rfl
                          refine pure_ (i := 17) (N := some 138) (v := ?_) (a' := ?_) #[true, true, true, true, true, true, true, true, true, true, true, true, true, true, true, true, true, true] rfl rfl (any_of HT_.out (by kernel_rfl)) (fun _ _ _ h => h) (Or.inl ⟨by rfl, ?_⟩) ?_ ?_
                          rotate_left
                          · intro w'
                            go_simp
                            with_reducible rfl
                          rotate_left
                          · simp only [Act.put, List.setIfInBounds_toArray, List.set_cons_zero, List.set_cons_succ, i64_w, i32_w]
                            rfl
                          refine done_ (done_of HT_.out (by kernel_rfl)) ?_
                          try go_wp2
                          go_roundg k2
                          case measure => have := HK1.out; have := HK2.out; omega
                          case rel => exact ⟨(wrap64 (x106_2 + 1)), (by first | rfl | (simp; done) | (simp [*]; done) | (refine congrArg (Value.int .i64) ?_; (try simp only [decide_eq_true_eq, decide_eq_false_iff_not] at *) <;> (unfold wrap64; omega))), H', ⟨by have := HK1.out; have := HK2.out; omega⟩, ⟨by (with_reducible repeat (first | apply Kd.N_alloc | apply Kd.N_drewN | apply Kd.N_drew)); exact Kd.N_mono HO_104.out (fun _ hk => trivial)⟩, ⟨by repeat (first | (with_reducible first | exact HB.out | apply below_alloc | apply pw_below_drewN | apply below_drew1 | refine below_set ?_ GE26045.out) | exact HB.out | exact Below.refl w.heap.size w)⟩⟩
                        · rw [if_neg c65] at H
                          have c65b0 : (t26049 == t26058) = false := beq_eq_false_iff_ne.mpr c65
                          have c65b1 : (t26049 != t26058) = true := bne_iff_ne.mpr c65
                          exact absurd ((Option.some.inj H).trans hr_.out) (by decide)
                      · rw [if_neg c64] at H
                        have c64b0 : ((strOfNums t26046).toList == (strOfNums t26055).toList) = false := beq_eq_false_iff_ne.mpr c64
                        have c64b1 : ((strOfNums t26046).toList != (strOfNums t26055).toList) = true := bne_iff_ne.mpr c64
                        exact absurd ((Option.some.inj H).trans hr_.out) (by decide)
                    · replace c63 := Bool.eq_false_iff.mpr c63
                      subst c63
                      have H1 : (some false) = some r := by rw [if_neg (show ¬ (false = true) by decide)] at H; exact H
                      clear H
                      have H := H1
                      clear H1
                      exact absurd ((Option.some.inj H).trans hr_.out) (by decide)
                  · replace c62 := Bool.eq_false_iff.mpr c62
                    subst c62
                    have H1 : (if t26065 = true then (some false) else (if (strOfNums t26046).toList = (strOfNums t26055).toList then (if t26049 = t26058 then (columbariumlaw10_TicksNumbers.l3 k2 y26041 (y26041.length : Int) (wrap64 (x106_2 + 1))) else (some false)) else (some false))) = some r := by rw [if_neg (show ¬ (false = true) by decide)] at H; exact H
                    clear H
                    have H := H1
                    clear H1
                    by_cases c78 : t26065 = true
                    · subst c78
                      have H1 : (some false) = some r := by rw [if_pos rfl] at H; exact H
                      clear H
                      have H := H1
                      clear H1
                      exact absurd ((Option.some.inj H).trans hr_.out) (by decide)
                    · replace c78 := Bool.eq_false_iff.mpr c78
                      subst c78
                      have H1 : (if (strOfNums t26046).toList = (strOfNums t26055).toList then (if t26049 = t26058 then (columbariumlaw10_TicksNumbers.l3 k2 y26041 (y26041.length : Int) (wrap64 (x106_2 + 1))) else (some false)) else (some false)) = some r := by rw [if_neg (show ¬ (false = true) by decide)] at H; exact H
                      clear H
                      have H := H1
                      clear H1
                      by_cases c79 : (strOfNums t26046).toList = (strOfNums t26055).toList
                      · rw [if_pos c79] at H
                        have c79b0 : ((strOfNums t26046).toList == (strOfNums t26055).toList) = true := beq_iff_eq.mpr c79
                        have c79b1 : ((strOfNums t26046).toList != (strOfNums t26055).toList) = false := bne_eq_false_iff_eq.mpr c79
                        clear c79
                        by_cases c80 : t26049 = t26058
                        · rw [if_pos c80] at H
                          have c80b0 : (t26049 == t26058) = true := beq_iff_eq.mpr c80
                          have c80b1 : (t26049 != t26058) = false := bne_eq_false_iff_eq.mpr c80
                          clear c80
                          have H' := Aside0.mk H
                          clear H
                          have p26044 : 0 ≤ (x106_2 : Int) := of_decide_eq_true (by first | (with_reducible assumption) | assumption)
                          have q26044 : x106_2 < (y26041.length : Int) := of_decide_eq_true (by first | (with_reducible assumption) | assumption)
                          obtain ⟨ad26044, A26044_2, c26044_2, e26044, hx26044_0, hx26044_1, hx26044_2, hl26044_2, hi26044_2⟩ := at_T61 (Kd.N_reads' HO_104.out).2.2 x106_2 p26044 q26044
                          cases e26044
                          obtain ⟨ce26044, hce26044, hMe26044, hcc26044⟩ := Kd.N_get HO_104.out z61 x106_2 p26044 (by first | exact q26044 | exact of_decide_eq_true (by first | (with_reducible assumption) | assumption) | (have e_ := (Kd.N_reads' HO_104.out).1; omega))
                          obtain ⟨ua26044_2, uc26044_2, rfl, ul26044_2, ge26044_2⟩ := k61_openF hMe26044
                          have hv26044_2 := hcc26044 2 _ rfl
                          rw [add_field _ _ 2 (by omega)] at hv26044_2
                          replace hv26044_2 := Option.some.inj (hv26044_2.symm.trans hx26044_2)
                          injection hv26044_2 with hva_ hvn_ hvc_
                          rw [hva_] at ge26044_2
                          rw [hvc_] at ul26044_2
                          have HL26044_2 := Aside0.mk (show Kd.V (Kd.int .i64) 2 _ w.heap.size _ _ ((rd_T61 y26041 x106_2).f2) from Kd.V_mk ul26044_2 ge26044_2)
                          clear hva_ hvn_ hvc_ ge26044_2 ul26044_2
                          clear hcc26044 hce26044
                          have HR26044_2 := Aside0.mk hi26044_2
                          have HC26044_2 := Aside0.mk hl26044_2
                          clear hi26044_2 hl26044_2
                          replace p26044 := eq_true p26044
                          replace q26044 := eq_true q26044
                          try go_wp2_with (first | ((with_reducible refine gate_dst (N := 14) rfl ?_); refine box_event ?hg (N := 14) ?hd (cs := #[.int .i64 0, .int .i64 0, .slice none 0 0]) (t := 61) ?hr ?_; (case hd => rfl); (case hg => rfl); (case hr => first | (go_simp; done) | (go_simp; rfl)); intro gb26045 hg w81 hbox hb; have n0_ := Aside0.mk (Kd.N_below (Kd.N_elderB (by (with_reducible repeat (first | apply Kd.N_alloc | apply Kd.N_drewN | apply Kd.N_drew)); exact HO_104.out) gb26045 (Nat.le_of_eq hg.symm)) hb); have n1_ := Aside0.mk (Kd.V_below (Kd.V_elderB (by (with_reducible repeat (first | apply Kd.V_alloc | apply Kd.V_drewN | apply Kd.V_drew)); exact HL26044_2.out) gb26045 (Nat.le_of_eq hg.symm)) hb); have n2_ := Aside0.mk (Kd.C_below (by repeat (first | (with_reducible exact HR26044_2.out) | (with_reducible refine Kd.C_alloc ?_ _) | (with_reducible refine Kd.C_drewN ?_ _) | (with_reducible refine Kd.C_drew ?_) | exact HR26044_2.out)) hb); have n3_ := Aside0.mk (below_step (by repeat (first | (with_reducible first | exact HB.out | apply below_alloc | apply pw_below_drewN | apply below_drew1) | exact HB.out | exact Below.refl w.heap.size w)) hb); have n4_ := Aside0.mk (hbox); have n5_ := Aside0.mk ((by rw [hg]; exact (below_size (by repeat (first | (with_reducible first | exact HB.out | apply below_alloc | apply pw_below_drewN | apply below_drew1) | exact HB.out | exact Below.refl w.heap.size w))) : w.heap.size ≤ gb26045)); have n6_ := Aside0.mk ((by rw [hg]; exact (below_size (by repeat (first | (with_reducible first | exact HB.out | apply below_alloc | apply pw_below_drewN | apply below_drew1) | exact HB.out | exact Below.refl w.heap.size w))) : w.heap.size ≤ gb26045)); clear HO_104; clear HL26044_2; clear HR26044_2; clear HB; have HO_104 := n0_; have HL26044_2 := n1_; have HR26044_2 := n2_; have HB := n3_; have BK26045 := n4_; have GW26045 := n5_; have GE26045 := n6_; clear n0_ n1_ n2_ n3_ n4_ n5_ n6_; clear hb hbox hg; have hcz82_0 : w81.cell? ⟨gb26045, 0, none⟩ = some (.int .i64 0) := (blk_cell BK26045.out 0).trans rfl; have hcz82_1 : w81.cell? ⟨gb26045, 1, none⟩ = some (.int .i64 0) := (blk_cell BK26045.out 1).trans rfl; have hcz82_2 : w81.cell? ⟨gb26045, 2, none⟩ = some (.slice none 0 0) := (blk_cell BK26045.out 2).trans rfl; have hfz82_0 := blk_frozen BK26045.out 0; have hfz82_1 := blk_frozen BK26045.out 1; have hfz82_2 := blk_frozen BK26045.out 2) | ((with_reducible refine gate_callee (f := 37) rfl ?_); refine goesL_ (some 112) rfl rfl Try.func37 (by kernel_rfl) rfl #[.agg #[.int .i64 ((rd_T61 y26041 x106_2).f0), .int .i64 ((rd_T61 y26041 x106_2).f1), .slice A26044_2 ((rd_T61 y26041 x106_2).f2).length c26044_2]] rfl (by (try simp only [List.map_toArray, List.map_cons, List.map_nil]); first | done | rfl | (simp only [List.length_drop, List.length_take]; rfl)) ?_; (with_reducible refine (ticks_Encode.calls k2 ((rd_T61 y26041 x106_2).f0) ((rd_T61 y26041 x106_2).f1) _ _ ((rd_T61 y26041 x106_2).f2) t26046 t26049 _ ?side1 ?side2 A56.out).mono ?_); (case side1 => repeat (first | exact ((Kd.V_reads' (by (with_reducible repeat (first | apply Kd.V_alloc | apply Kd.V_drewN | apply Kd.V_drew)); exact (Kd.V_mono (Kd.V_far (p := ⟨gb26045, 2, none⟩) (Kd.V_far (p := ⟨gb26045, 1, none⟩) (Kd.V_far (p := ⟨gb26045, 0, none⟩) (Kd.V_mono HL26044_2.out (fun k_ hk => (⟨hk, hk.2⟩ : _ ∧ k_ ≠ gb26045))) (fun _ hk => hk.2) (.int .i64 ((rd_T61 y26041 x106_2).f0))) (fun _ hk => hk.2) (.int .i64 ((rd_T61 y26041 x106_2).f1))) (fun _ hk => hk.2) (.slice A26044_2 ((rd_T61 y26041 x106_2).f2).length c26044_2)) (fun _ h_ => h_.1)))).2.2) | (with_reducible refine Kd.C_alloc ?_ _) | (with_reducible refine Kd.C_drewN ?_ _) | (with_reducible refine Kd.C_drew ?_))); (case side2 => exact HC26044_2.out); rintro e w83 ⟨v26047, rfl, ho0, hb⟩; refine ⟨_, rfl, ?_⟩; have n0_ := Aside0.mk (Kd.N_elder' (by (with_reducible repeat (first | apply Kd.N_alloc | apply Kd.N_drewN | apply Kd.N_drew)); exact (Kd.N_mono (Kd.N_far (p := ⟨gb26045, 2, none⟩) (Kd.N_far (p := ⟨gb26045, 1, none⟩) (Kd.N_far (p := ⟨gb26045, 0, none⟩) (Kd.N_mono HO_104.out (fun k_ hk => (⟨hk, hk.2⟩ : _ ∧ k_ ≠ gb26045))) (fun _ hk => hk.2) (.int .i64 ((rd_T61 y26041 x106_2).f0))) (fun _ hk => hk.2) (.int .i64 ((rd_T61 y26041 x106_2).f1))) (fun _ hk => hk.2) (.slice A26044_2 ((rd_T61 y26041 x106_2).f2).length c26044_2)) (fun _ h_ => h_.1))) (Kd.R_base ho0) hb); have n1_ := Aside0.mk (Kd.V_elder' (by (with_reducible repeat (first | apply Kd.V_alloc | apply Kd.V_drewN | apply Kd.V_drew)); exact (Kd.V_mono (Kd.V_far (p := ⟨gb26045, 2, none⟩) (Kd.V_far (p := ⟨gb26045, 1, none⟩) (Kd.V_far (p := ⟨gb26045, 0, none⟩) (Kd.V_mono HL26044_2.out (fun k_ hk => (⟨hk, hk.2⟩ : _ ∧ k_ ≠ gb26045))) (fun _ hk => hk.2) (.int .i64 ((rd_T61 y26041 x106_2).f0))) (fun _ hk => hk.2) (.int .i64 ((rd_T61 y26041 x106_2).f1))) (fun _ hk => hk.2) (.slice A26044_2 ((rd_T61 y26041 x106_2).f2).length c26044_2)) (fun _ h_ => h_.1))) (Kd.R_base ho0) hb); have n2_ := Aside0.mk (Kd.R_lower ho0 (below_size (by repeat (first | (with_reducible first | exact HB.out | apply below_alloc | apply pw_below_drewN | apply below_drew1 | refine below_set ?_ GE26045.out) | exact HB.out | exact Below.refl w.heap.size w)))); have n3_ := Aside0.mk (Kd.C_below ((Kd.V_reads' (by (with_reducible repeat (first | apply Kd.V_alloc | apply Kd.V_drewN | apply Kd.V_drew)); exact (Kd.V_mono (Kd.V_far (p := ⟨gb26045, 2, none⟩) (Kd.V_far (p := ⟨gb26045, 1, none⟩) (Kd.V_far (p := ⟨gb26045, 0, none⟩) (Kd.V_mono HL26044_2.out (fun k_ hk => (⟨hk, hk.2⟩ : _ ∧ k_ ≠ gb26045))) (fun _ hk => hk.2) (.int .i64 ((rd_T61 y26041 x106_2).f0))) (fun _ hk => hk.2) (.int .i64 ((rd_T61 y26041 x106_2).f1))) (fun _ hk => hk.2) (.slice A26044_2 ((rd_T61 y26041 x106_2).f2).length c26044_2)) (fun _ h_ => h_.1)))).2.2) hb); have n4_ := Aside0.mk (blk_below (g := gb26045) (o := .cells #[.int .i64 ((rd_T61 y26041 x106_2).f0), .int .i64 ((rd_T61 y26041 x106_2).f1), .slice A26044_2 ((rd_T61 y26041 x106_2).f2).length c26044_2] 61 (0, 0)) (by (with_reducible repeat (first | refine blk_drewN ?_ _ | refine blk_drew ?_ | refine blk_alloc ?_ _)); refine blk_put (cs := #[.int .i64 ((rd_T61 y26041 x106_2).f0), .int .i64 ((rd_T61 y26041 x106_2).f1), .slice none 0 0]) ?_ 2 _ rfl; (with_reducible repeat (first | refine blk_drewN ?_ _ | refine blk_drew ?_ | refine blk_alloc ?_ _)); refine blk_put (cs := #[.int .i64 ((rd_T61 y26041 x106_2).f0), .int .i64 0, .slice none 0 0]) ?_ 1 _ rfl; (with_reducible repeat (first | refine blk_drewN ?_ _ | refine blk_drew ?_ | refine blk_alloc ?_ _)); refine blk_put (cs := #[.int .i64 0, .int .i64 0, .slice none 0 0]) ?_ 0 _ rfl; (with_reducible repeat (first | refine blk_drewN ?_ _ | refine blk_drew ?_ | refine blk_alloc ?_ _)); exact BK26045.out) hb); have n5_ := Aside0.mk (below_step (by repeat (first | (with_reducible first | exact HB.out | apply below_alloc | apply pw_below_drewN | apply below_drew1 | refine below_set ?_ GE26045.out) | exact HB.out | exact Below.refl w.heap.size w)) hb); clear HO_104; clear HL26044_2; clear HR26044_2; clear BK26045; clear HB; have HO_104 := n0_; have HL26044_2 := n1_; have HO26048 := n2_; have HR26044_2 := n3_; have BK26045 := n4_; have HB := n5_; clear n0_ n1_ n2_ n3_ n4_ n5_; (try clear hb); (try clear hb2); (try clear hk); (try clear hi); (try clear ho0); have hcz84_0 : w83.cell? ⟨gb26045, 0, none⟩ = some (.int .i64 ((rd_T61 y26041 x106_2).f0)) := (blk_cell BK26045.out 0).trans rfl; have hcz84_1 : w83.cell? ⟨gb26045, 1, none⟩ = some (.int .i64 ((rd_T61 y26041 x106_2).f1)) := (blk_cell BK26045.out 1).trans rfl; have hcz84_2 : w83.cell? ⟨gb26045, 2, none⟩ = some (.slice A26044_2 ((rd_T61 y26041 x106_2).f2).length c26044_2) := (blk_cell BK26045.out 2).trans rfl; have hfz84_0 := blk_frozen BK26045.out 0; have hfz84_1 := blk_frozen BK26045.out 1; have hfz84_2 := blk_frozen BK26045.out 2) | ((with_reducible refine gate_callee (f := 39) rfl ?_); refine goesL_ (some 117) rfl rfl Try.func39 (by kernel_rfl) rfl #[.agg #[.int .i64 ((rd_T61 y26041 x106_2).f0), .int .i64 ((rd_T61 y26041 x106_2).f1), .slice A26044_2 ((rd_T61 y26041 x106_2).f2).length c26044_2]] rfl (by (try simp only [List.map_toArray, List.map_cons, List.map_nil]); first | done | rfl | (simp only [List.length_drop, List.length_take]; rfl)) ?_; (with_reducible refine (columbariumlaw10_in.calls ((rd_T61 y26041 x106_2).f0) ((rd_T61 y26041 x106_2).f1) (fun k_ => (((True ∧ some k_ ≠ (.slice (some ad26044) y26041.length co52 : Value).ownBlock) ∧ k_ ≠ gb26045) ∧ some k_ ≠ (v26047 : Value).ownBlock)) _ _ ((rd_T61 y26041 x106_2).f2) t26050 t26051 t26052 _ ?side1 A57.out).mono ?_); (case side1 => exact HL26044_2.out); rintro e w85 ⟨v26053, rfl, ho0, hb⟩; refine ⟨_, rfl, ?_⟩; have n0_ := Aside0.mk (Kd.N_below (by (with_reducible repeat (first | apply Kd.N_alloc | apply Kd.N_drewN | apply Kd.N_drew)); exact HO_104.out) hb); have n1_ := Aside0.mk (Kd.V_below (by (with_reducible repeat (first | apply Kd.V_alloc | apply Kd.V_drewN | apply Kd.V_drew)); exact HL26044_2.out) hb); have n2_ := Aside0.mk (Kd.R_below (by (with_reducible repeat (first | apply Kd.R_alloc | apply Kd.R_drewN | apply Kd.R_drew)); exact HO26048.out) hb); have n3_ := Aside0.mk (Kd.V_lower (Kd.V_mono (ok' := fun k_ => some k_ ≠ (.slice (some ad26044) y26041.length co52 : Value).ownBlock ∧ some k_ ≠ (v26047 : Value).ownBlock ∧ k_ ≠ gb26045) ho0 (fun k_ hk_ => ⟨Or.elim hk_ (fun hs_ => hs_.1.1.2) (fun hn_ => (Kd.fresh' (Kd.N_lt (by (with_reducible repeat (first | apply Kd.N_alloc | apply Kd.N_drewN | apply Kd.N_drew)); exact HO_104.out)) k_ hn_)), Or.elim hk_ (fun hs_ => hs_.2) (fun hn_ => (Kd.fresh' (Kd.R_lt (by (with_reducible repeat (first | apply Kd.R_alloc | apply Kd.R_drewN | apply Kd.R_drew)); exact HO26048.out)) k_ hn_)), Or.elim hk_ (fun hs_ => hs_.1.2) (fun hn_ => (Kd.freshB (g := gb26045) (o := .cells #[.int .i64 ((rd_T61 y26041 x106_2).f0), .int .i64 ((rd_T61 y26041 x106_2).f1), .slice A26044_2 ((rd_T61 y26041 x106_2).f2).length c26044_2] 61 (0, 0)) (by (with_reducible repeat (first | refine blk_drewN ?_ _ | refine blk_drew ?_ | refine blk_alloc ?_ _)); exact BK26045.out) k_ hn_))⟩)) (below_size (by repeat (first | (with_reducible first | exact HB.out | apply below_alloc | apply pw_below_drewN | apply below_drew1 | refine below_set ?_ GE26045.out) | exact HB.out | exact Below.refl w.heap.size w)))); have n4_ := Aside0.mk (Kd.C_below (by repeat (first | (with_reducible exact HR26044_2.out) | (with_reducible refine Kd.C_alloc ?_ _) | (with_reducible refine Kd.C_drewN ?_ _) | (with_reducible refine Kd.C_drew ?_) | exact HR26044_2.out)) hb); have n5_ := Aside0.mk (blk_below (g := gb26045) (o := .cells #[.int .i64 ((rd_T61 y26041 x106_2).f0), .int .i64 ((rd_T61 y26041 x106_2).f1), .slice A26044_2 ((rd_T61 y26041 x106_2).f2).length c26044_2] 61 (0, 0)) (by (with_reducible repeat (first | refine blk_drewN ?_ _ | refine blk_drew ?_ | refine blk_alloc ?_ _)); exact BK26045.out) hb); have n6_ := Aside0.mk (below_step (by repeat (first | (with_reducible first | exact HB.out | apply below_alloc | apply pw_below_drewN | apply below_drew1 | refine below_set ?_ GE26045.out) | exact HB.out | exact Below.refl w.heap.size w)) hb); clear HO_104; clear HL26044_2; clear HO26048; clear HR26044_2; clear BK26045; clear HB; have HO_104 := n0_; have HL26044_2 := n1_; have HO26048 := n2_; have HO26054 := n3_; have HR26044_2 := n4_; have BK26045 := n5_; have HB := n6_; clear n0_ n1_ n2_ n3_ n4_ n5_ n6_; (try clear hb); (try clear hb2); (try clear hk); (try clear hi); (try clear ho0); obtain ⟨Ao86, co86, eo86⟩ := Kd.V_slice HO26054.out; subst eo86) | ((with_reducible refine gate_callee (f := 38) rfl ?_); refine goesL_ (some 118) rfl rfl Try.func38 (by kernel_rfl) rfl #[.agg #[.int .i64 t26050, .int .i64 t26051, .slice Ao86 t26052.length co86]] rfl (by (try simp only [List.map_toArray, List.map_cons, List.map_nil]); first | done | rfl | (simp only [List.length_drop, List.length_take]; rfl)) ?_; (with_reducible refine (columbariumref10_Encode.calls k2 t26050 t26051 _ _ t26052 t26055 t26058 _ ?side1 ?side2 A58.out).mono ?_); (case side1 => repeat (first | exact (Kd.V_reads' HO26054.out).2.2 | (with_reducible refine Kd.C_alloc ?_ _) | (with_reducible refine Kd.C_drewN ?_ _) | (with_reducible refine Kd.C_drew ?_))); (case side2 => exact (Kd.V_reads' HO26054.out).2.1); rintro e w87 ⟨v26056, rfl, ho0, hb⟩; refine ⟨_, rfl, ?_⟩; have n0_ := Aside0.mk (Kd.N_elder' (by (with_reducible repeat (first | apply Kd.N_alloc | apply Kd.N_drewN | apply Kd.N_drew)); exact HO_104.out) (Kd.R_base ho0) hb); have n1_ := Aside0.mk (Kd.V_elder' (by (with_reducible repeat (first | apply Kd.V_alloc | apply Kd.V_drewN | apply Kd.V_drew)); exact HL26044_2.out) (Kd.R_base ho0) hb); have n2_ := Aside0.mk (Kd.R_elder' (by (with_reducible repeat (first | apply Kd.R_alloc | apply Kd.R_drewN | apply Kd.R_drew)); exact HO26048.out) (Kd.R_base ho0) hb); have n3_ := Aside0.mk (Kd.V_elder' (by (with_reducible repeat (first | apply Kd.V_alloc | apply Kd.V_drewN | apply Kd.V_drew)); exact HO26054.out) (Kd.R_base ho0) hb); have n4_ := Aside0.mk (Kd.R_lower (Kd.R_new' ho0 (Kd.R_lt (by (with_reducible repeat (first | apply Kd.R_alloc | apply Kd.R_drewN | apply Kd.R_drew)); exact HO26048.out))) (below_size (by repeat (first | (with_reducible first | exact HB.out | apply below_alloc | apply pw_below_drewN | apply below_drew1 | refine below_set ?_ GE26045.out) | exact HB.out | exact Below.refl w.heap.size w)))); have n5_ := Aside0.mk (Kd.C_below (by repeat (first | (with_reducible exact HR26044_2.out) | (with_reducible refine Kd.C_alloc ?_ _) | (with_reducible refine Kd.C_drewN ?_ _) | (with_reducible refine Kd.C_drew ?_) | exact HR26044_2.out)) hb); have n6_ := Aside0.mk (blk_below (g := gb26045) (o := .cells #[.int .i64 ((rd_T61 y26041 x106_2).f0), .int .i64 ((rd_T61 y26041 x106_2).f1), .slice A26044_2 ((rd_T61 y26041 x106_2).f2).length c26044_2] 61 (0, 0)) (by (with_reducible repeat (first | refine blk_drewN ?_ _ | refine blk_drew ?_ | refine blk_alloc ?_ _)); exact BK26045.out) hb); have n7_ := Aside0.mk (below_step (by repeat (first | (with_reducible first | exact HB.out | apply below_alloc | apply pw_below_drewN | apply below_drew1 | refine below_set ?_ GE26045.out) | exact HB.out | exact Below.refl w.heap.size w)) hb); clear HO_104; clear HL26044_2; clear HO26048; clear HO26054; clear HR26044_2; clear BK26045; clear HB; have HO_104 := n0_; have HL26044_2 := n1_; have HO26048 := n2_; have HO26054 := n3_; have HO26057 := n4_; have HR26044_2 := n5_; have BK26045 := n6_; have HB := n7_; clear n0_ n1_ n2_ n3_ n4_ n5_ n6_ n7_; (try clear hb); (try clear hb2); (try clear hk); (try clear hi); (try clear ho0)))
                          have n0_ := Aside0.mk (Kd.N_drew HO_104.out)
                          have n1_ := Aside0.mk (Kd.V_drew HL26044_2.out)
                          have n2_ := Aside0.mk (Kd.R_drew HO26048.out)
                          have n3_ := Aside0.mk (Kd.V_drew HO26054.out)
                          have n4_ := Aside0.mk (Kd.R_drew HO26057.out)
                          have n5_ := Aside0.mk (blk_drew BK26045.out)
                          have n6_ := Aside0.mk (Kd.C_drew HR26044_2.out)
                          have n7_ := Aside0.mk (below_drew1 HB.out)
                          clear HO_104
                          clear HL26044_2
                          clear HO26048
                          clear HO26054
                          clear HO26057
                          clear BK26045
                          clear HR26044_2
                          clear HB
                          have HO_104 := n0_
                          have HL26044_2 := n1_
                          have HO26048 := n2_
                          have HO26054 := n3_
                          have HO26057 := n4_
                          have BK26045 := n5_
                          have HR26044_2 := n6_
                          have HB := n7_
                          clear n0_ n1_ n2_ n3_ n4_ n5_ n6_ n7_
                          refine start_ (n := 18) (S := fun w' => w'.cell? ⟨gb26045, 0, none⟩ = some (.int .i64 ((rd_T61 y26041 x106_2).f0)) ∧ w'.cell? ⟨gb26045, 1, none⟩ = some (.int .i64 ((rd_T61 y26041 x106_2).f1)) ∧ w'.cell? ⟨gb26045, 2, none⟩ = some (.slice A26044_2 ((rd_T61 y26041 x106_2).f2).length c26044_2) ∧ ((convert 40 9 v26047).run Try.prog w' = .ok (.string (strOfNums t26046)) w') ∧ ((convert 40 9 v26056).run Try.prog w' = .ok (.string (strOfNums t26055)) w')) (ds := []) #[false, false, false, false, false, false, false, false, false, false, false, false, false, false, false, false, false, false] (by kernel_rfl) rfl rfl ⟨(blk_cell BK26045.out 0).trans rfl, (blk_cell BK26045.out 1).trans rfl, (blk_cell BK26045.out 2).trans rfl, (by first | exact own_string Try.underlying40 Try.underlying5 Try.underlying9 (Kd.own_of_R (HO26048.out)) | exact own_string Try.underlying40 Try.underlying5 Try.underlying9 (Kd.own_of_R (Kd.R_drew HO26048.out))), (by first | exact own_string Try.underlying40 Try.underlying5 Try.underlying9 (Kd.own_of_R (HO26057.out)) | exact own_string Try.underlying40 Try.underlying5 Try.underlying9 (Kd.own_of_R (Kd.R_drew HO26057.out)))⟩ (fun hHeld => ?_); refine with_tabW columbariumlaw10_TicksNumbers.tab25 columbariumlaw10_TicksNumbers.bits25 (fun HT_ HW_ => ?_)
                          generalize w87.drew = w88 at HO_104 HL26044_2 HO26048 HO26054 HO26057 BK26045 HR26044_2 HB hHeld ⊢
                          refine take_ (i := 0) (N := some 121) (v := ?_) (a' := ?_) #[true, false, false, false, false, false, false, false, false, false, false, false, false, false, false, false, false, false] rfl rfl (take_ofW HT_.out HW_.out (by kernel_rfl)) (fun _ _ _ h => h) (Or.inl ⟨by rfl, ?_⟩) hHeld ?_ ?_
                          rotate_left
                          · rintro w' ⟨s0, s1, s2, s3, s4⟩
                            go_simp
                            with_reducible rfl
                          rotate_left
                          · simp only [Act.put, List.setIfInBounds_toArray, List.set_cons_zero, List.set_cons_succ, i64_w, i32_w]
                            rfl
                          refine take_ (i := 2) (N := some 123) (v := ?_) (a' := ?_) #[true, false, true, false, false, false, false, false, false, false, false, false, false, false, false, false, false, false] rfl rfl (take_ofW HT_.out HW_.out (by kernel_rfl)) (fun _ _ _ h => h) (Or.inl ⟨by rfl, ?_⟩) hHeld ?_ ?_
                          rotate_left
                          · rintro w' ⟨s0, s1, s2, s3, s4⟩
                            go_simp
                            with_reducible rfl
                          rotate_left
                          · simp only [Act.put, List.setIfInBounds_toArray, List.set_cons_zero, List.set_cons_succ, i64_w, i32_w]
                            rfl
                          refine one_ (i := 1) (N := some 122) #[true, true, true, false, false, false, false, false, false, false, false, false, false, false, false, false, false, false] rfl rfl (one_of HT_.out (by kernel_rfl)) (by decide) (fun K hK => ?_)
                          refine goes_ Try.func31 (by kernel_rfl) rfl #[.agg #[.int .i64 ((rd_T61 y26041 x106_2).f0), .int .i64 ((rd_T61 y26041 x106_2).f1), .slice A26044_2 ((rd_T61 y26041 x106_2).f2).length c26044_2]] (by rfl) rfl rfl (by (try simp only [List.map_toArray, List.map_cons, List.map_nil]); first | done | rfl | (simp only [List.length_drop, List.length_take]; rfl)) ?_
                          with_reducible refine (ticks_Right.calls k2 ((rd_T61 y26041 x106_2).f0) ((rd_T61 y26041 x106_2).f1) _ _ ((rd_T61 y26041 x106_2).f2) false _ ?side1 ?side2 A59.out).mono ?_
                          (case side1 => repeat (first | exact (by repeat (first | (with_reducible exact HR26044_2.out) | (with_reducible refine Kd.C_alloc ?_ _) | (with_reducible refine Kd.C_drewN ?_ _) | (with_reducible refine Kd.C_drew ?_) | exact HR26044_2.out)) | (with_reducible refine Kd.C_alloc ?_ _) | (with_reducible refine Kd.C_drewN ?_ _) | (with_reducible refine Kd.C_drew ?_)))
                          (case side2 => exact HC26044_2.out)
                          rintro e w89 ⟨rfl, hb⟩
                          refine ⟨_, rfl, ?_⟩
                          have n0_ := Aside0.mk (Kd.N_below (by (with_reducible repeat (first | apply Kd.N_alloc | apply Kd.N_drewN | apply Kd.N_drew)); exact HO_104.out) hb)
                          have n1_ := Aside0.mk (Kd.V_below (by (with_reducible repeat (first | apply Kd.V_alloc | apply Kd.V_drewN | apply Kd.V_drew)); exact HL26044_2.out) hb)
                          have n2_ := Aside0.mk (Kd.R_below (by (with_reducible repeat (first | apply Kd.R_alloc | apply Kd.R_drewN | apply Kd.R_drew)); exact HO26048.out) hb)
                          have n3_ := Aside0.mk (Kd.V_below (by (with_reducible repeat (first | apply Kd.V_alloc | apply Kd.V_drewN | apply Kd.V_drew)); exact HO26054.out) hb)
                          have n4_ := Aside0.mk (Kd.R_below (by (with_reducible repeat (first | apply Kd.R_alloc | apply Kd.R_drewN | apply Kd.R_drew)); exact HO26057.out) hb)
                          have n5_ := Aside0.mk (Kd.C_below (by repeat (first | (with_reducible exact HR26044_2.out) | (with_reducible refine Kd.C_alloc ?_ _) | (with_reducible refine Kd.C_drewN ?_ _) | (with_reducible refine Kd.C_drew ?_) | exact HR26044_2.out)) hb)
                          have n6_ := Aside0.mk (blk_below (g := gb26045) (o := .cells #[.int .i64 ((rd_T61 y26041 x106_2).f0), .int .i64 ((rd_T61 y26041 x106_2).f1), .slice A26044_2 ((rd_T61 y26041 x106_2).f2).length c26044_2] 61 (0, 0)) (by (with_reducible repeat (first | refine blk_drewN ?_ _ | refine blk_drew ?_ | refine blk_alloc ?_ _)); exact BK26045.out) hb)
                          have n7_ := Aside0.mk (below_step (by repeat (first | (with_reducible first | exact HB.out | apply below_alloc | apply pw_below_drewN | apply below_drew1 | refine below_set ?_ GE26045.out) | exact HB.out | exact Below.refl w.heap.size w)) hb)
                          clear HO_104
                          clear HL26044_2
                          clear HO26048
                          clear HO26054
                          clear HO26057
                          clear HR26044_2
                          clear BK26045
                          clear HB
                          have HO_104 := n0_
                          have HL26044_2 := n1_
                          have HO26048 := n2_
                          have HO26054 := n3_
                          have HO26057 := n4_
                          have HR26044_2 := n5_
                          have BK26045 := n6_
                          have HB := n7_
                          clear n0_ n1_ n2_ n3_ n4_ n5_ n6_ n7_
                          (try clear hb)
                          (try clear hb2)
                          (try clear hk)
                          (try clear hi)
                          refine hK.out _ _ ⟨(blk_cell BK26045.out 0).trans rfl, (blk_cell BK26045.out 1).trans rfl, (blk_cell BK26045.out 2).trans rfl, (by first | exact own_string Try.underlying40 Try.underlying5 Try.underlying9 (Kd.own_of_R (HO26048.out)) | exact own_string Try.underlying40 Try.underlying5 Try.underlying9 (Kd.own_of_R (Kd.R_drew HO26048.out))), (by first | exact own_string Try.underlying40 Try.underlying5 Try.underlying9 (Kd.own_of_R (HO26057.out)) | exact own_string Try.underlying40 Try.underlying5 Try.underlying9 (Kd.own_of_R (Kd.R_drew HO26057.out)))⟩ (fun hHeld => ?_)
                          clear hK K
                          refine norm_ (a' := ?_) ?_ ?_
                          rotate_left
                          · show Act.put _ (some 122) _ = _
                            simp only [Act.put, List.setIfInBounds_toArray, List.set_cons_zero, List.set_cons_succ, i64_w, i32_w]
                            rfl
                          refine one_ (i := 3) (N := some 124) #[true, true, true, true, false, false, false, false, false, false, false, false, false, false, false, false, false, false] rfl rfl (one_of HT_.out (by kernel_rfl)) (by decide) (fun K hK => ?_)
                          refine goes_ Try.func39 (by kernel_rfl) rfl #[.agg #[.int .i64 ((rd_T61 y26041 x106_2).f0), .int .i64 ((rd_T61 y26041 x106_2).f1), .slice A26044_2 ((rd_T61 y26041 x106_2).f2).length c26044_2]] (by rfl) rfl rfl (by (try simp only [List.map_toArray, List.map_cons, List.map_nil]); first | done | rfl | (simp only [List.length_drop, List.length_take]; rfl)) ?_
                          with_reducible refine (columbariumlaw10_in.calls ((rd_T61 y26041 x106_2).f0) ((rd_T61 y26041 x106_2).f1) (fun k_ => ((((True ∧ some k_ ≠ (.slice (some ad26044) y26041.length co52 : Value).ownBlock) ∧ k_ ≠ gb26045) ∧ some k_ ≠ (v26047 : Value).ownBlock) ∧ some k_ ≠ (v26056 : Value).ownBlock)) _ _ ((rd_T61 y26041 x106_2).f2) t26060 t26061 t26062 _ ?side1 A60.out).mono ?_
                          (case side1 => exact HL26044_2.out)
                          rintro e w90 ⟨v26063, rfl, ho0, hb⟩
                          refine ⟨_, rfl, ?_⟩
                          have n0_ := Aside0.mk (Kd.N_below (by (with_reducible repeat (first | apply Kd.N_alloc | apply Kd.N_drewN | apply Kd.N_drew)); exact HO_104.out) hb)
                          have n1_ := Aside0.mk (Kd.V_below (by (with_reducible repeat (first | apply Kd.V_alloc | apply Kd.V_drewN | apply Kd.V_drew)); exact HL26044_2.out) hb)
                          have n2_ := Aside0.mk (Kd.R_below (by (with_reducible repeat (first | apply Kd.R_alloc | apply Kd.R_drewN | apply Kd.R_drew)); exact HO26048.out) hb)
                          have n3_ := Aside0.mk (Kd.V_below (by (with_reducible repeat (first | apply Kd.V_alloc | apply Kd.V_drewN | apply Kd.V_drew)); exact HO26054.out) hb)
                          have n4_ := Aside0.mk (Kd.R_below (by (with_reducible repeat (first | apply Kd.R_alloc | apply Kd.R_drewN | apply Kd.R_drew)); exact HO26057.out) hb)
                          have n5_ := Aside0.mk (Kd.V_lower (Kd.V_mono (ok' := fun k_ => some k_ ≠ (.slice (some ad26044) y26041.length co52 : Value).ownBlock ∧ some k_ ≠ (v26047 : Value).ownBlock ∧ some k_ ≠ (v26056 : Value).ownBlock ∧ k_ ≠ gb26045) ho0 (fun k_ hk_ => ⟨Or.elim hk_ (fun hs_ => hs_.1.1.1.2) (fun hn_ => (Kd.fresh' (Kd.N_lt (by (with_reducible repeat (first | apply Kd.N_alloc | apply Kd.N_drewN | apply Kd.N_drew)); exact HO_104.out)) k_ hn_)), Or.elim hk_ (fun hs_ => hs_.1.2) (fun hn_ => (Kd.fresh' (Kd.R_lt (by (with_reducible repeat (first | apply Kd.R_alloc | apply Kd.R_drewN | apply Kd.R_drew)); exact HO26048.out)) k_ hn_)), Or.elim hk_ (fun hs_ => hs_.2) (fun hn_ => (Kd.fresh' (Kd.R_lt (by (with_reducible repeat (first | apply Kd.R_alloc | apply Kd.R_drewN | apply Kd.R_drew)); exact HO26057.out)) k_ hn_)), Or.elim hk_ (fun hs_ => hs_.1.1.2) (fun hn_ => (Kd.freshB (g := gb26045) (o := .cells #[.int .i64 ((rd_T61 y26041 x106_2).f0), .int .i64 ((rd_T61 y26041 x106_2).f1), .slice A26044_2 ((rd_T61 y26041 x106_2).f2).length c26044_2] 61 (0, 0)) (by (with_reducible repeat (first | refine blk_drewN ?_ _ | refine blk_drew ?_ | refine blk_alloc ?_ _)); exact BK26045.out) k_ hn_))⟩)) (below_size (by repeat (first | (with_reducible first | exact HB.out | apply below_alloc | apply pw_below_drewN | apply below_drew1 | refine below_set ?_ GE26045.out) | exact HB.out | exact Below.refl w.heap.size w))))
                          have n6_ := Aside0.mk (Kd.C_below (by repeat (first | (with_reducible exact HR26044_2.out) | (with_reducible refine Kd.C_alloc ?_ _) | (with_reducible refine Kd.C_drewN ?_ _) | (with_reducible refine Kd.C_drew ?_) | exact HR26044_2.out)) hb)
                          have n7_ := Aside0.mk (blk_below (g := gb26045) (o := .cells #[.int .i64 ((rd_T61 y26041 x106_2).f0), .int .i64 ((rd_T61 y26041 x106_2).f1), .slice A26044_2 ((rd_T61 y26041 x106_2).f2).length c26044_2] 61 (0, 0)) (by (with_reducible repeat (first | refine blk_drewN ?_ _ | refine blk_drew ?_ | refine blk_alloc ?_ _)); exact BK26045.out) hb)
                          have n8_ := Aside0.mk (below_step (by repeat (first | (with_reducible first | exact HB.out | apply below_alloc | apply pw_below_drewN | apply below_drew1 | refine below_set ?_ GE26045.out) | exact HB.out | exact Below.refl w.heap.size w)) hb)
                          clear HO_104
                          clear HL26044_2
                          clear HO26048
                          clear HO26054
                          clear HO26057
                          clear HR26044_2
                          clear BK26045
                          clear HB
                          have HO_104 := n0_
                          have HL26044_2 := n1_
                          have HO26048 := n2_
                          have HO26054 := n3_
                          have HO26057 := n4_
                          have HO26064 := n5_
                          have HR26044_2 := n6_
                          have BK26045 := n7_
                          have HB := n8_
                          clear n0_ n1_ n2_ n3_ n4_ n5_ n6_ n7_ n8_
                          (try clear hb)
                          (try clear hb2)
                          (try clear hk)
                          (try clear hi)
                          (try clear ho0)
                          obtain ⟨Ao91, co91, eo91⟩ := Kd.V_slice HO26064.out
                          (first | subst eo91 | (injection eo91 with f1_ f2_ f3_; have f4_ := f1_.symm; have f5_ := f3_.symm; clear f1_ f2_ f3_; subst f4_; subst f5_))
                          refine hK.out _ _ ⟨(blk_cell BK26045.out 0).trans rfl, (blk_cell BK26045.out 1).trans rfl, (blk_cell BK26045.out 2).trans rfl, (by first | exact own_string Try.underlying40 Try.underlying5 Try.underlying9 (Kd.own_of_R (HO26048.out)) | exact own_string Try.underlying40 Try.underlying5 Try.underlying9 (Kd.own_of_R (Kd.R_drew HO26048.out))), (by first | exact own_string Try.underlying40 Try.underlying5 Try.underlying9 (Kd.own_of_R (HO26057.out)) | exact own_string Try.underlying40 Try.underlying5 Try.underlying9 (Kd.own_of_R (Kd.R_drew HO26057.out)))⟩ (fun hHeld => ?_)
                          clear hK K
                          refine norm_ (a' := ?_) ?_ ?_
                          rotate_left
                          · show Act.put _ (some 124) _ = _
                            simp only [Act.put, List.setIfInBounds_toArray, List.set_cons_zero, List.set_cons_succ, i64_w, i32_w]
                            rfl
                          refine one_ (i := 4) (N := some 125) #[true, true, true, true, true, false, false, false, false, false, false, false, false, false, false, false, false, false] rfl rfl (one_of HT_.out (by kernel_rfl)) (by decide) (fun K hK => ?_)
                          refine goes_ Try.func40 (by kernel_rfl) rfl #[.agg #[.int .i64 t26060, .int .i64 t26061, .slice Ao91 t26062.length co91]] (by rfl) rfl rfl (by (try simp only [List.map_toArray, List.map_cons, List.map_nil]); first | done | rfl | (simp only [List.length_drop, List.length_take]; rfl)) ?_
                          with_reducible refine (columbariumref10_Right.calls k2 t26060 t26061 _ _ t26062 false _ ?side1 ?side2 A61.out).mono ?_
                          (case side1 => repeat (first | exact (Kd.V_reads' HO26064.out).2.2 | (with_reducible refine Kd.C_alloc ?_ _) | (with_reducible refine Kd.C_drewN ?_ _) | (with_reducible refine Kd.C_drew ?_)))
                          (case side2 => exact (Kd.V_reads' HO26064.out).2.1)
                          rintro e w92 ⟨rfl, hb⟩
                          refine ⟨_, rfl, ?_⟩
                          have n0_ := Aside0.mk (Kd.N_below (by (with_reducible repeat (first | apply Kd.N_alloc | apply Kd.N_drewN | apply Kd.N_drew)); exact HO_104.out) hb)
                          have n1_ := Aside0.mk (Kd.V_below (by (with_reducible repeat (first | apply Kd.V_alloc | apply Kd.V_drewN | apply Kd.V_drew)); exact HL26044_2.out) hb)
                          have n2_ := Aside0.mk (Kd.R_below (by (with_reducible repeat (first | apply Kd.R_alloc | apply Kd.R_drewN | apply Kd.R_drew)); exact HO26048.out) hb)
                          have n3_ := Aside0.mk (Kd.V_below (by (with_reducible repeat (first | apply Kd.V_alloc | apply Kd.V_drewN | apply Kd.V_drew)); exact HO26054.out) hb)
                          have n4_ := Aside0.mk (Kd.R_below (by (with_reducible repeat (first | apply Kd.R_alloc | apply Kd.R_drewN | apply Kd.R_drew)); exact HO26057.out) hb)
                          have n5_ := Aside0.mk (Kd.V_below (by (with_reducible repeat (first | apply Kd.V_alloc | apply Kd.V_drewN | apply Kd.V_drew)); exact HO26064.out) hb)
                          have n6_ := Aside0.mk (Kd.C_below (by repeat (first | (with_reducible exact HR26044_2.out) | (with_reducible refine Kd.C_alloc ?_ _) | (with_reducible refine Kd.C_drewN ?_ _) | (with_reducible refine Kd.C_drew ?_) | exact HR26044_2.out)) hb)
                          have n7_ := Aside0.mk (blk_below (g := gb26045) (o := .cells #[.int .i64 ((rd_T61 y26041 x106_2).f0), .int .i64 ((rd_T61 y26041 x106_2).f1), .slice A26044_2 ((rd_T61 y26041 x106_2).f2).length c26044_2] 61 (0, 0)) (by (with_reducible repeat (first | refine blk_drewN ?_ _ | refine blk_drew ?_ | refine blk_alloc ?_ _)); exact BK26045.out) hb)
                          have n8_ := Aside0.mk (below_step (by repeat (first | (with_reducible first | exact HB.out | apply below_alloc | apply pw_below_drewN | apply below_drew1 | refine below_set ?_ GE26045.out) | exact HB.out | exact Below.refl w.heap.size w)) hb)
                          clear HO_104
                          clear HL26044_2
                          clear HO26048
                          clear HO26054
                          clear HO26057
                          clear HO26064
                          clear HR26044_2
                          clear BK26045
                          clear HB
                          have HO_104 := n0_
                          have HL26044_2 := n1_
                          have HO26048 := n2_
                          have HO26054 := n3_
                          have HO26057 := n4_
                          have HO26064 := n5_
                          have HR26044_2 := n6_
                          have BK26045 := n7_
                          have HB := n8_
                          clear n0_ n1_ n2_ n3_ n4_ n5_ n6_ n7_ n8_
                          (try clear hb)
                          (try clear hb2)
                          (try clear hk)
                          (try clear hi)
                          refine hK.out _ _ ⟨(blk_cell BK26045.out 0).trans rfl, (blk_cell BK26045.out 1).trans rfl, (blk_cell BK26045.out 2).trans rfl, (by first | exact own_string Try.underlying40 Try.underlying5 Try.underlying9 (Kd.own_of_R (HO26048.out)) | exact own_string Try.underlying40 Try.underlying5 Try.underlying9 (Kd.own_of_R (Kd.R_drew HO26048.out))), (by first | exact own_string Try.underlying40 Try.underlying5 Try.underlying9 (Kd.own_of_R (HO26057.out)) | exact own_string Try.underlying40 Try.underlying5 Try.underlying9 (Kd.own_of_R (Kd.R_drew HO26057.out)))⟩ (fun hHeld => ?_)
                          clear hK K
                          refine norm_ (a' := ?_) ?_ ?_
                          rotate_left
                          · show Act.put _ (some 125) _ = _
                            simp only [Act.put, List.setIfInBounds_toArray, List.set_cons_zero, List.set_cons_succ, i64_w, i32_w]
                            rfl
                          refine pure_ (i := 5) (N := some 126) (v := ?_) (a' := ?_) #[true, true, true, true, true, true, false, false, false, false, false, false, false, false, false, false, false, false] rfl rfl (any_of HT_.out (by kernel_rfl)) (fun _ _ _ h => h) (Or.inl ⟨by rfl, ?_⟩) ?_ ?_
                          rotate_left
                          · intro w'
                            go_simp
                            with_reducible rfl
                          rotate_left
                          · simp only [Act.put, List.setIfInBounds_toArray, List.set_cons_zero, List.set_cons_succ, i64_w, i32_w]
                            rfl
                          refine pure_ (i := 6) (N := some 127) (v := ?_) (a' := ?_) #[true, true, true, true, true, true, true, false, false, false, false, false, false, false, false, false, false, false] rfl rfl (any_of HT_.out (by kernel_rfl)) (fun _ _ _ h => h) (Or.inl ⟨by rfl, ?_⟩) ?_ ?_
                          rotate_left
                          · intro w'
                            go_simp
                            with_reducible rfl
                          rotate_left
                          · simp only [Act.put, List.setIfInBounds_toArray, List.set_cons_zero, List.set_cons_succ, i64_w, i32_w]
                            rfl
                          refine pure_ (i := 7) (N := some 128) (v := ?_) (a' := ?_) #[true, true, true, true, true, true, true, true, false, false, false, false, false, false, false, false, false, false] rfl rfl (any_of HT_.out (by kernel_rfl)) (fun _ _ _ h => h) (Or.inl ⟨by rfl, ?_⟩) ?_ ?_
                          rotate_left
                          · intro w'
                            go_simp
                            with_reducible rfl
                          rotate_left
                          · simp only [Act.put, List.setIfInBounds_toArray, List.set_cons_zero, List.set_cons_succ, i64_w, i32_w]
                            rfl
                          refine pure_ (i := 9) (N := some 130) (v := ?_) (a' := ?_) #[true, true, true, true, true, true, true, true, false, true, false, false, false, false, false, false, false, false] rfl rfl (any_of HT_.out (by kernel_rfl)) (fun _ _ _ h => h) (Or.inl ⟨by rfl, ?_⟩) ?_ ?_
                          rotate_left
                          · intro w'
                            go_simp
                            with_reducible rfl
                          rotate_left
                          · simp only [Act.put, List.setIfInBounds_toArray, List.set_cons_zero, List.set_cons_succ, i64_w, i32_w]
                            rfl
                          refine take_ (i := 8) (N := some 129) (v := ?_) (a' := ?_) #[true, true, true, true, true, true, true, true, true, true, false, false, false, false, false, false, false, false] rfl rfl (take_ofW HT_.out HW_.out (by kernel_rfl)) (fun _ _ _ h => h) (Or.inl ⟨by rfl, ?_⟩) hHeld ?_ ?_
                          rotate_left
                          · rintro w' ⟨s0, s1, s2, s3, s4⟩
                            go_simp
                            with_reducible rfl
                          rotate_left
                          · simp only [Act.put, List.setIfInBounds_toArray, List.set_cons_zero, List.set_cons_succ, i64_w, i32_w]
                            rfl
                          refine take_ (i := 10) (N := some 131) (v := ?_) (a' := ?_) #[true, true, true, true, true, true, true, true, true, true, true, false, false, false, false, false, false, false] rfl rfl (take_ofW HT_.out HW_.out (by kernel_rfl)) (fun _ _ _ h => h) (Or.inl ⟨by rfl, ?_⟩) hHeld ?_ ?_
                          rotate_left
                          · rintro w' ⟨s0, s1, s2, s3, s4⟩
                            go_simp
                            with_reducible rfl
                          rotate_left
                          · simp only [Act.put, List.setIfInBounds_toArray, List.set_cons_zero, List.set_cons_succ, i64_w, i32_w]
                            rfl
                          refine pure_ (i := 11) (N := some 132) (v := ?_) (a' := ?_) #[true, true, true, true, true, true, true, true, true, true, true, true, false, false, false, false, false, false] rfl rfl (any_of HT_.out (by kernel_rfl)) (fun _ _ _ h => h) (Or.inl ⟨by rfl, ?_⟩) ?_ ?_
                          rotate_left
                          · intro w'
                            go_simp
                            with_reducible rfl
                          rotate_left
                          · simp only [Act.put, List.setIfInBounds_toArray, List.set_cons_zero, List.set_cons_succ, i64_w, i32_w]
                            rfl
                          refine pure_ (i := 12) (N := some 133) (v := ?_) (a' := ?_) #[true, true, true, true, true, true, true, true, true, true, true, true, true, false, false, false, false, false] rfl rfl (any_of HT_.out (by kernel_rfl)) (fun _ _ _ h => h) (Or.inl ⟨by rfl, ?_⟩) ?_ ?_
                          rotate_left
                          · intro w'
                            go_simp
                            with_reducible rfl
                          rotate_left
                          · simp only [Act.put, List.setIfInBounds_toArray, List.set_cons_zero, List.set_cons_succ, i64_w, i32_w]
                            rfl
                          refine pure_ (i := 13) (N := some 134) (v := ?_) (a' := ?_) #[true, true, true, true, true, true, true, true, true, true, true, true, true, true, false, false, false, false] rfl rfl (any_of HT_.out (by kernel_rfl)) (fun _ _ _ h => h) (Or.inl ⟨by rfl, ?_⟩) ?_ ?_
                          rotate_left
                          · intro w'
                            go_simp
                            with_reducible rfl
                          rotate_left
                          · simp only [Act.put, List.setIfInBounds_toArray, List.set_cons_zero, List.set_cons_succ, i64_w, i32_w]
                            rfl
                          refine pure_ (i := 14) (N := some 135) (v := ?_) (a' := ?_) #[true, true, true, true, true, true, true, true, true, true, true, true, true, true, true, false, false, false] rfl rfl (any_of HT_.out (by kernel_rfl)) (fun _ _ _ h => h) (Or.inl ⟨by rfl, ?_⟩) ?_ ?_
                          rotate_left
                          · intro w'
                            go_simp
                            with_reducible rfl
                          rotate_left
                          · simp only [Act.put, List.setIfInBounds_toArray, List.set_cons_zero, List.set_cons_succ, i64_w, i32_w]
                            rfl
                          refine pure_ (i := 15) (N := some 136) (v := ?_) (a' := ?_) #[true, true, true, true, true, true, true, true, true, true, true, true, true, true, true, true, false, false] rfl rfl (any_of HT_.out (by kernel_rfl)) (fun _ _ _ h => h) (Or.inl ⟨by rfl, ?_⟩) ?_ ?_
                          rotate_left
                          · intro w'
                            go_simp
                            with_reducible rfl
                          rotate_left
                          · simp only [Act.put, List.setIfInBounds_toArray, List.set_cons_zero, List.set_cons_succ, i64_w, i32_w]
                            rfl
                          refine pure_ (i := 16) (N := some 137) (v := ?_) (a' := ?_) #[true, true, true, true, true, true, true, true, true, true, true, true, true, true, true, true, true, false] rfl rfl (any_of HT_.out (by kernel_rfl)) (fun _ _ _ h => h) (Or.inl ⟨by rfl, ?_⟩) ?_ ?_
                          rotate_left
                          · intro w'
                            go_simp
                            with_reducible rfl
                          rotate_left
                          · simp only [Act.put, List.setIfInBounds_toArray, List.set_cons_zero, List.set_cons_succ, i64_w, i32_w]
                            rfl
                          refine pure_ (i := 17) (N := some 138) (v := ?_) (a' := ?_) #[true, true, true, true, true, true, true, true, true, true, true, true, true, true, true, true, true, true] rfl rfl (any_of HT_.out (by kernel_rfl)) (fun _ _ _ h => h) (Or.inl ⟨by rfl, ?_⟩) ?_ ?_
                          rotate_left
                          · intro w'
                            go_simp
                            with_reducible rfl
                          rotate_left
                          · simp only [Act.put, List.setIfInBounds_toArray, List.set_cons_zero, List.set_cons_succ, i64_w, i32_w]
                            rfl
                          refine done_ (done_of HT_.out (by kernel_rfl)) ?_
                          try go_wp2
                          go_roundg k2
                          case measure => have := HK1.out; have := HK2.out; omega
                          case rel => exact ⟨(wrap64 (x106_2 + 1)), (by first | rfl | (simp; done) | (simp [*]; done) | (refine congrArg (Value.int .i64) ?_; (try simp only [decide_eq_true_eq, decide_eq_false_iff_not] at *) <;> (unfold wrap64; omega))), H', ⟨by have := HK1.out; have := HK2.out; omega⟩, ⟨by (with_reducible repeat (first | apply Kd.N_alloc | apply Kd.N_drewN | apply Kd.N_drew)); exact Kd.N_mono HO_104.out (fun _ hk => trivial)⟩, ⟨by repeat (first | (with_reducible first | exact HB.out | apply below_alloc | apply pw_below_drewN | apply below_drew1 | refine below_set ?_ GE26045.out) | exact HB.out | exact Below.refl w.heap.size w)⟩⟩
                        · rw [if_neg c80] at H
                          have c80b0 : (t26049 == t26058) = false := beq_eq_false_iff_ne.mpr c80
                          have c80b1 : (t26049 != t26058) = true := bne_iff_ne.mpr c80
                          exact absurd ((Option.some.inj H).trans hr_.out) (by decide)
                      · rw [if_neg c79] at H
                        have c79b0 : ((strOfNums t26046).toList == (strOfNums t26055).toList) = false := beq_eq_false_iff_ne.mpr c79
                        have c79b1 : ((strOfNums t26046).toList != (strOfNums t26055).toList) = true := bne_iff_ne.mpr c79
                        exact absurd ((Option.some.inj H).trans hr_.out) (by decide)
                · rw [if_neg c55] at H
                  exact absurd H (by simp)
              · rw [if_neg c54] at H
                exact absurd H (by simp)
            · rw [if_neg c53] at H
              have c53b0 : decide (x106_2 < (y26041.length : Int)) = false := decide_eq_false c53
              clear c53
              obtain ⟨y26066, hy26066⟩ : ∃ y_ : List Int, y_ = (([0, 0, 0] : List Int)) := ⟨_, rfl⟩
              replace H : ((some (([[], y26066, (([1, 10, 1, 10] : List Int)), (([1, 10, 1, 12] : List Int)), (([2, 10, 1, 8] : List Int)), (([1, 10] : List Int)), (([129, 128, 64, 0, 0] : List Int))] : List (List Int)) : List (List Int))).bind fun y26084 => (columbariumlaw10_TicksNumbers.l4 k2 y26084 (y26084.length : Int) 0)) = some r := by first | (rw [hy26066]; with_reducible exact H) | (have H2_ := (Option.bind_some _ _).symm.trans H; rw [hy26066]; with_reducible exact H2_) | (have H2_ := (Option.bind_some _ _).symm.trans H; with_reducible exact H2_) | with_reducible exact H | (rw [hy26066]; exact H) | exact H
              have Ny26066 := Aside0.mk hy26066
              clear hy26066
              obtain ⟨y26069, hy26069⟩ : ∃ y_ : List Int, y_ = (([1, 10, 1, 10] : List Int)) := ⟨_, rfl⟩
              replace H : ((some (([[], y26066, y26069, (([1, 10, 1, 12] : List Int)), (([2, 10, 1, 8] : List Int)), (([1, 10] : List Int)), (([129, 128, 64, 0, 0] : List Int))] : List (List Int)) : List (List Int))).bind fun y26084 => (columbariumlaw10_TicksNumbers.l4 k2 y26084 (y26084.length : Int) 0)) = some r := by first | (rw [hy26069]; with_reducible exact H) | (have H2_ := (Option.bind_some _ _).symm.trans H; rw [hy26069]; with_reducible exact H2_) | (have H2_ := (Option.bind_some _ _).symm.trans H; with_reducible exact H2_) | with_reducible exact H | (rw [hy26069]; exact H) | exact H
              have Ny26069 := Aside0.mk hy26069
              clear hy26069
              obtain ⟨y26072, hy26072⟩ : ∃ y_ : List Int, y_ = (([1, 10, 1, 12] : List Int)) := ⟨_, rfl⟩
              replace H : ((some (([[], y26066, y26069, y26072, (([2, 10, 1, 8] : List Int)), (([1, 10] : List Int)), (([129, 128, 64, 0, 0] : List Int))] : List (List Int)) : List (List Int))).bind fun y26084 => (columbariumlaw10_TicksNumbers.l4 k2 y26084 (y26084.length : Int) 0)) = some r := by first | (rw [hy26072]; with_reducible exact H) | (have H2_ := (Option.bind_some _ _).symm.trans H; rw [hy26072]; with_reducible exact H2_) | (have H2_ := (Option.bind_some _ _).symm.trans H; with_reducible exact H2_) | with_reducible exact H | (rw [hy26072]; exact H) | exact H
              have Ny26072 := Aside0.mk hy26072
              clear hy26072
              obtain ⟨y26075, hy26075⟩ : ∃ y_ : List Int, y_ = (([2, 10, 1, 8] : List Int)) := ⟨_, rfl⟩
              replace H : ((some (([[], y26066, y26069, y26072, y26075, (([1, 10] : List Int)), (([129, 128, 64, 0, 0] : List Int))] : List (List Int)) : List (List Int))).bind fun y26084 => (columbariumlaw10_TicksNumbers.l4 k2 y26084 (y26084.length : Int) 0)) = some r := by first | (rw [hy26075]; with_reducible exact H) | (have H2_ := (Option.bind_some _ _).symm.trans H; rw [hy26075]; with_reducible exact H2_) | (have H2_ := (Option.bind_some _ _).symm.trans H; with_reducible exact H2_) | with_reducible exact H | (rw [hy26075]; exact H) | exact H
              have Ny26075 := Aside0.mk hy26075
              clear hy26075
              obtain ⟨y26078, hy26078⟩ : ∃ y_ : List Int, y_ = (([1, 10] : List Int)) := ⟨_, rfl⟩
              replace H : ((some (([[], y26066, y26069, y26072, y26075, y26078, (([129, 128, 64, 0, 0] : List Int))] : List (List Int)) : List (List Int))).bind fun y26084 => (columbariumlaw10_TicksNumbers.l4 k2 y26084 (y26084.length : Int) 0)) = some r := by first | (rw [hy26078]; with_reducible exact H) | (have H2_ := (Option.bind_some _ _).symm.trans H; rw [hy26078]; with_reducible exact H2_) | (have H2_ := (Option.bind_some _ _).symm.trans H; with_reducible exact H2_) | with_reducible exact H | (rw [hy26078]; exact H) | exact H
              have Ny26078 := Aside0.mk hy26078
              clear hy26078
              obtain ⟨y26081, hy26081⟩ : ∃ y_ : List Int, y_ = (([129, 128, 64, 0, 0] : List Int)) := ⟨_, rfl⟩
              replace H : ((some (([[], y26066, y26069, y26072, y26075, y26078, y26081] : List (List Int)) : List (List Int))).bind fun y26084 => (columbariumlaw10_TicksNumbers.l4 k2 y26084 (y26084.length : Int) 0)) = some r := by first | (rw [hy26081]; with_reducible exact H) | (have H2_ := (Option.bind_some _ _).symm.trans H; rw [hy26081]; with_reducible exact H2_) | (have H2_ := (Option.bind_some _ _).symm.trans H; with_reducible exact H2_) | with_reducible exact H | (rw [hy26081]; exact H) | exact H
              have Ny26081 := Aside0.mk hy26081
              clear hy26081
              obtain ⟨y26084, hy26084⟩ : ∃ y_ : List (List Int), y_ = (([[], y26066, y26069, y26072, y26075, y26078, y26081] : List (List Int))) := ⟨_, rfl⟩
              replace H : (columbariumlaw10_TicksNumbers.l4 k2 y26084 (y26084.length : Int) 0) = some r := by first | (rw [hy26084]; with_reducible exact H) | (have H2_ := (Option.bind_some _ _).symm.trans H; rw [hy26084]; with_reducible exact H2_) | (have H2_ := (Option.bind_some _ _).symm.trans H; with_reducible exact H2_) | with_reducible exact H | (rw [hy26084]; exact H) | exact H
              have Ny26084 := Aside0.mk hy26084
              clear hy26084
              have H' := Aside0.mk H
              clear H
              go_wp2_with (first | ((with_reducible refine gate_dst (N := 140) rfl ?_); refine Kd.R_lit (Kd.int .u8) _ 5 ?hg (N := 140) ?hd (xs := ([0, 0, 0] : List Int)) (inner := [.int .u8 0, .int .u8 0, .int .u8 0]) (ok := fun _ => True) (okp := fun _ => True) ?hr ?hp (fun _ hk => hk) trivial (Below.refl _ _) (Nat.le_refl _) (by simp) ?_; (case hd => rfl); (case hg => rfl); (case hr => first | (go_simp; done) | (go_simp; rfl)); (case hp => exact (Reps.one (show Kd.M (Kd.int .u8) _ _ _ 0 [.int .u8 0] from rfl) (Reps.one (show Kd.M (Kd.int .u8) _ _ _ 0 [.int .u8 0] from rfl) (Reps.one (show Kd.M (Kd.int .u8) _ _ _ 0 [.int .u8 0] from rfl) (Reps.none _ _))))); intro v26067 w93 ho94 hb hg_ hnew_; clear hg_ hnew_; (first | rw [← Ny26066.out] at ho94 | (simp only [Int.reduceToNat] at ho94; rw [← Ny26066.out] at ho94)); have n0_ := Aside0.mk (Kd.N_elder' (by (with_reducible repeat (first | apply Kd.N_alloc | apply Kd.N_drewN | apply Kd.N_drew)); exact HO_104.out) (Kd.R_base ho94) hb); have n1_ := Aside0.mk (Kd.R_lower ho94 (below_size (by repeat (first | (with_reducible first | exact HB.out | apply below_alloc | apply pw_below_drewN | apply below_drew1) | exact HB.out | exact Below.refl w.heap.size w)))); have n2_ := Aside0.mk (below_step (by repeat (first | (with_reducible first | exact HB.out | apply below_alloc | apply pw_below_drewN | apply below_drew1) | exact HB.out | exact Below.refl w.heap.size w)) hb); clear HO_104; clear HB; have HO_104 := n0_; have HO26068 := n1_; have HB := n2_; clear n0_ n1_ n2_; clear hb ho94) | ((with_reducible refine gate_dst (N := 141) rfl ?_); refine Kd.R_lit (Kd.int .u8) _ 5 ?hg (N := 141) ?hd (xs := ([1, 10, 1, 10] : List Int)) (inner := [.int .u8 1, .int .u8 10, .int .u8 1, .int .u8 10]) (ok := fun _ => True) (okp := fun _ => True) ?hr ?hp (fun _ hk => hk) trivial (Below.refl _ _) (Nat.le_refl _) (by simp) ?_; (case hd => rfl); (case hg => rfl); (case hr => first | (go_simp; done) | (go_simp; rfl)); (case hp => exact (Reps.one (show Kd.M (Kd.int .u8) _ _ _ 1 [.int .u8 1] from rfl) (Reps.one (show Kd.M (Kd.int .u8) _ _ _ 10 [.int .u8 10] from rfl) (Reps.one (show Kd.M (Kd.int .u8) _ _ _ 1 [.int .u8 1] from rfl) (Reps.one (show Kd.M (Kd.int .u8) _ _ _ 10 [.int .u8 10] from rfl) (Reps.none _ _)))))); intro v26070 w95 ho96 hb hg_ hnew_; clear hg_ hnew_; (first | rw [← Ny26069.out] at ho96 | (simp only [Int.reduceToNat] at ho96; rw [← Ny26069.out] at ho96)); have n0_ := Aside0.mk (Kd.N_elder' (by (with_reducible repeat (first | apply Kd.N_alloc | apply Kd.N_drewN | apply Kd.N_drew)); exact HO_104.out) (Kd.R_base ho96) hb); have n1_ := Aside0.mk (Kd.R_elder' (by (with_reducible repeat (first | apply Kd.R_alloc | apply Kd.R_drewN | apply Kd.R_drew)); exact HO26068.out) (Kd.R_base ho96) hb); have n2_ := Aside0.mk (Kd.R_lower (Kd.R_new' ho96 (Kd.R_lt (by (with_reducible repeat (first | apply Kd.R_alloc | apply Kd.R_drewN | apply Kd.R_drew)); exact HO26068.out))) (below_size (by repeat (first | (with_reducible first | exact HB.out | apply below_alloc | apply pw_below_drewN | apply below_drew1) | exact HB.out | exact Below.refl w.heap.size w)))); have n3_ := Aside0.mk (below_step (by repeat (first | (with_reducible first | exact HB.out | apply below_alloc | apply pw_below_drewN | apply below_drew1) | exact HB.out | exact Below.refl w.heap.size w)) hb); clear HO_104; clear HO26068; clear HB; have HO_104 := n0_; have HO26068 := n1_; have HO26071 := n2_; have HB := n3_; clear n0_ n1_ n2_ n3_; clear hb ho96) | ((with_reducible refine gate_dst (N := 142) rfl ?_); refine Kd.R_lit (Kd.int .u8) _ 5 ?hg (N := 142) ?hd (xs := ([1, 10, 1, 12] : List Int)) (inner := [.int .u8 1, .int .u8 10, .int .u8 1, .int .u8 12]) (ok := fun _ => True) (okp := fun _ => True) ?hr ?hp (fun _ hk => hk) trivial (Below.refl _ _) (Nat.le_refl _) (by simp) ?_; (case hd => rfl); (case hg => rfl); (case hr => first | (go_simp; done) | (go_simp; rfl)); (case hp => exact (Reps.one (show Kd.M (Kd.int .u8) _ _ _ 1 [.int .u8 1] from rfl) (Reps.one (show Kd.M (Kd.int .u8) _ _ _ 10 [.int .u8 10] from rfl) (Reps.one (show Kd.M (Kd.int .u8) _ _ _ 1 [.int .u8 1] from rfl) (Reps.one (show Kd.M (Kd.int .u8) _ _ _ 12 [.int .u8 12] from rfl) (Reps.none _ _)))))); intro v26073 w97 ho98 hb hg_ hnew_; clear hg_ hnew_; (first | rw [← Ny26072.out] at ho98 | (simp only [Int.reduceToNat] at ho98; rw [← Ny26072.out] at ho98)); have n0_ := Aside0.mk (Kd.N_elder' (by (with_reducible repeat (first | apply Kd.N_alloc | apply Kd.N_drewN | apply Kd.N_drew)); exact HO_104.out) (Kd.R_base ho98) hb); have n1_ := Aside0.mk (Kd.R_elder' (by (with_reducible repeat (first | apply Kd.R_alloc | apply Kd.R_drewN | apply Kd.R_drew)); exact HO26068.out) (Kd.R_base ho98) hb); have n2_ := Aside0.mk (Kd.R_elder' (by (with_reducible repeat (first | apply Kd.R_alloc | apply Kd.R_drewN | apply Kd.R_drew)); exact HO26071.out) (Kd.R_base ho98) hb); have n3_ := Aside0.mk (Kd.R_lower (Kd.R_new' (Kd.R_new' ho98 (Kd.R_lt (by (with_reducible repeat (first | apply Kd.R_alloc | apply Kd.R_drewN | apply Kd.R_drew)); exact HO26068.out))) (Kd.R_lt (by (with_reducible repeat (first | apply Kd.R_alloc | apply Kd.R_drewN | apply Kd.R_drew)); exact HO26071.out))) (below_size (by repeat (first | (with_reducible first | exact HB.out | apply below_alloc | apply pw_below_drewN | apply below_drew1) | exact HB.out | exact Below.refl w.heap.size w)))); have n4_ := Aside0.mk (below_step (by repeat (first | (with_reducible first | exact HB.out | apply below_alloc | apply pw_below_drewN | apply below_drew1) | exact HB.out | exact Below.refl w.heap.size w)) hb); clear HO_104; clear HO26068; clear HO26071; clear HB; have HO_104 := n0_; have HO26068 := n1_; have HO26071 := n2_; have HO26074 := n3_; have HB := n4_; clear n0_ n1_ n2_ n3_ n4_; clear hb ho98) | ((with_reducible refine gate_dst (N := 143) rfl ?_); refine Kd.R_lit (Kd.int .u8) _ 5 ?hg (N := 143) ?hd (xs := ([2, 10, 1, 8] : List Int)) (inner := [.int .u8 2, .int .u8 10, .int .u8 1, .int .u8 8]) (ok := fun _ => True) (okp := fun _ => True) ?hr ?hp (fun _ hk => hk) trivial (Below.refl _ _) (Nat.le_refl _) (by simp) ?_; (case hd => rfl); (case hg => rfl); (case hr => first | (go_simp; done) | (go_simp; rfl)); (case hp => exact (Reps.one (show Kd.M (Kd.int .u8) _ _ _ 2 [.int .u8 2] from rfl) (Reps.one (show Kd.M (Kd.int .u8) _ _ _ 10 [.int .u8 10] from rfl) (Reps.one (show Kd.M (Kd.int .u8) _ _ _ 1 [.int .u8 1] from rfl) (Reps.one (show Kd.M (Kd.int .u8) _ _ _ 8 [.int .u8 8] from rfl) (Reps.none _ _)))))); intro v26076 w99 ho100 hb hg_ hnew_; clear hg_ hnew_; (first | rw [← Ny26075.out] at ho100 | (simp only [Int.reduceToNat] at ho100; rw [← Ny26075.out] at ho100)); have n0_ := Aside0.mk (Kd.N_elder' (by (with_reducible repeat (first | apply Kd.N_alloc | apply Kd.N_drewN | apply Kd.N_drew)); exact HO_104.out) (Kd.R_base ho100) hb); have n1_ := Aside0.mk (Kd.R_elder' (by (with_reducible repeat (first | apply Kd.R_alloc | apply Kd.R_drewN | apply Kd.R_drew)); exact HO26068.out) (Kd.R_base ho100) hb); have n2_ := Aside0.mk (Kd.R_elder' (by (with_reducible repeat (first | apply Kd.R_alloc | apply Kd.R_drewN | apply Kd.R_drew)); exact HO26071.out) (Kd.R_base ho100) hb); have n3_ := Aside0.mk (Kd.R_elder' (by (with_reducible repeat (first | apply Kd.R_alloc | apply Kd.R_drewN | apply Kd.R_drew)); exact HO26074.out) (Kd.R_base ho100) hb); have n4_ := Aside0.mk (Kd.R_lower (Kd.R_new' (Kd.R_new' (Kd.R_new' ho100 (Kd.R_lt (by (with_reducible repeat (first | apply Kd.R_alloc | apply Kd.R_drewN | apply Kd.R_drew)); exact HO26068.out))) (Kd.R_lt (by (with_reducible repeat (first | apply Kd.R_alloc | apply Kd.R_drewN | apply Kd.R_drew)); exact HO26071.out))) (Kd.R_lt (by (with_reducible repeat (first | apply Kd.R_alloc | apply Kd.R_drewN | apply Kd.R_drew)); exact HO26074.out))) (below_size (by repeat (first | (with_reducible first | exact HB.out | apply below_alloc | apply pw_below_drewN | apply below_drew1) | exact HB.out | exact Below.refl w.heap.size w)))); have n5_ := Aside0.mk (below_step (by repeat (first | (with_reducible first | exact HB.out | apply below_alloc | apply pw_below_drewN | apply below_drew1) | exact HB.out | exact Below.refl w.heap.size w)) hb); clear HO_104; clear HO26068; clear HO26071; clear HO26074; clear HB; have HO_104 := n0_; have HO26068 := n1_; have HO26071 := n2_; have HO26074 := n3_; have HO26077 := n4_; have HB := n5_; clear n0_ n1_ n2_ n3_ n4_ n5_; clear hb ho100) | ((with_reducible refine gate_dst (N := 144) rfl ?_); refine Kd.R_lit (Kd.int .u8) _ 5 ?hg (N := 144) ?hd (xs := ([1, 10] : List Int)) (inner := [.int .u8 1, .int .u8 10]) (ok := fun _ => True) (okp := fun _ => True) ?hr ?hp (fun _ hk => hk) trivial (Below.refl _ _) (Nat.le_refl _) (by simp) ?_; (case hd => rfl); (case hg => rfl); (case hr => first | (go_simp; done) | (go_simp; rfl)); (case hp => exact (Reps.one (show Kd.M (Kd.int .u8) _ _ _ 1 [.int .u8 1] from rfl) (Reps.one (show Kd.M (Kd.int .u8) _ _ _ 10 [.int .u8 10] from rfl) (Reps.none _ _)))); intro v26079 w101 ho102 hb hg_ hnew_; clear hg_ hnew_; (first | rw [← Ny26078.out] at ho102 | (simp only [Int.reduceToNat] at ho102; rw [← Ny26078.out] at ho102)); have n0_ := Aside0.mk (Kd.N_elder' (by (with_reducible repeat (first | apply Kd.N_alloc | apply Kd.N_drewN | apply Kd.N_drew)); exact HO_104.out) (Kd.R_base ho102) hb); have n1_ := Aside0.mk (Kd.R_elder' (by (with_reducible repeat (first | apply Kd.R_alloc | apply Kd.R_drewN | apply Kd.R_drew)); exact HO26068.out) (Kd.R_base ho102) hb); have n2_ := Aside0.mk (Kd.R_elder' (by (with_reducible repeat (first | apply Kd.R_alloc | apply Kd.R_drewN | apply Kd.R_drew)); exact HO26071.out) (Kd.R_base ho102) hb); have n3_ := Aside0.mk (Kd.R_elder' (by (with_reducible repeat (first | apply Kd.R_alloc | apply Kd.R_drewN | apply Kd.R_drew)); exact HO26074.out) (Kd.R_base ho102) hb); have n4_ := Aside0.mk (Kd.R_elder' (by (with_reducible repeat (first | apply Kd.R_alloc | apply Kd.R_drewN | apply Kd.R_drew)); exact HO26077.out) (Kd.R_base ho102) hb); have n5_ := Aside0.mk (Kd.R_lower (Kd.R_new' (Kd.R_new' (Kd.R_new' (Kd.R_new' ho102 (Kd.R_lt (by (with_reducible repeat (first | apply Kd.R_alloc | apply Kd.R_drewN | apply Kd.R_drew)); exact HO26068.out))) (Kd.R_lt (by (with_reducible repeat (first | apply Kd.R_alloc | apply Kd.R_drewN | apply Kd.R_drew)); exact HO26071.out))) (Kd.R_lt (by (with_reducible repeat (first | apply Kd.R_alloc | apply Kd.R_drewN | apply Kd.R_drew)); exact HO26074.out))) (Kd.R_lt (by (with_reducible repeat (first | apply Kd.R_alloc | apply Kd.R_drewN | apply Kd.R_drew)); exact HO26077.out))) (below_size (by repeat (first | (with_reducible first | exact HB.out | apply below_alloc | apply pw_below_drewN | apply below_drew1) | exact HB.out | exact Below.refl w.heap.size w)))); have n6_ := Aside0.mk (below_step (by repeat (first | (with_reducible first | exact HB.out | apply below_alloc | apply pw_below_drewN | apply below_drew1) | exact HB.out | exact Below.refl w.heap.size w)) hb); clear HO_104; clear HO26068; clear HO26071; clear HO26074; clear HO26077; clear HB; have HO_104 := n0_; have HO26068 := n1_; have HO26071 := n2_; have HO26074 := n3_; have HO26077 := n4_; have HO26080 := n5_; have HB := n6_; clear n0_ n1_ n2_ n3_ n4_ n5_ n6_; clear hb ho102) | ((with_reducible refine gate_dst (N := 145) rfl ?_); refine Kd.R_lit (Kd.int .u8) _ 5 ?hg (N := 145) ?hd (xs := ([129, 128, 64, 0, 0] : List Int)) (inner := [.int .u8 129, .int .u8 128, .int .u8 64, .int .u8 0, .int .u8 0]) (ok := fun _ => True) (okp := fun _ => True) ?hr ?hp (fun _ hk => hk) trivial (Below.refl _ _) (Nat.le_refl _) (by simp) ?_; (case hd => rfl); (case hg => rfl); (case hr => first | (go_simp; done) | (go_simp; rfl)); (case hp => exact (Reps.one (show Kd.M (Kd.int .u8) _ _ _ 129 [.int .u8 129] from rfl) (Reps.one (show Kd.M (Kd.int .u8) _ _ _ 128 [.int .u8 128] from rfl) (Reps.one (show Kd.M (Kd.int .u8) _ _ _ 64 [.int .u8 64] from rfl) (Reps.one (show Kd.M (Kd.int .u8) _ _ _ 0 [.int .u8 0] from rfl) (Reps.one (show Kd.M (Kd.int .u8) _ _ _ 0 [.int .u8 0] from rfl) (Reps.none _ _))))))); intro v26082 w103 ho104 hb hg_ hnew_; clear hg_ hnew_; (first | rw [← Ny26081.out] at ho104 | (simp only [Int.reduceToNat] at ho104; rw [← Ny26081.out] at ho104)); have n0_ := Aside0.mk (Kd.N_elder' (by (with_reducible repeat (first | apply Kd.N_alloc | apply Kd.N_drewN | apply Kd.N_drew)); exact HO_104.out) (Kd.R_base ho104) hb); have n1_ := Aside0.mk (Kd.R_elder' (by (with_reducible repeat (first | apply Kd.R_alloc | apply Kd.R_drewN | apply Kd.R_drew)); exact HO26068.out) (Kd.R_base ho104) hb); have n2_ := Aside0.mk (Kd.R_elder' (by (with_reducible repeat (first | apply Kd.R_alloc | apply Kd.R_drewN | apply Kd.R_drew)); exact HO26071.out) (Kd.R_base ho104) hb); have n3_ := Aside0.mk (Kd.R_elder' (by (with_reducible repeat (first | apply Kd.R_alloc | apply Kd.R_drewN | apply Kd.R_drew)); exact HO26074.out) (Kd.R_base ho104) hb); have n4_ := Aside0.mk (Kd.R_elder' (by (with_reducible repeat (first | apply Kd.R_alloc | apply Kd.R_drewN | apply Kd.R_drew)); exact HO26077.out) (Kd.R_base ho104) hb); have n5_ := Aside0.mk (Kd.R_elder' (by (with_reducible repeat (first | apply Kd.R_alloc | apply Kd.R_drewN | apply Kd.R_drew)); exact HO26080.out) (Kd.R_base ho104) hb); have n6_ := Aside0.mk (Kd.R_lower (Kd.R_new' (Kd.R_new' (Kd.R_new' (Kd.R_new' (Kd.R_new' ho104 (Kd.R_lt (by (with_reducible repeat (first | apply Kd.R_alloc | apply Kd.R_drewN | apply Kd.R_drew)); exact HO26068.out))) (Kd.R_lt (by (with_reducible repeat (first | apply Kd.R_alloc | apply Kd.R_drewN | apply Kd.R_drew)); exact HO26071.out))) (Kd.R_lt (by (with_reducible repeat (first | apply Kd.R_alloc | apply Kd.R_drewN | apply Kd.R_drew)); exact HO26074.out))) (Kd.R_lt (by (with_reducible repeat (first | apply Kd.R_alloc | apply Kd.R_drewN | apply Kd.R_drew)); exact HO26077.out))) (Kd.R_lt (by (with_reducible repeat (first | apply Kd.R_alloc | apply Kd.R_drewN | apply Kd.R_drew)); exact HO26080.out))) (below_size (by repeat (first | (with_reducible first | exact HB.out | apply below_alloc | apply pw_below_drewN | apply below_drew1) | exact HB.out | exact Below.refl w.heap.size w)))); have n7_ := Aside0.mk (below_step (by repeat (first | (with_reducible first | exact HB.out | apply below_alloc | apply pw_below_drewN | apply below_drew1) | exact HB.out | exact Below.refl w.heap.size w)) hb); clear HO_104; clear HO26068; clear HO26071; clear HO26074; clear HO26077; clear HO26080; clear HB; have HO_104 := n0_; have HO26068 := n1_; have HO26071 := n2_; have HO26074 := n3_; have HO26077 := n4_; have HO26080 := n5_; have HO26083 := n6_; have HB := n7_; clear n0_ n1_ n2_ n3_ n4_ n5_ n6_ n7_; clear hb ho104; obtain ⟨Ao105, co105, eo105⟩ := Kd.R_slice HO26068.out; subst eo105; obtain ⟨Ao106, co106, eo106⟩ := Kd.R_slice HO26071.out; subst eo106; obtain ⟨Ao107, co107, eo107⟩ := Kd.R_slice HO26074.out; subst eo107; obtain ⟨Ao108, co108, eo108⟩ := Kd.R_slice HO26077.out; subst eo108; obtain ⟨Ao109, co109, eo109⟩ := Kd.R_slice HO26080.out; subst eo109; obtain ⟨Ao110, co110, eo110⟩ := Kd.R_slice HO26083.out; subst eo110) | ((with_reducible refine gate_dst (N := 146) rfl ?_); refine Kd.N_lit (Kd.slice 5 (Kd.int .u8)) _ 40 ?hg (N' := 146) ?hd (xs := ([[], y26066, y26069, y26072, y26075, y26078, y26081] : List (List Int))) (inner := [.slice none 0 0, .slice Ao105 y26066.length co105, .slice Ao106 y26069.length co106, .slice Ao107 y26072.length co107, .slice Ao108 y26075.length co108, .slice Ao109 y26078.length co109, .slice Ao110 y26081.length co110]) (ok := (fun k_ => some k_ ≠ (.slice Ao52 y26041.length co52 : Value).ownBlock)) (okp := (fun k_ => some k_ ≠ (.slice Ao52 y26041.length co52 : Value).ownBlock)) ?hr ?hp (fun _ hk => hk) ((show ∀ k_, w103.heap.size ≤ k_ → (fun k_ => some k_ ≠ (.slice Ao52 y26041.length co52 : Value).ownBlock) k_ from fun k_ hk => Kd.fresh' (Kd.N_lt (by (with_reducible repeat (first | apply Kd.N_alloc | apply Kd.N_drewN | apply Kd.N_drew)); exact HO_104.out)) k_ hk) _ (Nat.le_refl _)) (Below.refl _ _) (Nat.le_refl _) (by simp) ?_; (case hd => rfl); (case hg => rfl); (case hr => first | (go_simp; done) | (go_simp; rfl)); (case hp => exact (Reps.one (show Kd.FK (Kd.slice 5 (Kd.int .u8)) _ _ [] [.slice none 0 0] from (Kd.FK_slice_mk (Nat.le_refl _) (Kd.F_nil _ _ _))) (Reps.one (show Kd.FK (Kd.slice 5 (Kd.int .u8)) _ _ y26066 [.slice Ao105 y26066.length co105] from (Kd.FK_slice_mk (Kd.R_reads' (Kd.R_mono (ok' := (fun k_ => some k_ ≠ (.slice Ao52 y26041.length co52 : Value).ownBlock)) (Kd.R_apart' (HO26068.out) (Kd.N_typed HO_104.out) (by decide)) (fun k_ hk => hk.2))).2.1 (Kd.R_F (Kd.R_mono (ok' := (fun k_ => some k_ ≠ (.slice Ao52 y26041.length co52 : Value).ownBlock)) (Kd.R_apart' (HO26068.out) (Kd.N_typed HO_104.out) (by decide)) (fun k_ hk => hk.2))))) (Reps.one (show Kd.FK (Kd.slice 5 (Kd.int .u8)) _ _ y26069 [.slice Ao106 y26069.length co106] from (Kd.FK_slice_mk (Kd.R_reads' (Kd.R_mono (ok' := (fun k_ => some k_ ≠ (.slice Ao52 y26041.length co52 : Value).ownBlock)) (Kd.R_apart' (HO26071.out) (Kd.N_typed HO_104.out) (by decide)) (fun k_ hk => hk.2))).2.1 (Kd.R_F (Kd.R_mono (ok' := (fun k_ => some k_ ≠ (.slice Ao52 y26041.length co52 : Value).ownBlock)) (Kd.R_apart' (HO26071.out) (Kd.N_typed HO_104.out) (by decide)) (fun k_ hk => hk.2))))) (Reps.one (show Kd.FK (Kd.slice 5 (Kd.int .u8)) _ _ y26072 [.slice Ao107 y26072.length co107] from (Kd.FK_slice_mk (Kd.R_reads' (Kd.R_mono (ok' := (fun k_ => some k_ ≠ (.slice Ao52 y26041.length co52 : Value).ownBlock)) (Kd.R_apart' (HO26074.out) (Kd.N_typed HO_104.out) (by decide)) (fun k_ hk => hk.2))).2.1 (Kd.R_F (Kd.R_mono (ok' := (fun k_ => some k_ ≠ (.slice Ao52 y26041.length co52 : Value).ownBlock)) (Kd.R_apart' (HO26074.out) (Kd.N_typed HO_104.out) (by decide)) (fun k_ hk => hk.2))))) (Reps.one (show Kd.FK (Kd.slice 5 (Kd.int .u8)) _ _ y26075 [.slice Ao108 y26075.length co108] from (Kd.FK_slice_mk (Kd.R_reads' (Kd.R_mono (ok' := (fun k_ => some k_ ≠ (.slice Ao52 y26041.length co52 : Value).ownBlock)) (Kd.R_apart' (HO26077.out) (Kd.N_typed HO_104.out) (by decide)) (fun k_ hk => hk.2))).2.1 (Kd.R_F (Kd.R_mono (ok' := (fun k_ => some k_ ≠ (.slice Ao52 y26041.length co52 : Value).ownBlock)) (Kd.R_apart' (HO26077.out) (Kd.N_typed HO_104.out) (by decide)) (fun k_ hk => hk.2))))) (Reps.one (show Kd.FK (Kd.slice 5 (Kd.int .u8)) _ _ y26078 [.slice Ao109 y26078.length co109] from (Kd.FK_slice_mk (Kd.R_reads' (Kd.R_mono (ok' := (fun k_ => some k_ ≠ (.slice Ao52 y26041.length co52 : Value).ownBlock)) (Kd.R_apart' (HO26080.out) (Kd.N_typed HO_104.out) (by decide)) (fun k_ hk => hk.2))).2.1 (Kd.R_F (Kd.R_mono (ok' := (fun k_ => some k_ ≠ (.slice Ao52 y26041.length co52 : Value).ownBlock)) (Kd.R_apart' (HO26080.out) (Kd.N_typed HO_104.out) (by decide)) (fun k_ hk => hk.2))))) (Reps.one (show Kd.FK (Kd.slice 5 (Kd.int .u8)) _ _ y26081 [.slice Ao110 y26081.length co110] from (Kd.FK_slice_mk (Kd.R_reads' (Kd.R_mono (ok' := (fun k_ => some k_ ≠ (.slice Ao52 y26041.length co52 : Value).ownBlock)) (Kd.R_apart' (HO26083.out) (Kd.N_typed HO_104.out) (by decide)) (fun k_ hk => hk.2))).2.1 (Kd.R_F (Kd.R_mono (ok' := (fun k_ => some k_ ≠ (.slice Ao52 y26041.length co52 : Value).ownBlock)) (Kd.R_apart' (HO26083.out) (Kd.N_typed HO_104.out) (by decide)) (fun k_ hk => hk.2))))) (Reps.none _ _))))))))); intro v26085 w111 ho112 hb hg_ hnew_; clear hg_ hnew_; (first | rw [← Ny26084.out] at ho112 | (simp only [Int.reduceToNat] at ho112; rw [← Ny26084.out] at ho112)); have n0_ := Aside0.mk (Kd.N_elder' (by (with_reducible repeat (first | apply Kd.N_alloc | apply Kd.N_drewN | apply Kd.N_drew)); exact HO_104.out) (Kd.N_base ho112) hb); have n1_ := Aside0.mk (Kd.N_lower ho112 (below_size (by repeat (first | (with_reducible first | exact HB.out | apply below_alloc | apply pw_below_drewN | apply below_drew1) | exact HB.out | exact Below.refl w.heap.size w)))); have n2_ := Aside0.mk (below_step (by repeat (first | (with_reducible first | exact HB.out | apply below_alloc | apply pw_below_drewN | apply below_drew1) | exact HB.out | exact Below.refl w.heap.size w)) hb); clear HO_104; clear HB; clear HO26068; clear HO26071; clear HO26074; clear HO26077; clear HO26080; clear HO26083; have HO_104 := n0_; have HO26086 := n1_; have HB := n2_; clear n0_ n1_ n2_; clear hb ho112; obtain ⟨Ao113, co113, eo113⟩ := Kd.N_slice HO26086.out; subst eo113))
              go_loopg [148] k2 (fun kq v148 w' => ∃ (x148_3 : Int), v148 = .int .i64 x148_3 ∧ Aside0 (columbariumlaw10_TicksNumbers.l4 kq y26084 (y26084.length : Int) x148_3 = some r) ∧ Aside0 (kq ≤ k2) ∧ Aside0 (Kd.N (Kd.slice 5 (Kd.int .u8)) 40 w' w.heap.size (fun _ => True) (.slice Ao113 y26084.length co113) y26084) ∧ Aside0 (Below w.heap.size w w'))
              case atStart => exact ⟨(0), (by first | rfl | (simp; done) | (simp [*]; done) | (refine congrArg (Value.int .i64) ?_; (try simp only [decide_eq_true_eq, decide_eq_false_iff_not] at *) <;> (unfold wrap64; omega))), H', ⟨Nat.le_refl _⟩, ⟨by (with_reducible repeat (first | apply Kd.N_alloc | apply Kd.N_drewN | apply Kd.N_drew)); exact Kd.N_mono HO26086.out (fun _ hk => trivial)⟩, ⟨by repeat (first | (with_reducible first | exact HB.out | apply below_alloc | apply pw_below_drewN | apply below_drew1) | exact HB.out | exact Below.refl w.heap.size w)⟩⟩
              case round =>
                clear H'
                try clear c2
                try clear p2
                try clear q2
                try clear hx2
                try clear c3
                try clear c4
                try clear c5
                try clear c6
                try clear p6
                try clear c7
                try clear c8
                try clear c26
                try clear p26
                try clear q26
                try clear hx26
                try clear c31
                try clear c37
                try clear c38
                try clear c39
                try clear c40
                try clear c53
                try clear c53b0
                try clear c54
                try clear c55
                try clear c62
                try clear c63
                try clear c64
                try clear c64b0
                try clear c64b1
                try clear p64
                try clear c65
                try clear c65b0
                try clear c65b1
                try clear c78
                try clear c79
                try clear c79b0
                try clear c79b1
                try clear c80
                try clear c80b0
                try clear c80b1
                try clear hcz82_0
                try clear hcz82_1
                try clear hcz82_2
                try clear hcz84_0
                try clear hcz84_1
                try clear hcz84_2
                try clear hfz82_0
                try clear hfz82_1
                try clear hfz82_2
                try clear hfz84_0
                try clear hfz84_1
                try clear hfz84_2
                try clear hx26044_0
                try clear hx26044_1
                try clear hx26044_2
                try clear p26044
                try clear q26044
                obtain ⟨x148_3, rfl, HA, HK3, HO_146, HB⟩ := hrel
                cases gk with
                | zero => exact absurd HA.out (by simp [columbariumlaw10_TicksNumbers.l4])
                | succ k3 =>
                  have H := HA.out
                  clear HA
                  simp only [columbariumlaw10_TicksNumbers.l4] at H
                  by_cases c114 : x148_3 < (y26084.length : Int)
                  · rw [if_pos c114] at H
                    have c114b0 : decide (x148_3 < (y26084.length : Int)) = true := decide_eq_true c114
                    clear c114
                    by_cases c115 : 0 ≤ x148_3
                    · rw [if_pos c115] at H
                      have c115b0 : decide (0 ≤ x148_3) = true := decide_eq_true c115
                      clear c115
                      by_cases c116 : x148_3 < (y26084.length : Int)
                      · rw [if_pos c116] at H
                        have c116b0 : decide (x148_3 < (y26084.length : Int)) = true := decide_eq_true c116
                        clear c116
                        replace H := Option.bind_eq_some_iff.mp H
                        obtain ⟨⟨t26097, t26098, t26099, t26102, t26103⟩, A1170, H⟩ := H
                        replace H : ((columbariumref10_Decode.f k3 (rd_L5 y26084 x148_3) 0).bind fun bt26105 => ((columbariumlaw10_same.f k3 t26097 t26098 t26099 bt26105.1 bt26105.2.1 bt26105.2.2.1).bind fun t26113 => (if t26113 = true then (if t26102 = bt26105.2.2.2.1 then (if t26103 = bt26105.2.2.2.2 then (columbariumlaw10_TicksNumbers.l4 k3 y26084 (y26084.length : Int) (wrap64 (x148_3 + 1))) else (some false)) else (some false)) else (some false)))) = some r := H
                        have A117 := Aside0.mk A1170
                        clear A1170
                        replace H := Option.bind_eq_some_iff.mp H
                        obtain ⟨⟨t26105, t26106, t26107, t26110, t26111⟩, A1180, H⟩ := H
                        replace H : ((columbariumlaw10_same.f k3 t26097 t26098 t26099 t26105 t26106 t26107).bind fun t26113 => (if t26113 = true then (if t26102 = t26110 then (if t26103 = t26111 then (columbariumlaw10_TicksNumbers.l4 k3 y26084 (y26084.length : Int) (wrap64 (x148_3 + 1))) else (some false)) else (some false)) else (some false))) = some r := H
                        have A118 := Aside0.mk A1180
                        clear A1180
                        replace H := Option.bind_eq_some_iff.mp H
                        obtain ⟨t26113, A1190, H⟩ := H
                        replace H : (if t26113 = true then (if t26102 = t26110 then (if t26103 = t26111 then (columbariumlaw10_TicksNumbers.l4 k3 y26084 (y26084.length : Int) (wrap64 (x148_3 + 1))) else (some false)) else (some false)) else (some false)) = some r := H
                        have A119 := Aside0.mk A1190
                        clear A1190
                        by_cases c120 : t26113 = true
                        · subst c120
                          have H1 : (if t26102 = t26110 then (if t26103 = t26111 then (columbariumlaw10_TicksNumbers.l4 k3 y26084 (y26084.length : Int) (wrap64 (x148_3 + 1))) else (some false)) else (some false)) = some r := by rw [if_pos rfl] at H; exact H
                          clear H
                          have H := H1
                          clear H1
                          by_cases c121 : t26102 = t26110
                          · rw [if_pos c121] at H
                            have c121b0 : (t26102 == t26110) = true := beq_iff_eq.mpr c121
                            have c121b1 : (t26102 != t26110) = false := bne_eq_false_iff_eq.mpr c121
                            clear c121
                            by_cases c122 : t26103 = t26111
                            · rw [if_pos c122] at H
                              have c122b0 : (t26103 == t26111) = true := beq_iff_eq.mpr c122
                              have c122b1 : (t26103 != t26111) = false := bne_eq_false_iff_eq.mpr c122
                              clear c122
                              have H' := Aside0.mk H
                              clear H
                              have p26096 : 0 ≤ (x148_3 : Int) := of_decide_eq_true (by first | (with_reducible assumption) | assumption)
                              have q26096 : x148_3 < (y26084.length : Int) := of_decide_eq_true (by first | (with_reducible assumption) | assumption)
                              obtain ⟨ad26096, A26096_0, c26096_0, e26096, hx26096_0, hl26096_0, hi26096_0⟩ := at_L5 (Kd.N_reads' HO_146.out).2.2 x148_3 p26096 q26096
                              cases e26096
                              obtain ⟨ce26096, hce26096, hMe26096, hcc26096⟩ := Kd.N_get HO_146.out [] x148_3 p26096 (by first | exact q26096 | exact of_decide_eq_true (by first | (with_reducible assumption) | assumption) | (have e_ := (Kd.N_reads' HO_146.out).1; omega))
                              obtain ⟨ua26096_0, uc26096_0, rfl, ul26096_0, ge26096_0⟩ := Kd.FK_slice_open hMe26096
                              have hv26096_0 := hcc26096 0 _ rfl
                              rw [Nat.add_zero, show ((Kd.slice 5 (Kd.int .u8))).sz = 1 from rfl, Nat.mul_one] at hv26096_0
                              replace hv26096_0 := Option.some.inj (hv26096_0.symm.trans hx26096_0)
                              injection hv26096_0 with hva_ hvn_ hvc_
                              rw [hva_] at ge26096_0
                              rw [hvc_] at ul26096_0
                              have HL26096_0 := Aside0.mk (show Kd.V (Kd.int .u8) 5 _ w.heap.size _ _ (rd_L5 y26084 x148_3) from Kd.V_mk ul26096_0 ge26096_0)
                              clear hva_ hvn_ hvc_ ge26096_0 ul26096_0
                              clear hcc26096 hce26096
                              have HR26096_0 := Aside0.mk hi26096_0
                              have HC26096_0 := Aside0.mk hl26096_0
                              clear hi26096_0 hl26096_0
                              replace p26096 := eq_true p26096
                              replace q26096 := eq_true q26096
                              go_wp2_with (first | ((with_reducible refine gate_callee (f := 41) rfl ?_); refine goesL_ (some 154) rfl rfl Try.func41 (by kernel_rfl) rfl #[.slice A26096_0 (rd_L5 y26084 x148_3).length c26096_0, .int .i64 0] rfl (by (try simp only [List.map_toArray, List.map_cons, List.map_nil]); first | done | rfl | (simp only [List.length_drop, List.length_take]; rfl)) ?_; (with_reducible refine (ticks_Decode.calls k3 _ _ (rd_L5 y26084 x148_3) 0 t26097 t26098 t26099 t26102 t26103 _ ?side1 ?side2 A117.out).mono ?_); (case side1 => repeat (first | exact (by repeat (first | (with_reducible exact HR26096_0.out) | (with_reducible refine Kd.C_alloc ?_ _) | (with_reducible refine Kd.C_drewN ?_ _) | (with_reducible refine Kd.C_drew ?_) | exact HR26096_0.out)) | (with_reducible refine Kd.C_alloc ?_ _) | (with_reducible refine Kd.C_drewN ?_ _) | (with_reducible refine Kd.C_drew ?_))); (case side2 => exact HC26096_0.out); rintro e w123 ⟨v26100, rfl, ho0, hb⟩; refine ⟨_, rfl, ?_⟩; have n0_ := Aside0.mk (Kd.N_elder' (by (with_reducible repeat (first | apply Kd.N_alloc | apply Kd.N_drewN | apply Kd.N_drew)); exact HO_146.out) (Kd.R_base ho0) hb); have n1_ := Aside0.mk (Kd.V_elder' (by (with_reducible repeat (first | apply Kd.V_alloc | apply Kd.V_drewN | apply Kd.V_drew)); exact HL26096_0.out) (Kd.R_base ho0) hb); have n2_ := Aside0.mk (Kd.R_lower ho0 (below_size (by repeat (first | (with_reducible first | exact HB.out | apply below_alloc | apply pw_below_drewN | apply below_drew1) | exact HB.out | exact Below.refl w.heap.size w)))); have n3_ := Aside0.mk (Kd.C_below (by repeat (first | (with_reducible exact HR26096_0.out) | (with_reducible refine Kd.C_alloc ?_ _) | (with_reducible refine Kd.C_drewN ?_ _) | (with_reducible refine Kd.C_drew ?_) | exact HR26096_0.out)) hb); have n4_ := Aside0.mk (below_step (by repeat (first | (with_reducible first | exact HB.out | apply below_alloc | apply pw_below_drewN | apply below_drew1) | exact HB.out | exact Below.refl w.heap.size w)) hb); clear HO_146; clear HL26096_0; clear HR26096_0; clear HB; have HO_146 := n0_; have HL26096_0 := n1_; have HO26101 := n2_; have HR26096_0 := n3_; have HB := n4_; clear n0_ n1_ n2_ n3_ n4_; (try clear hb); (try clear hb2); (try clear hk); (try clear hi); (try clear ho0)) | ((with_reducible refine gate_dst (N := 21) rfl ?_); refine box_event ?hg (N := 21) ?hd (cs := #[.int .i64 0, .int .i64 0, .slice none 0 0]) (t := 61) ?hr ?_; (case hd => rfl); (case hg => rfl); (case hr => first | (go_simp; done) | (go_simp; rfl)); intro gb26104 hg w124 hbox hb; have n0_ := Aside0.mk (Kd.N_below (Kd.N_elderB (by (with_reducible repeat (first | apply Kd.N_alloc | apply Kd.N_drewN | apply Kd.N_drew)); exact HO_146.out) gb26104 (Nat.le_of_eq hg.symm)) hb); have n1_ := Aside0.mk (Kd.V_below (Kd.V_elderB (by (with_reducible repeat (first | apply Kd.V_alloc | apply Kd.V_drewN | apply Kd.V_drew)); exact HL26096_0.out) gb26104 (Nat.le_of_eq hg.symm)) hb); have n2_ := Aside0.mk (Kd.R_below (by (with_reducible repeat (first | apply Kd.R_alloc | apply Kd.R_drewN | apply Kd.R_drew)); exact HO26101.out) hb); have n3_ := Aside0.mk (Kd.C_below (by repeat (first | (with_reducible exact HR26096_0.out) | (with_reducible refine Kd.C_alloc ?_ _) | (with_reducible refine Kd.C_drewN ?_ _) | (with_reducible refine Kd.C_drew ?_) | exact HR26096_0.out)) hb); have n4_ := Aside0.mk (below_step (by repeat (first | (with_reducible first | exact HB.out | apply below_alloc | apply pw_below_drewN | apply below_drew1) | exact HB.out | exact Below.refl w.heap.size w)) hb); have n5_ := Aside0.mk (hbox); have n6_ := Aside0.mk ((by rw [hg]; exact (below_size (by repeat (first | (with_reducible first | exact HB.out | apply below_alloc | apply pw_below_drewN | apply below_drew1) | exact HB.out | exact Below.refl w.heap.size w))) : w.heap.size ≤ gb26104)); have n7_ := Aside0.mk ((by rw [hg]; exact (below_size (by repeat (first | (with_reducible first | exact HB.out | apply below_alloc | apply pw_below_drewN | apply below_drew1) | exact HB.out | exact Below.refl w.heap.size w))) : w.heap.size ≤ gb26104)); clear HO_146; clear HL26096_0; clear HO26101; clear HR26096_0; clear HB; have HO_146 := n0_; have HL26096_0 := n1_; have HO26101 := n2_; have HR26096_0 := n3_; have HB := n4_; have BK26104 := n5_; have GW26104 := n6_; have GE26104 := n7_; clear n0_ n1_ n2_ n3_ n4_ n5_ n6_ n7_; clear hb hbox hg; have hcz125_0 : w124.cell? ⟨gb26104, 0, none⟩ = some (.int .i64 0) := (blk_cell BK26104.out 0).trans rfl; have hcz125_1 : w124.cell? ⟨gb26104, 1, none⟩ = some (.int .i64 0) := (blk_cell BK26104.out 1).trans rfl; have hcz125_2 : w124.cell? ⟨gb26104, 2, none⟩ = some (.slice none 0 0) := (blk_cell BK26104.out 2).trans rfl; have hfz125_0 := blk_frozen BK26104.out 0; have hfz125_1 := blk_frozen BK26104.out 1; have hfz125_2 := blk_frozen BK26104.out 2; obtain ⟨Ao126, co126, eo126⟩ := Kd.R_slice HO26101.out; subst eo126) | ((with_reducible refine gate_callee (f := 42) rfl ?_); refine goesL_ (some 160) rfl rfl Try.func42 (by kernel_rfl) rfl #[.slice A26096_0 (rd_L5 y26084 x148_3).length c26096_0, .int .i64 0] rfl (by (try simp only [List.map_toArray, List.map_cons, List.map_nil]); first | done | rfl | (simp only [List.length_drop, List.length_take]; rfl)) ?_; (with_reducible refine (columbariumref10_Decode.calls k3 _ _ (rd_L5 y26084 x148_3) 0 t26105 t26106 t26107 t26110 t26111 _ ?side1 ?side2 A118.out).mono ?_); (case side1 => repeat (first | exact ((Kd.V_reads' (by (with_reducible repeat (first | apply Kd.V_alloc | apply Kd.V_drewN | apply Kd.V_drew)); exact (Kd.V_mono (Kd.V_far (p := ⟨gb26104, 2, none⟩) (Kd.V_far (p := ⟨gb26104, 1, none⟩) (Kd.V_far (p := ⟨gb26104, 0, none⟩) (Kd.V_mono HL26096_0.out (fun k_ hk => (⟨hk, hk.2⟩ : _ ∧ k_ ≠ gb26104))) (fun _ hk => hk.2) (.int .i64 t26097)) (fun _ hk => hk.2) (.int .i64 t26098)) (fun _ hk => hk.2) (.slice Ao126 t26099.length co126)) (fun _ h_ => h_.1)))).2.2) | (with_reducible refine Kd.C_alloc ?_ _) | (with_reducible refine Kd.C_drewN ?_ _) | (with_reducible refine Kd.C_drew ?_))); (case side2 => exact HC26096_0.out); rintro e w127 ⟨v26108, rfl, ho0, hb⟩; refine ⟨_, rfl, ?_⟩; have n0_ := Aside0.mk (Kd.N_elder' (by (with_reducible repeat (first | apply Kd.N_alloc | apply Kd.N_drewN | apply Kd.N_drew)); exact (Kd.N_mono (Kd.N_far (p := ⟨gb26104, 2, none⟩) (Kd.N_far (p := ⟨gb26104, 1, none⟩) (Kd.N_far (p := ⟨gb26104, 0, none⟩) (Kd.N_mono HO_146.out (fun k_ hk => (⟨hk, hk.2⟩ : _ ∧ k_ ≠ gb26104))) (fun _ hk => hk.2) (.int .i64 t26097)) (fun _ hk => hk.2) (.int .i64 t26098)) (fun _ hk => hk.2) (.slice Ao126 t26099.length co126)) (fun _ h_ => h_.1))) (Kd.R_base ho0) hb); have n1_ := Aside0.mk (Kd.V_elder' (by (with_reducible repeat (first | apply Kd.V_alloc | apply Kd.V_drewN | apply Kd.V_drew)); exact (Kd.V_mono (Kd.V_far (p := ⟨gb26104, 2, none⟩) (Kd.V_far (p := ⟨gb26104, 1, none⟩) (Kd.V_far (p := ⟨gb26104, 0, none⟩) (Kd.V_mono HL26096_0.out (fun k_ hk => (⟨hk, hk.2⟩ : _ ∧ k_ ≠ gb26104))) (fun _ hk => hk.2) (.int .i64 t26097)) (fun _ hk => hk.2) (.int .i64 t26098)) (fun _ hk => hk.2) (.slice Ao126 t26099.length co126)) (fun _ h_ => h_.1))) (Kd.R_base ho0) hb); have n2_ := Aside0.mk (Kd.R_elder' (by (with_reducible repeat (first | apply Kd.R_alloc | apply Kd.R_drewN | apply Kd.R_drew)); exact (Kd.R_mono (Kd.R_far (p := ⟨gb26104, 2, none⟩) (Kd.R_far (p := ⟨gb26104, 1, none⟩) (Kd.R_far (p := ⟨gb26104, 0, none⟩) (Kd.R_types HO26101.out BK26104.out (by decide)) (fun _ hk => hk.2) (.int .i64 t26097)) (fun _ hk => hk.2) (.int .i64 t26098)) (fun _ hk => hk.2) (.slice Ao126 t26099.length co126)) (fun _ h_ => h_.1))) (Kd.R_base ho0) hb); have n3_ := Aside0.mk (Kd.R_lower (Kd.R_new' ho0 (Kd.R_lt (by (with_reducible repeat (first | apply Kd.R_alloc | apply Kd.R_drewN | apply Kd.R_drew)); exact (Kd.R_mono (Kd.R_far (p := ⟨gb26104, 2, none⟩) (Kd.R_far (p := ⟨gb26104, 1, none⟩) (Kd.R_far (p := ⟨gb26104, 0, none⟩) (Kd.R_types HO26101.out BK26104.out (by decide)) (fun _ hk => hk.2) (.int .i64 t26097)) (fun _ hk => hk.2) (.int .i64 t26098)) (fun _ hk => hk.2) (.slice Ao126 t26099.length co126)) (fun _ h_ => h_.1))))) (below_size (by repeat (first | (with_reducible first | exact HB.out | apply below_alloc | apply pw_below_drewN | apply below_drew1 | refine below_set ?_ GE26104.out) | exact HB.out | exact Below.refl w.heap.size w)))); have n4_ := Aside0.mk (Kd.C_below ((Kd.V_reads' (by (with_reducible repeat (first | apply Kd.V_alloc | apply Kd.V_drewN | apply Kd.V_drew)); exact (Kd.V_mono (Kd.V_far (p := ⟨gb26104, 2, none⟩) (Kd.V_far (p := ⟨gb26104, 1, none⟩) (Kd.V_far (p := ⟨gb26104, 0, none⟩) (Kd.V_mono HL26096_0.out (fun k_ hk => (⟨hk, hk.2⟩ : _ ∧ k_ ≠ gb26104))) (fun _ hk => hk.2) (.int .i64 t26097)) (fun _ hk => hk.2) (.int .i64 t26098)) (fun _ hk => hk.2) (.slice Ao126 t26099.length co126)) (fun _ h_ => h_.1)))).2.2) hb); have n5_ := Aside0.mk (blk_below (g := gb26104) (o := .cells #[.int .i64 t26097, .int .i64 t26098, .slice Ao126 t26099.length co126] 61 (0, 0)) (by (with_reducible repeat (first | refine blk_drewN ?_ _ | refine blk_drew ?_ | refine blk_alloc ?_ _)); refine blk_put (cs := #[.int .i64 t26097, .int .i64 t26098, .slice none 0 0]) ?_ 2 _ rfl; (with_reducible repeat (first | refine blk_drewN ?_ _ | refine blk_drew ?_ | refine blk_alloc ?_ _)); refine blk_put (cs := #[.int .i64 t26097, .int .i64 0, .slice none 0 0]) ?_ 1 _ rfl; (with_reducible repeat (first | refine blk_drewN ?_ _ | refine blk_drew ?_ | refine blk_alloc ?_ _)); refine blk_put (cs := #[.int .i64 0, .int .i64 0, .slice none 0 0]) ?_ 0 _ rfl; (with_reducible repeat (first | refine blk_drewN ?_ _ | refine blk_drew ?_ | refine blk_alloc ?_ _)); exact BK26104.out) hb); have n6_ := Aside0.mk (below_step (by repeat (first | (with_reducible first | exact HB.out | apply below_alloc | apply pw_below_drewN | apply below_drew1 | refine below_set ?_ GE26104.out) | exact HB.out | exact Below.refl w.heap.size w)) hb); clear HO_146; clear HL26096_0; clear HO26101; clear HR26096_0; clear BK26104; clear HB; have HO_146 := n0_; have HL26096_0 := n1_; have HO26101 := n2_; have HO26109 := n3_; have HR26096_0 := n4_; have BK26104 := n5_; have HB := n6_; clear n0_ n1_ n2_ n3_ n4_ n5_ n6_; (try clear hb); (try clear hb2); (try clear hk); (try clear hi); (try clear ho0)) | ((with_reducible refine gate_dst (N := 24) rfl ?_); refine box_event ?hg (N := 24) ?hd (cs := #[.int .i64 0, .int .i64 0, .slice none 0 0]) (t := 70) ?hr ?_; (case hd => rfl); (case hg => rfl); (case hr => first | (go_simp; done) | (go_simp; rfl)); intro gb26112 hg w128 hbox hb; have n0_ := Aside0.mk (Kd.N_below (Kd.N_elderB (by (with_reducible repeat (first | apply Kd.N_alloc | apply Kd.N_drewN | apply Kd.N_drew)); exact HO_146.out) gb26112 (Nat.le_of_eq hg.symm)) hb); have n1_ := Aside0.mk (Kd.V_below (Kd.V_elderB (by (with_reducible repeat (first | apply Kd.V_alloc | apply Kd.V_drewN | apply Kd.V_drew)); exact HL26096_0.out) gb26112 (Nat.le_of_eq hg.symm)) hb); have n2_ := Aside0.mk (Kd.R_below (by (with_reducible repeat (first | apply Kd.R_alloc | apply Kd.R_drewN | apply Kd.R_drew)); exact HO26101.out) hb); have n3_ := Aside0.mk (Kd.R_below (by (with_reducible repeat (first | apply Kd.R_alloc | apply Kd.R_drewN | apply Kd.R_drew)); exact HO26109.out) hb); have n4_ := Aside0.mk (Kd.C_below (by repeat (first | (with_reducible exact HR26096_0.out) | (with_reducible refine Kd.C_alloc ?_ _) | (with_reducible refine Kd.C_drewN ?_ _) | (with_reducible refine Kd.C_drew ?_) | exact HR26096_0.out)) hb); have n5_ := Aside0.mk (blk_below (g := gb26104) (o := .cells #[.int .i64 t26097, .int .i64 t26098, .slice Ao126 t26099.length co126] 61 (0, 0)) (by (with_reducible repeat (first | refine blk_drewN ?_ _ | refine blk_drew ?_ | refine blk_alloc ?_ _)); exact BK26104.out) hb); have n6_ := Aside0.mk (below_step (by repeat (first | (with_reducible first | exact HB.out | apply below_alloc | apply pw_below_drewN | apply below_drew1 | refine below_set ?_ GE26104.out) | exact HB.out | exact Below.refl w.heap.size w)) hb); have n7_ := Aside0.mk (hbox); have n8_ := Aside0.mk ((by rw [hg]; exact (below_size (by repeat (first | (with_reducible first | exact HB.out | apply below_alloc | apply pw_below_drewN | apply below_drew1 | refine below_set ?_ GE26104.out) | exact HB.out | exact Below.refl w.heap.size w))) : w.heap.size ≤ gb26112)); have n9_ := Aside0.mk ((by rw [hg]; exact (below_size (by repeat (first | (with_reducible first | exact HB.out | apply below_alloc | apply pw_below_drewN | apply below_drew1 | refine below_set ?_ GE26104.out) | exact HB.out | exact Below.refl w.heap.size w))) : w.heap.size ≤ gb26112)); have n10_ := Aside0.mk ((by rw [hg]; exact Nat.ne_of_lt (blk_lt (g := gb26104) (o := .cells #[.int .i64 t26097, .int .i64 t26098, .slice Ao126 t26099.length co126] 61 (0, 0)) (by (with_reducible repeat (first | refine blk_drewN ?_ _ | refine blk_drew ?_ | refine blk_alloc ?_ _)); exact BK26104.out)) : gb26104 ≠ gb26112)); have n11_ := Aside0.mk ((by rw [hg]; exact Nat.ne_of_gt (blk_lt (g := gb26104) (o := .cells #[.int .i64 t26097, .int .i64 t26098, .slice Ao126 t26099.length co126] 61 (0, 0)) (by (with_reducible repeat (first | refine blk_drewN ?_ _ | refine blk_drew ?_ | refine blk_alloc ?_ _)); exact BK26104.out)) : gb26112 ≠ gb26104)); clear HO_146; clear HL26096_0; clear HO26101; clear HO26109; clear HR26096_0; clear BK26104; clear HB; have HO_146 := n0_; have HL26096_0 := n1_; have HO26101 := n2_; have HO26109 := n3_; have HR26096_0 := n4_; have BK26104 := n5_; have HB := n6_; have BK26112 := n7_; have GW26112 := n8_; have GE26112 := n9_; have NB26104_26112 := n10_; have NB26112_26104 := n11_; clear n0_ n1_ n2_ n3_ n4_ n5_ n6_ n7_ n8_ n9_ n10_ n11_; clear hb hbox hg; have hnb129 := NB26112_26104.out; have hnc129 := NB26104_26112.out; have hcz130_0 : w128.cell? ⟨gb26112, 0, none⟩ = some (.int .i64 0) := (blk_cell BK26112.out 0).trans rfl; have hcz130_1 : w128.cell? ⟨gb26112, 1, none⟩ = some (.int .i64 0) := (blk_cell BK26112.out 1).trans rfl; have hcz130_2 : w128.cell? ⟨gb26112, 2, none⟩ = some (.slice none 0 0) := (blk_cell BK26112.out 2).trans rfl; have hfz130_0 := blk_frozen BK26112.out 0; have hfz130_1 := blk_frozen BK26112.out 1; have hfz130_2 := blk_frozen BK26112.out 2; obtain ⟨Ao131, co131, eo131⟩ := Kd.R_slice HO26109.out; subst eo131; have hcz132_0 : w128.cell? ⟨gb26104, 0, none⟩ = some (.int .i64 t26097) := (blk_cell BK26104.out 0).trans rfl; have hcz132_1 : w128.cell? ⟨gb26104, 1, none⟩ = some (.int .i64 t26098) := (blk_cell BK26104.out 1).trans rfl; have hcz132_2 : w128.cell? ⟨gb26104, 2, none⟩ = some (.slice Ao126 t26099.length co126) := (blk_cell BK26104.out 2).trans rfl; have hfz132_0 := blk_frozen BK26104.out 0; have hfz132_1 := blk_frozen BK26104.out 1; have hfz132_2 := blk_frozen BK26104.out 2) | ((with_reducible refine gate_callee (f := 35) rfl ?_); refine goesL_ (some 166) rfl rfl Try.func35 (by kernel_rfl) rfl #[.agg #[.int .i64 t26097, .int .i64 t26098, .slice Ao126 t26099.length co126], .agg #[.int .i64 t26105, .int .i64 t26106, .slice Ao131 t26107.length co131]] rfl (by (try simp only [List.map_toArray, List.map_cons, List.map_nil]); first | done | rfl | (simp only [List.length_drop, List.length_take]; rfl)) ?_; (with_reducible refine (columbariumlaw10_same.calls k3 t26097 t26098 _ _ t26099 t26105 t26106 _ _ t26107 true _ ?side1 ?side2 ?side3 ?side4 A119.out).mono ?_); (case side1 => refine (Kd.R_reads' (e := 2) (base := w.heap.size) (ok := fun k_ => (True ∧ some k_ ≠ (.slice Ao131 t26107.length co131 : Value).ownBlock)) (n := t26099.length) (c := co126) ?_).2.2; exact (by (with_reducible repeat (first | apply Kd.R_alloc | apply Kd.R_drewN | apply Kd.R_drew)); exact (Kd.R_mono (Kd.R_far (p := ⟨gb26112, 2, none⟩) (Kd.R_far (p := ⟨gb26112, 1, none⟩) (Kd.R_far (p := ⟨gb26112, 0, none⟩) (Kd.R_types HO26101.out BK26112.out (by decide)) (fun _ hk => hk.2) (.int .i64 t26105)) (fun _ hk => hk.2) (.int .i64 t26106)) (fun _ hk => hk.2) (.slice Ao131 t26107.length co131)) (fun _ h_ => h_.1)))); (case side2 => exact (Kd.R_reads' HO26101.out).2.1); (case side3 => refine (Kd.R_reads' (e := 2) (base := w.heap.size) (ok := fun k_ => (True ∧ some k_ ≠ (.slice Ao126 t26099.length co126 : Value).ownBlock)) (n := t26107.length) (c := co131) ?_).2.2; exact (by (with_reducible repeat (first | apply Kd.R_alloc | apply Kd.R_drewN | apply Kd.R_drew)); exact (Kd.R_mono (Kd.R_far (p := ⟨gb26112, 2, none⟩) (Kd.R_far (p := ⟨gb26112, 1, none⟩) (Kd.R_far (p := ⟨gb26112, 0, none⟩) (Kd.R_types HO26109.out BK26112.out (by decide)) (fun _ hk => hk.2) (.int .i64 t26105)) (fun _ hk => hk.2) (.int .i64 t26106)) (fun _ hk => hk.2) (.slice Ao131 t26107.length co131)) (fun _ h_ => h_.1)))); (case side4 => exact (Kd.R_reads' HO26109.out).2.1); rintro e w133 ⟨rfl, hb⟩; refine ⟨_, rfl, ?_⟩; have n0_ := Aside0.mk (Kd.N_below (by (with_reducible repeat (first | apply Kd.N_alloc | apply Kd.N_drewN | apply Kd.N_drew)); exact (Kd.N_mono (Kd.N_far (p := ⟨gb26112, 2, none⟩) (Kd.N_far (p := ⟨gb26112, 1, none⟩) (Kd.N_far (p := ⟨gb26112, 0, none⟩) (Kd.N_mono HO_146.out (fun k_ hk => (⟨hk, hk.2⟩ : _ ∧ k_ ≠ gb26112))) (fun _ hk => hk.2) (.int .i64 t26105)) (fun _ hk => hk.2) (.int .i64 t26106)) (fun _ hk => hk.2) (.slice Ao131 t26107.length co131)) (fun _ h_ => h_.1))) hb); have n1_ := Aside0.mk (Kd.V_below (by (with_reducible repeat (first | apply Kd.V_alloc | apply Kd.V_drewN | apply Kd.V_drew)); exact (Kd.V_mono (Kd.V_far (p := ⟨gb26112, 2, none⟩) (Kd.V_far (p := ⟨gb26112, 1, none⟩) (Kd.V_far (p := ⟨gb26112, 0, none⟩) (Kd.V_mono HL26096_0.out (fun k_ hk => (⟨hk, hk.2⟩ : _ ∧ k_ ≠ gb26112))) (fun _ hk => hk.2) (.int .i64 t26105)) (fun _ hk => hk.2) (.int .i64 t26106)) (fun _ hk => hk.2) (.slice Ao131 t26107.length co131)) (fun _ h_ => h_.1))) hb); have n2_ := Aside0.mk (Kd.R_below (by (with_reducible repeat (first | apply Kd.R_alloc | apply Kd.R_drewN | apply Kd.R_drew)); exact (Kd.R_mono (Kd.R_far (p := ⟨gb26112, 2, none⟩) (Kd.R_far (p := ⟨gb26112, 1, none⟩) (Kd.R_far (p := ⟨gb26112, 0, none⟩) (Kd.R_types HO26101.out BK26112.out (by decide)) (fun _ hk => hk.2) (.int .i64 t26105)) (fun _ hk => hk.2) (.int .i64 t26106)) (fun _ hk => hk.2) (.slice Ao131 t26107.length co131)) (fun _ h_ => h_.1))) hb); have n3_ := Aside0.mk (Kd.R_below (by (with_reducible repeat (first | apply Kd.R_alloc | apply Kd.R_drewN | apply Kd.R_drew)); exact (Kd.R_mono (Kd.R_far (p := ⟨gb26112, 2, none⟩) (Kd.R_far (p := ⟨gb26112, 1, none⟩) (Kd.R_far (p := ⟨gb26112, 0, none⟩) (Kd.R_types HO26109.out BK26112.out (by decide)) (fun _ hk => hk.2) (.int .i64 t26105)) (fun _ hk => hk.2) (.int .i64 t26106)) (fun _ hk => hk.2) (.slice Ao131 t26107.length co131)) (fun _ h_ => h_.1))) hb); have n4_ := Aside0.mk (Kd.C_below ((Kd.V_reads' (by (with_reducible repeat (first | apply Kd.V_alloc | apply Kd.V_drewN | apply Kd.V_drew)); exact (Kd.V_mono (Kd.V_far (p := ⟨gb26112, 2, none⟩) (Kd.V_far (p := ⟨gb26112, 1, none⟩) (Kd.V_far (p := ⟨gb26112, 0, none⟩) (Kd.V_mono HL26096_0.out (fun k_ hk => (⟨hk, hk.2⟩ : _ ∧ k_ ≠ gb26112))) (fun _ hk => hk.2) (.int .i64 t26105)) (fun _ hk => hk.2) (.int .i64 t26106)) (fun _ hk => hk.2) (.slice Ao131 t26107.length co131)) (fun _ h_ => h_.1)))).2.2) hb); have n5_ := Aside0.mk (blk_below (g := gb26104) (o := .cells #[.int .i64 t26097, .int .i64 t26098, .slice Ao126 t26099.length co126] 61 (0, 0)) (by (with_reducible repeat (first | refine blk_drewN ?_ _ | refine blk_drew ?_ | refine blk_alloc ?_ _)); refine blk_far ?_ NB26104_26112.out _; (with_reducible repeat (first | refine blk_drewN ?_ _ | refine blk_drew ?_ | refine blk_alloc ?_ _)); refine blk_far ?_ NB26104_26112.out _; (with_reducible repeat (first | refine blk_drewN ?_ _ | refine blk_drew ?_ | refine blk_alloc ?_ _)); refine blk_far ?_ NB26104_26112.out _; (with_reducible repeat (first | refine blk_drewN ?_ _ | refine blk_drew ?_ | refine blk_alloc ?_ _)); exact BK26104.out) hb); have n6_ := Aside0.mk (blk_below (g := gb26112) (o := .cells #[.int .i64 t26105, .int .i64 t26106, .slice Ao131 t26107.length co131] 70 (0, 0)) (by (with_reducible repeat (first | refine blk_drewN ?_ _ | refine blk_drew ?_ | refine blk_alloc ?_ _)); refine blk_put (cs := #[.int .i64 t26105, .int .i64 t26106, .slice none 0 0]) ?_ 2 _ rfl; (with_reducible repeat (first | refine blk_drewN ?_ _ | refine blk_drew ?_ | refine blk_alloc ?_ _)); refine blk_put (cs := #[.int .i64 t26105, .int .i64 0, .slice none 0 0]) ?_ 1 _ rfl; (with_reducible repeat (first | refine blk_drewN ?_ _ | refine blk_drew ?_ | refine blk_alloc ?_ _)); refine blk_put (cs := #[.int .i64 0, .int .i64 0, .slice none 0 0]) ?_ 0 _ rfl; (with_reducible repeat (first | refine blk_drewN ?_ _ | refine blk_drew ?_ | refine blk_alloc ?_ _)); exact BK26112.out) hb); have n7_ := Aside0.mk (below_step (by repeat (first | (with_reducible first | exact HB.out | apply below_alloc | apply pw_below_drewN | apply below_drew1 | refine below_set ?_ GE26104.out | refine below_set ?_ GE26112.out) | exact HB.out | exact Below.refl w.heap.size w)) hb); clear HO_146; clear HL26096_0; clear HO26101; clear HO26109; clear HR26096_0; clear BK26104; clear BK26112; clear HB; have HO_146 := n0_; have HL26096_0 := n1_; have HO26101 := n2_; have HO26109 := n3_; have HR26096_0 := n4_; have BK26104 := n5_; have BK26112 := n6_; have HB := n7_; clear n0_ n1_ n2_ n3_ n4_ n5_ n6_ n7_; (try clear hb); (try clear hb2); (try clear hk); (try clear hi)))
                              go_roundg k3
                              case measure => have := HK1.out; have := HK2.out; have := HK3.out; omega
                              case rel => exact ⟨(wrap64 (x148_3 + 1)), (by first | rfl | (simp; done) | (simp [*]; done) | (refine congrArg (Value.int .i64) ?_; (try simp only [decide_eq_true_eq, decide_eq_false_iff_not] at *) <;> (unfold wrap64; omega))), H', ⟨by have := HK1.out; have := HK2.out; have := HK3.out; omega⟩, ⟨by (with_reducible repeat (first | apply Kd.N_alloc | apply Kd.N_drewN | apply Kd.N_drew)); exact Kd.N_mono HO_146.out (fun _ hk => trivial)⟩, ⟨by repeat (first | (with_reducible first | exact HB.out | apply below_alloc | apply pw_below_drewN | apply below_drew1 | refine below_set ?_ GE26104.out | refine below_set ?_ GE26112.out) | exact HB.out | exact Below.refl w.heap.size w)⟩⟩
                            · rw [if_neg c122] at H
                              have c122b0 : (t26103 == t26111) = false := beq_eq_false_iff_ne.mpr c122
                              have c122b1 : (t26103 != t26111) = true := bne_iff_ne.mpr c122
                              exact absurd ((Option.some.inj H).trans hr_.out) (by decide)
                          · rw [if_neg c121] at H
                            have c121b0 : (t26102 == t26110) = false := beq_eq_false_iff_ne.mpr c121
                            have c121b1 : (t26102 != t26110) = true := bne_iff_ne.mpr c121
                            exact absurd ((Option.some.inj H).trans hr_.out) (by decide)
                        · replace c120 := Bool.eq_false_iff.mpr c120
                          subst c120
                          have H1 : (some false) = some r := by rw [if_neg (show ¬ (false = true) by decide)] at H; exact H
                          clear H
                          have H := H1
                          clear H1
                          exact absurd ((Option.some.inj H).trans hr_.out) (by decide)
                      · rw [if_neg c116] at H
                        exact absurd H (by simp)
                    · rw [if_neg c115] at H
                      exact absurd H (by simp)
                  · rw [if_neg c114] at H
                    have c114b0 : decide (x148_3 < (y26084.length : Int)) = false := decide_eq_false c114
                    clear c114
                    replace H := Option.bind_eq_some_iff.mp H
                    obtain ⟨⟨t26087, t26088, t26089, t26092, t26093⟩, A1340, H⟩ := H
                    replace H : (if t26093 = 1 then ((columbariumlaw10_known.f k3).bind fun t26095 => (some t26095)) else (some false)) = some r := H
                    have A134 := Aside0.mk A1340
                    clear A1340
                    by_cases c135 : t26093 = 1
                    · rw [if_pos c135] at H
                      have c135b0 : (t26093 == 1) = true := beq_iff_eq.mpr c135
                      have c135b1 : (t26093 != 1) = false := bne_eq_false_iff_eq.mpr c135
                      clear c135
                      replace H := Option.bind_eq_some_iff.mp H
                      obtain ⟨t26095, A1360, H⟩ := H
                      replace H : (some t26095) = some r := H
                      have A136 := Aside0.mk A1360
                      clear A1360
                      obtain rfl := Option.some.inj H
                      go_wp2_with (first | ((with_reducible refine gate_callee (f := 41) rfl ?_); refine goesL_ (some 180) rfl rfl Try.func41 (by kernel_rfl) rfl #[.slice none 0 0, .int .i64 1] rfl (by (try simp only [List.map_toArray, List.map_cons, List.map_nil]); first | done | rfl | (simp only [List.length_drop, List.length_take]; rfl)) ?_; (refine (ticks_Decode.calls k3 _ _ ([] : List Int) 1 t26087 t26088 t26089 t26092 t26093 _ ?side1 ?side2 A134.out).mono ?_); (case side1 => exact Kd.C_nil _ _); (case side2 => exact Nat.le_refl _); rintro e w137 ⟨v26090, rfl, ho0, hb⟩; refine ⟨_, rfl, ?_⟩; have n0_ := Aside0.mk (Kd.N_elder' (by (with_reducible repeat (first | apply Kd.N_alloc | apply Kd.N_drewN | apply Kd.N_drew)); exact HO_146.out) (Kd.R_base ho0) hb); have n1_ := Aside0.mk (Kd.R_lower ho0 (below_size (by repeat (first | (with_reducible first | exact HB.out | apply below_alloc | apply pw_below_drewN | apply below_drew1) | exact HB.out | exact Below.refl w.heap.size w)))); have n2_ := Aside0.mk (below_step (by repeat (first | (with_reducible first | exact HB.out | apply below_alloc | apply pw_below_drewN | apply below_drew1) | exact HB.out | exact Below.refl w.heap.size w)) hb); clear HO_146; clear HB; have HO_146 := n0_; have HO26091 := n1_; have HB := n2_; clear n0_ n1_ n2_; (try clear hb); (try clear hb2); (try clear hk); (try clear hi); (try clear ho0)) | ((with_reducible refine gate_dst (N := 27) rfl ?_); refine box_event ?hg (N := 27) ?hd (cs := #[.int .i64 0, .int .i64 0, .slice none 0 0]) (t := 61) ?hr ?_; (case hd => rfl); (case hg => rfl); (case hr => first | (go_simp; done) | (go_simp; rfl)); intro gb26094 hg w138 hbox hb; have n0_ := Aside0.mk (Kd.N_below (Kd.N_elderB (by (with_reducible repeat (first | apply Kd.N_alloc | apply Kd.N_drewN | apply Kd.N_drew)); exact HO_146.out) gb26094 (Nat.le_of_eq hg.symm)) hb); have n1_ := Aside0.mk (Kd.R_below (by (with_reducible repeat (first | apply Kd.R_alloc | apply Kd.R_drewN | apply Kd.R_drew)); exact HO26091.out) hb); have n2_ := Aside0.mk (below_step (by repeat (first | (with_reducible first | exact HB.out | apply below_alloc | apply pw_below_drewN | apply below_drew1) | exact HB.out | exact Below.refl w.heap.size w)) hb); have n3_ := Aside0.mk (hbox); have n4_ := Aside0.mk ((by rw [hg]; exact (below_size (by repeat (first | (with_reducible first | exact HB.out | apply below_alloc | apply pw_below_drewN | apply below_drew1) | exact HB.out | exact Below.refl w.heap.size w))) : w.heap.size ≤ gb26094)); have n5_ := Aside0.mk ((by rw [hg]; exact (below_size (by repeat (first | (with_reducible first | exact HB.out | apply below_alloc | apply pw_below_drewN | apply below_drew1) | exact HB.out | exact Below.refl w.heap.size w))) : w.heap.size ≤ gb26094)); clear HO_146; clear HO26091; clear HB; have HO_146 := n0_; have HO26091 := n1_; have HB := n2_; have BK26094 := n3_; have GW26094 := n4_; have GE26094 := n5_; clear n0_ n1_ n2_ n3_ n4_ n5_; clear hb hbox hg; have hcz139_0 : w138.cell? ⟨gb26094, 0, none⟩ = some (.int .i64 0) := (blk_cell BK26094.out 0).trans rfl; have hcz139_1 : w138.cell? ⟨gb26094, 1, none⟩ = some (.int .i64 0) := (blk_cell BK26094.out 1).trans rfl; have hcz139_2 : w138.cell? ⟨gb26094, 2, none⟩ = some (.slice none 0 0) := (blk_cell BK26094.out 2).trans rfl; have hfz139_0 := blk_frozen BK26094.out 0; have hfz139_1 := blk_frozen BK26094.out 1; have hfz139_2 := blk_frozen BK26094.out 2; obtain ⟨Ao140, co140, eo140⟩ := Kd.R_slice HO26091.out; subst eo140) | (go_at_call 33; (with_reducible refine (columbariumlaw10_known.calls k3  t26095 _ A136.out).mono ?_); rintro e w141 ⟨rfl, hb⟩; have n0_ := Aside0.mk (Kd.N_below (by (with_reducible repeat (first | apply Kd.N_alloc | apply Kd.N_drewN | apply Kd.N_drew)); exact (Kd.N_mono (Kd.N_far (p := ⟨gb26094, 2, none⟩) (Kd.N_far (p := ⟨gb26094, 1, none⟩) (Kd.N_far (p := ⟨gb26094, 0, none⟩) (Kd.N_mono HO_146.out (fun k_ hk => (⟨hk, hk.2⟩ : _ ∧ k_ ≠ gb26094))) (fun _ hk => hk.2) (.int .i64 t26087)) (fun _ hk => hk.2) (.int .i64 t26088)) (fun _ hk => hk.2) (.slice Ao140 t26089.length co140)) (fun _ h_ => h_.1))) hb); have n1_ := Aside0.mk (Kd.R_below (by (with_reducible repeat (first | apply Kd.R_alloc | apply Kd.R_drewN | apply Kd.R_drew)); exact (Kd.R_mono (Kd.R_far (p := ⟨gb26094, 2, none⟩) (Kd.R_far (p := ⟨gb26094, 1, none⟩) (Kd.R_far (p := ⟨gb26094, 0, none⟩) (Kd.R_types HO26091.out BK26094.out (by decide)) (fun _ hk => hk.2) (.int .i64 t26087)) (fun _ hk => hk.2) (.int .i64 t26088)) (fun _ hk => hk.2) (.slice Ao140 t26089.length co140)) (fun _ h_ => h_.1))) hb); have n2_ := Aside0.mk (blk_below (g := gb26094) (o := .cells #[.int .i64 t26087, .int .i64 t26088, .slice Ao140 t26089.length co140] 61 (0, 0)) (by (with_reducible repeat (first | refine blk_drewN ?_ _ | refine blk_drew ?_ | refine blk_alloc ?_ _)); refine blk_put (cs := #[.int .i64 t26087, .int .i64 t26088, .slice none 0 0]) ?_ 2 _ rfl; (with_reducible repeat (first | refine blk_drewN ?_ _ | refine blk_drew ?_ | refine blk_alloc ?_ _)); refine blk_put (cs := #[.int .i64 t26087, .int .i64 0, .slice none 0 0]) ?_ 1 _ rfl; (with_reducible repeat (first | refine blk_drewN ?_ _ | refine blk_drew ?_ | refine blk_alloc ?_ _)); refine blk_put (cs := #[.int .i64 0, .int .i64 0, .slice none 0 0]) ?_ 0 _ rfl; (with_reducible repeat (first | refine blk_drewN ?_ _ | refine blk_drew ?_ | refine blk_alloc ?_ _)); exact BK26094.out) hb); have n3_ := Aside0.mk (below_step (by repeat (first | (with_reducible first | exact HB.out | apply below_alloc | apply pw_below_drewN | apply below_drew1 | refine below_set ?_ GE26094.out) | exact HB.out | exact Below.refl w.heap.size w)) hb); clear HO_146; clear HO26091; clear BK26094; clear HB; have HO_146 := n0_; have HO26091 := n1_; have BK26094 := n2_; have HB := n3_; clear n0_ n1_ n2_ n3_; (try clear hb); (try clear hb2); (try clear hk); (try clear hi)))
                      go_ret
                      exact ⟨by first | rfl | (simp [errW_none, errW_some] <;> rfl) | (simp [*, errW_none, errW_some] <;> rfl), by repeat (first | (with_reducible first | exact HB.out | apply below_alloc | apply pw_below_drewN | apply below_drew1 | refine below_set ?_ GE26094.out) | exact HB.out | exact Below.refl w.heap.size w)⟩
                    · rw [if_neg c135] at H
                      have c135b0 : (t26093 == 1) = false := beq_eq_false_iff_ne.mpr c135
                      have c135b1 : (t26093 != 1) = true := bne_iff_ne.mpr c135
                      exact absurd ((Option.some.inj H).trans hr_.out) (by decide)

/-- THE ONE PURE STATEMENT of columbariumlaw10_TicksNumbers: yours. -/
def columbariumlaw10_TicksNumbers.Pure : Prop := ∃ k, columbariumlaw10_TicksNumbers.f k  = some true
theorem columbariumlaw10_TicksNumbers.walk (P : columbariumlaw10_TicksNumbers.Pure)  (w : World)  :
    Calls Try.prog 12 #[] w fun e w' => e = .returned (.bool true) ∧ Below w.heap.size w w' := by
  obtain ⟨k, h⟩ := P  
  refine (columbariumlaw10_TicksNumbers.calls k  true w h ⟨rfl⟩).mono ?_
  rintro e w' ⟨rfl, hd⟩
  exact ⟨rfl, hd⟩

end Go.Proofs.Ytjpeojohakhmdaa.PS
