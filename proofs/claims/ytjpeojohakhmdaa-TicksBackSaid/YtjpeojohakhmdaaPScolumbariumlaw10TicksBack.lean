-- Written by a program of this session, out of the translation; Lean checks it.
import Derived.Test.YtjpeojohakhmdaaPSx0
import Derived.Test.YtjpeojohakhmdaaPScolumbariumlaw10rising
import Derived.Test.YtjpeojohakhmdaaPSticksBuild
import Derived.Test.YtjpeojohakhmdaaPScolumbariumlaw10known
import Derived.Test.YtjpeojohakhmdaaPScolumbariumlaw10same
import Derived.Test.YtjpeojohakhmdaaPSticksEncode
import Derived.Test.YtjpeojohakhmdaaPScolumbariumlaw10in
import Derived.Test.YtjpeojohakhmdaaPSticksDecode
namespace Go.Proofs.Ytjpeojohakhmdaa.PS
open Go.RowKit Go.Proofs.YtjpeojohakhmdaaW.PrintWords Go.Proofs.YtjpeojohakhmdaaW.PrintLast Go.Proofs.YtjpeojohakhmdaaW.PrintMore
attribute [local go_sem high] pw_str_leq pw_str_gtr
attribute [local go_sem] pw_us8 pw_us32 pw_us64 pw_max2_str pw_min2_str max2_int min2_int max_two min_two max_three min_three max_four min_four   -- for this text's walks alone
set_option linter.unusedVariables false
set_option linter.unusedSimpArgs false

/-! ### columbariumlaw10_TicksBack: function 14 -/
def columbariumlaw10_TicksBack.f (k : Nat) (a0 : Int) (l1 : List Int) (l2 : List Int) (l3 : List Int) : Option (Bool) := (columbariumlaw10_rising.f k a0 l1).bind fun t30001 => ((ticks_Build.f k t30001).bind fun bt30004 => ((ticks_Encode.f k bt30004.1 bt30004.2.1 bt30004.2.2.1).bind fun bt30011 => ((some (([] : List Int) : List Int)).bind fun y30015 => (if y30015.length + l2.length < 140737488355328 then ((some (y30015 ++ l2 : List Int)).bind fun y30018 => (if y30018.length + bt30011.1.length < 140737488355328 then ((some (y30018 ++ bt30011.1 : List Int)).bind fun y30021 => ((ticks_Decode.f k y30021 (l2.length : Int)).bind fun bt30024 => (if bt30004.2.2.2 = 0 then (if bt30011.2 = 0 then (if bt30024.2.2.2.2 = 0 then (if bt30024.2.2.2.1 = (y30021.length : Int) then ((columbariumlaw10_in.f bt30004.1 bt30004.2.1 bt30004.2.2.1).bind fun bt30032 => ((columbariumlaw10_same.f k bt30024.1 bt30024.2.1 bt30024.2.2.1 bt30032.1 bt30032.2.1 bt30032.2.2).bind fun t30037 => (if t30037 = true then ((ticks_Decode.f k l3 0).bind fun bt30038 => (if bt30038.2.2.2.2 = 0 then ((ticks_Encode.f k bt30038.1 bt30038.2.1 bt30038.2.2.1).bind fun bt30046 => (if bt30046.2 = 0 then (if bt30038.2.2.2.1 > (l3.length : Int) then (some false) else (if 0 ≤ bt30038.2.2.2.1 then (if bt30038.2.2.2.1 ≤ (l3.length : Int) then (if (strOfNums bt30046.1).toList = (strOfNums (l3.take (bt30038.2.2.2.1 : Int).toNat)).toList then ((columbariumlaw10_known.f k).bind fun t30052 => (some t30052)) else (some false)) else (none)) else (none))) else (some false))) else ((columbariumlaw10_known.f k).bind fun t30053 => (some t30053)))) else (some false)))) else (some false)) else (some false)) else (some false)) else (some false)))) else (none))) else (none)))))
theorem columbariumlaw10_TicksBack.mono : ∀ a0 a1 a2 a3 k, LeO (columbariumlaw10_TicksBack.f k a0 a1 a2 a3) (columbariumlaw10_TicksBack.f (k + 1) a0 a1 a2 a3) := by
  intro a0 a1 a2 a3 k
  unfold columbariumlaw10_TicksBack.f
  repeat' first
      | (with_reducible exact columbariumlaw10_known.mono _)
      | (with_reducible exact columbariumlaw10_rising.mono _ _ _)
      | (with_reducible exact columbariumlaw10_same.mono _ _ _ _ _ _ _)
      | (with_reducible exact ticks_Build.mono _ _)
      | (with_reducible exact ticks_Decode.mono _ _ _)
      | (with_reducible exact ticks_Encode.mono _ _ _ _)
      | (with_reducible exact LeO.refl _)
      | (with_reducible exact LeO.none _)
      | (with_reducible refine LeO.ite ?_ ?_)
      | (with_reducible refine LeO.bind ?_ (fun _ => ?_))
      | exact columbariumlaw10_known.mono _
      | exact columbariumlaw10_rising.mono _ _ _
      | exact columbariumlaw10_same.mono _ _ _ _ _ _ _
      | exact ticks_Build.mono _ _
      | exact ticks_Decode.mono _ _ _
      | exact ticks_Encode.mono _ _ _ _
      | exact LeO.none _
      | refine LeO.ite ?_ ?_
      | refine LeO.bind ?_ (fun _ => ?_)
def columbariumlaw10_TicksBack.T5 : Bool × List (List Nat × List Nat) := (true, [([], []), ([0], [0]), ([1], [1]), ([2], [2]), ([3, 2], [2, 3]), ([2, 4], [2, 4]), ([5, 2], [5]), ([6], [6]), ([7, 6], [6, 7]), ([6, 8], [6, 8]), ([9, 6], [9]), ([10], [10]), ([10], [10]), ([12, 10], [10, 12]), ([11, 13, 10], [10, 11, 13]), ([10, 14], [10, 14]), ([15, 10], [15]), ([16], [16]), ([16], [16]), ([18, 16, 16], [16, 18]), ([17, 19, 19, 16], [16, 17, 19]), ([20, 16], [16, 20]), ([16, 21], [16, 21])])
def columbariumlaw10_TicksBack.B5 : List Nat := [0, 1, 3, 7, 15, 31, 63, 127, 255, 511, 1023, 2047, 2047, 6143, 16383, 32767, 65535, 131071, 131071, 393215, 1048575, 2097151, 4194303]
theorem columbariumlaw10_TicksBack.tab5 : rtab .any (opsOf Try.f14 5) = columbariumlaw10_TicksBack.T5 := by kernel_rfl
theorem columbariumlaw10_TicksBack.bits5 : waitsOk columbariumlaw10_TicksBack.T5.2 columbariumlaw10_TicksBack.B5 = true := by kernel_rfl
def columbariumlaw10_TicksBack.T10 : Bool × List (List Nat × List Nat) := (true, [([], []), ([0], [0]), ([1], [1]), ([2], [2]), ([2], [2]), ([4, 2], [2, 4]), ([3, 5, 2], [2, 3, 5]), ([2, 6], [2, 6]), ([7, 2], [7]), ([8], [8]), ([9, 8], [8, 9]), ([8], [8]), ([8], [8]), ([11, 12, 8], [8, 11, 12]), ([13, 8], [8, 13]), ([10, 14, 8], [8, 10, 14]), ([8, 15], [8, 15])])
def columbariumlaw10_TicksBack.B10 : List Nat := [0, 1, 3, 7, 7, 23, 63, 127, 255, 511, 1023, 511, 511, 6655, 14847, 32767, 65535]
theorem columbariumlaw10_TicksBack.tab10 : rtab .any (opsOf Try.f14 10) = columbariumlaw10_TicksBack.T10 := by kernel_rfl
theorem columbariumlaw10_TicksBack.bits10 : waitsOk columbariumlaw10_TicksBack.T10.2 columbariumlaw10_TicksBack.B10 = true := by kernel_rfl
set_option maxHeartbeats 8000000 in
set_option maxRecDepth 100000 in
theorem columbariumlaw10_TicksBack.calls (k : Nat) (a0 : Int) (A1 : Option Addr) (c1 : Nat) (l1 : List Int) (A2 : Option Addr) (c2 : Nat) (l2 : List Int) (A3 : Option Addr) (c3 : Nat) (l3 : List Int) (r : Bool) (w : World) (hr1 : Kd.C (Kd.int .i64) w A1 l1.length l1) (hc1 : l1.length ≤ c1) (hr2 : Kd.C (Kd.int .u8) w A2 l2.length l2) (hc2 : l2.length ≤ c2) (hr3 : Kd.C (Kd.int .u8) w A3 l3.length l3) (hc3 : l3.length ≤ c3) (h : columbariumlaw10_TicksBack.f k a0 l1 l2 l3 = some r) (hr_ : Aside0 (r = true)) :
    Calls Try.prog 14 #[.int .i64 a0, .slice A1 l1.length c1, .slice A2 l2.length c2, .slice A3 l3.length c3] w fun e w' => e = .returned (.bool r) ∧ Below w.heap.size w w' := by
  have hu61 := Try.underlying61
  have HR1 := Aside0.mk hr1
  have HC1 := Aside0.mk hc1
  clear hr1 hc1
  have HR2 := Aside0.mk hr2
  have HC2 := Aside0.mk hc2
  clear hr2 hc2
  have HR3 := Aside0.mk hr3
  have HC3 := Aside0.mk hc3
  clear hr3 hc3
  have HB := Aside0.mk (Below.refl w.heap.size w)
  have H : ((columbariumlaw10_rising.f k a0 l1).bind fun t30001 => ((ticks_Build.f k t30001).bind fun bt30004 => ((ticks_Encode.f k bt30004.1 bt30004.2.1 bt30004.2.2.1).bind fun bt30011 => ((some (([] : List Int) : List Int)).bind fun y30015 => (if y30015.length + l2.length < 140737488355328 then ((some (y30015 ++ l2 : List Int)).bind fun y30018 => (if y30018.length + bt30011.1.length < 140737488355328 then ((some (y30018 ++ bt30011.1 : List Int)).bind fun y30021 => ((ticks_Decode.f k y30021 (l2.length : Int)).bind fun bt30024 => (if bt30004.2.2.2 = 0 then (if bt30011.2 = 0 then (if bt30024.2.2.2.2 = 0 then (if bt30024.2.2.2.1 = (y30021.length : Int) then ((columbariumlaw10_in.f bt30004.1 bt30004.2.1 bt30004.2.2.1).bind fun bt30032 => ((columbariumlaw10_same.f k bt30024.1 bt30024.2.1 bt30024.2.2.1 bt30032.1 bt30032.2.1 bt30032.2.2).bind fun t30037 => (if t30037 = true then ((ticks_Decode.f k l3 0).bind fun bt30038 => (if bt30038.2.2.2.2 = 0 then ((ticks_Encode.f k bt30038.1 bt30038.2.1 bt30038.2.2.1).bind fun bt30046 => (if bt30046.2 = 0 then (if bt30038.2.2.2.1 > (l3.length : Int) then (some false) else (if 0 ≤ bt30038.2.2.2.1 then (if bt30038.2.2.2.1 ≤ (l3.length : Int) then (if (strOfNums bt30046.1).toList = (strOfNums (l3.take (bt30038.2.2.2.1 : Int).toNat)).toList then ((columbariumlaw10_known.f k).bind fun t30052 => (some t30052)) else (some false)) else (none)) else (none))) else (some false))) else ((columbariumlaw10_known.f k).bind fun t30053 => (some t30053)))) else (some false)))) else (some false)) else (some false)) else (some false)) else (some false)))) else (none))) else (none)))))) = some r := h
  clear h
  replace H := Option.bind_eq_some_iff.mp H
  obtain ⟨t30001, A50, H⟩ := H
  replace H : ((ticks_Build.f k t30001).bind fun bt30004 => ((ticks_Encode.f k bt30004.1 bt30004.2.1 bt30004.2.2.1).bind fun bt30011 => ((some (([] : List Int) : List Int)).bind fun y30015 => (if y30015.length + l2.length < 140737488355328 then ((some (y30015 ++ l2 : List Int)).bind fun y30018 => (if y30018.length + bt30011.1.length < 140737488355328 then ((some (y30018 ++ bt30011.1 : List Int)).bind fun y30021 => ((ticks_Decode.f k y30021 (l2.length : Int)).bind fun bt30024 => (if bt30004.2.2.2 = 0 then (if bt30011.2 = 0 then (if bt30024.2.2.2.2 = 0 then (if bt30024.2.2.2.1 = (y30021.length : Int) then ((columbariumlaw10_in.f bt30004.1 bt30004.2.1 bt30004.2.2.1).bind fun bt30032 => ((columbariumlaw10_same.f k bt30024.1 bt30024.2.1 bt30024.2.2.1 bt30032.1 bt30032.2.1 bt30032.2.2).bind fun t30037 => (if t30037 = true then ((ticks_Decode.f k l3 0).bind fun bt30038 => (if bt30038.2.2.2.2 = 0 then ((ticks_Encode.f k bt30038.1 bt30038.2.1 bt30038.2.2.1).bind fun bt30046 => (if bt30046.2 = 0 then (if bt30038.2.2.2.1 > (l3.length : Int) then (some false) else (if 0 ≤ bt30038.2.2.2.1 then (if bt30038.2.2.2.1 ≤ (l3.length : Int) then (if (strOfNums bt30046.1).toList = (strOfNums (l3.take (bt30038.2.2.2.1 : Int).toNat)).toList then ((columbariumlaw10_known.f k).bind fun t30052 => (some t30052)) else (some false)) else (none)) else (none))) else (some false))) else ((columbariumlaw10_known.f k).bind fun t30053 => (some t30053)))) else (some false)))) else (some false)) else (some false)) else (some false)) else (some false)))) else (none))) else (none))))) = some r := H
  have A5 := Aside0.mk A50
  clear A50
  replace H := Option.bind_eq_some_iff.mp H
  obtain ⟨⟨t30004, t30005, t30006, t30009⟩, A60, H⟩ := H
  replace H : ((ticks_Encode.f k t30004 t30005 t30006).bind fun bt30011 => ((some (([] : List Int) : List Int)).bind fun y30015 => (if y30015.length + l2.length < 140737488355328 then ((some (y30015 ++ l2 : List Int)).bind fun y30018 => (if y30018.length + bt30011.1.length < 140737488355328 then ((some (y30018 ++ bt30011.1 : List Int)).bind fun y30021 => ((ticks_Decode.f k y30021 (l2.length : Int)).bind fun bt30024 => (if t30009 = 0 then (if bt30011.2 = 0 then (if bt30024.2.2.2.2 = 0 then (if bt30024.2.2.2.1 = (y30021.length : Int) then ((columbariumlaw10_in.f t30004 t30005 t30006).bind fun bt30032 => ((columbariumlaw10_same.f k bt30024.1 bt30024.2.1 bt30024.2.2.1 bt30032.1 bt30032.2.1 bt30032.2.2).bind fun t30037 => (if t30037 = true then ((ticks_Decode.f k l3 0).bind fun bt30038 => (if bt30038.2.2.2.2 = 0 then ((ticks_Encode.f k bt30038.1 bt30038.2.1 bt30038.2.2.1).bind fun bt30046 => (if bt30046.2 = 0 then (if bt30038.2.2.2.1 > (l3.length : Int) then (some false) else (if 0 ≤ bt30038.2.2.2.1 then (if bt30038.2.2.2.1 ≤ (l3.length : Int) then (if (strOfNums bt30046.1).toList = (strOfNums (l3.take (bt30038.2.2.2.1 : Int).toNat)).toList then ((columbariumlaw10_known.f k).bind fun t30052 => (some t30052)) else (some false)) else (none)) else (none))) else (some false))) else ((columbariumlaw10_known.f k).bind fun t30053 => (some t30053)))) else (some false)))) else (some false)) else (some false)) else (some false)) else (some false)))) else (none))) else (none)))) = some r := H
  have A6 := Aside0.mk A60
  clear A60
  replace H := Option.bind_eq_some_iff.mp H
  obtain ⟨⟨t30011, t30014⟩, A70, H⟩ := H
  replace H : ((some (([] : List Int) : List Int)).bind fun y30015 => (if y30015.length + l2.length < 140737488355328 then ((some (y30015 ++ l2 : List Int)).bind fun y30018 => (if y30018.length + t30011.length < 140737488355328 then ((some (y30018 ++ t30011 : List Int)).bind fun y30021 => ((ticks_Decode.f k y30021 (l2.length : Int)).bind fun bt30024 => (if t30009 = 0 then (if t30014 = 0 then (if bt30024.2.2.2.2 = 0 then (if bt30024.2.2.2.1 = (y30021.length : Int) then ((columbariumlaw10_in.f t30004 t30005 t30006).bind fun bt30032 => ((columbariumlaw10_same.f k bt30024.1 bt30024.2.1 bt30024.2.2.1 bt30032.1 bt30032.2.1 bt30032.2.2).bind fun t30037 => (if t30037 = true then ((ticks_Decode.f k l3 0).bind fun bt30038 => (if bt30038.2.2.2.2 = 0 then ((ticks_Encode.f k bt30038.1 bt30038.2.1 bt30038.2.2.1).bind fun bt30046 => (if bt30046.2 = 0 then (if bt30038.2.2.2.1 > (l3.length : Int) then (some false) else (if 0 ≤ bt30038.2.2.2.1 then (if bt30038.2.2.2.1 ≤ (l3.length : Int) then (if (strOfNums bt30046.1).toList = (strOfNums (l3.take (bt30038.2.2.2.1 : Int).toNat)).toList then ((columbariumlaw10_known.f k).bind fun t30052 => (some t30052)) else (some false)) else (none)) else (none))) else (some false))) else ((columbariumlaw10_known.f k).bind fun t30053 => (some t30053)))) else (some false)))) else (some false)) else (some false)) else (some false)) else (some false)))) else (none))) else (none))) = some r := H
  have A7 := Aside0.mk A70
  clear A70
  obtain ⟨y30015, hy30015⟩ : ∃ y_ : List Int, y_ = (([] : List Int)) := ⟨_, rfl⟩
  replace H : (if y30015.length + l2.length < 140737488355328 then ((some (y30015 ++ l2 : List Int)).bind fun y30018 => (if y30018.length + t30011.length < 140737488355328 then ((some (y30018 ++ t30011 : List Int)).bind fun y30021 => ((ticks_Decode.f k y30021 (l2.length : Int)).bind fun bt30024 => (if t30009 = 0 then (if t30014 = 0 then (if bt30024.2.2.2.2 = 0 then (if bt30024.2.2.2.1 = (y30021.length : Int) then ((columbariumlaw10_in.f t30004 t30005 t30006).bind fun bt30032 => ((columbariumlaw10_same.f k bt30024.1 bt30024.2.1 bt30024.2.2.1 bt30032.1 bt30032.2.1 bt30032.2.2).bind fun t30037 => (if t30037 = true then ((ticks_Decode.f k l3 0).bind fun bt30038 => (if bt30038.2.2.2.2 = 0 then ((ticks_Encode.f k bt30038.1 bt30038.2.1 bt30038.2.2.1).bind fun bt30046 => (if bt30046.2 = 0 then (if bt30038.2.2.2.1 > (l3.length : Int) then (some false) else (if 0 ≤ bt30038.2.2.2.1 then (if bt30038.2.2.2.1 ≤ (l3.length : Int) then (if (strOfNums bt30046.1).toList = (strOfNums (l3.take (bt30038.2.2.2.1 : Int).toNat)).toList then ((columbariumlaw10_known.f k).bind fun t30052 => (some t30052)) else (some false)) else (none)) else (none))) else (some false))) else ((columbariumlaw10_known.f k).bind fun t30053 => (some t30053)))) else (some false)))) else (some false)) else (some false)) else (some false)) else (some false)))) else (none))) else (none)) = some r := by first | (rw [hy30015]; with_reducible exact H) | (have H2_ := (Option.bind_some _ _).symm.trans H; rw [hy30015]; with_reducible exact H2_) | (have H2_ := (Option.bind_some _ _).symm.trans H; with_reducible exact H2_) | with_reducible exact H | (rw [hy30015]; exact H) | exact H
  have Ny30015 := Aside0.mk hy30015
  clear hy30015
  by_cases c8 : y30015.length + l2.length < 140737488355328
  · rw [if_pos c8] at H
    have LMc8 := Aside0.mk c8
    clear c8
    obtain ⟨y30018, hy30018⟩ : ∃ y_ : List Int, y_ = (y30015 ++ l2) := ⟨_, rfl⟩
    replace H : (if y30018.length + t30011.length < 140737488355328 then ((some (y30018 ++ t30011 : List Int)).bind fun y30021 => ((ticks_Decode.f k y30021 (l2.length : Int)).bind fun bt30024 => (if t30009 = 0 then (if t30014 = 0 then (if bt30024.2.2.2.2 = 0 then (if bt30024.2.2.2.1 = (y30021.length : Int) then ((columbariumlaw10_in.f t30004 t30005 t30006).bind fun bt30032 => ((columbariumlaw10_same.f k bt30024.1 bt30024.2.1 bt30024.2.2.1 bt30032.1 bt30032.2.1 bt30032.2.2).bind fun t30037 => (if t30037 = true then ((ticks_Decode.f k l3 0).bind fun bt30038 => (if bt30038.2.2.2.2 = 0 then ((ticks_Encode.f k bt30038.1 bt30038.2.1 bt30038.2.2.1).bind fun bt30046 => (if bt30046.2 = 0 then (if bt30038.2.2.2.1 > (l3.length : Int) then (some false) else (if 0 ≤ bt30038.2.2.2.1 then (if bt30038.2.2.2.1 ≤ (l3.length : Int) then (if (strOfNums bt30046.1).toList = (strOfNums (l3.take (bt30038.2.2.2.1 : Int).toNat)).toList then ((columbariumlaw10_known.f k).bind fun t30052 => (some t30052)) else (some false)) else (none)) else (none))) else (some false))) else ((columbariumlaw10_known.f k).bind fun t30053 => (some t30053)))) else (some false)))) else (some false)) else (some false)) else (some false)) else (some false)))) else (none)) = some r := by first | (rw [hy30018]; with_reducible exact H) | (have H2_ := (Option.bind_some _ _).symm.trans H; rw [hy30018]; with_reducible exact H2_) | (have H2_ := (Option.bind_some _ _).symm.trans H; with_reducible exact H2_) | with_reducible exact H | (rw [hy30018]; exact H) | exact H
    have Ny30018 := Aside0.mk hy30018
    clear hy30018
    by_cases c9 : y30018.length + t30011.length < 140737488355328
    · rw [if_pos c9] at H
      have LMc9 := Aside0.mk c9
      clear c9
      obtain ⟨y30021, hy30021⟩ : ∃ y_ : List Int, y_ = (y30018 ++ t30011) := ⟨_, rfl⟩
      replace H : ((ticks_Decode.f k y30021 (l2.length : Int)).bind fun bt30024 => (if t30009 = 0 then (if t30014 = 0 then (if bt30024.2.2.2.2 = 0 then (if bt30024.2.2.2.1 = (y30021.length : Int) then ((columbariumlaw10_in.f t30004 t30005 t30006).bind fun bt30032 => ((columbariumlaw10_same.f k bt30024.1 bt30024.2.1 bt30024.2.2.1 bt30032.1 bt30032.2.1 bt30032.2.2).bind fun t30037 => (if t30037 = true then ((ticks_Decode.f k l3 0).bind fun bt30038 => (if bt30038.2.2.2.2 = 0 then ((ticks_Encode.f k bt30038.1 bt30038.2.1 bt30038.2.2.1).bind fun bt30046 => (if bt30046.2 = 0 then (if bt30038.2.2.2.1 > (l3.length : Int) then (some false) else (if 0 ≤ bt30038.2.2.2.1 then (if bt30038.2.2.2.1 ≤ (l3.length : Int) then (if (strOfNums bt30046.1).toList = (strOfNums (l3.take (bt30038.2.2.2.1 : Int).toNat)).toList then ((columbariumlaw10_known.f k).bind fun t30052 => (some t30052)) else (some false)) else (none)) else (none))) else (some false))) else ((columbariumlaw10_known.f k).bind fun t30053 => (some t30053)))) else (some false)))) else (some false)) else (some false)) else (some false)) else (some false))) = some r := by first | (rw [hy30021]; with_reducible exact H) | (have H2_ := (Option.bind_some _ _).symm.trans H; rw [hy30021]; with_reducible exact H2_) | (have H2_ := (Option.bind_some _ _).symm.trans H; with_reducible exact H2_) | with_reducible exact H | (rw [hy30021]; exact H) | exact H
      have Ny30021 := Aside0.mk hy30021
      clear hy30021
      replace H := Option.bind_eq_some_iff.mp H
      obtain ⟨⟨t30024, t30025, t30026, t30029, t30030⟩, A100, H⟩ := H
      replace H : (if t30009 = 0 then (if t30014 = 0 then (if t30030 = 0 then (if t30029 = (y30021.length : Int) then ((columbariumlaw10_in.f t30004 t30005 t30006).bind fun bt30032 => ((columbariumlaw10_same.f k t30024 t30025 t30026 bt30032.1 bt30032.2.1 bt30032.2.2).bind fun t30037 => (if t30037 = true then ((ticks_Decode.f k l3 0).bind fun bt30038 => (if bt30038.2.2.2.2 = 0 then ((ticks_Encode.f k bt30038.1 bt30038.2.1 bt30038.2.2.1).bind fun bt30046 => (if bt30046.2 = 0 then (if bt30038.2.2.2.1 > (l3.length : Int) then (some false) else (if 0 ≤ bt30038.2.2.2.1 then (if bt30038.2.2.2.1 ≤ (l3.length : Int) then (if (strOfNums bt30046.1).toList = (strOfNums (l3.take (bt30038.2.2.2.1 : Int).toNat)).toList then ((columbariumlaw10_known.f k).bind fun t30052 => (some t30052)) else (some false)) else (none)) else (none))) else (some false))) else ((columbariumlaw10_known.f k).bind fun t30053 => (some t30053)))) else (some false)))) else (some false)) else (some false)) else (some false)) else (some false)) = some r := H
      have A10 := Aside0.mk A100
      clear A100
      by_cases c11 : t30009 = 0
      · rw [if_pos c11] at H
        have c11b0 : (t30009 == 0) = true := beq_iff_eq.mpr c11
        have c11b1 : (t30009 != 0) = false := bne_eq_false_iff_eq.mpr c11
        clear c11
        by_cases c12 : t30014 = 0
        · rw [if_pos c12] at H
          have c12b0 : (t30014 == 0) = true := beq_iff_eq.mpr c12
          have c12b1 : (t30014 != 0) = false := bne_eq_false_iff_eq.mpr c12
          clear c12
          by_cases c13 : t30030 = 0
          · rw [if_pos c13] at H
            have c13b0 : (t30030 == 0) = true := beq_iff_eq.mpr c13
            have c13b1 : (t30030 != 0) = false := bne_eq_false_iff_eq.mpr c13
            clear c13
            by_cases c14 : t30029 = (y30021.length : Int)
            · rw [if_pos c14] at H
              have c14b0 : (t30029 == (y30021.length : Int)) = true := beq_iff_eq.mpr c14
              have c14b1 : (t30029 != (y30021.length : Int)) = false := bne_eq_false_iff_eq.mpr c14
              clear c14
              replace H := Option.bind_eq_some_iff.mp H
              obtain ⟨⟨t30032, t30033, t30034⟩, A150, H⟩ := H
              replace H : ((columbariumlaw10_same.f k t30024 t30025 t30026 t30032 t30033 t30034).bind fun t30037 => (if t30037 = true then ((ticks_Decode.f k l3 0).bind fun bt30038 => (if bt30038.2.2.2.2 = 0 then ((ticks_Encode.f k bt30038.1 bt30038.2.1 bt30038.2.2.1).bind fun bt30046 => (if bt30046.2 = 0 then (if bt30038.2.2.2.1 > (l3.length : Int) then (some false) else (if 0 ≤ bt30038.2.2.2.1 then (if bt30038.2.2.2.1 ≤ (l3.length : Int) then (if (strOfNums bt30046.1).toList = (strOfNums (l3.take (bt30038.2.2.2.1 : Int).toNat)).toList then ((columbariumlaw10_known.f k).bind fun t30052 => (some t30052)) else (some false)) else (none)) else (none))) else (some false))) else ((columbariumlaw10_known.f k).bind fun t30053 => (some t30053)))) else (some false))) = some r := H
              have A15 := Aside0.mk A150
              clear A150
              replace H := Option.bind_eq_some_iff.mp H
              obtain ⟨t30037, A160, H⟩ := H
              replace H : (if t30037 = true then ((ticks_Decode.f k l3 0).bind fun bt30038 => (if bt30038.2.2.2.2 = 0 then ((ticks_Encode.f k bt30038.1 bt30038.2.1 bt30038.2.2.1).bind fun bt30046 => (if bt30046.2 = 0 then (if bt30038.2.2.2.1 > (l3.length : Int) then (some false) else (if 0 ≤ bt30038.2.2.2.1 then (if bt30038.2.2.2.1 ≤ (l3.length : Int) then (if (strOfNums bt30046.1).toList = (strOfNums (l3.take (bt30038.2.2.2.1 : Int).toNat)).toList then ((columbariumlaw10_known.f k).bind fun t30052 => (some t30052)) else (some false)) else (none)) else (none))) else (some false))) else ((columbariumlaw10_known.f k).bind fun t30053 => (some t30053)))) else (some false)) = some r := H
              have A16 := Aside0.mk A160
              clear A160
              by_cases c17 : t30037 = true
              · subst c17
                have H1 : ((ticks_Decode.f k l3 0).bind fun bt30038 => (if bt30038.2.2.2.2 = 0 then ((ticks_Encode.f k bt30038.1 bt30038.2.1 bt30038.2.2.1).bind fun bt30046 => (if bt30046.2 = 0 then (if bt30038.2.2.2.1 > (l3.length : Int) then (some false) else (if 0 ≤ bt30038.2.2.2.1 then (if bt30038.2.2.2.1 ≤ (l3.length : Int) then (if (strOfNums bt30046.1).toList = (strOfNums (l3.take (bt30038.2.2.2.1 : Int).toNat)).toList then ((columbariumlaw10_known.f k).bind fun t30052 => (some t30052)) else (some false)) else (none)) else (none))) else (some false))) else ((columbariumlaw10_known.f k).bind fun t30053 => (some t30053)))) = some r := by rw [if_pos rfl] at H; exact H
                clear H
                have H := H1
                clear H1
                replace H := Option.bind_eq_some_iff.mp H
                obtain ⟨⟨t30038, t30039, t30040, t30043, t30044⟩, A180, H⟩ := H
                replace H : (if t30044 = 0 then ((ticks_Encode.f k t30038 t30039 t30040).bind fun bt30046 => (if bt30046.2 = 0 then (if t30043 > (l3.length : Int) then (some false) else (if 0 ≤ t30043 then (if t30043 ≤ (l3.length : Int) then (if (strOfNums bt30046.1).toList = (strOfNums (l3.take (t30043 : Int).toNat)).toList then ((columbariumlaw10_known.f k).bind fun t30052 => (some t30052)) else (some false)) else (none)) else (none))) else (some false))) else ((columbariumlaw10_known.f k).bind fun t30053 => (some t30053))) = some r := H
                have A18 := Aside0.mk A180
                clear A180
                by_cases c19 : t30044 = 0
                · rw [if_pos c19] at H
                  have c19b0 : (t30044 == 0) = true := beq_iff_eq.mpr c19
                  have c19b1 : (t30044 != 0) = false := bne_eq_false_iff_eq.mpr c19
                  clear c19
                  replace H := Option.bind_eq_some_iff.mp H
                  obtain ⟨⟨t30046, t30049⟩, A200, H⟩ := H
                  replace H : (if t30049 = 0 then (if t30043 > (l3.length : Int) then (some false) else (if 0 ≤ t30043 then (if t30043 ≤ (l3.length : Int) then (if (strOfNums t30046).toList = (strOfNums (l3.take (t30043 : Int).toNat)).toList then ((columbariumlaw10_known.f k).bind fun t30052 => (some t30052)) else (some false)) else (none)) else (none))) else (some false)) = some r := H
                  have A20 := Aside0.mk A200
                  clear A200
                  by_cases c21 : t30049 = 0
                  · rw [if_pos c21] at H
                    have c21b0 : (t30049 == 0) = true := beq_iff_eq.mpr c21
                    have c21b1 : (t30049 != 0) = false := bne_eq_false_iff_eq.mpr c21
                    clear c21
                    by_cases c22 : t30043 > (l3.length : Int)
                    · rw [if_pos c22] at H
                      have c22b0 : decide ((l3.length : Int) < t30043) = true := decide_eq_true c22
                      clear c22
                      exact absurd ((Option.some.inj H).trans hr_.out) (by decide)
                    · rw [if_neg c22] at H
                      have c22b0 : decide ((l3.length : Int) < t30043) = false := decide_eq_false c22
                      clear c22
                      by_cases c23 : 0 ≤ t30043
                      · rw [if_pos c23] at H
                        have c23b0 := eq_true c23
                        have c23b1 : decide (0 ≤ t30043) = true := decide_eq_true c23
                        clear c23
                        by_cases c24 : t30043 ≤ (l3.length : Int)
                        · rw [if_pos c24] at H
                          have c24b0 := eq_true c24
                          have c24b1 : decide (t30043 ≤ (l3.length : Int)) = true := decide_eq_true c24
                          clear c24
                          obtain ⟨y30050, hy30050⟩ : ∃ y_ : List Int, y_ = (l3.take (t30043 : Int).toNat) := ⟨_, rfl⟩
                          replace H : (if (strOfNums t30046).toList = (strOfNums y30050).toList then ((columbariumlaw10_known.f k).bind fun t30052 => (some t30052)) else (some false)) = some r := by first | (rw [hy30050]; with_reducible exact H) | (have H2_ := (Option.bind_some _ _).symm.trans H; rw [hy30050]; with_reducible exact H2_) | (have H2_ := (Option.bind_some _ _).symm.trans H; with_reducible exact H2_) | with_reducible exact H | (rw [hy30050]; exact H) | exact H
                          have Ny30050 := Aside0.mk hy30050
                          clear hy30050
                          by_cases c25 : (strOfNums t30046).toList = (strOfNums y30050).toList
                          · rw [if_pos c25] at H
                            have c25b0 : ((strOfNums t30046).toList == (strOfNums y30050).toList) = true := beq_iff_eq.mpr c25
                            have c25b1 : ((strOfNums t30046).toList != (strOfNums y30050).toList) = false := bne_eq_false_iff_eq.mpr c25
                            clear c25
                            replace H := Option.bind_eq_some_iff.mp H
                            obtain ⟨t30052, A260, H⟩ := H
                            replace H : (some t30052) = some r := H
                            have A26 := Aside0.mk A260
                            clear A260
                            obtain rfl := Option.some.inj H
                            go_enter Try.func14, Try.ntmps14
                            try go_wp2_with (first | ((with_reducible refine gate_callee (f := 29) rfl ?_); refine goesL_ (some 25) rfl rfl Try.func29 (by kernel_rfl) rfl #[.int .i64 a0, .slice A1 l1.length c1] rfl (by (try simp only [List.map_toArray, List.map_cons, List.map_nil]); first | done | rfl | (simp only [List.length_drop, List.length_take]; rfl)) ?_; (with_reducible refine (columbariumlaw10_rising.calls k a0 _ _ l1 t30001 _ ?side1 ?side2 A5.out).mono ?_); (case side1 => repeat (first | exact HR1.out | (with_reducible refine Kd.C_alloc ?_ _) | (with_reducible refine Kd.C_drewN ?_ _) | (with_reducible refine Kd.C_drew ?_))); (case side2 => exact HC1.out); rintro e w27 ⟨v30002, rfl, ho0, hb⟩; refine ⟨_, rfl, ?_⟩; have n0_ := Aside0.mk (Kd.R_lower ho0 (below_size (by repeat (first | (with_reducible first | exact HB.out | apply below_alloc | apply pw_below_drewN | apply below_drew1) | exact HB.out)))); have n1_ := Aside0.mk (below_step (by repeat (first | (with_reducible first | exact HB.out | apply below_alloc | apply pw_below_drewN | apply below_drew1) | exact HB.out)) hb); clear HB; have HO30003 := n0_; have HB := n1_; clear n0_ n1_; (try clear hb); (try clear hb2); (try clear hk); (try clear hi); (try clear ho0); obtain ⟨Ao28, co28, eo28⟩ := Kd.R_slice HO30003.out; subst eo28) | ((with_reducible refine gate_callee (f := 30) rfl ?_); refine goesL_ (some 26) rfl rfl Try.func30 (by kernel_rfl) rfl #[.slice Ao28 t30001.length co28] rfl (by (try simp only [List.map_toArray, List.map_cons, List.map_nil]); first | done | rfl | (simp only [List.length_drop, List.length_take]; rfl)) ?_; (with_reducible refine (ticks_Build.calls k _ _ t30001 t30004 t30005 t30006 t30009 _ ?side1 ?side2 A6.out).mono ?_); (case side1 => repeat (first | exact (Kd.R_reads' HO30003.out).2.2 | (with_reducible refine Kd.C_alloc ?_ _) | (with_reducible refine Kd.C_drewN ?_ _) | (with_reducible refine Kd.C_drew ?_))); (case side2 => exact (Kd.R_reads' HO30003.out).2.1); rintro e w29 ⟨v30007, rfl, ho0, hb⟩; refine ⟨_, rfl, ?_⟩; have n0_ := Aside0.mk (Kd.R_elder' (by (with_reducible repeat (first | apply Kd.R_alloc | apply Kd.R_drewN | apply Kd.R_drew)); exact HO30003.out) (Kd.R_base ho0) hb); have n1_ := Aside0.mk (Kd.R_lower (Kd.R_new' ho0 (Kd.R_lt (by (with_reducible repeat (first | apply Kd.R_alloc | apply Kd.R_drewN | apply Kd.R_drew)); exact HO30003.out))) (below_size (by repeat (first | (with_reducible first | exact HB.out | apply below_alloc | apply pw_below_drewN | apply below_drew1) | exact HB.out)))); have n2_ := Aside0.mk (below_step (by repeat (first | (with_reducible first | exact HB.out | apply below_alloc | apply pw_below_drewN | apply below_drew1) | exact HB.out)) hb); clear HO30003; clear HB; have HO30003 := n0_; have HO30008 := n1_; have HB := n2_; clear n0_ n1_ n2_; (try clear hb); (try clear hb2); (try clear hk); (try clear hi); (try clear ho0)) | ((with_reducible refine gate_dst (N := 9) rfl ?_); (try (refine gate_guard (by rfl) ?_; dsimp only)); refine box_event ?hg (N := 9) ?hd (cs := #[.int .i64 0, .int .i64 0, .slice none 0 0]) (t := 61) ?hr ?_; (case hd => rfl); (case hg => rfl); (case hr => first | (go_simp; done) | (go_simp; rfl)); intro gb30010 hg w30 hbox hb; have n0_ := Aside0.mk (Kd.R_below (by (with_reducible repeat (first | apply Kd.R_alloc | apply Kd.R_drewN | apply Kd.R_drew)); exact HO30003.out) hb); have n1_ := Aside0.mk (Kd.R_below (by (with_reducible repeat (first | apply Kd.R_alloc | apply Kd.R_drewN | apply Kd.R_drew)); exact HO30008.out) hb); have n2_ := Aside0.mk (below_step (by repeat (first | (with_reducible first | exact HB.out | apply below_alloc | apply pw_below_drewN | apply below_drew1) | exact HB.out)) hb); have n3_ := Aside0.mk (hbox); have n4_ := Aside0.mk ((by rw [hg]; exact (below_size (by repeat (first | (with_reducible first | exact HB.out | apply below_alloc | apply pw_below_drewN | apply below_drew1) | exact HB.out))) : w.heap.size ≤ gb30010)); have n5_ := Aside0.mk ((by rw [hg]; exact (below_size (by repeat (first | (with_reducible first | exact HB.out | apply below_alloc | apply pw_below_drewN | apply below_drew1) | exact HB.out))) : w.heap.size ≤ gb30010)); clear HO30003; clear HO30008; clear HB; have HO30003 := n0_; have HO30008 := n1_; have HB := n2_; have BK30010 := n3_; have GW30010 := n4_; have GE30010 := n5_; clear n0_ n1_ n2_ n3_ n4_ n5_; clear hb hbox hg; have hcz31_0 : w30.cell? ⟨gb30010, 0, none⟩ = some (.int .i64 0) := (blk_cell BK30010.out 0).trans rfl; have hcz31_1 : w30.cell? ⟨gb30010, 1, none⟩ = some (.int .i64 0) := (blk_cell BK30010.out 1).trans rfl; have hcz31_2 : w30.cell? ⟨gb30010, 2, none⟩ = some (.slice none 0 0) := (blk_cell BK30010.out 2).trans rfl; have hfz31_0 := blk_frozen BK30010.out 0; have hfz31_1 := blk_frozen BK30010.out 1; have hfz31_2 := blk_frozen BK30010.out 2; obtain ⟨Ao32, co32, eo32⟩ := Kd.R_slice HO30008.out; subst eo32) | ((with_reducible refine gate_callee (f := 37) rfl ?_); refine goesL_ (some 31) rfl rfl Try.func37 (by kernel_rfl) rfl #[.agg #[.int .i64 t30004, .int .i64 t30005, .slice Ao32 t30006.length co32]] rfl (by (try simp only [List.map_toArray, List.map_cons, List.map_nil]); first | done | rfl | (simp only [List.length_drop, List.length_take]; rfl)) ?_; (with_reducible refine (ticks_Encode.calls k t30004 t30005 _ _ t30006 t30011 t30014 _ ?side1 ?side2 A7.out).mono ?_); (case side1 => refine (Kd.R_reads' (e := 2) (base := w.heap.size) (ok := fun k_ => (True ∧ some k_ ≠ (.slice Ao28 t30001.length co28 : Value).ownBlock)) (n := t30006.length) (c := co32) ?_).2.2; exact (by (with_reducible repeat (first | apply Kd.R_alloc | apply Kd.R_drewN | apply Kd.R_drew)); exact (Kd.R_mono (Kd.R_far (p := ⟨gb30010, 2, none⟩) (Kd.R_far (p := ⟨gb30010, 1, none⟩) (Kd.R_far (p := ⟨gb30010, 0, none⟩) (Kd.R_types HO30008.out BK30010.out (by decide)) (fun _ hk => hk.2) (.int .i64 t30004)) (fun _ hk => hk.2) (.int .i64 t30005)) (fun _ hk => hk.2) (.slice Ao32 t30006.length co32)) (fun _ h_ => h_.1)))); (case side2 => exact (Kd.R_reads' HO30008.out).2.1); rintro e w33 ⟨v30012, rfl, ho0, hb⟩; refine ⟨_, rfl, ?_⟩; have n0_ := Aside0.mk (Kd.R_below (by (with_reducible repeat (first | apply Kd.R_alloc | apply Kd.R_drewN | apply Kd.R_drew)); exact (Kd.R_mono (Kd.R_far (p := ⟨gb30010, 2, none⟩) (Kd.R_far (p := ⟨gb30010, 1, none⟩) (Kd.R_far (p := ⟨gb30010, 0, none⟩) (Kd.R_types HO30003.out BK30010.out (by decide)) (fun _ hk => hk.2) (.int .i64 t30004)) (fun _ hk => hk.2) (.int .i64 t30005)) (fun _ hk => hk.2) (.slice Ao32 t30006.length co32)) (fun _ h_ => h_.1))) hb); have n1_ := Aside0.mk (Kd.R_below (by (with_reducible repeat (first | apply Kd.R_alloc | apply Kd.R_drewN | apply Kd.R_drew)); exact (Kd.R_mono (Kd.R_far (p := ⟨gb30010, 2, none⟩) (Kd.R_far (p := ⟨gb30010, 1, none⟩) (Kd.R_far (p := ⟨gb30010, 0, none⟩) (Kd.R_types HO30008.out BK30010.out (by decide)) (fun _ hk => hk.2) (.int .i64 t30004)) (fun _ hk => hk.2) (.int .i64 t30005)) (fun _ hk => hk.2) (.slice Ao32 t30006.length co32)) (fun _ h_ => h_.1))) hb); have n2_ := Aside0.mk (Kd.R_lower ho0 (below_size (by repeat (first | (with_reducible first | exact HB.out | apply below_alloc | apply pw_below_drewN | apply below_drew1 | refine below_set ?_ GE30010.out) | exact HB.out)))); have n3_ := Aside0.mk (blk_below (g := gb30010) (o := .cells #[.int .i64 t30004, .int .i64 t30005, .slice Ao32 t30006.length co32] 61 (0, 0)) (by (with_reducible repeat (first | refine blk_drewN ?_ _ | refine blk_drew ?_ | refine blk_alloc ?_ _)); refine blk_put (cs := #[.int .i64 t30004, .int .i64 t30005, .slice none 0 0]) ?_ 2 _ rfl; (with_reducible repeat (first | refine blk_drewN ?_ _ | refine blk_drew ?_ | refine blk_alloc ?_ _)); refine blk_put (cs := #[.int .i64 t30004, .int .i64 0, .slice none 0 0]) ?_ 1 _ rfl; (with_reducible repeat (first | refine blk_drewN ?_ _ | refine blk_drew ?_ | refine blk_alloc ?_ _)); refine blk_put (cs := #[.int .i64 0, .int .i64 0, .slice none 0 0]) ?_ 0 _ rfl; (with_reducible repeat (first | refine blk_drewN ?_ _ | refine blk_drew ?_ | refine blk_alloc ?_ _)); exact BK30010.out) hb); have n4_ := Aside0.mk (below_step (by repeat (first | (with_reducible first | exact HB.out | apply below_alloc | apply pw_below_drewN | apply below_drew1 | refine below_set ?_ GE30010.out) | exact HB.out)) hb); clear HO30003; clear HO30008; clear BK30010; clear HB; have HO30003 := n0_; have HO30008 := n1_; have HO30013 := n2_; have BK30010 := n3_; have HB := n4_; clear n0_ n1_ n2_ n3_ n4_; (try clear hb); (try clear hb2); (try clear hk); (try clear hi); (try clear ho0)) | ((with_reducible refine gate_dst (N := 34) rfl ?_); (try (refine gate_guard (by rfl) ?_; dsimp only)); refine Kd.R_lit (Kd.int .u8) _ 5 ?hg (N := 34) ?hd (xs := ([] : List Int)) (inner := []) (ok := fun _ => True) (okp := fun _ => True) ?hr ?hp (fun _ hk => hk) trivial (Below.refl _ _) (Nat.le_refl _) (by simp) ?_; (case hd => rfl); (case hg => rfl); (case hr => first | (go_simp; done) | (go_simp; rfl)); (case hp => exact (Reps.none _ _)); intro v30016 w34 ho35 hb hg_ hnew_; clear hg_ hnew_; (first | rw [← Ny30015.out] at ho35 | (simp only [Int.reduceToNat] at ho35; rw [← Ny30015.out] at ho35)); have n0_ := Aside0.mk (Kd.R_below (by (with_reducible repeat (first | apply Kd.R_alloc | apply Kd.R_drewN | apply Kd.R_drew)); exact HO30003.out) hb); have n1_ := Aside0.mk (Kd.R_below (by (with_reducible repeat (first | apply Kd.R_alloc | apply Kd.R_drewN | apply Kd.R_drew)); exact HO30008.out) hb); have n2_ := Aside0.mk (Kd.R_elder' (by (with_reducible repeat (first | apply Kd.R_alloc | apply Kd.R_drewN | apply Kd.R_drew)); exact HO30013.out) (Kd.R_base ho35) hb); have n3_ := Aside0.mk (Kd.R_lower (Kd.R_new' ho35 (Kd.R_lt (by (with_reducible repeat (first | apply Kd.R_alloc | apply Kd.R_drewN | apply Kd.R_drew)); exact HO30013.out))) (below_size (by repeat (first | (with_reducible first | exact HB.out | apply below_alloc | apply pw_below_drewN | apply below_drew1 | refine below_set ?_ GE30010.out) | exact HB.out)))); have n4_ := Aside0.mk (blk_below (g := gb30010) (o := .cells #[.int .i64 t30004, .int .i64 t30005, .slice Ao32 t30006.length co32] 61 (0, 0)) (by (with_reducible repeat (first | refine blk_drewN ?_ _ | refine blk_drew ?_ | refine blk_alloc ?_ _)); exact BK30010.out) hb); have n5_ := Aside0.mk (below_step (by repeat (first | (with_reducible first | exact HB.out | apply below_alloc | apply pw_below_drewN | apply below_drew1 | refine below_set ?_ GE30010.out) | exact HB.out)) hb); clear HO30003; clear HO30008; clear HO30013; clear BK30010; clear HB; have HO30003 := n0_; have HO30008 := n1_; have HO30013 := n2_; have HO30017 := n3_; have BK30010 := n4_; have HB := n5_; clear n0_ n1_ n2_ n3_ n4_ n5_; clear hb ho35) | ((with_reducible refine gate_builtin (b := .append) (xs := #[.tmp 34, .tmp 35]) rfl ?_); (try (refine gate_guard (by rfl) ?_; dsimp only)); at_builtin; refine Kd.R_append_rows (Kd.int .u8) (w0 := w) w.heap.size rfl (.tmp 34) (.tmp 35) 40 5 (.int .u8 0) 1 rfl Try.underlying40 info5 rfl (by decide) (by omega) v30016 y30015 l2 _ _ _ (fun k_ => some k_ ≠ (v30012 : Value).ownBlock) (fun _ => False) rfl rfl ?aO ?aR (fun _ _ h => h) (fun _ h => h.elim) ?aF ?aB ?aS ?aL ?_; (case aR => repeat (first | exact (Kd.C_below HR2.out HB.out) | (with_reducible refine Kd.C_alloc ?_ _) | (with_reducible refine Kd.C_drewN ?_ _) | (with_reducible refine Kd.C_drew ?_))); (case aB => exact (by repeat (first | (with_reducible first | exact HB.out | apply below_alloc | apply pw_below_drewN | apply below_drew1 | refine below_set ?_ GE30010.out) | exact HB.out))); (case aF => exact (fun k_ hk => Kd.fresh' (Kd.R_lt (by (with_reducible repeat (first | apply Kd.R_alloc | apply Kd.R_drewN | apply Kd.R_drew)); exact HO30013.out)) k_ hk)); (case aO => exact (by (with_reducible repeat (first | apply Kd.R_alloc | apply Kd.R_drewN | apply Kd.R_drew)); exact Kd.R_mono HO30017.out (fun _ hk => hk.2))); (case aS => exact (below_size (by repeat (first | (with_reducible first | exact HB.out | apply below_alloc | apply pw_below_drewN | apply below_drew1 | refine below_set ?_ GE30010.out) | exact HB.out)))); (case aL => have := LMc8.out; omega); intro v30019 w36 ho hb hg hat; rw [← Ny30018.out] at ho; have n0_ := Aside0.mk (Kd.R_over' (by (with_reducible repeat (first | apply Kd.R_alloc | apply Kd.R_drewN | apply Kd.R_drew)); exact HO30003.out) (Kd.R_typed (by (with_reducible repeat (first | apply Kd.R_alloc | apply Kd.R_drewN | apply Kd.R_drew)); exact HO30017.out)) (by decide) hg); have n1_ := Aside0.mk (Kd.R_over' (by (with_reducible repeat (first | apply Kd.R_alloc | apply Kd.R_drewN | apply Kd.R_drew)); exact HO30008.out) (Kd.R_typed (by (with_reducible repeat (first | apply Kd.R_alloc | apply Kd.R_drewN | apply Kd.R_drew)); exact HO30017.out)) (by decide) hg); have n2_ := Aside0.mk (blk_grown (g := gb30010) (o := .cells #[.int .i64 t30004, .int .i64 t30005, .slice Ao32 t30006.length co32] 61 (0, 0)) (by (with_reducible repeat (first | refine blk_drewN ?_ _ | refine blk_drew ?_ | refine blk_alloc ?_ _)); exact BK30010.out) hg (Kd.R_ne HO30017.out BK30010.out (by decide))); have n3_ := Aside0.mk (Kd.R_after (ok := (fun _ => True)) (by (with_reducible repeat (first | apply Kd.R_alloc | apply Kd.R_drewN | apply Kd.R_drew)); exact HO30013.out) hg hat); have n4_ := Aside0.mk (hb); have n5_ := Aside0.mk (ho); clear HO30003; clear HO30008; clear BK30010; clear HO30013; clear HB; clear HO30017; have HO30003 := n0_; have HO30008 := n1_; have BK30010 := n2_; have HO30013 := n3_; have HB := n4_; have HO30020 := n5_; clear n0_ n1_ n2_ n3_ n4_ n5_; clear ho hb hg hat; obtain ⟨Ao38, co38, eo38⟩ := Kd.R_slice HO30013.out; subst eo38) | ((with_reducible refine gate_builtin (b := .append) (xs := #[.tmp 36, .tmp 37]) rfl ?_); (try (refine gate_guard (by rfl) ?_; dsimp only)); at_builtin; refine Kd.R_append_rows (Kd.int .u8) (w0 := w) w.heap.size rfl (.tmp 36) (.tmp 37) 40 5 (.int .u8 0) 1 rfl Try.underlying40 info5 rfl (by decide) (by omega) v30019 y30018 t30011 _ _ _ (fun k_ => some k_ ≠ (.slice Ao38 t30011.length co38 : Value).ownBlock) (fun _ => False) rfl rfl ?aO ?aR (fun _ _ h => h) (fun _ h => h.elim) ?aF ?aB ?aS ?aL ?_; (case aR => repeat (first | exact (Kd.R_reads' HO30013.out).2.2 | (with_reducible refine Kd.C_alloc ?_ _) | (with_reducible refine Kd.C_drewN ?_ _) | (with_reducible refine Kd.C_drew ?_))); (case aB => exact (by repeat (first | (with_reducible first | exact HB.out | apply below_alloc | apply pw_below_drewN | apply below_drew1 | refine below_set ?_ GE30010.out) | exact HB.out))); (case aF => exact (fun k_ hk => Kd.fresh' (Kd.R_lt (by (with_reducible repeat (first | apply Kd.R_alloc | apply Kd.R_drewN | apply Kd.R_drew)); exact HO30013.out)) k_ hk)); (case aO => exact (by (with_reducible repeat (first | apply Kd.R_alloc | apply Kd.R_drewN | apply Kd.R_drew)); exact HO30020.out)); (case aS => exact (below_size (by repeat (first | (with_reducible first | exact HB.out | apply below_alloc | apply pw_below_drewN | apply below_drew1 | refine below_set ?_ GE30010.out) | exact HB.out)))); (case aL => have := LMc9.out; omega); intro v30022 w37 ho hb hg hat; rw [← Ny30021.out] at ho; have n0_ := Aside0.mk (Kd.R_over' (by (with_reducible repeat (first | apply Kd.R_alloc | apply Kd.R_drewN | apply Kd.R_drew)); exact HO30003.out) (Kd.R_typed (by (with_reducible repeat (first | apply Kd.R_alloc | apply Kd.R_drewN | apply Kd.R_drew)); exact HO30020.out)) (by decide) hg); have n1_ := Aside0.mk (Kd.R_over' (by (with_reducible repeat (first | apply Kd.R_alloc | apply Kd.R_drewN | apply Kd.R_drew)); exact HO30008.out) (Kd.R_typed (by (with_reducible repeat (first | apply Kd.R_alloc | apply Kd.R_drewN | apply Kd.R_drew)); exact HO30020.out)) (by decide) hg); have n2_ := Aside0.mk (blk_grown (g := gb30010) (o := .cells #[.int .i64 t30004, .int .i64 t30005, .slice Ao32 t30006.length co32] 61 (0, 0)) (by (with_reducible repeat (first | refine blk_drewN ?_ _ | refine blk_drew ?_ | refine blk_alloc ?_ _)); exact BK30010.out) hg (Kd.R_ne HO30020.out BK30010.out (by decide))); have n3_ := Aside0.mk (Kd.R_after (ok := (fun _ => True)) (by (with_reducible repeat (first | apply Kd.R_alloc | apply Kd.R_drewN | apply Kd.R_drew)); exact HO30013.out) hg hat); have n4_ := Aside0.mk (hb); have n5_ := Aside0.mk (ho); clear HO30003; clear HO30008; clear BK30010; clear HO30013; clear HB; clear HO30020; have HO30003 := n0_; have HO30008 := n1_; have BK30010 := n2_; have HO30013 := n3_; have HB := n4_; have HO30023 := n5_; clear n0_ n1_ n2_ n3_ n4_ n5_; clear ho hb hg hat; obtain ⟨Ao39, co39, eo39⟩ := Kd.R_slice HO30023.out; subst eo39) | ((with_reducible refine gate_callee (f := 41) rfl ?_); refine goesL_ (some 43) rfl rfl Try.func41 (by kernel_rfl) rfl #[.slice Ao39 y30021.length co39, .int .i64 (l2.length : Int)] rfl (by (try simp only [List.map_toArray, List.map_cons, List.map_nil]); first | done | rfl | (simp only [List.length_drop, List.length_take]; rfl)) ?_; (with_reducible refine (ticks_Decode.calls k _ _ y30021 (l2.length : Int) t30024 t30025 t30026 t30029 t30030 _ ?side1 ?side2 A10.out).mono ?_); (case side1 => repeat (first | exact (Kd.R_reads' HO30023.out).2.2 | (with_reducible refine Kd.C_alloc ?_ _) | (with_reducible refine Kd.C_drewN ?_ _) | (with_reducible refine Kd.C_drew ?_))); (case side2 => exact (Kd.R_reads' HO30023.out).2.1); rintro e w40 ⟨v30027, rfl, ho0, hb⟩; refine ⟨_, rfl, ?_⟩; have n0_ := Aside0.mk (Kd.R_elder' (by (with_reducible repeat (first | apply Kd.R_alloc | apply Kd.R_drewN | apply Kd.R_drew)); exact HO30003.out) (Kd.R_base ho0) hb); have n1_ := Aside0.mk (Kd.R_elder' (by (with_reducible repeat (first | apply Kd.R_alloc | apply Kd.R_drewN | apply Kd.R_drew)); exact HO30008.out) (Kd.R_base ho0) hb); have n2_ := Aside0.mk (Kd.R_below (by (with_reducible repeat (first | apply Kd.R_alloc | apply Kd.R_drewN | apply Kd.R_drew)); exact HO30013.out) hb); have n3_ := Aside0.mk (Kd.R_below (by (with_reducible repeat (first | apply Kd.R_alloc | apply Kd.R_drewN | apply Kd.R_drew)); exact HO30023.out) hb); have n4_ := Aside0.mk (Kd.R_lower (Kd.R_new' (Kd.R_new' ho0 (Kd.R_lt (by (with_reducible repeat (first | apply Kd.R_alloc | apply Kd.R_drewN | apply Kd.R_drew)); exact HO30003.out))) (Kd.R_lt (by (with_reducible repeat (first | apply Kd.R_alloc | apply Kd.R_drewN | apply Kd.R_drew)); exact HO30008.out))) (below_size (by repeat (first | (with_reducible first | exact HB.out | apply below_alloc | apply pw_below_drewN | apply below_drew1 | refine below_set ?_ GE30010.out) | exact HB.out)))); have n5_ := Aside0.mk (blk_below (g := gb30010) (o := .cells #[.int .i64 t30004, .int .i64 t30005, .slice Ao32 t30006.length co32] 61 (0, 0)) (by (with_reducible repeat (first | refine blk_drewN ?_ _ | refine blk_drew ?_ | refine blk_alloc ?_ _)); exact BK30010.out) hb); have n6_ := Aside0.mk (below_step (by repeat (first | (with_reducible first | exact HB.out | apply below_alloc | apply pw_below_drewN | apply below_drew1 | refine below_set ?_ GE30010.out) | exact HB.out)) hb); clear HO30003; clear HO30008; clear HO30013; clear HO30023; clear BK30010; clear HB; have HO30003 := n0_; have HO30008 := n1_; have HO30013 := n2_; have HO30023 := n3_; have HO30028 := n4_; have BK30010 := n5_; have HB := n6_; clear n0_ n1_ n2_ n3_ n4_ n5_ n6_; (try clear hb); (try clear hb2); (try clear hk); (try clear hi); (try clear ho0)) | ((with_reducible refine gate_dst (N := 14) rfl ?_); (try (refine gate_guard (by rfl) ?_; dsimp only)); refine box_event ?hg (N := 14) ?hd (cs := #[.int .i64 0, .int .i64 0, .slice none 0 0]) (t := 61) ?hr ?_; (case hd => rfl); (case hg => rfl); (case hr => first | (go_simp; done) | (go_simp; rfl)); intro gb30031 hg w41 hbox hb; have n0_ := Aside0.mk (Kd.R_below (by (with_reducible repeat (first | apply Kd.R_alloc | apply Kd.R_drewN | apply Kd.R_drew)); exact HO30003.out) hb); have n1_ := Aside0.mk (Kd.R_below (by (with_reducible repeat (first | apply Kd.R_alloc | apply Kd.R_drewN | apply Kd.R_drew)); exact HO30008.out) hb); have n2_ := Aside0.mk (Kd.R_below (by (with_reducible repeat (first | apply Kd.R_alloc | apply Kd.R_drewN | apply Kd.R_drew)); exact HO30013.out) hb); have n3_ := Aside0.mk (Kd.R_below (by (with_reducible repeat (first | apply Kd.R_alloc | apply Kd.R_drewN | apply Kd.R_drew)); exact HO30023.out) hb); have n4_ := Aside0.mk (Kd.R_below (by (with_reducible repeat (first | apply Kd.R_alloc | apply Kd.R_drewN | apply Kd.R_drew)); exact HO30028.out) hb); have n5_ := Aside0.mk (blk_below (g := gb30010) (o := .cells #[.int .i64 t30004, .int .i64 t30005, .slice Ao32 t30006.length co32] 61 (0, 0)) (by (with_reducible repeat (first | refine blk_drewN ?_ _ | refine blk_drew ?_ | refine blk_alloc ?_ _)); exact BK30010.out) hb); have n6_ := Aside0.mk (below_step (by repeat (first | (with_reducible first | exact HB.out | apply below_alloc | apply pw_below_drewN | apply below_drew1 | refine below_set ?_ GE30010.out) | exact HB.out)) hb); have n7_ := Aside0.mk (hbox); have n8_ := Aside0.mk ((by rw [hg]; exact (below_size (by repeat (first | (with_reducible first | exact HB.out | apply below_alloc | apply pw_below_drewN | apply below_drew1 | refine below_set ?_ GE30010.out) | exact HB.out))) : w.heap.size ≤ gb30031)); have n9_ := Aside0.mk ((by rw [hg]; exact (below_size (by repeat (first | (with_reducible first | exact HB.out | apply below_alloc | apply pw_below_drewN | apply below_drew1 | refine below_set ?_ GE30010.out) | exact HB.out))) : w.heap.size ≤ gb30031)); have n10_ := Aside0.mk ((by rw [hg]; exact Nat.ne_of_lt (blk_lt (g := gb30010) (o := .cells #[.int .i64 t30004, .int .i64 t30005, .slice Ao32 t30006.length co32] 61 (0, 0)) (by (with_reducible repeat (first | refine blk_drewN ?_ _ | refine blk_drew ?_ | refine blk_alloc ?_ _)); exact BK30010.out)) : gb30010 ≠ gb30031)); have n11_ := Aside0.mk ((by rw [hg]; exact Nat.ne_of_gt (blk_lt (g := gb30010) (o := .cells #[.int .i64 t30004, .int .i64 t30005, .slice Ao32 t30006.length co32] 61 (0, 0)) (by (with_reducible repeat (first | refine blk_drewN ?_ _ | refine blk_drew ?_ | refine blk_alloc ?_ _)); exact BK30010.out)) : gb30031 ≠ gb30010)); clear HO30003; clear HO30008; clear HO30013; clear HO30023; clear HO30028; clear BK30010; clear HB; have HO30003 := n0_; have HO30008 := n1_; have HO30013 := n2_; have HO30023 := n3_; have HO30028 := n4_; have BK30010 := n5_; have HB := n6_; have BK30031 := n7_; have GW30031 := n8_; have GE30031 := n9_; have NB30010_30031 := n10_; have NB30031_30010 := n11_; clear n0_ n1_ n2_ n3_ n4_ n5_ n6_ n7_ n8_ n9_ n10_ n11_; clear hb hbox hg; have hnb42 := NB30031_30010.out; have hnc42 := NB30010_30031.out; have hcz43_0 : w41.cell? ⟨gb30031, 0, none⟩ = some (.int .i64 0) := (blk_cell BK30031.out 0).trans rfl; have hcz43_1 : w41.cell? ⟨gb30031, 1, none⟩ = some (.int .i64 0) := (blk_cell BK30031.out 1).trans rfl; have hcz43_2 : w41.cell? ⟨gb30031, 2, none⟩ = some (.slice none 0 0) := (blk_cell BK30031.out 2).trans rfl; have hfz43_0 := blk_frozen BK30031.out 0; have hfz43_1 := blk_frozen BK30031.out 1; have hfz43_2 := blk_frozen BK30031.out 2; obtain ⟨Ao44, co44, eo44⟩ := Kd.R_slice HO30028.out; subst eo44))
                            have n0_ : Aside0 (Kd.R (Kd.int .i64) 2 (((w41.setCell ⟨gb30031, 0, none⟩ (.int .i64 t30024)).setCell ⟨gb30031, 1, none⟩ (.int .i64 t30025)).setCell ⟨gb30031, 2, none⟩ (.slice Ao44 t30026.length co44)) w.heap.size (fun k_ => some k_ ≠ (.slice Ao32 t30006.length co32 : Value).ownBlock ∧ some k_ ≠ (.slice Ao44 t30026.length co44 : Value).ownBlock) (.slice Ao28 t30001.length co28) t30001) := ⟨by (with_reducible repeat (first | apply Kd.R_alloc | apply Kd.R_drewN | apply Kd.R_drew)); exact Kd.R_mono (Kd.R_far (p := ⟨gb30031, 2, none⟩) (Kd.R_far (p := ⟨gb30031, 1, none⟩) (Kd.R_far (p := ⟨gb30031, 0, none⟩) (Kd.R_types HO30003.out BK30031.out (by decide)) (fun _ hk => hk.2) (.int .i64 t30024)) (fun _ hk => hk.2) (.int .i64 t30025)) (fun _ hk => hk.2) (.slice Ao44 t30026.length co44)) (fun _ hk => ⟨hk.1.1.2, hk.1.2⟩)⟩
                            have n1_ : Aside0 (Kd.R (Kd.int .i64) 2 (((w41.setCell ⟨gb30031, 0, none⟩ (.int .i64 t30024)).setCell ⟨gb30031, 1, none⟩ (.int .i64 t30025)).setCell ⟨gb30031, 2, none⟩ (.slice Ao44 t30026.length co44)) w.heap.size (fun k_ => some k_ ≠ (.slice Ao28 t30001.length co28 : Value).ownBlock ∧ some k_ ≠ (.slice Ao44 t30026.length co44 : Value).ownBlock) (.slice Ao32 t30006.length co32) t30006) := ⟨by (with_reducible repeat (first | apply Kd.R_alloc | apply Kd.R_drewN | apply Kd.R_drew)); exact Kd.R_mono (Kd.R_far (p := ⟨gb30031, 2, none⟩) (Kd.R_far (p := ⟨gb30031, 1, none⟩) (Kd.R_far (p := ⟨gb30031, 0, none⟩) (Kd.R_types HO30008.out BK30031.out (by decide)) (fun _ hk => hk.2) (.int .i64 t30024)) (fun _ hk => hk.2) (.int .i64 t30025)) (fun _ hk => hk.2) (.slice Ao44 t30026.length co44)) (fun _ hk => ⟨hk.1.1.2, hk.1.2⟩)⟩
                            have n2_ : Aside0 (Kd.R (Kd.int .u8) 5 (((w41.setCell ⟨gb30031, 0, none⟩ (.int .i64 t30024)).setCell ⟨gb30031, 1, none⟩ (.int .i64 t30025)).setCell ⟨gb30031, 2, none⟩ (.slice Ao44 t30026.length co44)) w.heap.size (fun k_ => some k_ ≠ (.slice Ao39 y30021.length co39 : Value).ownBlock) (.slice Ao38 t30011.length co38) t30011) := ⟨by (with_reducible repeat (first | apply Kd.R_alloc | apply Kd.R_drewN | apply Kd.R_drew)); exact Kd.R_mono (Kd.R_far (p := ⟨gb30031, 2, none⟩) (Kd.R_far (p := ⟨gb30031, 1, none⟩) (Kd.R_far (p := ⟨gb30031, 0, none⟩) (Kd.R_types HO30013.out BK30031.out (by decide)) (fun _ hk => hk.2) (.int .i64 t30024)) (fun _ hk => hk.2) (.int .i64 t30025)) (fun _ hk => hk.2) (.slice Ao44 t30026.length co44)) (fun _ hk => hk.1.2)⟩
                            have n3_ : Aside0 (Kd.R (Kd.int .u8) 5 (((w41.setCell ⟨gb30031, 0, none⟩ (.int .i64 t30024)).setCell ⟨gb30031, 1, none⟩ (.int .i64 t30025)).setCell ⟨gb30031, 2, none⟩ (.slice Ao44 t30026.length co44)) w.heap.size (fun k_ => some k_ ≠ (.slice Ao38 t30011.length co38 : Value).ownBlock) (.slice Ao39 y30021.length co39) y30021) := ⟨by (with_reducible repeat (first | apply Kd.R_alloc | apply Kd.R_drewN | apply Kd.R_drew)); exact Kd.R_mono (Kd.R_far (p := ⟨gb30031, 2, none⟩) (Kd.R_far (p := ⟨gb30031, 1, none⟩) (Kd.R_far (p := ⟨gb30031, 0, none⟩) (Kd.R_types HO30023.out BK30031.out (by decide)) (fun _ hk => hk.2) (.int .i64 t30024)) (fun _ hk => hk.2) (.int .i64 t30025)) (fun _ hk => hk.2) (.slice Ao44 t30026.length co44)) (fun _ hk => hk.1)⟩
                            have n4_ : Aside0 (Kd.R (Kd.int .i64) 2 (((w41.setCell ⟨gb30031, 0, none⟩ (.int .i64 t30024)).setCell ⟨gb30031, 1, none⟩ (.int .i64 t30025)).setCell ⟨gb30031, 2, none⟩ (.slice Ao44 t30026.length co44)) w.heap.size (fun k_ => some k_ ≠ (.slice Ao28 t30001.length co28 : Value).ownBlock ∧ some k_ ≠ (.slice Ao32 t30006.length co32 : Value).ownBlock) (.slice Ao44 t30026.length co44) t30026) := ⟨by (with_reducible repeat (first | apply Kd.R_alloc | apply Kd.R_drewN | apply Kd.R_drew)); exact Kd.R_mono (Kd.R_far (p := ⟨gb30031, 2, none⟩) (Kd.R_far (p := ⟨gb30031, 1, none⟩) (Kd.R_far (p := ⟨gb30031, 0, none⟩) (Kd.R_types HO30028.out BK30031.out (by decide)) (fun _ hk => hk.2) (.int .i64 t30024)) (fun _ hk => hk.2) (.int .i64 t30025)) (fun _ hk => hk.2) (.slice Ao44 t30026.length co44)) (fun _ hk => ⟨hk.1.1.2, hk.1.2⟩)⟩
                            have n5_ : Aside0 ((((w41.setCell ⟨gb30031, 0, none⟩ (.int .i64 t30024)).setCell ⟨gb30031, 1, none⟩ (.int .i64 t30025)).setCell ⟨gb30031, 2, none⟩ (.slice Ao44 t30026.length co44)).heap[gb30010]? = some (.cells #[.int .i64 t30004, .int .i64 t30005, .slice Ao32 t30006.length co32] 61 (0, 0))) := ⟨by (with_reducible repeat (first | refine blk_drewN ?_ _ | refine blk_drew ?_ | refine blk_alloc ?_ _)); refine blk_far ?_ NB30010_30031.out _; (with_reducible repeat (first | refine blk_drewN ?_ _ | refine blk_drew ?_ | refine blk_alloc ?_ _)); refine blk_far ?_ NB30010_30031.out _; (with_reducible repeat (first | refine blk_drewN ?_ _ | refine blk_drew ?_ | refine blk_alloc ?_ _)); refine blk_far ?_ NB30010_30031.out _; (with_reducible repeat (first | refine blk_drewN ?_ _ | refine blk_drew ?_ | refine blk_alloc ?_ _)); exact BK30010.out⟩
                            have n6_ : Aside0 ((((w41.setCell ⟨gb30031, 0, none⟩ (.int .i64 t30024)).setCell ⟨gb30031, 1, none⟩ (.int .i64 t30025)).setCell ⟨gb30031, 2, none⟩ (.slice Ao44 t30026.length co44)).heap[gb30031]? = some (.cells #[.int .i64 t30024, .int .i64 t30025, .slice Ao44 t30026.length co44] 61 (0, 0))) := ⟨by (with_reducible repeat (first | refine blk_drewN ?_ _ | refine blk_drew ?_ | refine blk_alloc ?_ _)); refine blk_put (cs := #[.int .i64 t30024, .int .i64 t30025, .slice none 0 0]) ?_ 2 _ rfl; (with_reducible repeat (first | refine blk_drewN ?_ _ | refine blk_drew ?_ | refine blk_alloc ?_ _)); refine blk_put (cs := #[.int .i64 t30024, .int .i64 0, .slice none 0 0]) ?_ 1 _ rfl; (with_reducible repeat (first | refine blk_drewN ?_ _ | refine blk_drew ?_ | refine blk_alloc ?_ _)); refine blk_put (cs := #[.int .i64 0, .int .i64 0, .slice none 0 0]) ?_ 0 _ rfl; (with_reducible repeat (first | refine blk_drewN ?_ _ | refine blk_drew ?_ | refine blk_alloc ?_ _)); exact BK30031.out⟩
                            have n7_ : Aside0 (Below w.heap.size w (((w41.setCell ⟨gb30031, 0, none⟩ (.int .i64 t30024)).setCell ⟨gb30031, 1, none⟩ (.int .i64 t30025)).setCell ⟨gb30031, 2, none⟩ (.slice Ao44 t30026.length co44))) := ⟨by repeat (first | (with_reducible first | exact HB.out | apply below_alloc | apply pw_below_drewN | apply below_drew1 | refine below_set ?_ GE30010.out | refine below_set ?_ GE30031.out) | exact HB.out)⟩
                            (try clear HO30003)
                            (try clear HO30008)
                            (try clear HO30013)
                            (try clear HO30023)
                            (try clear HO30028)
                            (try clear BK30010)
                            (try clear BK30031)
                            (try clear HB)
                            generalize (((w41.setCell ⟨gb30031, 0, none⟩ (.int .i64 t30024)).setCell ⟨gb30031, 1, none⟩ (.int .i64 t30025)).setCell ⟨gb30031, 2, none⟩ (.slice Ao44 t30026.length co44)) = w45 at n0_ n1_ n2_ n3_ n4_ n5_ n6_ n7_ ⊢
                            have HO30003 := n0_
                            have HO30008 := n1_
                            have HO30013 := n2_
                            have HO30023 := n3_
                            have HO30028 := n4_
                            have BK30010 := n5_
                            have BK30031 := n6_
                            have HB := n7_
                            clear n0_ n1_ n2_ n3_ n4_ n5_ n6_ n7_
                            have n0_ := Aside0.mk (Kd.R_drew HO30003.out)
                            have n1_ := Aside0.mk (Kd.R_drew HO30008.out)
                            have n2_ := Aside0.mk (Kd.R_drew HO30013.out)
                            have n3_ := Aside0.mk (Kd.R_drew HO30023.out)
                            have n4_ := Aside0.mk (Kd.R_drew HO30028.out)
                            have n5_ := Aside0.mk (blk_drew BK30010.out)
                            have n6_ := Aside0.mk (blk_drew BK30031.out)
                            have n7_ := Aside0.mk (below_drew1 HB.out)
                            clear HO30003
                            clear HO30008
                            clear HO30013
                            clear HO30023
                            clear HO30028
                            clear BK30010
                            clear BK30031
                            clear HB
                            have HO30003 := n0_
                            have HO30008 := n1_
                            have HO30013 := n2_
                            have HO30023 := n3_
                            have HO30028 := n4_
                            have BK30010 := n5_
                            have BK30031 := n6_
                            have HB := n7_
                            clear n0_ n1_ n2_ n3_ n4_ n5_ n6_ n7_
                            refine start_ (n := 23) (S := fun w' => w'.cell? ⟨gb30031, 0, none⟩ = some (.int .i64 t30024) ∧ w'.cell? ⟨gb30031, 1, none⟩ = some (.int .i64 t30025) ∧ w'.cell? ⟨gb30031, 2, none⟩ = some (.slice Ao44 t30026.length co44) ∧ w'.cell? ⟨gb30010, 0, none⟩ = some (.int .i64 t30004) ∧ w'.cell? ⟨gb30010, 1, none⟩ = some (.int .i64 t30005) ∧ w'.cell? ⟨gb30010, 2, none⟩ = some (.slice Ao32 t30006.length co32)) (ds := []) #[false, false, false, false, false, false, false, false, false, false, false, false, false, false, false, false, false, false, false, false, false, false, false] (by kernel_rfl) rfl rfl ⟨(blk_cell BK30031.out 0).trans rfl, (blk_cell BK30031.out 1).trans rfl, (blk_cell BK30031.out 2).trans rfl, (blk_cell BK30010.out 0).trans rfl, (blk_cell BK30010.out 1).trans rfl, (blk_cell BK30010.out 2).trans rfl⟩ (fun hHeld => ?_); refine with_tabW columbariumlaw10_TicksBack.tab5 columbariumlaw10_TicksBack.bits5 (fun HT_ HW_ => ?_)
                            generalize w45.drew = w46 at HO30003 HO30008 HO30013 HO30023 HO30028 BK30010 BK30031 HB hHeld ⊢
                            refine pure_ (i := 0) (N := some 47) (v := ?_) (a' := ?_) #[true, false, false, false, false, false, false, false, false, false, false, false, false, false, false, false, false, false, false, false, false, false, false] rfl rfl (any_of HT_.out (by kernel_rfl)) (fun _ _ _ h => h) (Or.inl ⟨by rfl, ?_⟩) ?_ ?_
                            rotate_left
                            · intro w'
                              go_simp
                              with_reducible rfl
                            rotate_left
                            · simp only [Act.put, List.setIfInBounds_toArray, List.set_cons_zero, List.set_cons_succ, i64_w, i32_w]
                              rfl
                            refine pure_ (i := 1) (N := some 48) (v := ?_) (a' := ?_) #[true, true, false, false, false, false, false, false, false, false, false, false, false, false, false, false, false, false, false, false, false, false, false] rfl rfl (any_of HT_.out (by kernel_rfl)) (fun _ _ _ h => h) (Or.inl ⟨by rfl, ?_⟩) ?_ ?_
                            rotate_left
                            · intro w'
                              go_simp
                              with_reducible rfl
                            rotate_left
                            · simp only [Act.put, List.setIfInBounds_toArray, List.set_cons_zero, List.set_cons_succ, i64_w, i32_w]
                              rfl
                            refine pure_ (i := 2) (N := some 49) (v := ?_) (a' := ?_) #[true, true, true, false, false, false, false, false, false, false, false, false, false, false, false, false, false, false, false, false, false, false, false] rfl rfl (any_of HT_.out (by kernel_rfl)) (fun _ _ _ h => h) (Or.inl ⟨by rfl, ?_⟩) ?_ ?_
                            rotate_left
                            · intro w'
                              go_simp
                              with_reducible rfl
                            rotate_left
                            · simp only [Act.put, List.setIfInBounds_toArray, List.set_cons_zero, List.set_cons_succ, i64_w, i32_w]
                              rfl
                            refine pure_ (i := 3) (N := some 50) (v := ?_) (a' := ?_) #[true, true, true, true, false, false, false, false, false, false, false, false, false, false, false, false, false, false, false, false, false, false, false] rfl rfl (any_of HT_.out (by kernel_rfl)) (fun _ _ _ h => h) (Or.inl ⟨by rfl, ?_⟩) ?_ ?_
                            rotate_left
                            · intro w'
                              go_simp
                              with_reducible rfl
                            rotate_left
                            · simp only [Act.put, List.setIfInBounds_toArray, List.set_cons_zero, List.set_cons_succ, i64_w, i32_w]
                              rfl
                            refine pure_ (i := 4) (N := some 51) (v := ?_) (a' := ?_) #[true, true, true, true, true, false, false, false, false, false, false, false, false, false, false, false, false, false, false, false, false, false, false] rfl rfl (any_of HT_.out (by kernel_rfl)) (fun _ _ _ h => h) (Or.inl ⟨by rfl, ?_⟩) ?_ ?_
                            rotate_left
                            · intro w'
                              go_simp
                              with_reducible rfl
                            rotate_left
                            · simp only [Act.put, List.setIfInBounds_toArray, List.set_cons_zero, List.set_cons_succ, i64_w, i32_w]
                              rfl
                            refine pure_ (i := 5) (N := some 52) (v := ?_) (a' := ?_) #[true, true, true, true, true, true, false, false, false, false, false, false, false, false, false, false, false, false, false, false, false, false, false] rfl rfl (any_of HT_.out (by kernel_rfl)) (fun _ _ _ h => h) (Or.inl ⟨by rfl, ?_⟩) ?_ ?_
                            rotate_left
                            · intro w'
                              go_simp
                              with_reducible rfl
                            rotate_left
                            · simp only [Act.put, List.setIfInBounds_toArray, List.set_cons_zero, List.set_cons_succ, i64_w, i32_w]
                              rfl
                            refine pure_ (i := 6) (N := some 53) (v := ?_) (a' := ?_) #[true, true, true, true, true, true, true, false, false, false, false, false, false, false, false, false, false, false, false, false, false, false, false] rfl rfl (any_of HT_.out (by kernel_rfl)) (fun _ _ _ h => h) (Or.inl ⟨by rfl, ?_⟩) ?_ ?_
                            rotate_left
                            · intro w'
                              go_simp
                              with_reducible rfl
                            rotate_left
                            · simp only [Act.put, List.setIfInBounds_toArray, List.set_cons_zero, List.set_cons_succ, i64_w, i32_w]
                              rfl
                            refine pure_ (i := 7) (N := some 54) (v := ?_) (a' := ?_) #[true, true, true, true, true, true, true, true, false, false, false, false, false, false, false, false, false, false, false, false, false, false, false] rfl rfl (any_of HT_.out (by kernel_rfl)) (fun _ _ _ h => h) (Or.inl ⟨by rfl, ?_⟩) ?_ ?_
                            rotate_left
                            · intro w'
                              go_simp
                              with_reducible rfl
                            rotate_left
                            · simp only [Act.put, List.setIfInBounds_toArray, List.set_cons_zero, List.set_cons_succ, i64_w, i32_w]
                              rfl
                            refine pure_ (i := 8) (N := some 55) (v := ?_) (a' := ?_) #[true, true, true, true, true, true, true, true, true, false, false, false, false, false, false, false, false, false, false, false, false, false, false] rfl rfl (any_of HT_.out (by kernel_rfl)) (fun _ _ _ h => h) (Or.inl ⟨by rfl, ?_⟩) ?_ ?_
                            rotate_left
                            · intro w'
                              go_simp
                              with_reducible rfl
                            rotate_left
                            · simp only [Act.put, List.setIfInBounds_toArray, List.set_cons_zero, List.set_cons_succ, i64_w, i32_w]
                              rfl
                            refine pure_ (i := 9) (N := some 56) (v := ?_) (a' := ?_) #[true, true, true, true, true, true, true, true, true, true, false, false, false, false, false, false, false, false, false, false, false, false, false] rfl rfl (any_of HT_.out (by kernel_rfl)) (fun _ _ _ h => h) (Or.inl ⟨by rfl, ?_⟩) ?_ ?_
                            rotate_left
                            · intro w'
                              go_simp
                              with_reducible rfl
                            rotate_left
                            · simp only [Act.put, List.setIfInBounds_toArray, List.set_cons_zero, List.set_cons_succ, i64_w, i32_w]
                              rfl
                            refine pure_ (i := 10) (N := some 57) (v := ?_) (a' := ?_) #[true, true, true, true, true, true, true, true, true, true, true, false, false, false, false, false, false, false, false, false, false, false, false] rfl rfl (any_of HT_.out (by kernel_rfl)) (fun _ _ _ h => h) (Or.inl ⟨by rfl, ?_⟩) ?_ ?_
                            rotate_left
                            · intro w'
                              go_simp
                              with_reducible rfl
                            rotate_left
                            · simp only [Act.put, List.setIfInBounds_toArray, List.set_cons_zero, List.set_cons_succ, i64_w, i32_w]
                              rfl
                            refine pure_ (i := 11) (N := some 58) (v := ?_) (a' := ?_) #[true, true, true, true, true, true, true, true, true, true, true, true, false, false, false, false, false, false, false, false, false, false, false] rfl rfl (any_of HT_.out (by kernel_rfl)) (fun _ _ _ h => h) (Or.inl ⟨by rfl, ?_⟩) ?_ ?_
                            rotate_left
                            · intro w'
                              go_simp
                              with_reducible rfl
                            rotate_left
                            · simp only [Act.put, List.setIfInBounds_toArray, List.set_cons_zero, List.set_cons_succ, i64_w, i32_w]
                              rfl
                            refine pure_ (i := 12) (N := some 59) (v := ?_) (a' := ?_) #[true, true, true, true, true, true, true, true, true, true, true, true, true, false, false, false, false, false, false, false, false, false, false] rfl rfl (any_of HT_.out (by kernel_rfl)) (fun _ _ _ h => h) (Or.inl ⟨by rfl, ?_⟩) ?_ ?_
                            rotate_left
                            · intro w'
                              go_simp
                              with_reducible rfl
                            rotate_left
                            · simp only [Act.put, List.setIfInBounds_toArray, List.set_cons_zero, List.set_cons_succ, i64_w, i32_w]
                              rfl
                            refine pure_ (i := 13) (N := some 60) (v := ?_) (a' := ?_) #[true, true, true, true, true, true, true, true, true, true, true, true, true, true, false, false, false, false, false, false, false, false, false] rfl rfl (any_of HT_.out (by kernel_rfl)) (fun _ _ _ h => h) (Or.inl ⟨by rfl, ?_⟩) ?_ ?_
                            rotate_left
                            · intro w'
                              go_simp
                              with_reducible rfl
                            rotate_left
                            · simp only [Act.put, List.setIfInBounds_toArray, List.set_cons_zero, List.set_cons_succ, i64_w, i32_w]
                              rfl
                            refine pure_ (i := 14) (N := some 61) (v := ?_) (a' := ?_) #[true, true, true, true, true, true, true, true, true, true, true, true, true, true, true, false, false, false, false, false, false, false, false] rfl rfl (any_of HT_.out (by kernel_rfl)) (fun _ _ _ h => h) (Or.inl ⟨by rfl, ?_⟩) ?_ ?_
                            rotate_left
                            · intro w'
                              go_simp
                              with_reducible rfl
                            rotate_left
                            · simp only [Act.put, List.setIfInBounds_toArray, List.set_cons_zero, List.set_cons_succ, i64_w, i32_w]
                              rfl
                            refine pure_ (i := 15) (N := some 62) (v := ?_) (a' := ?_) #[true, true, true, true, true, true, true, true, true, true, true, true, true, true, true, true, false, false, false, false, false, false, false] rfl rfl (any_of HT_.out (by kernel_rfl)) (fun _ _ _ h => h) (Or.inl ⟨by rfl, ?_⟩) ?_ ?_
                            rotate_left
                            · intro w'
                              go_simp
                              with_reducible rfl
                            rotate_left
                            · simp only [Act.put, List.setIfInBounds_toArray, List.set_cons_zero, List.set_cons_succ, i64_w, i32_w]
                              rfl
                            refine pure_ (i := 16) (N := some 63) (v := ?_) (a' := ?_) #[true, true, true, true, true, true, true, true, true, true, true, true, true, true, true, true, true, false, false, false, false, false, false] rfl rfl (any_of HT_.out (by kernel_rfl)) (fun _ _ _ h => h) (Or.inl ⟨by rfl, ?_⟩) ?_ ?_
                            rotate_left
                            · intro w'
                              go_simp
                              with_reducible rfl
                            rotate_left
                            · simp only [Act.put, List.setIfInBounds_toArray, List.set_cons_zero, List.set_cons_succ, i64_w, i32_w]
                              rfl
                            refine take_ (i := 17) (N := some 64) (v := ?_) (a' := ?_) #[true, true, true, true, true, true, true, true, true, true, true, true, true, true, true, true, true, true, false, false, false, false, false] rfl rfl (take_ofW HT_.out HW_.out (by kernel_rfl)) (fun _ _ _ h => h) (Or.inl ⟨by rfl, ?_⟩) hHeld ?_ ?_
                            rotate_left
                            · rintro w' ⟨s0, s1, s2, s3, s4, s5⟩
                              go_simp
                              with_reducible rfl
                            rotate_left
                            · simp only [Act.put, List.setIfInBounds_toArray, List.set_cons_zero, List.set_cons_succ, i64_w, i32_w]
                              rfl
                            refine take_ (i := 18) (N := some 65) (v := ?_) (a' := ?_) #[true, true, true, true, true, true, true, true, true, true, true, true, true, true, true, true, true, true, true, false, false, false, false] rfl rfl (take_ofW HT_.out HW_.out (by kernel_rfl)) (fun _ _ _ h => h) (Or.inl ⟨by rfl, ?_⟩) hHeld ?_ ?_
                            rotate_left
                            · rintro w' ⟨s0, s1, s2, s3, s4, s5⟩
                              go_simp
                              with_reducible rfl
                            rotate_left
                            · simp only [Act.put, List.setIfInBounds_toArray, List.set_cons_zero, List.set_cons_succ, i64_w, i32_w]
                              rfl
                            refine one_ (i := 19) (N := some 66) #[true, true, true, true, true, true, true, true, true, true, true, true, true, true, true, true, true, true, true, true, false, false, false] rfl rfl (one_of HT_.out (by kernel_rfl)) (by decide) (fun K hK => ?_)
                            refine goes_ Try.func39 (by kernel_rfl) rfl #[.agg #[.int .i64 t30004, .int .i64 t30005, .slice Ao32 t30006.length co32]] (by rfl) rfl rfl (by (try simp only [List.map_toArray, List.map_cons, List.map_nil]); first | done | rfl | (simp only [List.length_drop, List.length_take]; rfl)) ?_
                            with_reducible refine (columbariumlaw10_in.calls t30004 t30005 (fun k_ => some k_ = (.slice Ao32 t30006.length co32 : Value).ownBlock) (.slice Ao32 t30006.length co32) t30006 t30032 t30033 t30034 w _ ?side1 ?side2 A15.out).mono ?_
                            (case side1 => repeat (first | (with_reducible first | exact HB.out | apply below_alloc | apply pw_below_drewN | apply below_drew1 | refine below_set ?_ GE30010.out | refine below_set ?_ GE30031.out) | exact HB.out))
                            (case side2 => exact Kd.R_tight rfl HO30008.out)
                            rintro e w47 ⟨v30035, rfl, ho0, hb, hkp⟩
                            refine ⟨_, rfl, ?_⟩
                            have n0_ := Aside0.mk (Kd.R_mono (ok' := fun k_ => some k_ ≠ (.slice Ao44 t30026.length co44 : Value).ownBlock ∧ some k_ ≠ (v30035 : Value).ownBlock) (Kd.R_keptB (HO30003.out) hkp (fun k_ hk_ hs_ => (hk_.1) hs_)) (fun k_ hk_ => ⟨hk_.1.2, fun e_ => Or.elim (ho0.1 k_ e_.symm) (fun hs_ => hk_.2.1 hs_) (fun hn_ => Nat.not_le.2 hk_.2.2 hn_)⟩))
                            have n1_ := Aside0.mk (blk_kept (by (with_reducible repeat (first | refine blk_drewN ?_ _ | refine blk_drew ?_ | refine blk_alloc ?_ _)); exact BK30010.out) hkp (fun hs_ => (fun e_ => (Kd.R_ne HO30008.out BK30010.out (by decide)) e_) hs_))
                            have n2_ := Aside0.mk (Kd.R_mono (ok' := fun k_ => some k_ ≠ (.slice Ao39 y30021.length co39 : Value).ownBlock) (Kd.R_keptB ((Kd.R_apart' HO30013.out (Kd.R_typed HO30008.out) (by decide))) hkp (fun k_ hk_ hs_ => (hk_.2) hs_)) (fun k_ hk_ => hk_.1.1))
                            have n3_ := Aside0.mk (Kd.R_mono (ok' := fun k_ => some k_ ≠ (.slice Ao38 t30011.length co38 : Value).ownBlock) (Kd.R_keptB ((Kd.R_apart' HO30023.out (Kd.R_typed HO30008.out) (by decide))) hkp (fun k_ hk_ hs_ => (hk_.2) hs_)) (fun k_ hk_ => hk_.1.1))
                            have n4_ := Aside0.mk (Kd.R_mono (ok' := fun k_ => some k_ ≠ (.slice Ao28 t30001.length co28 : Value).ownBlock ∧ some k_ ≠ (v30035 : Value).ownBlock) (Kd.R_keptB (HO30028.out) hkp (fun k_ hk_ hs_ => (hk_.2) hs_)) (fun k_ hk_ => ⟨hk_.1.1, fun e_ => Or.elim (ho0.1 k_ e_.symm) (fun hs_ => hk_.2.1 hs_) (fun hn_ => Nat.not_le.2 hk_.2.2 hn_)⟩))
                            have n5_ := Aside0.mk (blk_kept (by (with_reducible repeat (first | refine blk_drewN ?_ _ | refine blk_drew ?_ | refine blk_alloc ?_ _)); exact BK30031.out) hkp (fun hs_ => (fun e_ => (Kd.R_ne HO30008.out BK30031.out (by decide)) e_) hs_))
                            have n6_ := Aside0.mk (Kd.R_mono (ok' := fun k_ => some k_ ≠ (.slice Ao28 t30001.length co28 : Value).ownBlock ∧ some k_ ≠ (.slice Ao44 t30026.length co44 : Value).ownBlock) ho0 (fun k_ hk_ => ⟨Or.elim hk_ (fun hs_ => fun e_ => (((HO30003.out).1 k_ e_.symm).1) hs_) (fun hn_ => (Kd.fresh' (Kd.R_lt (by (with_reducible repeat (first | apply Kd.R_alloc | apply Kd.R_drewN | apply Kd.R_drew)); exact HO30003.out)) k_ hn_)), Or.elim hk_ (fun hs_ => fun e_ => (((HO30028.out).1 k_ e_.symm).2) hs_) (fun hn_ => (Kd.fresh' (Kd.R_lt (by (with_reducible repeat (first | apply Kd.R_alloc | apply Kd.R_drewN | apply Kd.R_drew)); exact HO30028.out)) k_ hn_))⟩))
                            have n7_ := Aside0.mk (hb)
                            clear HO30003
                            clear BK30010
                            clear HO30013
                            clear HO30023
                            clear HO30028
                            clear BK30031
                            clear HB
                            clear HO30008
                            have HO30003 := n0_
                            have BK30010 := n1_
                            have HO30013 := n2_
                            have HO30023 := n3_
                            have HO30028 := n4_
                            have BK30031 := n5_
                            have HO30036 := n6_
                            have HB := n7_
                            clear n0_ n1_ n2_ n3_ n4_ n5_ n6_ n7_
                            (try clear hb)
                            (try clear hkp)
                            (try clear ho0)
                            obtain ⟨Ao48, co48, eo48⟩ := Kd.R_slice HO30036.out
                            (first | subst eo48 | (injection eo48 with f1_ f2_ f3_; have f4_ := f1_.symm; have f5_ := f3_.symm; clear f1_ f2_ f3_; subst f4_; subst f5_))
                            refine hK.out _ _ ⟨(blk_cell BK30031.out 0).trans rfl, (blk_cell BK30031.out 1).trans rfl, (blk_cell BK30031.out 2).trans rfl, (blk_cell BK30010.out 0).trans rfl, (blk_cell BK30010.out 1).trans rfl, (blk_cell BK30010.out 2).trans rfl⟩ (fun hHeld => ?_)
                            clear hK K
                            refine norm_ (a' := ?_) ?_ ?_
                            rotate_left
                            · show Act.put _ (some 66) _ = _
                              simp only [Act.put, List.setIfInBounds_toArray, List.set_cons_zero, List.set_cons_succ, i64_w, i32_w]
                              rfl
                            refine one_ (i := 20) (N := some 67) #[true, true, true, true, true, true, true, true, true, true, true, true, true, true, true, true, true, true, true, true, true, false, false] rfl rfl (one_of HT_.out (by kernel_rfl)) (by decide) (fun K hK => ?_)
                            refine goes_ Try.func35 (by kernel_rfl) rfl #[.agg #[.int .i64 t30024, .int .i64 t30025, .slice Ao44 t30026.length co44], .agg #[.int .i64 t30032, .int .i64 t30033, .slice Ao48 t30034.length co48]] (by rfl) rfl rfl (by (try simp only [List.map_toArray, List.map_cons, List.map_nil]); first | done | rfl | (simp only [List.length_drop, List.length_take]; rfl)) ?_
                            with_reducible refine (columbariumlaw10_same.calls k t30024 t30025 _ _ t30026 t30032 t30033 _ _ t30034 true _ ?side1 ?side2 ?side3 ?side4 A16.out).mono ?_
                            (case side1 => repeat (first | exact (Kd.R_reads' HO30028.out).2.2 | (with_reducible refine Kd.C_alloc ?_ _) | (with_reducible refine Kd.C_drewN ?_ _) | (with_reducible refine Kd.C_drew ?_)))
                            (case side2 => exact (Kd.R_reads' HO30028.out).2.1)
                            (case side3 => repeat (first | exact (Kd.R_reads' HO30036.out).2.2 | (with_reducible refine Kd.C_alloc ?_ _) | (with_reducible refine Kd.C_drewN ?_ _) | (with_reducible refine Kd.C_drew ?_)))
                            (case side4 => exact (Kd.R_reads' HO30036.out).2.1)
                            rintro e w49 ⟨rfl, hb⟩
                            refine ⟨_, rfl, ?_⟩
                            have n0_ := Aside0.mk (Kd.R_below (by (with_reducible repeat (first | apply Kd.R_alloc | apply Kd.R_drewN | apply Kd.R_drew)); exact HO30003.out) hb)
                            have n1_ := Aside0.mk (Kd.R_below (by (with_reducible repeat (first | apply Kd.R_alloc | apply Kd.R_drewN | apply Kd.R_drew)); exact HO30013.out) hb)
                            have n2_ := Aside0.mk (Kd.R_below (by (with_reducible repeat (first | apply Kd.R_alloc | apply Kd.R_drewN | apply Kd.R_drew)); exact HO30023.out) hb)
                            have n3_ := Aside0.mk (Kd.R_below (by (with_reducible repeat (first | apply Kd.R_alloc | apply Kd.R_drewN | apply Kd.R_drew)); exact HO30028.out) hb)
                            have n4_ := Aside0.mk (Kd.R_below (by (with_reducible repeat (first | apply Kd.R_alloc | apply Kd.R_drewN | apply Kd.R_drew)); exact HO30036.out) hb)
                            have n5_ := Aside0.mk (blk_below (g := gb30010) (o := .cells #[.int .i64 t30004, .int .i64 t30005, .slice Ao32 t30006.length co32] 61 (0, 0)) (by (with_reducible repeat (first | refine blk_drewN ?_ _ | refine blk_drew ?_ | refine blk_alloc ?_ _)); exact BK30010.out) hb)
                            have n6_ := Aside0.mk (blk_below (g := gb30031) (o := .cells #[.int .i64 t30024, .int .i64 t30025, .slice Ao44 t30026.length co44] 61 (0, 0)) (by (with_reducible repeat (first | refine blk_drewN ?_ _ | refine blk_drew ?_ | refine blk_alloc ?_ _)); exact BK30031.out) hb)
                            have n7_ := Aside0.mk (below_step (by repeat (first | (with_reducible first | exact HB.out | apply below_alloc | apply pw_below_drewN | apply below_drew1 | refine below_set ?_ GE30010.out | refine below_set ?_ GE30031.out) | exact HB.out)) hb)
                            clear HO30003
                            clear HO30013
                            clear HO30023
                            clear HO30028
                            clear HO30036
                            clear BK30010
                            clear BK30031
                            clear HB
                            have HO30003 := n0_
                            have HO30013 := n1_
                            have HO30023 := n2_
                            have HO30028 := n3_
                            have HO30036 := n4_
                            have BK30010 := n5_
                            have BK30031 := n6_
                            have HB := n7_
                            clear n0_ n1_ n2_ n3_ n4_ n5_ n6_ n7_
                            (try clear hb)
                            (try clear hb2)
                            (try clear hk)
                            (try clear hi)
                            refine hK.out _ _ ⟨(blk_cell BK30031.out 0).trans rfl, (blk_cell BK30031.out 1).trans rfl, (blk_cell BK30031.out 2).trans rfl, (blk_cell BK30010.out 0).trans rfl, (blk_cell BK30010.out 1).trans rfl, (blk_cell BK30010.out 2).trans rfl⟩ (fun hHeld => ?_)
                            clear hK K
                            refine norm_ (a' := ?_) ?_ ?_
                            rotate_left
                            · show Act.put _ (some 67) _ = _
                              simp only [Act.put, List.setIfInBounds_toArray, List.set_cons_zero, List.set_cons_succ, i64_w, i32_w]
                              rfl
                            refine pure_ (i := 21) (N := some 68) (v := ?_) (a' := ?_) #[true, true, true, true, true, true, true, true, true, true, true, true, true, true, true, true, true, true, true, true, true, true, false] rfl rfl (any_of HT_.out (by kernel_rfl)) (fun _ _ _ h => h) (Or.inl ⟨by rfl, ?_⟩) ?_ ?_
                            rotate_left
                            · intro w'
                              go_simp
                              with_reducible rfl
                            rotate_left
                            · simp only [Act.put, List.setIfInBounds_toArray, List.set_cons_zero, List.set_cons_succ, i64_w, i32_w]
                              rfl
                            refine pure_ (i := 22) (N := some 69) (v := ?_) (a' := ?_) #[true, true, true, true, true, true, true, true, true, true, true, true, true, true, true, true, true, true, true, true, true, true, true] rfl rfl (any_of HT_.out (by kernel_rfl)) (fun _ _ _ h => h) (Or.inl ⟨by rfl, ?_⟩) ?_ ?_
                            rotate_left
                            · intro w'
                              go_simp
                              with_reducible rfl
                            rotate_left
                            · simp only [Act.put, List.setIfInBounds_toArray, List.set_cons_zero, List.set_cons_succ, i64_w, i32_w]
                              rfl
                            refine done_ (done_of HT_.out (by kernel_rfl)) ?_
                            try go_wp2_with (first | ((with_reducible refine gate_callee (f := 41) rfl ?_); refine goesL_ (some 72) rfl rfl Try.func41 (by kernel_rfl) rfl #[.slice A3 l3.length c3, .int .i64 0] rfl (by (try simp only [List.map_toArray, List.map_cons, List.map_nil]); first | done | rfl | (simp only [List.length_drop, List.length_take]; rfl)) ?_; (with_reducible refine (ticks_Decode.calls k _ _ l3 0 t30038 t30039 t30040 t30043 t30044 _ ?side1 ?side2 A18.out).mono ?_); (case side1 => repeat (first | exact (Kd.C_below HR3.out HB.out) | (with_reducible refine Kd.C_alloc ?_ _) | (with_reducible refine Kd.C_drewN ?_ _) | (with_reducible refine Kd.C_drew ?_))); (case side2 => exact HC3.out); rintro e w50 ⟨v30041, rfl, ho0, hb⟩; refine ⟨_, rfl, ?_⟩; have n0_ := Aside0.mk (Kd.R_elder' (by (with_reducible repeat (first | apply Kd.R_alloc | apply Kd.R_drewN | apply Kd.R_drew)); exact HO30003.out) (Kd.R_base ho0) hb); have n1_ := Aside0.mk (Kd.R_below (by (with_reducible repeat (first | apply Kd.R_alloc | apply Kd.R_drewN | apply Kd.R_drew)); exact HO30013.out) hb); have n2_ := Aside0.mk (Kd.R_below (by (with_reducible repeat (first | apply Kd.R_alloc | apply Kd.R_drewN | apply Kd.R_drew)); exact HO30023.out) hb); have n3_ := Aside0.mk (Kd.R_elder' (by (with_reducible repeat (first | apply Kd.R_alloc | apply Kd.R_drewN | apply Kd.R_drew)); exact HO30028.out) (Kd.R_base ho0) hb); have n4_ := Aside0.mk (Kd.R_elder' (by (with_reducible repeat (first | apply Kd.R_alloc | apply Kd.R_drewN | apply Kd.R_drew)); exact HO30036.out) (Kd.R_base ho0) hb); have n5_ := Aside0.mk (Kd.R_lower (Kd.R_new' (Kd.R_new' (Kd.R_new' ho0 (Kd.R_lt (by (with_reducible repeat (first | apply Kd.R_alloc | apply Kd.R_drewN | apply Kd.R_drew)); exact HO30003.out))) (Kd.R_lt (by (with_reducible repeat (first | apply Kd.R_alloc | apply Kd.R_drewN | apply Kd.R_drew)); exact HO30028.out))) (Kd.R_lt (by (with_reducible repeat (first | apply Kd.R_alloc | apply Kd.R_drewN | apply Kd.R_drew)); exact HO30036.out))) (below_size (by repeat (first | (with_reducible first | exact HB.out | apply below_alloc | apply pw_below_drewN | apply below_drew1 | refine below_set ?_ GE30010.out | refine below_set ?_ GE30031.out) | exact HB.out)))); have n6_ := Aside0.mk (blk_below (g := gb30010) (o := .cells #[.int .i64 t30004, .int .i64 t30005, .slice Ao32 t30006.length co32] 61 (0, 0)) (by (with_reducible repeat (first | refine blk_drewN ?_ _ | refine blk_drew ?_ | refine blk_alloc ?_ _)); exact BK30010.out) hb); have n7_ := Aside0.mk (blk_below (g := gb30031) (o := .cells #[.int .i64 t30024, .int .i64 t30025, .slice Ao44 t30026.length co44] 61 (0, 0)) (by (with_reducible repeat (first | refine blk_drewN ?_ _ | refine blk_drew ?_ | refine blk_alloc ?_ _)); exact BK30031.out) hb); have n8_ := Aside0.mk (below_step (by repeat (first | (with_reducible first | exact HB.out | apply below_alloc | apply pw_below_drewN | apply below_drew1 | refine below_set ?_ GE30010.out | refine below_set ?_ GE30031.out) | exact HB.out)) hb); clear HO30003; clear HO30013; clear HO30023; clear HO30028; clear HO30036; clear BK30010; clear BK30031; clear HB; have HO30003 := n0_; have HO30013 := n1_; have HO30023 := n2_; have HO30028 := n3_; have HO30036 := n4_; have HO30042 := n5_; have BK30010 := n6_; have BK30031 := n7_; have HB := n8_; clear n0_ n1_ n2_ n3_ n4_ n5_ n6_ n7_ n8_; (try clear hb); (try clear hb2); (try clear hk); (try clear hi); (try clear ho0)) | ((with_reducible refine gate_dst (N := 17) rfl ?_); (try (refine gate_guard (by rfl) ?_; dsimp only)); refine box_event ?hg (N := 17) ?hd (cs := #[.int .i64 0, .int .i64 0, .slice none 0 0]) (t := 61) ?hr ?_; (case hd => rfl); (case hg => rfl); (case hr => first | (go_simp; done) | (go_simp; rfl)); intro gb30045 hg w51 hbox hb; have n0_ := Aside0.mk (Kd.R_below (by (with_reducible repeat (first | apply Kd.R_alloc | apply Kd.R_drewN | apply Kd.R_drew)); exact HO30003.out) hb); have n1_ := Aside0.mk (Kd.R_below (by (with_reducible repeat (first | apply Kd.R_alloc | apply Kd.R_drewN | apply Kd.R_drew)); exact HO30013.out) hb); have n2_ := Aside0.mk (Kd.R_below (by (with_reducible repeat (first | apply Kd.R_alloc | apply Kd.R_drewN | apply Kd.R_drew)); exact HO30023.out) hb); have n3_ := Aside0.mk (Kd.R_below (by (with_reducible repeat (first | apply Kd.R_alloc | apply Kd.R_drewN | apply Kd.R_drew)); exact HO30028.out) hb); have n4_ := Aside0.mk (Kd.R_below (by (with_reducible repeat (first | apply Kd.R_alloc | apply Kd.R_drewN | apply Kd.R_drew)); exact HO30036.out) hb); have n5_ := Aside0.mk (Kd.R_below (by (with_reducible repeat (first | apply Kd.R_alloc | apply Kd.R_drewN | apply Kd.R_drew)); exact HO30042.out) hb); have n6_ := Aside0.mk (blk_below (g := gb30010) (o := .cells #[.int .i64 t30004, .int .i64 t30005, .slice Ao32 t30006.length co32] 61 (0, 0)) (by (with_reducible repeat (first | refine blk_drewN ?_ _ | refine blk_drew ?_ | refine blk_alloc ?_ _)); exact BK30010.out) hb); have n7_ := Aside0.mk (blk_below (g := gb30031) (o := .cells #[.int .i64 t30024, .int .i64 t30025, .slice Ao44 t30026.length co44] 61 (0, 0)) (by (with_reducible repeat (first | refine blk_drewN ?_ _ | refine blk_drew ?_ | refine blk_alloc ?_ _)); exact BK30031.out) hb); have n8_ := Aside0.mk (below_step (by repeat (first | (with_reducible first | exact HB.out | apply below_alloc | apply pw_below_drewN | apply below_drew1 | refine below_set ?_ GE30010.out | refine below_set ?_ GE30031.out) | exact HB.out)) hb); have n9_ := Aside0.mk (hbox); have n10_ := Aside0.mk ((by rw [hg]; exact (below_size (by repeat (first | (with_reducible first | exact HB.out | apply below_alloc | apply pw_below_drewN | apply below_drew1 | refine below_set ?_ GE30010.out | refine below_set ?_ GE30031.out) | exact HB.out))) : w.heap.size ≤ gb30045)); have n11_ := Aside0.mk ((by rw [hg]; exact (below_size (by repeat (first | (with_reducible first | exact HB.out | apply below_alloc | apply pw_below_drewN | apply below_drew1 | refine below_set ?_ GE30010.out | refine below_set ?_ GE30031.out) | exact HB.out))) : w.heap.size ≤ gb30045)); have n12_ := Aside0.mk ((by rw [hg]; exact Nat.ne_of_lt (blk_lt (g := gb30010) (o := .cells #[.int .i64 t30004, .int .i64 t30005, .slice Ao32 t30006.length co32] 61 (0, 0)) (by (with_reducible repeat (first | refine blk_drewN ?_ _ | refine blk_drew ?_ | refine blk_alloc ?_ _)); exact BK30010.out)) : gb30010 ≠ gb30045)); have n13_ := Aside0.mk ((by rw [hg]; exact Nat.ne_of_gt (blk_lt (g := gb30010) (o := .cells #[.int .i64 t30004, .int .i64 t30005, .slice Ao32 t30006.length co32] 61 (0, 0)) (by (with_reducible repeat (first | refine blk_drewN ?_ _ | refine blk_drew ?_ | refine blk_alloc ?_ _)); exact BK30010.out)) : gb30045 ≠ gb30010)); have n14_ := Aside0.mk ((by rw [hg]; exact Nat.ne_of_lt (blk_lt (g := gb30031) (o := .cells #[.int .i64 t30024, .int .i64 t30025, .slice Ao44 t30026.length co44] 61 (0, 0)) (by (with_reducible repeat (first | refine blk_drewN ?_ _ | refine blk_drew ?_ | refine blk_alloc ?_ _)); exact BK30031.out)) : gb30031 ≠ gb30045)); have n15_ := Aside0.mk ((by rw [hg]; exact Nat.ne_of_gt (blk_lt (g := gb30031) (o := .cells #[.int .i64 t30024, .int .i64 t30025, .slice Ao44 t30026.length co44] 61 (0, 0)) (by (with_reducible repeat (first | refine blk_drewN ?_ _ | refine blk_drew ?_ | refine blk_alloc ?_ _)); exact BK30031.out)) : gb30045 ≠ gb30031)); clear HO30003; clear HO30013; clear HO30023; clear HO30028; clear HO30036; clear HO30042; clear BK30010; clear BK30031; clear HB; have HO30003 := n0_; have HO30013 := n1_; have HO30023 := n2_; have HO30028 := n3_; have HO30036 := n4_; have HO30042 := n5_; have BK30010 := n6_; have BK30031 := n7_; have HB := n8_; have BK30045 := n9_; have GW30045 := n10_; have GE30045 := n11_; have NB30010_30045 := n12_; have NB30045_30010 := n13_; have NB30031_30045 := n14_; have NB30045_30031 := n15_; clear n0_ n1_ n2_ n3_ n4_ n5_ n6_ n7_ n8_ n9_ n10_ n11_ n12_ n13_ n14_ n15_; clear hb hbox hg; have hnb52 := NB30045_30010.out; have hnc52 := NB30010_30045.out; have hnb53 := NB30045_30031.out; have hnc53 := NB30031_30045.out; have hcz54_0 : w51.cell? ⟨gb30045, 0, none⟩ = some (.int .i64 0) := (blk_cell BK30045.out 0).trans rfl; have hcz54_1 : w51.cell? ⟨gb30045, 1, none⟩ = some (.int .i64 0) := (blk_cell BK30045.out 1).trans rfl; have hcz54_2 : w51.cell? ⟨gb30045, 2, none⟩ = some (.slice none 0 0) := (blk_cell BK30045.out 2).trans rfl; have hfz54_0 := blk_frozen BK30045.out 0; have hfz54_1 := blk_frozen BK30045.out 1; have hfz54_2 := blk_frozen BK30045.out 2; obtain ⟨Ao55, co55, eo55⟩ := Kd.R_slice HO30042.out; subst eo55) | ((with_reducible refine gate_callee (f := 37) rfl ?_); refine goesL_ (some 80) rfl rfl Try.func37 (by kernel_rfl) rfl #[.agg #[.int .i64 t30038, .int .i64 t30039, .slice Ao55 t30040.length co55]] rfl (by (try simp only [List.map_toArray, List.map_cons, List.map_nil]); first | done | rfl | (simp only [List.length_drop, List.length_take]; rfl)) ?_; (with_reducible refine (ticks_Encode.calls k t30038 t30039 _ _ t30040 t30046 t30049 _ ?side1 ?side2 A20.out).mono ?_); (case side1 => refine (Kd.R_reads' (e := 2) (base := w.heap.size) (ok := fun k_ => (((True ∧ some k_ ≠ (.slice Ao28 t30001.length co28 : Value).ownBlock) ∧ some k_ ≠ (.slice Ao44 t30026.length co44 : Value).ownBlock) ∧ some k_ ≠ (.slice Ao48 t30034.length co48 : Value).ownBlock)) (n := t30040.length) (c := co55) ?_).2.2; exact (by (with_reducible repeat (first | apply Kd.R_alloc | apply Kd.R_drewN | apply Kd.R_drew)); exact (Kd.R_mono (Kd.R_far (p := ⟨gb30045, 2, none⟩) (Kd.R_far (p := ⟨gb30045, 1, none⟩) (Kd.R_far (p := ⟨gb30045, 0, none⟩) (Kd.R_types HO30042.out BK30045.out (by decide)) (fun _ hk => hk.2) (.int .i64 t30038)) (fun _ hk => hk.2) (.int .i64 t30039)) (fun _ hk => hk.2) (.slice Ao55 t30040.length co55)) (fun _ h_ => h_.1)))); (case side2 => exact (Kd.R_reads' HO30042.out).2.1); rintro e w56 ⟨v30047, rfl, ho0, hb⟩; refine ⟨_, rfl, ?_⟩; have n0_ := Aside0.mk (Kd.R_below (by (with_reducible repeat (first | apply Kd.R_alloc | apply Kd.R_drewN | apply Kd.R_drew)); exact (Kd.R_mono (Kd.R_far (p := ⟨gb30045, 2, none⟩) (Kd.R_far (p := ⟨gb30045, 1, none⟩) (Kd.R_far (p := ⟨gb30045, 0, none⟩) (Kd.R_types HO30003.out BK30045.out (by decide)) (fun _ hk => hk.2) (.int .i64 t30038)) (fun _ hk => hk.2) (.int .i64 t30039)) (fun _ hk => hk.2) (.slice Ao55 t30040.length co55)) (fun _ h_ => h_.1))) hb); have n1_ := Aside0.mk (Kd.R_elder' (by (with_reducible repeat (first | apply Kd.R_alloc | apply Kd.R_drewN | apply Kd.R_drew)); exact (Kd.R_mono (Kd.R_far (p := ⟨gb30045, 2, none⟩) (Kd.R_far (p := ⟨gb30045, 1, none⟩) (Kd.R_far (p := ⟨gb30045, 0, none⟩) (Kd.R_types HO30013.out BK30045.out (by decide)) (fun _ hk => hk.2) (.int .i64 t30038)) (fun _ hk => hk.2) (.int .i64 t30039)) (fun _ hk => hk.2) (.slice Ao55 t30040.length co55)) (fun _ h_ => h_.1))) (Kd.R_base ho0) hb); have n2_ := Aside0.mk (Kd.R_elder' (by (with_reducible repeat (first | apply Kd.R_alloc | apply Kd.R_drewN | apply Kd.R_drew)); exact (Kd.R_mono (Kd.R_far (p := ⟨gb30045, 2, none⟩) (Kd.R_far (p := ⟨gb30045, 1, none⟩) (Kd.R_far (p := ⟨gb30045, 0, none⟩) (Kd.R_types HO30023.out BK30045.out (by decide)) (fun _ hk => hk.2) (.int .i64 t30038)) (fun _ hk => hk.2) (.int .i64 t30039)) (fun _ hk => hk.2) (.slice Ao55 t30040.length co55)) (fun _ h_ => h_.1))) (Kd.R_base ho0) hb); have n3_ := Aside0.mk (Kd.R_below (by (with_reducible repeat (first | apply Kd.R_alloc | apply Kd.R_drewN | apply Kd.R_drew)); exact (Kd.R_mono (Kd.R_far (p := ⟨gb30045, 2, none⟩) (Kd.R_far (p := ⟨gb30045, 1, none⟩) (Kd.R_far (p := ⟨gb30045, 0, none⟩) (Kd.R_types HO30028.out BK30045.out (by decide)) (fun _ hk => hk.2) (.int .i64 t30038)) (fun _ hk => hk.2) (.int .i64 t30039)) (fun _ hk => hk.2) (.slice Ao55 t30040.length co55)) (fun _ h_ => h_.1))) hb); have n4_ := Aside0.mk (Kd.R_below (by (with_reducible repeat (first | apply Kd.R_alloc | apply Kd.R_drewN | apply Kd.R_drew)); exact (Kd.R_mono (Kd.R_far (p := ⟨gb30045, 2, none⟩) (Kd.R_far (p := ⟨gb30045, 1, none⟩) (Kd.R_far (p := ⟨gb30045, 0, none⟩) (Kd.R_types HO30036.out BK30045.out (by decide)) (fun _ hk => hk.2) (.int .i64 t30038)) (fun _ hk => hk.2) (.int .i64 t30039)) (fun _ hk => hk.2) (.slice Ao55 t30040.length co55)) (fun _ h_ => h_.1))) hb); have n5_ := Aside0.mk (Kd.R_below (by (with_reducible repeat (first | apply Kd.R_alloc | apply Kd.R_drewN | apply Kd.R_drew)); exact (Kd.R_mono (Kd.R_far (p := ⟨gb30045, 2, none⟩) (Kd.R_far (p := ⟨gb30045, 1, none⟩) (Kd.R_far (p := ⟨gb30045, 0, none⟩) (Kd.R_types HO30042.out BK30045.out (by decide)) (fun _ hk => hk.2) (.int .i64 t30038)) (fun _ hk => hk.2) (.int .i64 t30039)) (fun _ hk => hk.2) (.slice Ao55 t30040.length co55)) (fun _ h_ => h_.1))) hb); have n6_ := Aside0.mk (Kd.R_lower (Kd.R_new' (Kd.R_new' ho0 (Kd.R_lt (by (with_reducible repeat (first | apply Kd.R_alloc | apply Kd.R_drewN | apply Kd.R_drew)); exact (Kd.R_mono (Kd.R_far (p := ⟨gb30045, 2, none⟩) (Kd.R_far (p := ⟨gb30045, 1, none⟩) (Kd.R_far (p := ⟨gb30045, 0, none⟩) (Kd.R_types HO30013.out BK30045.out (by decide)) (fun _ hk => hk.2) (.int .i64 t30038)) (fun _ hk => hk.2) (.int .i64 t30039)) (fun _ hk => hk.2) (.slice Ao55 t30040.length co55)) (fun _ h_ => h_.1))))) (Kd.R_lt (by (with_reducible repeat (first | apply Kd.R_alloc | apply Kd.R_drewN | apply Kd.R_drew)); exact (Kd.R_mono (Kd.R_far (p := ⟨gb30045, 2, none⟩) (Kd.R_far (p := ⟨gb30045, 1, none⟩) (Kd.R_far (p := ⟨gb30045, 0, none⟩) (Kd.R_types HO30023.out BK30045.out (by decide)) (fun _ hk => hk.2) (.int .i64 t30038)) (fun _ hk => hk.2) (.int .i64 t30039)) (fun _ hk => hk.2) (.slice Ao55 t30040.length co55)) (fun _ h_ => h_.1))))) (below_size (by repeat (first | (with_reducible first | exact HB.out | apply below_alloc | apply pw_below_drewN | apply below_drew1 | refine below_set ?_ GE30010.out | refine below_set ?_ GE30031.out | refine below_set ?_ GE30045.out) | exact HB.out)))); have n7_ := Aside0.mk (blk_below (g := gb30010) (o := .cells #[.int .i64 t30004, .int .i64 t30005, .slice Ao32 t30006.length co32] 61 (0, 0)) (by (with_reducible repeat (first | refine blk_drewN ?_ _ | refine blk_drew ?_ | refine blk_alloc ?_ _)); refine blk_far ?_ NB30010_30045.out _; (with_reducible repeat (first | refine blk_drewN ?_ _ | refine blk_drew ?_ | refine blk_alloc ?_ _)); refine blk_far ?_ NB30010_30045.out _; (with_reducible repeat (first | refine blk_drewN ?_ _ | refine blk_drew ?_ | refine blk_alloc ?_ _)); refine blk_far ?_ NB30010_30045.out _; (with_reducible repeat (first | refine blk_drewN ?_ _ | refine blk_drew ?_ | refine blk_alloc ?_ _)); exact BK30010.out) hb); have n8_ := Aside0.mk (blk_below (g := gb30031) (o := .cells #[.int .i64 t30024, .int .i64 t30025, .slice Ao44 t30026.length co44] 61 (0, 0)) (by (with_reducible repeat (first | refine blk_drewN ?_ _ | refine blk_drew ?_ | refine blk_alloc ?_ _)); refine blk_far ?_ NB30031_30045.out _; (with_reducible repeat (first | refine blk_drewN ?_ _ | refine blk_drew ?_ | refine blk_alloc ?_ _)); refine blk_far ?_ NB30031_30045.out _; (with_reducible repeat (first | refine blk_drewN ?_ _ | refine blk_drew ?_ | refine blk_alloc ?_ _)); refine blk_far ?_ NB30031_30045.out _; (with_reducible repeat (first | refine blk_drewN ?_ _ | refine blk_drew ?_ | refine blk_alloc ?_ _)); exact BK30031.out) hb); have n9_ := Aside0.mk (blk_below (g := gb30045) (o := .cells #[.int .i64 t30038, .int .i64 t30039, .slice Ao55 t30040.length co55] 61 (0, 0)) (by (with_reducible repeat (first | refine blk_drewN ?_ _ | refine blk_drew ?_ | refine blk_alloc ?_ _)); refine blk_put (cs := #[.int .i64 t30038, .int .i64 t30039, .slice none 0 0]) ?_ 2 _ rfl; (with_reducible repeat (first | refine blk_drewN ?_ _ | refine blk_drew ?_ | refine blk_alloc ?_ _)); refine blk_put (cs := #[.int .i64 t30038, .int .i64 0, .slice none 0 0]) ?_ 1 _ rfl; (with_reducible repeat (first | refine blk_drewN ?_ _ | refine blk_drew ?_ | refine blk_alloc ?_ _)); refine blk_put (cs := #[.int .i64 0, .int .i64 0, .slice none 0 0]) ?_ 0 _ rfl; (with_reducible repeat (first | refine blk_drewN ?_ _ | refine blk_drew ?_ | refine blk_alloc ?_ _)); exact BK30045.out) hb); have n10_ := Aside0.mk (below_step (by repeat (first | (with_reducible first | exact HB.out | apply below_alloc | apply pw_below_drewN | apply below_drew1 | refine below_set ?_ GE30010.out | refine below_set ?_ GE30031.out | refine below_set ?_ GE30045.out) | exact HB.out)) hb); clear HO30003; clear HO30013; clear HO30023; clear HO30028; clear HO30036; clear HO30042; clear BK30010; clear BK30031; clear BK30045; clear HB; have HO30003 := n0_; have HO30013 := n1_; have HO30023 := n2_; have HO30028 := n3_; have HO30036 := n4_; have HO30042 := n5_; have HO30048 := n6_; have BK30010 := n7_; have BK30031 := n8_; have BK30045 := n9_; have HB := n10_; clear n0_ n1_ n2_ n3_ n4_ n5_ n6_ n7_ n8_ n9_ n10_; (try clear hb); (try clear hb2); (try clear hk); (try clear hi); (try clear ho0)))
                            have n0_ := Aside0.mk (Kd.R_drew HO30003.out)
                            have n1_ := Aside0.mk (Kd.R_drew HO30013.out)
                            have n2_ := Aside0.mk (Kd.R_drew HO30023.out)
                            have n3_ := Aside0.mk (Kd.R_drew HO30028.out)
                            have n4_ := Aside0.mk (Kd.R_drew HO30036.out)
                            have n5_ := Aside0.mk (Kd.R_drew HO30042.out)
                            have n6_ := Aside0.mk (Kd.R_drew HO30048.out)
                            have n7_ := Aside0.mk (blk_drew BK30010.out)
                            have n8_ := Aside0.mk (blk_drew BK30031.out)
                            have n9_ := Aside0.mk (blk_drew BK30045.out)
                            have n10_ := Aside0.mk (below_drew1 HB.out)
                            clear HO30003
                            clear HO30013
                            clear HO30023
                            clear HO30028
                            clear HO30036
                            clear HO30042
                            clear HO30048
                            clear BK30010
                            clear BK30031
                            clear BK30045
                            clear HB
                            have HO30003 := n0_
                            have HO30013 := n1_
                            have HO30023 := n2_
                            have HO30028 := n3_
                            have HO30036 := n4_
                            have HO30042 := n5_
                            have HO30048 := n6_
                            have BK30010 := n7_
                            have BK30031 := n8_
                            have BK30045 := n9_
                            have HB := n10_
                            clear n0_ n1_ n2_ n3_ n4_ n5_ n6_ n7_ n8_ n9_ n10_
                            obtain ⟨i058, hi058, _, hsz58, _⟩ := info_parts info5
                            obtain ⟨hcut58, hA58, hC58⟩ := print_take_of (P := Try.prog) (Value.int .u8) 0 40 5 .i64 Try.underlying40 hi058 hsz58 A3 c3 l3 t30043 (of_decide_eq_true (by first | (with_reducible assumption) | assumption)) (of_decide_eq_true (by first | (with_reducible assumption) | assumption)) HC3.out
                            have HR30051 := Aside0.mk (Kd.C_of_reads (h1 := fun _ => rfl) (hA58 _ (Kd.reads_of_C HR3.out)))
                            have HC30051 := Aside0.mk hC58
                            clear hA58 hC58 hi058 hsz58
                            rw [show (l3.take (t30043 : Int).toNat) = y30050 from Ny30050.out.symm] at hcut58
                            rw [show (l3.take (t30043 : Int).toNat) = y30050 from Ny30050.out.symm] at HR30051
                            rw [show (l3.take (t30043 : Int).toNat) = y30050 from Ny30050.out.symm] at HC30051
                            refine start_ (n := 17) (S := fun w' => ((convert 40 9 v30047).run Try.prog w' = .ok (.string (strOfNums t30046)) w') ∧ (∀ m_ : Nat, m_ = y30050.length → (convert 40 9 (.slice A3 m_ c3)).run Try.prog w' = .ok (.string (strOfNums y30050)) w')) (ds := []) #[false, false, false, false, false, false, false, false, false, false, false, false, false, false, false, false, false] (by kernel_rfl) rfl rfl ⟨(by first | exact own_string Try.underlying40 Try.underlying5 Try.underlying9 (Kd.own_of_R (HO30048.out)) | exact own_string Try.underlying40 Try.underlying5 Try.underlying9 (Kd.own_of_R (Kd.R_drew HO30048.out))), (by first | exact (pw_C_string_len (A := A3) (c := c3) Try.underlying40 Try.underlying5 Try.underlying9 (by repeat (first | exact (Kd.C_below HR30051.out HB.out) | (with_reducible refine Kd.C_alloc ?_ _) | (with_reducible refine Kd.C_drewN ?_ _) | (with_reducible refine Kd.C_drew ?_)))).1 | exact (pw_C_string_len (A := A3) (c := c3) Try.underlying40 Try.underlying5 Try.underlying9 (Kd.C_below HR30051.out HB.out)).1 | exact (pw_C_string_len (A := A3) (c := c3) Try.underlying40 Try.underlying5 Try.underlying9 (HR30051.out)).1 | exact (pw_C_string_len (A := A3) (c := c3) Try.underlying40 Try.underlying5 Try.underlying9 (Kd.C_drew HR30051.out)).1)⟩ (fun hHeld => ?_); refine with_tabW columbariumlaw10_TicksBack.tab10 columbariumlaw10_TicksBack.bits10 (fun HT_ HW_ => ?_)
                            generalize w56.drew = w57 at HO30003 HO30013 HO30023 HO30028 HO30036 HO30042 HO30048 BK30010 BK30031 BK30045 HB HR30051 hHeld ⊢
                            refine pure_ (i := 0) (N := some 83) (v := ?_) (a' := ?_) #[true, false, false, false, false, false, false, false, false, false, false, false, false, false, false, false, false] rfl rfl (any_of HT_.out (by kernel_rfl)) (fun _ _ _ h => h) (Or.inl ⟨by rfl, ?_⟩) ?_ ?_
                            rotate_left
                            · intro w'
                              go_simp
                              with_reducible rfl
                            rotate_left
                            · simp only [Act.put, List.setIfInBounds_toArray, List.set_cons_zero, List.set_cons_succ, i64_w, i32_w]
                              rfl
                            refine pure_ (i := 1) (N := some 84) (v := ?_) (a' := ?_) #[true, true, false, false, false, false, false, false, false, false, false, false, false, false, false, false, false] rfl rfl (any_of HT_.out (by kernel_rfl)) (fun _ _ _ h => h) (Or.inl ⟨by rfl, ?_⟩) ?_ ?_
                            rotate_left
                            · intro w'
                              go_simp
                              with_reducible rfl
                            rotate_left
                            · simp only [Act.put, List.setIfInBounds_toArray, List.set_cons_zero, List.set_cons_succ, i64_w, i32_w]
                              rfl
                            refine pure_ (i := 2) (N := some 85) (v := ?_) (a' := ?_) #[true, true, true, false, false, false, false, false, false, false, false, false, false, false, false, false, false] rfl rfl (any_of HT_.out (by kernel_rfl)) (fun _ _ _ h => h) (Or.inl ⟨by rfl, ?_⟩) ?_ ?_
                            rotate_left
                            · intro w'
                              go_simp
                              with_reducible rfl
                            rotate_left
                            · simp only [Act.put, List.setIfInBounds_toArray, List.set_cons_zero, List.set_cons_succ, i64_w, i32_w]
                              rfl
                            refine pure_ (i := 3) (N := some 86) (v := ?_) (a' := ?_) #[true, true, true, true, false, false, false, false, false, false, false, false, false, false, false, false, false] rfl rfl (any_of HT_.out (by kernel_rfl)) (fun _ _ _ h => h) (Or.inl ⟨by rfl, ?_⟩) ?_ ?_
                            rotate_left
                            · intro w'
                              go_simp
                              with_reducible rfl
                            rotate_left
                            · simp only [Act.put, List.setIfInBounds_toArray, List.set_cons_zero, List.set_cons_succ, i64_w, i32_w]
                              rfl
                            refine pure_ (i := 4) (N := some 87) (v := ?_) (a' := ?_) #[true, true, true, true, true, false, false, false, false, false, false, false, false, false, false, false, false] rfl rfl (any_of HT_.out (by kernel_rfl)) (fun _ _ _ h => h) (Or.inl ⟨by rfl, ?_⟩) ?_ ?_
                            rotate_left
                            · intro w'
                              go_simp
                              with_reducible rfl
                            rotate_left
                            · simp only [Act.put, List.setIfInBounds_toArray, List.set_cons_zero, List.set_cons_succ, i64_w, i32_w]
                              rfl
                            refine pure_ (i := 5) (N := some 88) (v := ?_) (a' := ?_) #[true, true, true, true, true, true, false, false, false, false, false, false, false, false, false, false, false] rfl rfl (any_of HT_.out (by kernel_rfl)) (fun _ _ _ h => h) (Or.inl ⟨by rfl, ?_⟩) ?_ ?_
                            rotate_left
                            · intro w'
                              go_simp
                              with_reducible rfl
                            rotate_left
                            · simp only [Act.put, List.setIfInBounds_toArray, List.set_cons_zero, List.set_cons_succ, i64_w, i32_w]
                              rfl
                            refine pure_ (i := 6) (N := some 89) (v := ?_) (a' := ?_) #[true, true, true, true, true, true, true, false, false, false, false, false, false, false, false, false, false] rfl rfl (any_of HT_.out (by kernel_rfl)) (fun _ _ _ h => h) (Or.inl ⟨by rfl, ?_⟩) ?_ ?_
                            rotate_left
                            · intro w'
                              go_simp
                              with_reducible rfl
                            rotate_left
                            · simp only [Act.put, List.setIfInBounds_toArray, List.set_cons_zero, List.set_cons_succ, i64_w, i32_w]
                              rfl
                            refine pure_ (i := 7) (N := some 90) (v := ?_) (a' := ?_) #[true, true, true, true, true, true, true, true, false, false, false, false, false, false, false, false, false] rfl rfl (any_of HT_.out (by kernel_rfl)) (fun _ _ _ h => h) (Or.inl ⟨by rfl, ?_⟩) ?_ ?_
                            rotate_left
                            · intro w'
                              go_simp
                              with_reducible rfl
                            rotate_left
                            · simp only [Act.put, List.setIfInBounds_toArray, List.set_cons_zero, List.set_cons_succ, i64_w, i32_w]
                              rfl
                            refine pure_ (i := 8) (N := some 91) (v := ?_) (a' := ?_) #[true, true, true, true, true, true, true, true, true, false, false, false, false, false, false, false, false] rfl rfl (any_of HT_.out (by kernel_rfl)) (fun _ _ _ h => h) (Or.inl ⟨by rfl, ?_⟩) ?_ ?_
                            rotate_left
                            · intro w'
                              go_simp
                              with_reducible rfl
                            rotate_left
                            · simp only [Act.put, List.setIfInBounds_toArray, List.set_cons_zero, List.set_cons_succ, i64_w, i32_w]
                              rfl
                            refine pure_ (i := 9) (N := some 92) (v := ?_) (a' := ?_) #[true, true, true, true, true, true, true, true, true, true, false, false, false, false, false, false, false] rfl rfl (any_of HT_.out (by kernel_rfl)) (fun _ _ _ h => h) (Or.inl ⟨by rfl, ?_⟩) ?_ ?_
                            rotate_left
                            · intro w'
                              go_simp
                              with_reducible rfl
                            rotate_left
                            · simp only [Act.put, List.setIfInBounds_toArray, List.set_cons_zero, List.set_cons_succ, i64_w, i32_w]
                              rfl
                            refine pure_ (i := 11) (N := some 94) (v := ?_) (a' := ?_) #[true, true, true, true, true, true, true, true, true, true, false, true, false, false, false, false, false] rfl rfl (any_of HT_.out (by kernel_rfl)) (fun _ _ _ h => h) (Or.inl ⟨by rfl, ?_⟩) ?_ ?_
                            rotate_left
                            · intro w'
                              go_simp
                              with_reducible rfl
                            rotate_left
                            · simp only [Act.put, List.setIfInBounds_toArray, List.set_cons_zero, List.set_cons_succ, i64_w, i32_w]
                              rfl
                            refine pure_ (i := 12) (N := some 95) (v := ?_) (a' := ?_) #[true, true, true, true, true, true, true, true, true, true, false, true, true, false, false, false, false] rfl rfl (any_of HT_.out (by kernel_rfl)) (fun _ _ _ h => h) (Or.inl ⟨by rfl, ?_⟩) ?_ ?_
                            rotate_left
                            · intro w'
                              go_simp
                              with_reducible rfl
                            rotate_left
                            · simp only [Act.put, List.setIfInBounds_toArray, List.set_cons_zero, List.set_cons_succ, i64_w, i32_w]
                              rfl
                            refine pure_ (i := 13) (N := some 96) (v := ?_) (a' := ?_) #[true, true, true, true, true, true, true, true, true, true, false, true, true, true, false, false, false] rfl rfl (any_of HT_.out (by kernel_rfl)) (fun _ _ _ h => h) (Or.inl ⟨by rfl, ?_⟩) ?_ ?_
                            rotate_left
                            · intro w'
                              go_simp
                              with_reducible rfl
                            rotate_left
                            · simp only [Act.put, List.setIfInBounds_toArray, List.set_cons_zero, List.set_cons_succ, i64_w, i32_w]
                              rfl
                            refine take_ (i := 10) (N := some 93) (v := ?_) (a' := ?_) #[true, true, true, true, true, true, true, true, true, true, true, true, true, true, false, false, false] rfl rfl (take_ofW HT_.out HW_.out (by kernel_rfl)) (fun _ _ _ h => h) (Or.inl ⟨by rfl, ?_⟩) hHeld ?_ ?_
                            rotate_left
                            · rintro w' ⟨s0, s1⟩
                              go_simp
                              with_reducible rfl
                            rotate_left
                            · simp only [Act.put, List.setIfInBounds_toArray, List.set_cons_zero, List.set_cons_succ, i64_w, i32_w]
                              rfl
                            refine take_ (i := 14) (N := some 97) (v := ?_) (a' := ?_) #[true, true, true, true, true, true, true, true, true, true, true, true, true, true, true, false, false] rfl rfl (take_ofW HT_.out HW_.out (by kernel_rfl)) (fun _ _ _ h => h) (Or.inl ⟨by rfl, ?_⟩) hHeld ?_ ?_
                            rotate_left
                            · rintro w' ⟨s0, s1⟩
                              go_simp
                              with_reducible rfl
                            rotate_left
                            · simp only [Act.put, List.setIfInBounds_toArray, List.set_cons_zero, List.set_cons_succ, i64_w, i32_w]
                              rfl
                            refine pure_ (i := 15) (N := some 98) (v := ?_) (a' := ?_) #[true, true, true, true, true, true, true, true, true, true, true, true, true, true, true, true, false] rfl rfl (any_of HT_.out (by kernel_rfl)) (fun _ _ _ h => h) (Or.inl ⟨by rfl, ?_⟩) ?_ ?_
                            rotate_left
                            · intro w'
                              go_simp
                              with_reducible rfl
                            rotate_left
                            · simp only [Act.put, List.setIfInBounds_toArray, List.set_cons_zero, List.set_cons_succ, i64_w, i32_w]
                              rfl
                            refine pure_ (i := 16) (N := some 99) (v := ?_) (a' := ?_) #[true, true, true, true, true, true, true, true, true, true, true, true, true, true, true, true, true] rfl rfl (any_of HT_.out (by kernel_rfl)) (fun _ _ _ h => h) (Or.inl ⟨by rfl, ?_⟩) ?_ ?_
                            rotate_left
                            · intro w'
                              go_simp
                              with_reducible rfl
                            rotate_left
                            · simp only [Act.put, List.setIfInBounds_toArray, List.set_cons_zero, List.set_cons_succ, i64_w, i32_w]
                              rfl
                            refine done_ (done_of HT_.out (by kernel_rfl)) ?_
                            try go_wp2_with (first | ((with_reducible refine gate_callee (f := 33) rfl ?_); refine goesL_ (some 100) rfl rfl Try.func33 (by kernel_rfl) rfl #[] rfl (by (try simp only [List.map_toArray, List.map_cons, List.map_nil]); first | done | rfl | (simp only [List.length_drop, List.length_take]; rfl)) ?_; (with_reducible refine (columbariumlaw10_known.calls k  t30052 _ A26.out).mono ?_); rintro e w60 ⟨rfl, hb⟩; refine ⟨_, rfl, ?_⟩; have n0_ := Aside0.mk (Kd.R_below (by (with_reducible repeat (first | apply Kd.R_alloc | apply Kd.R_drewN | apply Kd.R_drew)); exact HO30003.out) hb); have n1_ := Aside0.mk (Kd.R_below (by (with_reducible repeat (first | apply Kd.R_alloc | apply Kd.R_drewN | apply Kd.R_drew)); exact HO30013.out) hb); have n2_ := Aside0.mk (Kd.R_below (by (with_reducible repeat (first | apply Kd.R_alloc | apply Kd.R_drewN | apply Kd.R_drew)); exact HO30023.out) hb); have n3_ := Aside0.mk (Kd.R_below (by (with_reducible repeat (first | apply Kd.R_alloc | apply Kd.R_drewN | apply Kd.R_drew)); exact HO30028.out) hb); have n4_ := Aside0.mk (Kd.R_below (by (with_reducible repeat (first | apply Kd.R_alloc | apply Kd.R_drewN | apply Kd.R_drew)); exact HO30036.out) hb); have n5_ := Aside0.mk (Kd.R_below (by (with_reducible repeat (first | apply Kd.R_alloc | apply Kd.R_drewN | apply Kd.R_drew)); exact HO30042.out) hb); have n6_ := Aside0.mk (Kd.R_below (by (with_reducible repeat (first | apply Kd.R_alloc | apply Kd.R_drewN | apply Kd.R_drew)); exact HO30048.out) hb); have n7_ := Aside0.mk (blk_below (g := gb30010) (o := .cells #[.int .i64 t30004, .int .i64 t30005, .slice Ao32 t30006.length co32] 61 (0, 0)) (by (with_reducible repeat (first | refine blk_drewN ?_ _ | refine blk_drew ?_ | refine blk_alloc ?_ _)); exact BK30010.out) hb); have n8_ := Aside0.mk (blk_below (g := gb30031) (o := .cells #[.int .i64 t30024, .int .i64 t30025, .slice Ao44 t30026.length co44] 61 (0, 0)) (by (with_reducible repeat (first | refine blk_drewN ?_ _ | refine blk_drew ?_ | refine blk_alloc ?_ _)); exact BK30031.out) hb); have n9_ := Aside0.mk (blk_below (g := gb30045) (o := .cells #[.int .i64 t30038, .int .i64 t30039, .slice Ao55 t30040.length co55] 61 (0, 0)) (by (with_reducible repeat (first | refine blk_drewN ?_ _ | refine blk_drew ?_ | refine blk_alloc ?_ _)); exact BK30045.out) hb); have n10_ := Aside0.mk (below_step (by repeat (first | (with_reducible first | exact HB.out | apply below_alloc | apply pw_below_drewN | apply below_drew1 | refine below_set ?_ GE30010.out | refine below_set ?_ GE30031.out | refine below_set ?_ GE30045.out) | exact HB.out)) hb); clear HO30003; clear HO30013; clear HO30023; clear HO30028; clear HO30036; clear HO30042; clear HO30048; clear BK30010; clear BK30031; clear BK30045; clear HB; have HO30003 := n0_; have HO30013 := n1_; have HO30023 := n2_; have HO30028 := n3_; have HO30036 := n4_; have HO30042 := n5_; have HO30048 := n6_; have BK30010 := n7_; have BK30031 := n8_; have BK30045 := n9_; have HB := n10_; clear n0_ n1_ n2_ n3_ n4_ n5_ n6_ n7_ n8_ n9_ n10_; (try clear hb); (try clear hb2); (try clear hk); (try clear hi)))
                            go_ret
                            exact ⟨by first | rfl | (simp [errW_none, errW_some] <;> rfl) | (simp [*, errW_none, errW_some] <;> rfl), by repeat (first | (with_reducible first | exact HB.out | apply below_alloc | apply pw_below_drewN | apply below_drew1 | refine below_set ?_ GE30010.out | refine below_set ?_ GE30031.out | refine below_set ?_ GE30045.out) | exact HB.out)⟩
                          · rw [if_neg c25] at H
                            have c25b0 : ((strOfNums t30046).toList == (strOfNums y30050).toList) = false := beq_eq_false_iff_ne.mpr c25
                            have c25b1 : ((strOfNums t30046).toList != (strOfNums y30050).toList) = true := bne_iff_ne.mpr c25
                            exact absurd ((Option.some.inj H).trans hr_.out) (by decide)
                        · rw [if_neg c24] at H
                          exact absurd H (by simp)
                      · rw [if_neg c23] at H
                        exact absurd H (by simp)
                  · rw [if_neg c21] at H
                    have c21b0 : (t30049 == 0) = false := beq_eq_false_iff_ne.mpr c21
                    have c21b1 : (t30049 != 0) = true := bne_iff_ne.mpr c21
                    exact absurd ((Option.some.inj H).trans hr_.out) (by decide)
                · rw [if_neg c19] at H
                  have c19b0 : (t30044 == 0) = false := beq_eq_false_iff_ne.mpr c19
                  have c19b1 : (t30044 != 0) = true := bne_iff_ne.mpr c19
                  replace H := Option.bind_eq_some_iff.mp H
                  obtain ⟨t30053, A610, H⟩ := H
                  replace H : (some t30053) = some r := H
                  have A61 := Aside0.mk A610
                  clear A610
                  obtain rfl := Option.some.inj H
                  go_enter Try.func14, Try.ntmps14
                  try go_wp2_with (first | ((with_reducible refine gate_callee (f := 29) rfl ?_); refine goesL_ (some 25) rfl rfl Try.func29 (by kernel_rfl) rfl #[.int .i64 a0, .slice A1 l1.length c1] rfl (by (try simp only [List.map_toArray, List.map_cons, List.map_nil]); first | done | rfl | (simp only [List.length_drop, List.length_take]; rfl)) ?_; (with_reducible refine (columbariumlaw10_rising.calls k a0 _ _ l1 t30001 _ ?side1 ?side2 A5.out).mono ?_); (case side1 => repeat (first | exact HR1.out | (with_reducible refine Kd.C_alloc ?_ _) | (with_reducible refine Kd.C_drewN ?_ _) | (with_reducible refine Kd.C_drew ?_))); (case side2 => exact HC1.out); rintro e w62 ⟨v30002, rfl, ho0, hb⟩; refine ⟨_, rfl, ?_⟩; have n0_ := Aside0.mk (Kd.R_lower ho0 (below_size (by repeat (first | (with_reducible first | exact HB.out | apply below_alloc | apply pw_below_drewN | apply below_drew1) | exact HB.out)))); have n1_ := Aside0.mk (below_step (by repeat (first | (with_reducible first | exact HB.out | apply below_alloc | apply pw_below_drewN | apply below_drew1) | exact HB.out)) hb); clear HB; have HO30003 := n0_; have HB := n1_; clear n0_ n1_; (try clear hb); (try clear hb2); (try clear hk); (try clear hi); (try clear ho0); obtain ⟨Ao63, co63, eo63⟩ := Kd.R_slice HO30003.out; subst eo63) | ((with_reducible refine gate_callee (f := 30) rfl ?_); refine goesL_ (some 26) rfl rfl Try.func30 (by kernel_rfl) rfl #[.slice Ao63 t30001.length co63] rfl (by (try simp only [List.map_toArray, List.map_cons, List.map_nil]); first | done | rfl | (simp only [List.length_drop, List.length_take]; rfl)) ?_; (with_reducible refine (ticks_Build.calls k _ _ t30001 t30004 t30005 t30006 t30009 _ ?side1 ?side2 A6.out).mono ?_); (case side1 => repeat (first | exact (Kd.R_reads' HO30003.out).2.2 | (with_reducible refine Kd.C_alloc ?_ _) | (with_reducible refine Kd.C_drewN ?_ _) | (with_reducible refine Kd.C_drew ?_))); (case side2 => exact (Kd.R_reads' HO30003.out).2.1); rintro e w64 ⟨v30007, rfl, ho0, hb⟩; refine ⟨_, rfl, ?_⟩; have n0_ := Aside0.mk (Kd.R_elder' (by (with_reducible repeat (first | apply Kd.R_alloc | apply Kd.R_drewN | apply Kd.R_drew)); exact HO30003.out) (Kd.R_base ho0) hb); have n1_ := Aside0.mk (Kd.R_lower (Kd.R_new' ho0 (Kd.R_lt (by (with_reducible repeat (first | apply Kd.R_alloc | apply Kd.R_drewN | apply Kd.R_drew)); exact HO30003.out))) (below_size (by repeat (first | (with_reducible first | exact HB.out | apply below_alloc | apply pw_below_drewN | apply below_drew1) | exact HB.out)))); have n2_ := Aside0.mk (below_step (by repeat (first | (with_reducible first | exact HB.out | apply below_alloc | apply pw_below_drewN | apply below_drew1) | exact HB.out)) hb); clear HO30003; clear HB; have HO30003 := n0_; have HO30008 := n1_; have HB := n2_; clear n0_ n1_ n2_; (try clear hb); (try clear hb2); (try clear hk); (try clear hi); (try clear ho0)) | ((with_reducible refine gate_dst (N := 9) rfl ?_); (try (refine gate_guard (by rfl) ?_; dsimp only)); refine box_event ?hg (N := 9) ?hd (cs := #[.int .i64 0, .int .i64 0, .slice none 0 0]) (t := 61) ?hr ?_; (case hd => rfl); (case hg => rfl); (case hr => first | (go_simp; done) | (go_simp; rfl)); intro gb30010 hg w65 hbox hb; have n0_ := Aside0.mk (Kd.R_below (by (with_reducible repeat (first | apply Kd.R_alloc | apply Kd.R_drewN | apply Kd.R_drew)); exact HO30003.out) hb); have n1_ := Aside0.mk (Kd.R_below (by (with_reducible repeat (first | apply Kd.R_alloc | apply Kd.R_drewN | apply Kd.R_drew)); exact HO30008.out) hb); have n2_ := Aside0.mk (below_step (by repeat (first | (with_reducible first | exact HB.out | apply below_alloc | apply pw_below_drewN | apply below_drew1) | exact HB.out)) hb); have n3_ := Aside0.mk (hbox); have n4_ := Aside0.mk ((by rw [hg]; exact (below_size (by repeat (first | (with_reducible first | exact HB.out | apply below_alloc | apply pw_below_drewN | apply below_drew1) | exact HB.out))) : w.heap.size ≤ gb30010)); have n5_ := Aside0.mk ((by rw [hg]; exact (below_size (by repeat (first | (with_reducible first | exact HB.out | apply below_alloc | apply pw_below_drewN | apply below_drew1) | exact HB.out))) : w.heap.size ≤ gb30010)); clear HO30003; clear HO30008; clear HB; have HO30003 := n0_; have HO30008 := n1_; have HB := n2_; have BK30010 := n3_; have GW30010 := n4_; have GE30010 := n5_; clear n0_ n1_ n2_ n3_ n4_ n5_; clear hb hbox hg; have hcz66_0 : w65.cell? ⟨gb30010, 0, none⟩ = some (.int .i64 0) := (blk_cell BK30010.out 0).trans rfl; have hcz66_1 : w65.cell? ⟨gb30010, 1, none⟩ = some (.int .i64 0) := (blk_cell BK30010.out 1).trans rfl; have hcz66_2 : w65.cell? ⟨gb30010, 2, none⟩ = some (.slice none 0 0) := (blk_cell BK30010.out 2).trans rfl; have hfz66_0 := blk_frozen BK30010.out 0; have hfz66_1 := blk_frozen BK30010.out 1; have hfz66_2 := blk_frozen BK30010.out 2; obtain ⟨Ao67, co67, eo67⟩ := Kd.R_slice HO30008.out; subst eo67) | ((with_reducible refine gate_callee (f := 37) rfl ?_); refine goesL_ (some 31) rfl rfl Try.func37 (by kernel_rfl) rfl #[.agg #[.int .i64 t30004, .int .i64 t30005, .slice Ao67 t30006.length co67]] rfl (by (try simp only [List.map_toArray, List.map_cons, List.map_nil]); first | done | rfl | (simp only [List.length_drop, List.length_take]; rfl)) ?_; (with_reducible refine (ticks_Encode.calls k t30004 t30005 _ _ t30006 t30011 t30014 _ ?side1 ?side2 A7.out).mono ?_); (case side1 => refine (Kd.R_reads' (e := 2) (base := w.heap.size) (ok := fun k_ => (True ∧ some k_ ≠ (.slice Ao63 t30001.length co63 : Value).ownBlock)) (n := t30006.length) (c := co67) ?_).2.2; exact (by (with_reducible repeat (first | apply Kd.R_alloc | apply Kd.R_drewN | apply Kd.R_drew)); exact (Kd.R_mono (Kd.R_far (p := ⟨gb30010, 2, none⟩) (Kd.R_far (p := ⟨gb30010, 1, none⟩) (Kd.R_far (p := ⟨gb30010, 0, none⟩) (Kd.R_types HO30008.out BK30010.out (by decide)) (fun _ hk => hk.2) (.int .i64 t30004)) (fun _ hk => hk.2) (.int .i64 t30005)) (fun _ hk => hk.2) (.slice Ao67 t30006.length co67)) (fun _ h_ => h_.1)))); (case side2 => exact (Kd.R_reads' HO30008.out).2.1); rintro e w68 ⟨v30012, rfl, ho0, hb⟩; refine ⟨_, rfl, ?_⟩; have n0_ := Aside0.mk (Kd.R_below (by (with_reducible repeat (first | apply Kd.R_alloc | apply Kd.R_drewN | apply Kd.R_drew)); exact (Kd.R_mono (Kd.R_far (p := ⟨gb30010, 2, none⟩) (Kd.R_far (p := ⟨gb30010, 1, none⟩) (Kd.R_far (p := ⟨gb30010, 0, none⟩) (Kd.R_types HO30003.out BK30010.out (by decide)) (fun _ hk => hk.2) (.int .i64 t30004)) (fun _ hk => hk.2) (.int .i64 t30005)) (fun _ hk => hk.2) (.slice Ao67 t30006.length co67)) (fun _ h_ => h_.1))) hb); have n1_ := Aside0.mk (Kd.R_below (by (with_reducible repeat (first | apply Kd.R_alloc | apply Kd.R_drewN | apply Kd.R_drew)); exact (Kd.R_mono (Kd.R_far (p := ⟨gb30010, 2, none⟩) (Kd.R_far (p := ⟨gb30010, 1, none⟩) (Kd.R_far (p := ⟨gb30010, 0, none⟩) (Kd.R_types HO30008.out BK30010.out (by decide)) (fun _ hk => hk.2) (.int .i64 t30004)) (fun _ hk => hk.2) (.int .i64 t30005)) (fun _ hk => hk.2) (.slice Ao67 t30006.length co67)) (fun _ h_ => h_.1))) hb); have n2_ := Aside0.mk (Kd.R_lower ho0 (below_size (by repeat (first | (with_reducible first | exact HB.out | apply below_alloc | apply pw_below_drewN | apply below_drew1 | refine below_set ?_ GE30010.out) | exact HB.out)))); have n3_ := Aside0.mk (blk_below (g := gb30010) (o := .cells #[.int .i64 t30004, .int .i64 t30005, .slice Ao67 t30006.length co67] 61 (0, 0)) (by (with_reducible repeat (first | refine blk_drewN ?_ _ | refine blk_drew ?_ | refine blk_alloc ?_ _)); refine blk_put (cs := #[.int .i64 t30004, .int .i64 t30005, .slice none 0 0]) ?_ 2 _ rfl; (with_reducible repeat (first | refine blk_drewN ?_ _ | refine blk_drew ?_ | refine blk_alloc ?_ _)); refine blk_put (cs := #[.int .i64 t30004, .int .i64 0, .slice none 0 0]) ?_ 1 _ rfl; (with_reducible repeat (first | refine blk_drewN ?_ _ | refine blk_drew ?_ | refine blk_alloc ?_ _)); refine blk_put (cs := #[.int .i64 0, .int .i64 0, .slice none 0 0]) ?_ 0 _ rfl; (with_reducible repeat (first | refine blk_drewN ?_ _ | refine blk_drew ?_ | refine blk_alloc ?_ _)); exact BK30010.out) hb); have n4_ := Aside0.mk (below_step (by repeat (first | (with_reducible first | exact HB.out | apply below_alloc | apply pw_below_drewN | apply below_drew1 | refine below_set ?_ GE30010.out) | exact HB.out)) hb); clear HO30003; clear HO30008; clear BK30010; clear HB; have HO30003 := n0_; have HO30008 := n1_; have HO30013 := n2_; have BK30010 := n3_; have HB := n4_; clear n0_ n1_ n2_ n3_ n4_; (try clear hb); (try clear hb2); (try clear hk); (try clear hi); (try clear ho0)) | ((with_reducible refine gate_dst (N := 34) rfl ?_); (try (refine gate_guard (by rfl) ?_; dsimp only)); refine Kd.R_lit (Kd.int .u8) _ 5 ?hg (N := 34) ?hd (xs := ([] : List Int)) (inner := []) (ok := fun _ => True) (okp := fun _ => True) ?hr ?hp (fun _ hk => hk) trivial (Below.refl _ _) (Nat.le_refl _) (by simp) ?_; (case hd => rfl); (case hg => rfl); (case hr => first | (go_simp; done) | (go_simp; rfl)); (case hp => exact (Reps.none _ _)); intro v30016 w69 ho70 hb hg_ hnew_; clear hg_ hnew_; (first | rw [← Ny30015.out] at ho70 | (simp only [Int.reduceToNat] at ho70; rw [← Ny30015.out] at ho70)); have n0_ := Aside0.mk (Kd.R_below (by (with_reducible repeat (first | apply Kd.R_alloc | apply Kd.R_drewN | apply Kd.R_drew)); exact HO30003.out) hb); have n1_ := Aside0.mk (Kd.R_below (by (with_reducible repeat (first | apply Kd.R_alloc | apply Kd.R_drewN | apply Kd.R_drew)); exact HO30008.out) hb); have n2_ := Aside0.mk (Kd.R_elder' (by (with_reducible repeat (first | apply Kd.R_alloc | apply Kd.R_drewN | apply Kd.R_drew)); exact HO30013.out) (Kd.R_base ho70) hb); have n3_ := Aside0.mk (Kd.R_lower (Kd.R_new' ho70 (Kd.R_lt (by (with_reducible repeat (first | apply Kd.R_alloc | apply Kd.R_drewN | apply Kd.R_drew)); exact HO30013.out))) (below_size (by repeat (first | (with_reducible first | exact HB.out | apply below_alloc | apply pw_below_drewN | apply below_drew1 | refine below_set ?_ GE30010.out) | exact HB.out)))); have n4_ := Aside0.mk (blk_below (g := gb30010) (o := .cells #[.int .i64 t30004, .int .i64 t30005, .slice Ao67 t30006.length co67] 61 (0, 0)) (by (with_reducible repeat (first | refine blk_drewN ?_ _ | refine blk_drew ?_ | refine blk_alloc ?_ _)); exact BK30010.out) hb); have n5_ := Aside0.mk (below_step (by repeat (first | (with_reducible first | exact HB.out | apply below_alloc | apply pw_below_drewN | apply below_drew1 | refine below_set ?_ GE30010.out) | exact HB.out)) hb); clear HO30003; clear HO30008; clear HO30013; clear BK30010; clear HB; have HO30003 := n0_; have HO30008 := n1_; have HO30013 := n2_; have HO30017 := n3_; have BK30010 := n4_; have HB := n5_; clear n0_ n1_ n2_ n3_ n4_ n5_; clear hb ho70) | ((with_reducible refine gate_builtin (b := .append) (xs := #[.tmp 34, .tmp 35]) rfl ?_); (try (refine gate_guard (by rfl) ?_; dsimp only)); at_builtin; refine Kd.R_append_rows (Kd.int .u8) (w0 := w) w.heap.size rfl (.tmp 34) (.tmp 35) 40 5 (.int .u8 0) 1 rfl Try.underlying40 info5 rfl (by decide) (by omega) v30016 y30015 l2 _ _ _ (fun k_ => some k_ ≠ (v30012 : Value).ownBlock) (fun _ => False) rfl rfl ?aO ?aR (fun _ _ h => h) (fun _ h => h.elim) ?aF ?aB ?aS ?aL ?_; (case aR => repeat (first | exact (Kd.C_below HR2.out HB.out) | (with_reducible refine Kd.C_alloc ?_ _) | (with_reducible refine Kd.C_drewN ?_ _) | (with_reducible refine Kd.C_drew ?_))); (case aB => exact (by repeat (first | (with_reducible first | exact HB.out | apply below_alloc | apply pw_below_drewN | apply below_drew1 | refine below_set ?_ GE30010.out) | exact HB.out))); (case aF => exact (fun k_ hk => Kd.fresh' (Kd.R_lt (by (with_reducible repeat (first | apply Kd.R_alloc | apply Kd.R_drewN | apply Kd.R_drew)); exact HO30013.out)) k_ hk)); (case aO => exact (by (with_reducible repeat (first | apply Kd.R_alloc | apply Kd.R_drewN | apply Kd.R_drew)); exact Kd.R_mono HO30017.out (fun _ hk => hk.2))); (case aS => exact (below_size (by repeat (first | (with_reducible first | exact HB.out | apply below_alloc | apply pw_below_drewN | apply below_drew1 | refine below_set ?_ GE30010.out) | exact HB.out)))); (case aL => have := LMc8.out; omega); intro v30019 w71 ho hb hg hat; rw [← Ny30018.out] at ho; have n0_ := Aside0.mk (Kd.R_over' (by (with_reducible repeat (first | apply Kd.R_alloc | apply Kd.R_drewN | apply Kd.R_drew)); exact HO30003.out) (Kd.R_typed (by (with_reducible repeat (first | apply Kd.R_alloc | apply Kd.R_drewN | apply Kd.R_drew)); exact HO30017.out)) (by decide) hg); have n1_ := Aside0.mk (Kd.R_over' (by (with_reducible repeat (first | apply Kd.R_alloc | apply Kd.R_drewN | apply Kd.R_drew)); exact HO30008.out) (Kd.R_typed (by (with_reducible repeat (first | apply Kd.R_alloc | apply Kd.R_drewN | apply Kd.R_drew)); exact HO30017.out)) (by decide) hg); have n2_ := Aside0.mk (blk_grown (g := gb30010) (o := .cells #[.int .i64 t30004, .int .i64 t30005, .slice Ao67 t30006.length co67] 61 (0, 0)) (by (with_reducible repeat (first | refine blk_drewN ?_ _ | refine blk_drew ?_ | refine blk_alloc ?_ _)); exact BK30010.out) hg (Kd.R_ne HO30017.out BK30010.out (by decide))); have n3_ := Aside0.mk (Kd.R_after (ok := (fun _ => True)) (by (with_reducible repeat (first | apply Kd.R_alloc | apply Kd.R_drewN | apply Kd.R_drew)); exact HO30013.out) hg hat); have n4_ := Aside0.mk (hb); have n5_ := Aside0.mk (ho); clear HO30003; clear HO30008; clear BK30010; clear HO30013; clear HB; clear HO30017; have HO30003 := n0_; have HO30008 := n1_; have BK30010 := n2_; have HO30013 := n3_; have HB := n4_; have HO30020 := n5_; clear n0_ n1_ n2_ n3_ n4_ n5_; clear ho hb hg hat; obtain ⟨Ao73, co73, eo73⟩ := Kd.R_slice HO30013.out; subst eo73) | ((with_reducible refine gate_builtin (b := .append) (xs := #[.tmp 36, .tmp 37]) rfl ?_); (try (refine gate_guard (by rfl) ?_; dsimp only)); at_builtin; refine Kd.R_append_rows (Kd.int .u8) (w0 := w) w.heap.size rfl (.tmp 36) (.tmp 37) 40 5 (.int .u8 0) 1 rfl Try.underlying40 info5 rfl (by decide) (by omega) v30019 y30018 t30011 _ _ _ (fun k_ => some k_ ≠ (.slice Ao73 t30011.length co73 : Value).ownBlock) (fun _ => False) rfl rfl ?aO ?aR (fun _ _ h => h) (fun _ h => h.elim) ?aF ?aB ?aS ?aL ?_; (case aR => repeat (first | exact (Kd.R_reads' HO30013.out).2.2 | (with_reducible refine Kd.C_alloc ?_ _) | (with_reducible refine Kd.C_drewN ?_ _) | (with_reducible refine Kd.C_drew ?_))); (case aB => exact (by repeat (first | (with_reducible first | exact HB.out | apply below_alloc | apply pw_below_drewN | apply below_drew1 | refine below_set ?_ GE30010.out) | exact HB.out))); (case aF => exact (fun k_ hk => Kd.fresh' (Kd.R_lt (by (with_reducible repeat (first | apply Kd.R_alloc | apply Kd.R_drewN | apply Kd.R_drew)); exact HO30013.out)) k_ hk)); (case aO => exact (by (with_reducible repeat (first | apply Kd.R_alloc | apply Kd.R_drewN | apply Kd.R_drew)); exact HO30020.out)); (case aS => exact (below_size (by repeat (first | (with_reducible first | exact HB.out | apply below_alloc | apply pw_below_drewN | apply below_drew1 | refine below_set ?_ GE30010.out) | exact HB.out)))); (case aL => have := LMc9.out; omega); intro v30022 w72 ho hb hg hat; rw [← Ny30021.out] at ho; have n0_ := Aside0.mk (Kd.R_over' (by (with_reducible repeat (first | apply Kd.R_alloc | apply Kd.R_drewN | apply Kd.R_drew)); exact HO30003.out) (Kd.R_typed (by (with_reducible repeat (first | apply Kd.R_alloc | apply Kd.R_drewN | apply Kd.R_drew)); exact HO30020.out)) (by decide) hg); have n1_ := Aside0.mk (Kd.R_over' (by (with_reducible repeat (first | apply Kd.R_alloc | apply Kd.R_drewN | apply Kd.R_drew)); exact HO30008.out) (Kd.R_typed (by (with_reducible repeat (first | apply Kd.R_alloc | apply Kd.R_drewN | apply Kd.R_drew)); exact HO30020.out)) (by decide) hg); have n2_ := Aside0.mk (blk_grown (g := gb30010) (o := .cells #[.int .i64 t30004, .int .i64 t30005, .slice Ao67 t30006.length co67] 61 (0, 0)) (by (with_reducible repeat (first | refine blk_drewN ?_ _ | refine blk_drew ?_ | refine blk_alloc ?_ _)); exact BK30010.out) hg (Kd.R_ne HO30020.out BK30010.out (by decide))); have n3_ := Aside0.mk (Kd.R_after (ok := (fun _ => True)) (by (with_reducible repeat (first | apply Kd.R_alloc | apply Kd.R_drewN | apply Kd.R_drew)); exact HO30013.out) hg hat); have n4_ := Aside0.mk (hb); have n5_ := Aside0.mk (ho); clear HO30003; clear HO30008; clear BK30010; clear HO30013; clear HB; clear HO30020; have HO30003 := n0_; have HO30008 := n1_; have BK30010 := n2_; have HO30013 := n3_; have HB := n4_; have HO30023 := n5_; clear n0_ n1_ n2_ n3_ n4_ n5_; clear ho hb hg hat; obtain ⟨Ao74, co74, eo74⟩ := Kd.R_slice HO30023.out; subst eo74) | ((with_reducible refine gate_callee (f := 41) rfl ?_); refine goesL_ (some 43) rfl rfl Try.func41 (by kernel_rfl) rfl #[.slice Ao74 y30021.length co74, .int .i64 (l2.length : Int)] rfl (by (try simp only [List.map_toArray, List.map_cons, List.map_nil]); first | done | rfl | (simp only [List.length_drop, List.length_take]; rfl)) ?_; (with_reducible refine (ticks_Decode.calls k _ _ y30021 (l2.length : Int) t30024 t30025 t30026 t30029 t30030 _ ?side1 ?side2 A10.out).mono ?_); (case side1 => repeat (first | exact (Kd.R_reads' HO30023.out).2.2 | (with_reducible refine Kd.C_alloc ?_ _) | (with_reducible refine Kd.C_drewN ?_ _) | (with_reducible refine Kd.C_drew ?_))); (case side2 => exact (Kd.R_reads' HO30023.out).2.1); rintro e w75 ⟨v30027, rfl, ho0, hb⟩; refine ⟨_, rfl, ?_⟩; have n0_ := Aside0.mk (Kd.R_elder' (by (with_reducible repeat (first | apply Kd.R_alloc | apply Kd.R_drewN | apply Kd.R_drew)); exact HO30003.out) (Kd.R_base ho0) hb); have n1_ := Aside0.mk (Kd.R_elder' (by (with_reducible repeat (first | apply Kd.R_alloc | apply Kd.R_drewN | apply Kd.R_drew)); exact HO30008.out) (Kd.R_base ho0) hb); have n2_ := Aside0.mk (Kd.R_below (by (with_reducible repeat (first | apply Kd.R_alloc | apply Kd.R_drewN | apply Kd.R_drew)); exact HO30013.out) hb); have n3_ := Aside0.mk (Kd.R_below (by (with_reducible repeat (first | apply Kd.R_alloc | apply Kd.R_drewN | apply Kd.R_drew)); exact HO30023.out) hb); have n4_ := Aside0.mk (Kd.R_lower (Kd.R_new' (Kd.R_new' ho0 (Kd.R_lt (by (with_reducible repeat (first | apply Kd.R_alloc | apply Kd.R_drewN | apply Kd.R_drew)); exact HO30003.out))) (Kd.R_lt (by (with_reducible repeat (first | apply Kd.R_alloc | apply Kd.R_drewN | apply Kd.R_drew)); exact HO30008.out))) (below_size (by repeat (first | (with_reducible first | exact HB.out | apply below_alloc | apply pw_below_drewN | apply below_drew1 | refine below_set ?_ GE30010.out) | exact HB.out)))); have n5_ := Aside0.mk (blk_below (g := gb30010) (o := .cells #[.int .i64 t30004, .int .i64 t30005, .slice Ao67 t30006.length co67] 61 (0, 0)) (by (with_reducible repeat (first | refine blk_drewN ?_ _ | refine blk_drew ?_ | refine blk_alloc ?_ _)); exact BK30010.out) hb); have n6_ := Aside0.mk (below_step (by repeat (first | (with_reducible first | exact HB.out | apply below_alloc | apply pw_below_drewN | apply below_drew1 | refine below_set ?_ GE30010.out) | exact HB.out)) hb); clear HO30003; clear HO30008; clear HO30013; clear HO30023; clear BK30010; clear HB; have HO30003 := n0_; have HO30008 := n1_; have HO30013 := n2_; have HO30023 := n3_; have HO30028 := n4_; have BK30010 := n5_; have HB := n6_; clear n0_ n1_ n2_ n3_ n4_ n5_ n6_; (try clear hb); (try clear hb2); (try clear hk); (try clear hi); (try clear ho0)) | ((with_reducible refine gate_dst (N := 14) rfl ?_); (try (refine gate_guard (by rfl) ?_; dsimp only)); refine box_event ?hg (N := 14) ?hd (cs := #[.int .i64 0, .int .i64 0, .slice none 0 0]) (t := 61) ?hr ?_; (case hd => rfl); (case hg => rfl); (case hr => first | (go_simp; done) | (go_simp; rfl)); intro gb30031 hg w76 hbox hb; have n0_ := Aside0.mk (Kd.R_below (by (with_reducible repeat (first | apply Kd.R_alloc | apply Kd.R_drewN | apply Kd.R_drew)); exact HO30003.out) hb); have n1_ := Aside0.mk (Kd.R_below (by (with_reducible repeat (first | apply Kd.R_alloc | apply Kd.R_drewN | apply Kd.R_drew)); exact HO30008.out) hb); have n2_ := Aside0.mk (Kd.R_below (by (with_reducible repeat (first | apply Kd.R_alloc | apply Kd.R_drewN | apply Kd.R_drew)); exact HO30013.out) hb); have n3_ := Aside0.mk (Kd.R_below (by (with_reducible repeat (first | apply Kd.R_alloc | apply Kd.R_drewN | apply Kd.R_drew)); exact HO30023.out) hb); have n4_ := Aside0.mk (Kd.R_below (by (with_reducible repeat (first | apply Kd.R_alloc | apply Kd.R_drewN | apply Kd.R_drew)); exact HO30028.out) hb); have n5_ := Aside0.mk (blk_below (g := gb30010) (o := .cells #[.int .i64 t30004, .int .i64 t30005, .slice Ao67 t30006.length co67] 61 (0, 0)) (by (with_reducible repeat (first | refine blk_drewN ?_ _ | refine blk_drew ?_ | refine blk_alloc ?_ _)); exact BK30010.out) hb); have n6_ := Aside0.mk (below_step (by repeat (first | (with_reducible first | exact HB.out | apply below_alloc | apply pw_below_drewN | apply below_drew1 | refine below_set ?_ GE30010.out) | exact HB.out)) hb); have n7_ := Aside0.mk (hbox); have n8_ := Aside0.mk ((by rw [hg]; exact (below_size (by repeat (first | (with_reducible first | exact HB.out | apply below_alloc | apply pw_below_drewN | apply below_drew1 | refine below_set ?_ GE30010.out) | exact HB.out))) : w.heap.size ≤ gb30031)); have n9_ := Aside0.mk ((by rw [hg]; exact (below_size (by repeat (first | (with_reducible first | exact HB.out | apply below_alloc | apply pw_below_drewN | apply below_drew1 | refine below_set ?_ GE30010.out) | exact HB.out))) : w.heap.size ≤ gb30031)); have n10_ := Aside0.mk ((by rw [hg]; exact Nat.ne_of_lt (blk_lt (g := gb30010) (o := .cells #[.int .i64 t30004, .int .i64 t30005, .slice Ao67 t30006.length co67] 61 (0, 0)) (by (with_reducible repeat (first | refine blk_drewN ?_ _ | refine blk_drew ?_ | refine blk_alloc ?_ _)); exact BK30010.out)) : gb30010 ≠ gb30031)); have n11_ := Aside0.mk ((by rw [hg]; exact Nat.ne_of_gt (blk_lt (g := gb30010) (o := .cells #[.int .i64 t30004, .int .i64 t30005, .slice Ao67 t30006.length co67] 61 (0, 0)) (by (with_reducible repeat (first | refine blk_drewN ?_ _ | refine blk_drew ?_ | refine blk_alloc ?_ _)); exact BK30010.out)) : gb30031 ≠ gb30010)); clear HO30003; clear HO30008; clear HO30013; clear HO30023; clear HO30028; clear BK30010; clear HB; have HO30003 := n0_; have HO30008 := n1_; have HO30013 := n2_; have HO30023 := n3_; have HO30028 := n4_; have BK30010 := n5_; have HB := n6_; have BK30031 := n7_; have GW30031 := n8_; have GE30031 := n9_; have NB30010_30031 := n10_; have NB30031_30010 := n11_; clear n0_ n1_ n2_ n3_ n4_ n5_ n6_ n7_ n8_ n9_ n10_ n11_; clear hb hbox hg; have hnb77 := NB30031_30010.out; have hnc77 := NB30010_30031.out; have hcz78_0 : w76.cell? ⟨gb30031, 0, none⟩ = some (.int .i64 0) := (blk_cell BK30031.out 0).trans rfl; have hcz78_1 : w76.cell? ⟨gb30031, 1, none⟩ = some (.int .i64 0) := (blk_cell BK30031.out 1).trans rfl; have hcz78_2 : w76.cell? ⟨gb30031, 2, none⟩ = some (.slice none 0 0) := (blk_cell BK30031.out 2).trans rfl; have hfz78_0 := blk_frozen BK30031.out 0; have hfz78_1 := blk_frozen BK30031.out 1; have hfz78_2 := blk_frozen BK30031.out 2; obtain ⟨Ao79, co79, eo79⟩ := Kd.R_slice HO30028.out; subst eo79))
                  have n0_ : Aside0 (Kd.R (Kd.int .i64) 2 (((w76.setCell ⟨gb30031, 0, none⟩ (.int .i64 t30024)).setCell ⟨gb30031, 1, none⟩ (.int .i64 t30025)).setCell ⟨gb30031, 2, none⟩ (.slice Ao79 t30026.length co79)) w.heap.size (fun k_ => some k_ ≠ (.slice Ao67 t30006.length co67 : Value).ownBlock ∧ some k_ ≠ (.slice Ao79 t30026.length co79 : Value).ownBlock) (.slice Ao63 t30001.length co63) t30001) := ⟨by (with_reducible repeat (first | apply Kd.R_alloc | apply Kd.R_drewN | apply Kd.R_drew)); exact Kd.R_mono (Kd.R_far (p := ⟨gb30031, 2, none⟩) (Kd.R_far (p := ⟨gb30031, 1, none⟩) (Kd.R_far (p := ⟨gb30031, 0, none⟩) (Kd.R_types HO30003.out BK30031.out (by decide)) (fun _ hk => hk.2) (.int .i64 t30024)) (fun _ hk => hk.2) (.int .i64 t30025)) (fun _ hk => hk.2) (.slice Ao79 t30026.length co79)) (fun _ hk => ⟨hk.1.1.2, hk.1.2⟩)⟩
                  have n1_ : Aside0 (Kd.R (Kd.int .i64) 2 (((w76.setCell ⟨gb30031, 0, none⟩ (.int .i64 t30024)).setCell ⟨gb30031, 1, none⟩ (.int .i64 t30025)).setCell ⟨gb30031, 2, none⟩ (.slice Ao79 t30026.length co79)) w.heap.size (fun k_ => some k_ ≠ (.slice Ao63 t30001.length co63 : Value).ownBlock ∧ some k_ ≠ (.slice Ao79 t30026.length co79 : Value).ownBlock) (.slice Ao67 t30006.length co67) t30006) := ⟨by (with_reducible repeat (first | apply Kd.R_alloc | apply Kd.R_drewN | apply Kd.R_drew)); exact Kd.R_mono (Kd.R_far (p := ⟨gb30031, 2, none⟩) (Kd.R_far (p := ⟨gb30031, 1, none⟩) (Kd.R_far (p := ⟨gb30031, 0, none⟩) (Kd.R_types HO30008.out BK30031.out (by decide)) (fun _ hk => hk.2) (.int .i64 t30024)) (fun _ hk => hk.2) (.int .i64 t30025)) (fun _ hk => hk.2) (.slice Ao79 t30026.length co79)) (fun _ hk => ⟨hk.1.1.2, hk.1.2⟩)⟩
                  have n2_ : Aside0 (Kd.R (Kd.int .u8) 5 (((w76.setCell ⟨gb30031, 0, none⟩ (.int .i64 t30024)).setCell ⟨gb30031, 1, none⟩ (.int .i64 t30025)).setCell ⟨gb30031, 2, none⟩ (.slice Ao79 t30026.length co79)) w.heap.size (fun k_ => some k_ ≠ (.slice Ao74 y30021.length co74 : Value).ownBlock) (.slice Ao73 t30011.length co73) t30011) := ⟨by (with_reducible repeat (first | apply Kd.R_alloc | apply Kd.R_drewN | apply Kd.R_drew)); exact Kd.R_mono (Kd.R_far (p := ⟨gb30031, 2, none⟩) (Kd.R_far (p := ⟨gb30031, 1, none⟩) (Kd.R_far (p := ⟨gb30031, 0, none⟩) (Kd.R_types HO30013.out BK30031.out (by decide)) (fun _ hk => hk.2) (.int .i64 t30024)) (fun _ hk => hk.2) (.int .i64 t30025)) (fun _ hk => hk.2) (.slice Ao79 t30026.length co79)) (fun _ hk => hk.1.2)⟩
                  have n3_ : Aside0 (Kd.R (Kd.int .u8) 5 (((w76.setCell ⟨gb30031, 0, none⟩ (.int .i64 t30024)).setCell ⟨gb30031, 1, none⟩ (.int .i64 t30025)).setCell ⟨gb30031, 2, none⟩ (.slice Ao79 t30026.length co79)) w.heap.size (fun k_ => some k_ ≠ (.slice Ao73 t30011.length co73 : Value).ownBlock) (.slice Ao74 y30021.length co74) y30021) := ⟨by (with_reducible repeat (first | apply Kd.R_alloc | apply Kd.R_drewN | apply Kd.R_drew)); exact Kd.R_mono (Kd.R_far (p := ⟨gb30031, 2, none⟩) (Kd.R_far (p := ⟨gb30031, 1, none⟩) (Kd.R_far (p := ⟨gb30031, 0, none⟩) (Kd.R_types HO30023.out BK30031.out (by decide)) (fun _ hk => hk.2) (.int .i64 t30024)) (fun _ hk => hk.2) (.int .i64 t30025)) (fun _ hk => hk.2) (.slice Ao79 t30026.length co79)) (fun _ hk => hk.1)⟩
                  have n4_ : Aside0 (Kd.R (Kd.int .i64) 2 (((w76.setCell ⟨gb30031, 0, none⟩ (.int .i64 t30024)).setCell ⟨gb30031, 1, none⟩ (.int .i64 t30025)).setCell ⟨gb30031, 2, none⟩ (.slice Ao79 t30026.length co79)) w.heap.size (fun k_ => some k_ ≠ (.slice Ao63 t30001.length co63 : Value).ownBlock ∧ some k_ ≠ (.slice Ao67 t30006.length co67 : Value).ownBlock) (.slice Ao79 t30026.length co79) t30026) := ⟨by (with_reducible repeat (first | apply Kd.R_alloc | apply Kd.R_drewN | apply Kd.R_drew)); exact Kd.R_mono (Kd.R_far (p := ⟨gb30031, 2, none⟩) (Kd.R_far (p := ⟨gb30031, 1, none⟩) (Kd.R_far (p := ⟨gb30031, 0, none⟩) (Kd.R_types HO30028.out BK30031.out (by decide)) (fun _ hk => hk.2) (.int .i64 t30024)) (fun _ hk => hk.2) (.int .i64 t30025)) (fun _ hk => hk.2) (.slice Ao79 t30026.length co79)) (fun _ hk => ⟨hk.1.1.2, hk.1.2⟩)⟩
                  have n5_ : Aside0 ((((w76.setCell ⟨gb30031, 0, none⟩ (.int .i64 t30024)).setCell ⟨gb30031, 1, none⟩ (.int .i64 t30025)).setCell ⟨gb30031, 2, none⟩ (.slice Ao79 t30026.length co79)).heap[gb30010]? = some (.cells #[.int .i64 t30004, .int .i64 t30005, .slice Ao67 t30006.length co67] 61 (0, 0))) := ⟨by (with_reducible repeat (first | refine blk_drewN ?_ _ | refine blk_drew ?_ | refine blk_alloc ?_ _)); refine blk_far ?_ NB30010_30031.out _; (with_reducible repeat (first | refine blk_drewN ?_ _ | refine blk_drew ?_ | refine blk_alloc ?_ _)); refine blk_far ?_ NB30010_30031.out _; (with_reducible repeat (first | refine blk_drewN ?_ _ | refine blk_drew ?_ | refine blk_alloc ?_ _)); refine blk_far ?_ NB30010_30031.out _; (with_reducible repeat (first | refine blk_drewN ?_ _ | refine blk_drew ?_ | refine blk_alloc ?_ _)); exact BK30010.out⟩
                  have n6_ : Aside0 ((((w76.setCell ⟨gb30031, 0, none⟩ (.int .i64 t30024)).setCell ⟨gb30031, 1, none⟩ (.int .i64 t30025)).setCell ⟨gb30031, 2, none⟩ (.slice Ao79 t30026.length co79)).heap[gb30031]? = some (.cells #[.int .i64 t30024, .int .i64 t30025, .slice Ao79 t30026.length co79] 61 (0, 0))) := ⟨by (with_reducible repeat (first | refine blk_drewN ?_ _ | refine blk_drew ?_ | refine blk_alloc ?_ _)); refine blk_put (cs := #[.int .i64 t30024, .int .i64 t30025, .slice none 0 0]) ?_ 2 _ rfl; (with_reducible repeat (first | refine blk_drewN ?_ _ | refine blk_drew ?_ | refine blk_alloc ?_ _)); refine blk_put (cs := #[.int .i64 t30024, .int .i64 0, .slice none 0 0]) ?_ 1 _ rfl; (with_reducible repeat (first | refine blk_drewN ?_ _ | refine blk_drew ?_ | refine blk_alloc ?_ _)); refine blk_put (cs := #[.int .i64 0, .int .i64 0, .slice none 0 0]) ?_ 0 _ rfl; (with_reducible repeat (first | refine blk_drewN ?_ _ | refine blk_drew ?_ | refine blk_alloc ?_ _)); exact BK30031.out⟩
                  have n7_ : Aside0 (Below w.heap.size w (((w76.setCell ⟨gb30031, 0, none⟩ (.int .i64 t30024)).setCell ⟨gb30031, 1, none⟩ (.int .i64 t30025)).setCell ⟨gb30031, 2, none⟩ (.slice Ao79 t30026.length co79))) := ⟨by repeat (first | (with_reducible first | exact HB.out | apply below_alloc | apply pw_below_drewN | apply below_drew1 | refine below_set ?_ GE30010.out | refine below_set ?_ GE30031.out) | exact HB.out)⟩
                  (try clear HO30003)
                  (try clear HO30008)
                  (try clear HO30013)
                  (try clear HO30023)
                  (try clear HO30028)
                  (try clear BK30010)
                  (try clear BK30031)
                  (try clear HB)
                  generalize (((w76.setCell ⟨gb30031, 0, none⟩ (.int .i64 t30024)).setCell ⟨gb30031, 1, none⟩ (.int .i64 t30025)).setCell ⟨gb30031, 2, none⟩ (.slice Ao79 t30026.length co79)) = w80 at n0_ n1_ n2_ n3_ n4_ n5_ n6_ n7_ ⊢
                  have HO30003 := n0_
                  have HO30008 := n1_
                  have HO30013 := n2_
                  have HO30023 := n3_
                  have HO30028 := n4_
                  have BK30010 := n5_
                  have BK30031 := n6_
                  have HB := n7_
                  clear n0_ n1_ n2_ n3_ n4_ n5_ n6_ n7_
                  have n0_ := Aside0.mk (Kd.R_drew HO30003.out)
                  have n1_ := Aside0.mk (Kd.R_drew HO30008.out)
                  have n2_ := Aside0.mk (Kd.R_drew HO30013.out)
                  have n3_ := Aside0.mk (Kd.R_drew HO30023.out)
                  have n4_ := Aside0.mk (Kd.R_drew HO30028.out)
                  have n5_ := Aside0.mk (blk_drew BK30010.out)
                  have n6_ := Aside0.mk (blk_drew BK30031.out)
                  have n7_ := Aside0.mk (below_drew1 HB.out)
                  clear HO30003
                  clear HO30008
                  clear HO30013
                  clear HO30023
                  clear HO30028
                  clear BK30010
                  clear BK30031
                  clear HB
                  have HO30003 := n0_
                  have HO30008 := n1_
                  have HO30013 := n2_
                  have HO30023 := n3_
                  have HO30028 := n4_
                  have BK30010 := n5_
                  have BK30031 := n6_
                  have HB := n7_
                  clear n0_ n1_ n2_ n3_ n4_ n5_ n6_ n7_
                  refine start_ (n := 23) (S := fun w' => w'.cell? ⟨gb30031, 0, none⟩ = some (.int .i64 t30024) ∧ w'.cell? ⟨gb30031, 1, none⟩ = some (.int .i64 t30025) ∧ w'.cell? ⟨gb30031, 2, none⟩ = some (.slice Ao79 t30026.length co79) ∧ w'.cell? ⟨gb30010, 0, none⟩ = some (.int .i64 t30004) ∧ w'.cell? ⟨gb30010, 1, none⟩ = some (.int .i64 t30005) ∧ w'.cell? ⟨gb30010, 2, none⟩ = some (.slice Ao67 t30006.length co67)) (ds := []) #[false, false, false, false, false, false, false, false, false, false, false, false, false, false, false, false, false, false, false, false, false, false, false] (by kernel_rfl) rfl rfl ⟨(blk_cell BK30031.out 0).trans rfl, (blk_cell BK30031.out 1).trans rfl, (blk_cell BK30031.out 2).trans rfl, (blk_cell BK30010.out 0).trans rfl, (blk_cell BK30010.out 1).trans rfl, (blk_cell BK30010.out 2).trans rfl⟩ (fun hHeld => ?_); refine with_tabW columbariumlaw10_TicksBack.tab5 columbariumlaw10_TicksBack.bits5 (fun HT_ HW_ => ?_)
                  generalize w80.drew = w81 at HO30003 HO30008 HO30013 HO30023 HO30028 BK30010 BK30031 HB hHeld ⊢
                  refine pure_ (i := 0) (N := some 47) (v := ?_) (a' := ?_) #[true, false, false, false, false, false, false, false, false, false, false, false, false, false, false, false, false, false, false, false, false, false, false] rfl rfl (any_of HT_.out (by kernel_rfl)) (fun _ _ _ h => h) (Or.inl ⟨by rfl, ?_⟩) ?_ ?_
                  rotate_left
                  · intro w'
                    go_simp
                    with_reducible rfl
                  rotate_left
                  · simp only [Act.put, List.setIfInBounds_toArray, List.set_cons_zero, List.set_cons_succ, i64_w, i32_w]
                    rfl
                  refine pure_ (i := 1) (N := some 48) (v := ?_) (a' := ?_) #[true, true, false, false, false, false, false, false, false, false, false, false, false, false, false, false, false, false, false, false, false, false, false] rfl rfl (any_of HT_.out (by kernel_rfl)) (fun _ _ _ h => h) (Or.inl ⟨by rfl, ?_⟩) ?_ ?_
                  rotate_left
                  · intro w'
                    go_simp
                    with_reducible rfl
                  rotate_left
                  · simp only [Act.put, List.setIfInBounds_toArray, List.set_cons_zero, List.set_cons_succ, i64_w, i32_w]
                    rfl
                  refine pure_ (i := 2) (N := some 49) (v := ?_) (a' := ?_) #[true, true, true, false, false, false, false, false, false, false, false, false, false, false, false, false, false, false, false, false, false, false, false] rfl rfl (any_of HT_.out (by kernel_rfl)) (fun _ _ _ h => h) (Or.inl ⟨by rfl, ?_⟩) ?_ ?_
                  rotate_left
                  · intro w'
                    go_simp
                    with_reducible rfl
                  rotate_left
                  · simp only [Act.put, List.setIfInBounds_toArray, List.set_cons_zero, List.set_cons_succ, i64_w, i32_w]
                    rfl
                  refine pure_ (i := 3) (N := some 50) (v := ?_) (a' := ?_) #[true, true, true, true, false, false, false, false, false, false, false, false, false, false, false, false, false, false, false, false, false, false, false] rfl rfl (any_of HT_.out (by kernel_rfl)) (fun _ _ _ h => h) (Or.inl ⟨by rfl, ?_⟩) ?_ ?_
                  rotate_left
                  · intro w'
                    go_simp
                    with_reducible rfl
                  rotate_left
                  · simp only [Act.put, List.setIfInBounds_toArray, List.set_cons_zero, List.set_cons_succ, i64_w, i32_w]
                    rfl
                  refine pure_ (i := 4) (N := some 51) (v := ?_) (a' := ?_) #[true, true, true, true, true, false, false, false, false, false, false, false, false, false, false, false, false, false, false, false, false, false, false] rfl rfl (any_of HT_.out (by kernel_rfl)) (fun _ _ _ h => h) (Or.inl ⟨by rfl, ?_⟩) ?_ ?_
                  rotate_left
                  · intro w'
                    go_simp
                    with_reducible rfl
                  rotate_left
                  · simp only [Act.put, List.setIfInBounds_toArray, List.set_cons_zero, List.set_cons_succ, i64_w, i32_w]
                    rfl
                  refine pure_ (i := 5) (N := some 52) (v := ?_) (a' := ?_) #[true, true, true, true, true, true, false, false, false, false, false, false, false, false, false, false, false, false, false, false, false, false, false] rfl rfl (any_of HT_.out (by kernel_rfl)) (fun _ _ _ h => h) (Or.inl ⟨by rfl, ?_⟩) ?_ ?_
                  rotate_left
                  · intro w'
                    go_simp
                    with_reducible rfl
                  rotate_left
                  · simp only [Act.put, List.setIfInBounds_toArray, List.set_cons_zero, List.set_cons_succ, i64_w, i32_w]
                    rfl
                  refine pure_ (i := 6) (N := some 53) (v := ?_) (a' := ?_) #[true, true, true, true, true, true, true, false, false, false, false, false, false, false, false, false, false, false, false, false, false, false, false] rfl rfl (any_of HT_.out (by kernel_rfl)) (fun _ _ _ h => h) (Or.inl ⟨by rfl, ?_⟩) ?_ ?_
                  rotate_left
                  · intro w'
                    go_simp
                    with_reducible rfl
                  rotate_left
                  · simp only [Act.put, List.setIfInBounds_toArray, List.set_cons_zero, List.set_cons_succ, i64_w, i32_w]
                    rfl
                  refine pure_ (i := 7) (N := some 54) (v := ?_) (a' := ?_) #[true, true, true, true, true, true, true, true, false, false, false, false, false, false, false, false, false, false, false, false, false, false, false] rfl rfl (any_of HT_.out (by kernel_rfl)) (fun _ _ _ h => h) (Or.inl ⟨by rfl, ?_⟩) ?_ ?_
                  rotate_left
                  · intro w'
                    go_simp
                    with_reducible rfl
                  rotate_left
                  · simp only [Act.put, List.setIfInBounds_toArray, List.set_cons_zero, List.set_cons_succ, i64_w, i32_w]
                    rfl
                  refine pure_ (i := 8) (N := some 55) (v := ?_) (a' := ?_) #[true, true, true, true, true, true, true, true, true, false, false, false, false, false, false, false, false, false, false, false, false, false, false] rfl rfl (any_of HT_.out (by kernel_rfl)) (fun _ _ _ h => h) (Or.inl ⟨by rfl, ?_⟩) ?_ ?_
                  rotate_left
                  · intro w'
                    go_simp
                    with_reducible rfl
                  rotate_left
                  · simp only [Act.put, List.setIfInBounds_toArray, List.set_cons_zero, List.set_cons_succ, i64_w, i32_w]
                    rfl
                  refine pure_ (i := 9) (N := some 56) (v := ?_) (a' := ?_) #[true, true, true, true, true, true, true, true, true, true, false, false, false, false, false, false, false, false, false, false, false, false, false] rfl rfl (any_of HT_.out (by kernel_rfl)) (fun _ _ _ h => h) (Or.inl ⟨by rfl, ?_⟩) ?_ ?_
                  rotate_left
                  · intro w'
                    go_simp
                    with_reducible rfl
                  rotate_left
                  · simp only [Act.put, List.setIfInBounds_toArray, List.set_cons_zero, List.set_cons_succ, i64_w, i32_w]
                    rfl
                  refine pure_ (i := 10) (N := some 57) (v := ?_) (a' := ?_) #[true, true, true, true, true, true, true, true, true, true, true, false, false, false, false, false, false, false, false, false, false, false, false] rfl rfl (any_of HT_.out (by kernel_rfl)) (fun _ _ _ h => h) (Or.inl ⟨by rfl, ?_⟩) ?_ ?_
                  rotate_left
                  · intro w'
                    go_simp
                    with_reducible rfl
                  rotate_left
                  · simp only [Act.put, List.setIfInBounds_toArray, List.set_cons_zero, List.set_cons_succ, i64_w, i32_w]
                    rfl
                  refine pure_ (i := 11) (N := some 58) (v := ?_) (a' := ?_) #[true, true, true, true, true, true, true, true, true, true, true, true, false, false, false, false, false, false, false, false, false, false, false] rfl rfl (any_of HT_.out (by kernel_rfl)) (fun _ _ _ h => h) (Or.inl ⟨by rfl, ?_⟩) ?_ ?_
                  rotate_left
                  · intro w'
                    go_simp
                    with_reducible rfl
                  rotate_left
                  · simp only [Act.put, List.setIfInBounds_toArray, List.set_cons_zero, List.set_cons_succ, i64_w, i32_w]
                    rfl
                  refine pure_ (i := 12) (N := some 59) (v := ?_) (a' := ?_) #[true, true, true, true, true, true, true, true, true, true, true, true, true, false, false, false, false, false, false, false, false, false, false] rfl rfl (any_of HT_.out (by kernel_rfl)) (fun _ _ _ h => h) (Or.inl ⟨by rfl, ?_⟩) ?_ ?_
                  rotate_left
                  · intro w'
                    go_simp
                    with_reducible rfl
                  rotate_left
                  · simp only [Act.put, List.setIfInBounds_toArray, List.set_cons_zero, List.set_cons_succ, i64_w, i32_w]
                    rfl
                  refine pure_ (i := 13) (N := some 60) (v := ?_) (a' := ?_) #[true, true, true, true, true, true, true, true, true, true, true, true, true, true, false, false, false, false, false, false, false, false, false] rfl rfl (any_of HT_.out (by kernel_rfl)) (fun _ _ _ h => h) (Or.inl ⟨by rfl, ?_⟩) ?_ ?_
                  rotate_left
                  · intro w'
                    go_simp
                    with_reducible rfl
                  rotate_left
                  · simp only [Act.put, List.setIfInBounds_toArray, List.set_cons_zero, List.set_cons_succ, i64_w, i32_w]
                    rfl
                  refine pure_ (i := 14) (N := some 61) (v := ?_) (a' := ?_) #[true, true, true, true, true, true, true, true, true, true, true, true, true, true, true, false, false, false, false, false, false, false, false] rfl rfl (any_of HT_.out (by kernel_rfl)) (fun _ _ _ h => h) (Or.inl ⟨by rfl, ?_⟩) ?_ ?_
                  rotate_left
                  · intro w'
                    go_simp
                    with_reducible rfl
                  rotate_left
                  · simp only [Act.put, List.setIfInBounds_toArray, List.set_cons_zero, List.set_cons_succ, i64_w, i32_w]
                    rfl
                  refine pure_ (i := 15) (N := some 62) (v := ?_) (a' := ?_) #[true, true, true, true, true, true, true, true, true, true, true, true, true, true, true, true, false, false, false, false, false, false, false] rfl rfl (any_of HT_.out (by kernel_rfl)) (fun _ _ _ h => h) (Or.inl ⟨by rfl, ?_⟩) ?_ ?_
                  rotate_left
                  · intro w'
                    go_simp
                    with_reducible rfl
                  rotate_left
                  · simp only [Act.put, List.setIfInBounds_toArray, List.set_cons_zero, List.set_cons_succ, i64_w, i32_w]
                    rfl
                  refine pure_ (i := 16) (N := some 63) (v := ?_) (a' := ?_) #[true, true, true, true, true, true, true, true, true, true, true, true, true, true, true, true, true, false, false, false, false, false, false] rfl rfl (any_of HT_.out (by kernel_rfl)) (fun _ _ _ h => h) (Or.inl ⟨by rfl, ?_⟩) ?_ ?_
                  rotate_left
                  · intro w'
                    go_simp
                    with_reducible rfl
                  rotate_left
                  · simp only [Act.put, List.setIfInBounds_toArray, List.set_cons_zero, List.set_cons_succ, i64_w, i32_w]
                    rfl
                  refine take_ (i := 17) (N := some 64) (v := ?_) (a' := ?_) #[true, true, true, true, true, true, true, true, true, true, true, true, true, true, true, true, true, true, false, false, false, false, false] rfl rfl (take_ofW HT_.out HW_.out (by kernel_rfl)) (fun _ _ _ h => h) (Or.inl ⟨by rfl, ?_⟩) hHeld ?_ ?_
                  rotate_left
                  · rintro w' ⟨s0, s1, s2, s3, s4, s5⟩
                    go_simp
                    with_reducible rfl
                  rotate_left
                  · simp only [Act.put, List.setIfInBounds_toArray, List.set_cons_zero, List.set_cons_succ, i64_w, i32_w]
                    rfl
                  refine take_ (i := 18) (N := some 65) (v := ?_) (a' := ?_) #[true, true, true, true, true, true, true, true, true, true, true, true, true, true, true, true, true, true, true, false, false, false, false] rfl rfl (take_ofW HT_.out HW_.out (by kernel_rfl)) (fun _ _ _ h => h) (Or.inl ⟨by rfl, ?_⟩) hHeld ?_ ?_
                  rotate_left
                  · rintro w' ⟨s0, s1, s2, s3, s4, s5⟩
                    go_simp
                    with_reducible rfl
                  rotate_left
                  · simp only [Act.put, List.setIfInBounds_toArray, List.set_cons_zero, List.set_cons_succ, i64_w, i32_w]
                    rfl
                  refine one_ (i := 19) (N := some 66) #[true, true, true, true, true, true, true, true, true, true, true, true, true, true, true, true, true, true, true, true, false, false, false] rfl rfl (one_of HT_.out (by kernel_rfl)) (by decide) (fun K hK => ?_)
                  refine goes_ Try.func39 (by kernel_rfl) rfl #[.agg #[.int .i64 t30004, .int .i64 t30005, .slice Ao67 t30006.length co67]] (by rfl) rfl rfl (by (try simp only [List.map_toArray, List.map_cons, List.map_nil]); first | done | rfl | (simp only [List.length_drop, List.length_take]; rfl)) ?_
                  with_reducible refine (columbariumlaw10_in.calls t30004 t30005 (fun k_ => some k_ = (.slice Ao67 t30006.length co67 : Value).ownBlock) (.slice Ao67 t30006.length co67) t30006 t30032 t30033 t30034 w _ ?side1 ?side2 A15.out).mono ?_
                  (case side1 => repeat (first | (with_reducible first | exact HB.out | apply below_alloc | apply pw_below_drewN | apply below_drew1 | refine below_set ?_ GE30010.out | refine below_set ?_ GE30031.out) | exact HB.out))
                  (case side2 => exact Kd.R_tight rfl HO30008.out)
                  rintro e w82 ⟨v30035, rfl, ho0, hb, hkp⟩
                  refine ⟨_, rfl, ?_⟩
                  have n0_ := Aside0.mk (Kd.R_mono (ok' := fun k_ => some k_ ≠ (.slice Ao79 t30026.length co79 : Value).ownBlock ∧ some k_ ≠ (v30035 : Value).ownBlock) (Kd.R_keptB (HO30003.out) hkp (fun k_ hk_ hs_ => (hk_.1) hs_)) (fun k_ hk_ => ⟨hk_.1.2, fun e_ => Or.elim (ho0.1 k_ e_.symm) (fun hs_ => hk_.2.1 hs_) (fun hn_ => Nat.not_le.2 hk_.2.2 hn_)⟩))
                  have n1_ := Aside0.mk (blk_kept (by (with_reducible repeat (first | refine blk_drewN ?_ _ | refine blk_drew ?_ | refine blk_alloc ?_ _)); exact BK30010.out) hkp (fun hs_ => (fun e_ => (Kd.R_ne HO30008.out BK30010.out (by decide)) e_) hs_))
                  have n2_ := Aside0.mk (Kd.R_mono (ok' := fun k_ => some k_ ≠ (.slice Ao74 y30021.length co74 : Value).ownBlock) (Kd.R_keptB ((Kd.R_apart' HO30013.out (Kd.R_typed HO30008.out) (by decide))) hkp (fun k_ hk_ hs_ => (hk_.2) hs_)) (fun k_ hk_ => hk_.1.1))
                  have n3_ := Aside0.mk (Kd.R_mono (ok' := fun k_ => some k_ ≠ (.slice Ao73 t30011.length co73 : Value).ownBlock) (Kd.R_keptB ((Kd.R_apart' HO30023.out (Kd.R_typed HO30008.out) (by decide))) hkp (fun k_ hk_ hs_ => (hk_.2) hs_)) (fun k_ hk_ => hk_.1.1))
                  have n4_ := Aside0.mk (Kd.R_mono (ok' := fun k_ => some k_ ≠ (.slice Ao63 t30001.length co63 : Value).ownBlock ∧ some k_ ≠ (v30035 : Value).ownBlock) (Kd.R_keptB (HO30028.out) hkp (fun k_ hk_ hs_ => (hk_.2) hs_)) (fun k_ hk_ => ⟨hk_.1.1, fun e_ => Or.elim (ho0.1 k_ e_.symm) (fun hs_ => hk_.2.1 hs_) (fun hn_ => Nat.not_le.2 hk_.2.2 hn_)⟩))
                  have n5_ := Aside0.mk (blk_kept (by (with_reducible repeat (first | refine blk_drewN ?_ _ | refine blk_drew ?_ | refine blk_alloc ?_ _)); exact BK30031.out) hkp (fun hs_ => (fun e_ => (Kd.R_ne HO30008.out BK30031.out (by decide)) e_) hs_))
                  have n6_ := Aside0.mk (Kd.R_mono (ok' := fun k_ => some k_ ≠ (.slice Ao63 t30001.length co63 : Value).ownBlock ∧ some k_ ≠ (.slice Ao79 t30026.length co79 : Value).ownBlock) ho0 (fun k_ hk_ => ⟨Or.elim hk_ (fun hs_ => fun e_ => (((HO30003.out).1 k_ e_.symm).1) hs_) (fun hn_ => (Kd.fresh' (Kd.R_lt (by (with_reducible repeat (first | apply Kd.R_alloc | apply Kd.R_drewN | apply Kd.R_drew)); exact HO30003.out)) k_ hn_)), Or.elim hk_ (fun hs_ => fun e_ => (((HO30028.out).1 k_ e_.symm).2) hs_) (fun hn_ => (Kd.fresh' (Kd.R_lt (by (with_reducible repeat (first | apply Kd.R_alloc | apply Kd.R_drewN | apply Kd.R_drew)); exact HO30028.out)) k_ hn_))⟩))
                  have n7_ := Aside0.mk (hb)
                  clear HO30003
                  clear BK30010
                  clear HO30013
                  clear HO30023
                  clear HO30028
                  clear BK30031
                  clear HB
                  clear HO30008
                  have HO30003 := n0_
                  have BK30010 := n1_
                  have HO30013 := n2_
                  have HO30023 := n3_
                  have HO30028 := n4_
                  have BK30031 := n5_
                  have HO30036 := n6_
                  have HB := n7_
                  clear n0_ n1_ n2_ n3_ n4_ n5_ n6_ n7_
                  (try clear hb)
                  (try clear hkp)
                  (try clear ho0)
                  obtain ⟨Ao83, co83, eo83⟩ := Kd.R_slice HO30036.out
                  (first | subst eo83 | (injection eo83 with f1_ f2_ f3_; have f4_ := f1_.symm; have f5_ := f3_.symm; clear f1_ f2_ f3_; subst f4_; subst f5_))
                  refine hK.out _ _ ⟨(blk_cell BK30031.out 0).trans rfl, (blk_cell BK30031.out 1).trans rfl, (blk_cell BK30031.out 2).trans rfl, (blk_cell BK30010.out 0).trans rfl, (blk_cell BK30010.out 1).trans rfl, (blk_cell BK30010.out 2).trans rfl⟩ (fun hHeld => ?_)
                  clear hK K
                  refine norm_ (a' := ?_) ?_ ?_
                  rotate_left
                  · show Act.put _ (some 66) _ = _
                    simp only [Act.put, List.setIfInBounds_toArray, List.set_cons_zero, List.set_cons_succ, i64_w, i32_w]
                    rfl
                  refine one_ (i := 20) (N := some 67) #[true, true, true, true, true, true, true, true, true, true, true, true, true, true, true, true, true, true, true, true, true, false, false] rfl rfl (one_of HT_.out (by kernel_rfl)) (by decide) (fun K hK => ?_)
                  refine goes_ Try.func35 (by kernel_rfl) rfl #[.agg #[.int .i64 t30024, .int .i64 t30025, .slice Ao79 t30026.length co79], .agg #[.int .i64 t30032, .int .i64 t30033, .slice Ao83 t30034.length co83]] (by rfl) rfl rfl (by (try simp only [List.map_toArray, List.map_cons, List.map_nil]); first | done | rfl | (simp only [List.length_drop, List.length_take]; rfl)) ?_
                  with_reducible refine (columbariumlaw10_same.calls k t30024 t30025 _ _ t30026 t30032 t30033 _ _ t30034 true _ ?side1 ?side2 ?side3 ?side4 A16.out).mono ?_
                  (case side1 => repeat (first | exact (Kd.R_reads' HO30028.out).2.2 | (with_reducible refine Kd.C_alloc ?_ _) | (with_reducible refine Kd.C_drewN ?_ _) | (with_reducible refine Kd.C_drew ?_)))
                  (case side2 => exact (Kd.R_reads' HO30028.out).2.1)
                  (case side3 => repeat (first | exact (Kd.R_reads' HO30036.out).2.2 | (with_reducible refine Kd.C_alloc ?_ _) | (with_reducible refine Kd.C_drewN ?_ _) | (with_reducible refine Kd.C_drew ?_)))
                  (case side4 => exact (Kd.R_reads' HO30036.out).2.1)
                  rintro e w84 ⟨rfl, hb⟩
                  refine ⟨_, rfl, ?_⟩
                  have n0_ := Aside0.mk (Kd.R_below (by (with_reducible repeat (first | apply Kd.R_alloc | apply Kd.R_drewN | apply Kd.R_drew)); exact HO30003.out) hb)
                  have n1_ := Aside0.mk (Kd.R_below (by (with_reducible repeat (first | apply Kd.R_alloc | apply Kd.R_drewN | apply Kd.R_drew)); exact HO30013.out) hb)
                  have n2_ := Aside0.mk (Kd.R_below (by (with_reducible repeat (first | apply Kd.R_alloc | apply Kd.R_drewN | apply Kd.R_drew)); exact HO30023.out) hb)
                  have n3_ := Aside0.mk (Kd.R_below (by (with_reducible repeat (first | apply Kd.R_alloc | apply Kd.R_drewN | apply Kd.R_drew)); exact HO30028.out) hb)
                  have n4_ := Aside0.mk (Kd.R_below (by (with_reducible repeat (first | apply Kd.R_alloc | apply Kd.R_drewN | apply Kd.R_drew)); exact HO30036.out) hb)
                  have n5_ := Aside0.mk (blk_below (g := gb30010) (o := .cells #[.int .i64 t30004, .int .i64 t30005, .slice Ao67 t30006.length co67] 61 (0, 0)) (by (with_reducible repeat (first | refine blk_drewN ?_ _ | refine blk_drew ?_ | refine blk_alloc ?_ _)); exact BK30010.out) hb)
                  have n6_ := Aside0.mk (blk_below (g := gb30031) (o := .cells #[.int .i64 t30024, .int .i64 t30025, .slice Ao79 t30026.length co79] 61 (0, 0)) (by (with_reducible repeat (first | refine blk_drewN ?_ _ | refine blk_drew ?_ | refine blk_alloc ?_ _)); exact BK30031.out) hb)
                  have n7_ := Aside0.mk (below_step (by repeat (first | (with_reducible first | exact HB.out | apply below_alloc | apply pw_below_drewN | apply below_drew1 | refine below_set ?_ GE30010.out | refine below_set ?_ GE30031.out) | exact HB.out)) hb)
                  clear HO30003
                  clear HO30013
                  clear HO30023
                  clear HO30028
                  clear HO30036
                  clear BK30010
                  clear BK30031
                  clear HB
                  have HO30003 := n0_
                  have HO30013 := n1_
                  have HO30023 := n2_
                  have HO30028 := n3_
                  have HO30036 := n4_
                  have BK30010 := n5_
                  have BK30031 := n6_
                  have HB := n7_
                  clear n0_ n1_ n2_ n3_ n4_ n5_ n6_ n7_
                  (try clear hb)
                  (try clear hb2)
                  (try clear hk)
                  (try clear hi)
                  refine hK.out _ _ ⟨(blk_cell BK30031.out 0).trans rfl, (blk_cell BK30031.out 1).trans rfl, (blk_cell BK30031.out 2).trans rfl, (blk_cell BK30010.out 0).trans rfl, (blk_cell BK30010.out 1).trans rfl, (blk_cell BK30010.out 2).trans rfl⟩ (fun hHeld => ?_)
                  clear hK K
                  refine norm_ (a' := ?_) ?_ ?_
                  rotate_left
                  · show Act.put _ (some 67) _ = _
                    simp only [Act.put, List.setIfInBounds_toArray, List.set_cons_zero, List.set_cons_succ, i64_w, i32_w]
                    rfl
                  refine pure_ (i := 21) (N := some 68) (v := ?_) (a' := ?_) #[true, true, true, true, true, true, true, true, true, true, true, true, true, true, true, true, true, true, true, true, true, true, false] rfl rfl (any_of HT_.out (by kernel_rfl)) (fun _ _ _ h => h) (Or.inl ⟨by rfl, ?_⟩) ?_ ?_
                  rotate_left
                  · intro w'
                    go_simp
                    with_reducible rfl
                  rotate_left
                  · simp only [Act.put, List.setIfInBounds_toArray, List.set_cons_zero, List.set_cons_succ, i64_w, i32_w]
                    rfl
                  refine pure_ (i := 22) (N := some 69) (v := ?_) (a' := ?_) #[true, true, true, true, true, true, true, true, true, true, true, true, true, true, true, true, true, true, true, true, true, true, true] rfl rfl (any_of HT_.out (by kernel_rfl)) (fun _ _ _ h => h) (Or.inl ⟨by rfl, ?_⟩) ?_ ?_
                  rotate_left
                  · intro w'
                    go_simp
                    with_reducible rfl
                  rotate_left
                  · simp only [Act.put, List.setIfInBounds_toArray, List.set_cons_zero, List.set_cons_succ, i64_w, i32_w]
                    rfl
                  refine done_ (done_of HT_.out (by kernel_rfl)) ?_
                  try go_wp2_with (first | ((with_reducible refine gate_callee (f := 41) rfl ?_); refine goesL_ (some 72) rfl rfl Try.func41 (by kernel_rfl) rfl #[.slice A3 l3.length c3, .int .i64 0] rfl (by (try simp only [List.map_toArray, List.map_cons, List.map_nil]); first | done | rfl | (simp only [List.length_drop, List.length_take]; rfl)) ?_; (with_reducible refine (ticks_Decode.calls k _ _ l3 0 t30038 t30039 t30040 t30043 t30044 _ ?side1 ?side2 A18.out).mono ?_); (case side1 => repeat (first | exact (Kd.C_below HR3.out HB.out) | (with_reducible refine Kd.C_alloc ?_ _) | (with_reducible refine Kd.C_drewN ?_ _) | (with_reducible refine Kd.C_drew ?_))); (case side2 => exact HC3.out); rintro e w85 ⟨v30041, rfl, ho0, hb⟩; refine ⟨_, rfl, ?_⟩; have n0_ := Aside0.mk (Kd.R_elder' (by (with_reducible repeat (first | apply Kd.R_alloc | apply Kd.R_drewN | apply Kd.R_drew)); exact HO30003.out) (Kd.R_base ho0) hb); have n1_ := Aside0.mk (Kd.R_below (by (with_reducible repeat (first | apply Kd.R_alloc | apply Kd.R_drewN | apply Kd.R_drew)); exact HO30013.out) hb); have n2_ := Aside0.mk (Kd.R_below (by (with_reducible repeat (first | apply Kd.R_alloc | apply Kd.R_drewN | apply Kd.R_drew)); exact HO30023.out) hb); have n3_ := Aside0.mk (Kd.R_elder' (by (with_reducible repeat (first | apply Kd.R_alloc | apply Kd.R_drewN | apply Kd.R_drew)); exact HO30028.out) (Kd.R_base ho0) hb); have n4_ := Aside0.mk (Kd.R_elder' (by (with_reducible repeat (first | apply Kd.R_alloc | apply Kd.R_drewN | apply Kd.R_drew)); exact HO30036.out) (Kd.R_base ho0) hb); have n5_ := Aside0.mk (Kd.R_lower (Kd.R_new' (Kd.R_new' (Kd.R_new' ho0 (Kd.R_lt (by (with_reducible repeat (first | apply Kd.R_alloc | apply Kd.R_drewN | apply Kd.R_drew)); exact HO30003.out))) (Kd.R_lt (by (with_reducible repeat (first | apply Kd.R_alloc | apply Kd.R_drewN | apply Kd.R_drew)); exact HO30028.out))) (Kd.R_lt (by (with_reducible repeat (first | apply Kd.R_alloc | apply Kd.R_drewN | apply Kd.R_drew)); exact HO30036.out))) (below_size (by repeat (first | (with_reducible first | exact HB.out | apply below_alloc | apply pw_below_drewN | apply below_drew1 | refine below_set ?_ GE30010.out | refine below_set ?_ GE30031.out) | exact HB.out)))); have n6_ := Aside0.mk (blk_below (g := gb30010) (o := .cells #[.int .i64 t30004, .int .i64 t30005, .slice Ao67 t30006.length co67] 61 (0, 0)) (by (with_reducible repeat (first | refine blk_drewN ?_ _ | refine blk_drew ?_ | refine blk_alloc ?_ _)); exact BK30010.out) hb); have n7_ := Aside0.mk (blk_below (g := gb30031) (o := .cells #[.int .i64 t30024, .int .i64 t30025, .slice Ao79 t30026.length co79] 61 (0, 0)) (by (with_reducible repeat (first | refine blk_drewN ?_ _ | refine blk_drew ?_ | refine blk_alloc ?_ _)); exact BK30031.out) hb); have n8_ := Aside0.mk (below_step (by repeat (first | (with_reducible first | exact HB.out | apply below_alloc | apply pw_below_drewN | apply below_drew1 | refine below_set ?_ GE30010.out | refine below_set ?_ GE30031.out) | exact HB.out)) hb); clear HO30003; clear HO30013; clear HO30023; clear HO30028; clear HO30036; clear BK30010; clear BK30031; clear HB; have HO30003 := n0_; have HO30013 := n1_; have HO30023 := n2_; have HO30028 := n3_; have HO30036 := n4_; have HO30042 := n5_; have BK30010 := n6_; have BK30031 := n7_; have HB := n8_; clear n0_ n1_ n2_ n3_ n4_ n5_ n6_ n7_ n8_; (try clear hb); (try clear hb2); (try clear hk); (try clear hi); (try clear ho0)) | ((with_reducible refine gate_dst (N := 17) rfl ?_); (try (refine gate_guard (by rfl) ?_; dsimp only)); refine box_event ?hg (N := 17) ?hd (cs := #[.int .i64 0, .int .i64 0, .slice none 0 0]) (t := 61) ?hr ?_; (case hd => rfl); (case hg => rfl); (case hr => first | (go_simp; done) | (go_simp; rfl)); intro gb30045 hg w86 hbox hb; have n0_ := Aside0.mk (Kd.R_below (by (with_reducible repeat (first | apply Kd.R_alloc | apply Kd.R_drewN | apply Kd.R_drew)); exact HO30003.out) hb); have n1_ := Aside0.mk (Kd.R_below (by (with_reducible repeat (first | apply Kd.R_alloc | apply Kd.R_drewN | apply Kd.R_drew)); exact HO30013.out) hb); have n2_ := Aside0.mk (Kd.R_below (by (with_reducible repeat (first | apply Kd.R_alloc | apply Kd.R_drewN | apply Kd.R_drew)); exact HO30023.out) hb); have n3_ := Aside0.mk (Kd.R_below (by (with_reducible repeat (first | apply Kd.R_alloc | apply Kd.R_drewN | apply Kd.R_drew)); exact HO30028.out) hb); have n4_ := Aside0.mk (Kd.R_below (by (with_reducible repeat (first | apply Kd.R_alloc | apply Kd.R_drewN | apply Kd.R_drew)); exact HO30036.out) hb); have n5_ := Aside0.mk (Kd.R_below (by (with_reducible repeat (first | apply Kd.R_alloc | apply Kd.R_drewN | apply Kd.R_drew)); exact HO30042.out) hb); have n6_ := Aside0.mk (blk_below (g := gb30010) (o := .cells #[.int .i64 t30004, .int .i64 t30005, .slice Ao67 t30006.length co67] 61 (0, 0)) (by (with_reducible repeat (first | refine blk_drewN ?_ _ | refine blk_drew ?_ | refine blk_alloc ?_ _)); exact BK30010.out) hb); have n7_ := Aside0.mk (blk_below (g := gb30031) (o := .cells #[.int .i64 t30024, .int .i64 t30025, .slice Ao79 t30026.length co79] 61 (0, 0)) (by (with_reducible repeat (first | refine blk_drewN ?_ _ | refine blk_drew ?_ | refine blk_alloc ?_ _)); exact BK30031.out) hb); have n8_ := Aside0.mk (below_step (by repeat (first | (with_reducible first | exact HB.out | apply below_alloc | apply pw_below_drewN | apply below_drew1 | refine below_set ?_ GE30010.out | refine below_set ?_ GE30031.out) | exact HB.out)) hb); have n9_ := Aside0.mk (hbox); have n10_ := Aside0.mk ((by rw [hg]; exact (below_size (by repeat (first | (with_reducible first | exact HB.out | apply below_alloc | apply pw_below_drewN | apply below_drew1 | refine below_set ?_ GE30010.out | refine below_set ?_ GE30031.out) | exact HB.out))) : w.heap.size ≤ gb30045)); have n11_ := Aside0.mk ((by rw [hg]; exact (below_size (by repeat (first | (with_reducible first | exact HB.out | apply below_alloc | apply pw_below_drewN | apply below_drew1 | refine below_set ?_ GE30010.out | refine below_set ?_ GE30031.out) | exact HB.out))) : w.heap.size ≤ gb30045)); have n12_ := Aside0.mk ((by rw [hg]; exact Nat.ne_of_lt (blk_lt (g := gb30010) (o := .cells #[.int .i64 t30004, .int .i64 t30005, .slice Ao67 t30006.length co67] 61 (0, 0)) (by (with_reducible repeat (first | refine blk_drewN ?_ _ | refine blk_drew ?_ | refine blk_alloc ?_ _)); exact BK30010.out)) : gb30010 ≠ gb30045)); have n13_ := Aside0.mk ((by rw [hg]; exact Nat.ne_of_gt (blk_lt (g := gb30010) (o := .cells #[.int .i64 t30004, .int .i64 t30005, .slice Ao67 t30006.length co67] 61 (0, 0)) (by (with_reducible repeat (first | refine blk_drewN ?_ _ | refine blk_drew ?_ | refine blk_alloc ?_ _)); exact BK30010.out)) : gb30045 ≠ gb30010)); have n14_ := Aside0.mk ((by rw [hg]; exact Nat.ne_of_lt (blk_lt (g := gb30031) (o := .cells #[.int .i64 t30024, .int .i64 t30025, .slice Ao79 t30026.length co79] 61 (0, 0)) (by (with_reducible repeat (first | refine blk_drewN ?_ _ | refine blk_drew ?_ | refine blk_alloc ?_ _)); exact BK30031.out)) : gb30031 ≠ gb30045)); have n15_ := Aside0.mk ((by rw [hg]; exact Nat.ne_of_gt (blk_lt (g := gb30031) (o := .cells #[.int .i64 t30024, .int .i64 t30025, .slice Ao79 t30026.length co79] 61 (0, 0)) (by (with_reducible repeat (first | refine blk_drewN ?_ _ | refine blk_drew ?_ | refine blk_alloc ?_ _)); exact BK30031.out)) : gb30045 ≠ gb30031)); clear HO30003; clear HO30013; clear HO30023; clear HO30028; clear HO30036; clear HO30042; clear BK30010; clear BK30031; clear HB; have HO30003 := n0_; have HO30013 := n1_; have HO30023 := n2_; have HO30028 := n3_; have HO30036 := n4_; have HO30042 := n5_; have BK30010 := n6_; have BK30031 := n7_; have HB := n8_; have BK30045 := n9_; have GW30045 := n10_; have GE30045 := n11_; have NB30010_30045 := n12_; have NB30045_30010 := n13_; have NB30031_30045 := n14_; have NB30045_30031 := n15_; clear n0_ n1_ n2_ n3_ n4_ n5_ n6_ n7_ n8_ n9_ n10_ n11_ n12_ n13_ n14_ n15_; clear hb hbox hg; have hnb87 := NB30045_30010.out; have hnc87 := NB30010_30045.out; have hnb88 := NB30045_30031.out; have hnc88 := NB30031_30045.out; have hcz89_0 : w86.cell? ⟨gb30045, 0, none⟩ = some (.int .i64 0) := (blk_cell BK30045.out 0).trans rfl; have hcz89_1 : w86.cell? ⟨gb30045, 1, none⟩ = some (.int .i64 0) := (blk_cell BK30045.out 1).trans rfl; have hcz89_2 : w86.cell? ⟨gb30045, 2, none⟩ = some (.slice none 0 0) := (blk_cell BK30045.out 2).trans rfl; have hfz89_0 := blk_frozen BK30045.out 0; have hfz89_1 := blk_frozen BK30045.out 1; have hfz89_2 := blk_frozen BK30045.out 2; obtain ⟨Ao90, co90, eo90⟩ := Kd.R_slice HO30042.out; subst eo90) | ((with_reducible refine gate_callee (f := 33) rfl ?_); refine goesL_ (some 100) rfl rfl Try.func33 (by kernel_rfl) rfl #[] rfl (by (try simp only [List.map_toArray, List.map_cons, List.map_nil]); first | done | rfl | (simp only [List.length_drop, List.length_take]; rfl)) ?_; (with_reducible refine (columbariumlaw10_known.calls k  t30053 _ A61.out).mono ?_); rintro e w91 ⟨rfl, hb⟩; refine ⟨_, rfl, ?_⟩; have n0_ := Aside0.mk (Kd.R_below (by (with_reducible repeat (first | apply Kd.R_alloc | apply Kd.R_drewN | apply Kd.R_drew)); exact (Kd.R_mono (Kd.R_far (p := ⟨gb30045, 2, none⟩) (Kd.R_far (p := ⟨gb30045, 1, none⟩) (Kd.R_far (p := ⟨gb30045, 0, none⟩) (Kd.R_types HO30003.out BK30045.out (by decide)) (fun _ hk => hk.2) (.int .i64 t30038)) (fun _ hk => hk.2) (.int .i64 t30039)) (fun _ hk => hk.2) (.slice Ao90 t30040.length co90)) (fun _ h_ => h_.1))) hb); have n1_ := Aside0.mk (Kd.R_below (by (with_reducible repeat (first | apply Kd.R_alloc | apply Kd.R_drewN | apply Kd.R_drew)); exact (Kd.R_mono (Kd.R_far (p := ⟨gb30045, 2, none⟩) (Kd.R_far (p := ⟨gb30045, 1, none⟩) (Kd.R_far (p := ⟨gb30045, 0, none⟩) (Kd.R_types HO30013.out BK30045.out (by decide)) (fun _ hk => hk.2) (.int .i64 t30038)) (fun _ hk => hk.2) (.int .i64 t30039)) (fun _ hk => hk.2) (.slice Ao90 t30040.length co90)) (fun _ h_ => h_.1))) hb); have n2_ := Aside0.mk (Kd.R_below (by (with_reducible repeat (first | apply Kd.R_alloc | apply Kd.R_drewN | apply Kd.R_drew)); exact (Kd.R_mono (Kd.R_far (p := ⟨gb30045, 2, none⟩) (Kd.R_far (p := ⟨gb30045, 1, none⟩) (Kd.R_far (p := ⟨gb30045, 0, none⟩) (Kd.R_types HO30023.out BK30045.out (by decide)) (fun _ hk => hk.2) (.int .i64 t30038)) (fun _ hk => hk.2) (.int .i64 t30039)) (fun _ hk => hk.2) (.slice Ao90 t30040.length co90)) (fun _ h_ => h_.1))) hb); have n3_ := Aside0.mk (Kd.R_below (by (with_reducible repeat (first | apply Kd.R_alloc | apply Kd.R_drewN | apply Kd.R_drew)); exact (Kd.R_mono (Kd.R_far (p := ⟨gb30045, 2, none⟩) (Kd.R_far (p := ⟨gb30045, 1, none⟩) (Kd.R_far (p := ⟨gb30045, 0, none⟩) (Kd.R_types HO30028.out BK30045.out (by decide)) (fun _ hk => hk.2) (.int .i64 t30038)) (fun _ hk => hk.2) (.int .i64 t30039)) (fun _ hk => hk.2) (.slice Ao90 t30040.length co90)) (fun _ h_ => h_.1))) hb); have n4_ := Aside0.mk (Kd.R_below (by (with_reducible repeat (first | apply Kd.R_alloc | apply Kd.R_drewN | apply Kd.R_drew)); exact (Kd.R_mono (Kd.R_far (p := ⟨gb30045, 2, none⟩) (Kd.R_far (p := ⟨gb30045, 1, none⟩) (Kd.R_far (p := ⟨gb30045, 0, none⟩) (Kd.R_types HO30036.out BK30045.out (by decide)) (fun _ hk => hk.2) (.int .i64 t30038)) (fun _ hk => hk.2) (.int .i64 t30039)) (fun _ hk => hk.2) (.slice Ao90 t30040.length co90)) (fun _ h_ => h_.1))) hb); have n5_ := Aside0.mk (Kd.R_below (by (with_reducible repeat (first | apply Kd.R_alloc | apply Kd.R_drewN | apply Kd.R_drew)); exact (Kd.R_mono (Kd.R_far (p := ⟨gb30045, 2, none⟩) (Kd.R_far (p := ⟨gb30045, 1, none⟩) (Kd.R_far (p := ⟨gb30045, 0, none⟩) (Kd.R_types HO30042.out BK30045.out (by decide)) (fun _ hk => hk.2) (.int .i64 t30038)) (fun _ hk => hk.2) (.int .i64 t30039)) (fun _ hk => hk.2) (.slice Ao90 t30040.length co90)) (fun _ h_ => h_.1))) hb); have n6_ := Aside0.mk (blk_below (g := gb30010) (o := .cells #[.int .i64 t30004, .int .i64 t30005, .slice Ao67 t30006.length co67] 61 (0, 0)) (by (with_reducible repeat (first | refine blk_drewN ?_ _ | refine blk_drew ?_ | refine blk_alloc ?_ _)); refine blk_far ?_ NB30010_30045.out _; (with_reducible repeat (first | refine blk_drewN ?_ _ | refine blk_drew ?_ | refine blk_alloc ?_ _)); refine blk_far ?_ NB30010_30045.out _; (with_reducible repeat (first | refine blk_drewN ?_ _ | refine blk_drew ?_ | refine blk_alloc ?_ _)); refine blk_far ?_ NB30010_30045.out _; (with_reducible repeat (first | refine blk_drewN ?_ _ | refine blk_drew ?_ | refine blk_alloc ?_ _)); exact BK30010.out) hb); have n7_ := Aside0.mk (blk_below (g := gb30031) (o := .cells #[.int .i64 t30024, .int .i64 t30025, .slice Ao79 t30026.length co79] 61 (0, 0)) (by (with_reducible repeat (first | refine blk_drewN ?_ _ | refine blk_drew ?_ | refine blk_alloc ?_ _)); refine blk_far ?_ NB30031_30045.out _; (with_reducible repeat (first | refine blk_drewN ?_ _ | refine blk_drew ?_ | refine blk_alloc ?_ _)); refine blk_far ?_ NB30031_30045.out _; (with_reducible repeat (first | refine blk_drewN ?_ _ | refine blk_drew ?_ | refine blk_alloc ?_ _)); refine blk_far ?_ NB30031_30045.out _; (with_reducible repeat (first | refine blk_drewN ?_ _ | refine blk_drew ?_ | refine blk_alloc ?_ _)); exact BK30031.out) hb); have n8_ := Aside0.mk (blk_below (g := gb30045) (o := .cells #[.int .i64 t30038, .int .i64 t30039, .slice Ao90 t30040.length co90] 61 (0, 0)) (by (with_reducible repeat (first | refine blk_drewN ?_ _ | refine blk_drew ?_ | refine blk_alloc ?_ _)); refine blk_put (cs := #[.int .i64 t30038, .int .i64 t30039, .slice none 0 0]) ?_ 2 _ rfl; (with_reducible repeat (first | refine blk_drewN ?_ _ | refine blk_drew ?_ | refine blk_alloc ?_ _)); refine blk_put (cs := #[.int .i64 t30038, .int .i64 0, .slice none 0 0]) ?_ 1 _ rfl; (with_reducible repeat (first | refine blk_drewN ?_ _ | refine blk_drew ?_ | refine blk_alloc ?_ _)); refine blk_put (cs := #[.int .i64 0, .int .i64 0, .slice none 0 0]) ?_ 0 _ rfl; (with_reducible repeat (first | refine blk_drewN ?_ _ | refine blk_drew ?_ | refine blk_alloc ?_ _)); exact BK30045.out) hb); have n9_ := Aside0.mk (below_step (by repeat (first | (with_reducible first | exact HB.out | apply below_alloc | apply pw_below_drewN | apply below_drew1 | refine below_set ?_ GE30010.out | refine below_set ?_ GE30031.out | refine below_set ?_ GE30045.out) | exact HB.out)) hb); clear HO30003; clear HO30013; clear HO30023; clear HO30028; clear HO30036; clear HO30042; clear BK30010; clear BK30031; clear BK30045; clear HB; have HO30003 := n0_; have HO30013 := n1_; have HO30023 := n2_; have HO30028 := n3_; have HO30036 := n4_; have HO30042 := n5_; have BK30010 := n6_; have BK30031 := n7_; have BK30045 := n8_; have HB := n9_; clear n0_ n1_ n2_ n3_ n4_ n5_ n6_ n7_ n8_ n9_; (try clear hb); (try clear hb2); (try clear hk); (try clear hi)))
                  go_ret
                  exact ⟨by first | rfl | (simp [errW_none, errW_some] <;> rfl) | (simp [*, errW_none, errW_some] <;> rfl), by repeat (first | (with_reducible first | exact HB.out | apply below_alloc | apply pw_below_drewN | apply below_drew1 | refine below_set ?_ GE30010.out | refine below_set ?_ GE30031.out | refine below_set ?_ GE30045.out) | exact HB.out)⟩
              · replace c17 := Bool.eq_false_iff.mpr c17
                subst c17
                have H1 : (some false) = some r := by rw [if_neg (show ¬ (false = true) by decide)] at H; exact H
                clear H
                have H := H1
                clear H1
                exact absurd ((Option.some.inj H).trans hr_.out) (by decide)
            · rw [if_neg c14] at H
              have c14b0 : (t30029 == (y30021.length : Int)) = false := beq_eq_false_iff_ne.mpr c14
              have c14b1 : (t30029 != (y30021.length : Int)) = true := bne_iff_ne.mpr c14
              exact absurd ((Option.some.inj H).trans hr_.out) (by decide)
          · rw [if_neg c13] at H
            have c13b0 : (t30030 == 0) = false := beq_eq_false_iff_ne.mpr c13
            have c13b1 : (t30030 != 0) = true := bne_iff_ne.mpr c13
            exact absurd ((Option.some.inj H).trans hr_.out) (by decide)
        · rw [if_neg c12] at H
          have c12b0 : (t30014 == 0) = false := beq_eq_false_iff_ne.mpr c12
          have c12b1 : (t30014 != 0) = true := bne_iff_ne.mpr c12
          exact absurd ((Option.some.inj H).trans hr_.out) (by decide)
      · rw [if_neg c11] at H
        have c11b0 : (t30009 == 0) = false := beq_eq_false_iff_ne.mpr c11
        have c11b1 : (t30009 != 0) = true := bne_iff_ne.mpr c11
        exact absurd ((Option.some.inj H).trans hr_.out) (by decide)
    · rw [if_neg c9] at H
      exact absurd H (by simp)
  · rw [if_neg c8] at H
    exact absurd H (by simp)

/-- THE ONE PURE STATEMENT of columbariumlaw10_TicksBack: yours. -/
def columbariumlaw10_TicksBack.Pure : Prop := ∀ (a0 : Int) (l1 : List Int) (l2 : List Int) (l3 : List Int), (Lit.int .i64 a0).wf = true → l1.length ≤ maxLen → l1.length * 8 ≤ 140737488351232 → (∀ x ∈ l1, (Lit.int .i64 x).wf = true) → l2.length ≤ maxLen → l2.length * 1 ≤ 140737488351232 → (∀ x ∈ l2, (Lit.int .u8 x).wf = true) → l3.length ≤ maxLen → l3.length * 1 ≤ 140737488351232 → (∀ x ∈ l3, (Lit.int .u8 x).wf = true) → ∃ k, columbariumlaw10_TicksBack.f k a0 l1 l2 l3 = some true
theorem columbariumlaw10_TicksBack.walk (P : columbariumlaw10_TicksBack.Pure) (a0 : Int) (a1 : Option Addr) (len1 cap1 : Nat) (z1 : List Int) (a2 : Option Addr) (len2 cap2 : Nat) (z2 : List Int) (a3 : Option Addr) (len3 cap3 : Nat) (z3 : List Int) (w : World) (w0 : (Lit.int .i64 a0).wf = true) (w1 : (a1 = none ∧ len1 = 0 ∧ cap1 = 0 ∧ z1 = []) ∨ ∃ x, a1 = some x ∧ len1 ≤ cap1 ∧ cap1 ≤ maxLen ∧ z1.length = cap1 ∧ (∀ i, i < z1.length → w.cell? (x.add i) = some (.int .i64 (z1.getD i 0))) ∧ ∀ n ∈ z1, (Lit.int .i64 n).wf = true) (y1 : len1 * 8 ≤ 140737488351232) (w2 : (a2 = none ∧ len2 = 0 ∧ cap2 = 0 ∧ z2 = []) ∨ ∃ x, a2 = some x ∧ len2 ≤ cap2 ∧ cap2 ≤ maxLen ∧ z2.length = cap2 ∧ (∀ i, i < z2.length → w.cell? (x.add i) = some (.int .u8 (z2.getD i 0))) ∧ ∀ n ∈ z2, (Lit.int .u8 n).wf = true) (y2 : len2 * 1 ≤ 140737488351232) (w3 : (a3 = none ∧ len3 = 0 ∧ cap3 = 0 ∧ z3 = []) ∨ ∃ x, a3 = some x ∧ len3 ≤ cap3 ∧ cap3 ≤ maxLen ∧ z3.length = cap3 ∧ (∀ i, i < z3.length → w.cell? (x.add i) = some (.int .u8 (z3.getD i 0))) ∧ ∀ n ∈ z3, (Lit.int .u8 n).wf = true) (y3 : len3 * 1 ≤ 140737488351232) :
    Calls Try.prog 14 #[.int .i64 a0, .slice a1 len1 cap1, .slice a2 len2 cap2, .slice a3 len3 cap3] w fun e w' => e = .returned (.bool true) ∧ Below w.heap.size w w' := by
  obtain ⟨l1, rfl, hr1, hm1, hw1, hc1⟩ := ReadsInt.ofRowC w1
  obtain ⟨l2, rfl, hr2, hm2, hw2, hc2⟩ := ReadsInt.ofRowC w2
  obtain ⟨l3, rfl, hr3, hm3, hw3, hc3⟩ := ReadsInt.ofRowC w3
  obtain ⟨k, h⟩ := P a0 l1 l2 l3 w0 hm1 y1 hw1 hm2 y2 hw2 hm3 y3 hw3
  refine (columbariumlaw10_TicksBack.calls k a0 _ _ l1 _ _ l2 _ _ l3 true w (Kd.C_of_reads (d := (0 : Int)) (h1 := fun _ => rfl) hr1) hc1 (Kd.C_of_reads (d := (0 : Int)) (h1 := fun _ => rfl) hr2) hc2 (Kd.C_of_reads (d := (0 : Int)) (h1 := fun _ => rfl) hr3) hc3 h ⟨rfl⟩).mono ?_
  rintro e w' ⟨rfl, hd⟩
  exact ⟨rfl, hd⟩

end Go.Proofs.Ytjpeojohakhmdaa.PS
