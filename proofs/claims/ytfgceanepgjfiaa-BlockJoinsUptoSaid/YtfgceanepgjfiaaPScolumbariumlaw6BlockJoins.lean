-- Written by a program of this session, out of the translation; Lean checks it.
import Derived.Test.YtfgceanepgjfiaaPSx0
import Derived.Test.YtfgceanepgjfiaaPSblockOpen
import Derived.Test.YtfgceanepgjfiaaPScolumbariumlaw6known
import Derived.Test.YtfgceanepgjfiaaPSblockAll
import Derived.Test.YtfgceanepgjfiaaPScolumbariumlaw6written
import Derived.Test.YtfgceanepgjfiaaPScolumbariumlaw6alike
namespace Go.Proofs.Ytfgceanepgjfiaa.PS
open Go.RowKit Go.Proofs.YtfgceanepgjfiaaW.PrintWords Go.Proofs.YtfgceanepgjfiaaW.PrintLast Go.Proofs.YtfgceanepgjfiaaW.PrintMore
attribute [local go_sem high] pw_str_leq pw_str_gtr
attribute [local go_sem] pw_us8 pw_us32 pw_us64 pw_max2_str pw_min2_str max2_int min2_int max_two min_two max_three min_three max_four min_four   -- for this text's walks alone
set_option linter.unusedVariables false
set_option linter.unusedSimpArgs false

/-! ### columbariumlaw6_BlockJoins: function 14 -/
def columbariumlaw6_BlockJoins.l0 : Nat → List Int → List (List Int) → Int → Int → Option (Bool)
  | 0, _, _, _, _ => none
  | k + 1, x7, x15, x18, x19 => if x19 < (x15.length : Int) then ((block_Open.f k x7 x18).bind fun bt30044 => (if bt30044.2.2 = 0 then (if 0 ≤ x19 then (if (strOfNums bt30044.1).toList = (strOfNums (rd_L2 x15 x19)).toList then (if bt30044.2.1 ≤ x18 then (some false) else (columbariumlaw6_BlockJoins.l0 k x7 x15 bt30044.2.1 (wrap64 (x19 + 1)))) else (some false)) else (none)) else (some false))) else (if x18 = (x7.length : Int) then ((columbariumlaw6_known.f k).bind fun t30050 => (some t30050)) else (some false))
def columbariumlaw6_BlockJoins.f (k : Nat) (l0 : List ByteArray) (l1 : List ByteArray) (l2 : List Int) : Option (Bool) := (columbariumlaw6_written.f k l0).bind fun t30001 => ((columbariumlaw6_written.f k l1).bind fun t30004 => (if t30004.length + l2.length < 140737488355328 then ((some (t30004 ++ l2 : List Int)).bind fun y30007 => ((block_All.f k y30007).bind fun bt30010 => ((some (([] : List Int) : List Int)).bind fun y30015 => (if y30015.length + t30001.length < 140737488355328 then ((some (y30015 ++ t30001 : List Int)).bind fun y30018 => (if y30018.length + y30007.length < 140737488355328 then ((block_All.f k (y30018 ++ y30007)).bind fun bt30024 => ((block_All.f k t30001).bind fun bt30029 => (if bt30029.2.2 = 0 then (if bt30029.2.1 = (t30001.length : Int) then (if bt30010.2.2 = bt30024.2.2 then (if bt30024.2.1 = (wrap64 ((t30001.length : Int) + bt30010.2.1)) then ((some (([] : List (List Int)) : List (List Int))).bind fun y30034 => (if y30034.length + bt30029.1.length < 5864062014805 then ((some (y30034 ++ bt30029.1 : List (List Int))).bind fun y30037 => (if y30037.length + bt30010.1.length < 5864062014805 then ((columbariumlaw6_alike.f k bt30024.1 (y30037 ++ bt30010.1)).bind fun t30043 => (if t30043 = true then (columbariumlaw6_BlockJoins.l0 k t30001 bt30029.1 0 0) else (some false))) else (none))) else (none))) else (some false)) else (some false)) else (some false)) else (some false)))) else (none))) else (none))))) else (none)))
theorem columbariumlaw6_BlockJoins.mono_l : ∀ k, (∀ y0 y1 y2 y3, LeO (columbariumlaw6_BlockJoins.l0 k y0 y1 y2 y3) (columbariumlaw6_BlockJoins.l0 (k + 1) y0 y1 y2 y3))
  | 0 => fun _ _ _ _ r h => by simp [columbariumlaw6_BlockJoins.l0] at h
  | k + 1 => by
    have ih0 := columbariumlaw6_BlockJoins.mono_l k
    · intro y0 y1 y2 y3
      unfold columbariumlaw6_BlockJoins.l0
      repeat' first
      | (with_reducible exact ih0 _ _ _ _)
      | (with_reducible exact block_All.mono _ _)
      | (with_reducible exact block_Open.mono _ _ _)
      | (with_reducible exact columbariumlaw6_alike.mono _ _ _)
      | (with_reducible exact columbariumlaw6_known.mono _)
      | (with_reducible exact columbariumlaw6_written.mono _ _)
      | (with_reducible exact LeO.refl _)
      | (with_reducible exact LeO.none _)
      | (with_reducible refine LeO.ite ?_ ?_)
      | (with_reducible refine LeO.bind ?_ (fun _ => ?_))
      | exact ih0 _ _ _ _
      | exact block_All.mono _ _
      | exact block_Open.mono _ _ _
      | exact columbariumlaw6_alike.mono _ _ _
      | exact columbariumlaw6_known.mono _
      | exact columbariumlaw6_written.mono _ _
      | exact LeO.none _
      | refine LeO.ite ?_ ?_
      | refine LeO.bind ?_ (fun _ => ?_)
theorem columbariumlaw6_BlockJoins.mono : ∀ a0 a1 a2 k, LeO (columbariumlaw6_BlockJoins.f k a0 a1 a2) (columbariumlaw6_BlockJoins.f (k + 1) a0 a1 a2) := by
  intro a0 a1 a2 k
  have ih0 := columbariumlaw6_BlockJoins.mono_l k
  unfold columbariumlaw6_BlockJoins.f
  repeat' first
      | (with_reducible exact ih0 _ _ _ _)
      | (with_reducible exact block_All.mono _ _)
      | (with_reducible exact block_Open.mono _ _ _)
      | (with_reducible exact columbariumlaw6_alike.mono _ _ _)
      | (with_reducible exact columbariumlaw6_known.mono _)
      | (with_reducible exact columbariumlaw6_written.mono _ _)
      | (with_reducible exact LeO.refl _)
      | (with_reducible exact LeO.none _)
      | (with_reducible refine LeO.ite ?_ ?_)
      | (with_reducible refine LeO.bind ?_ (fun _ => ?_))
      | exact ih0 _ _ _ _
      | exact block_All.mono _ _
      | exact block_Open.mono _ _ _
      | exact columbariumlaw6_alike.mono _ _ _
      | exact columbariumlaw6_known.mono _
      | exact columbariumlaw6_written.mono _ _
      | exact LeO.none _
      | refine LeO.ite ?_ ?_
      | refine LeO.bind ?_ (fun _ => ?_)
def columbariumlaw6_BlockJoins.T13 : Bool × List (List Nat × List Nat) := (true, [([], []), ([0], [0]), ([1], [1]), ([2], [2]), ([3, 2], [2, 3]), ([2], [2]), ([2], [2]), ([5, 6, 2], [2, 5, 6]), ([7, 2], [2, 7]), ([8, 2], [2, 8]), ([4, 9, 2], [2, 4, 9]), ([2, 10], [2, 10]), ([11, 2], [11]), ([12], [12]), ([12], [12]), ([13, 14, 12], [12, 13, 14]), ([12, 15], [12, 15])])
def columbariumlaw6_BlockJoins.B13 : List Nat := [0, 1, 3, 7, 15, 7, 7, 103, 231, 487, 1023, 2047, 4095, 8191, 8191, 32767, 65535]
theorem columbariumlaw6_BlockJoins.tab13 : rtab .any (opsOf Try.f14 13) = columbariumlaw6_BlockJoins.T13 := by kernel_rfl
theorem columbariumlaw6_BlockJoins.bits13 : waitsOk columbariumlaw6_BlockJoins.T13.2 columbariumlaw6_BlockJoins.B13 = true := by kernel_rfl
set_option maxHeartbeats 8000000 in
set_option maxRecDepth 100000 in
theorem columbariumlaw6_BlockJoins.calls (k : Nat) (A0 : Option Addr) (c0 : Nat) (l0 : List ByteArray) (A1 : Option Addr) (c1 : Nat) (l1 : List ByteArray) (A2 : Option Addr) (c2 : Nat) (l2 : List Int) (r : Bool) (w : World) (hr0 : Kd.C Kd.string w A0 l0.length l0) (hc0 : l0.length ≤ c0) (hr1 : Kd.C Kd.string w A1 l1.length l1) (hc1 : l1.length ≤ c1) (hr2 : Kd.C (Kd.int .u8) w A2 l2.length l2) (hc2 : l2.length ≤ c2) (h : columbariumlaw6_BlockJoins.f k l0 l1 l2 = some r) (hr_ : Aside0 (r = true)) :
    Calls Try.prog 14 #[.slice A0 l0.length c0, .slice A1 l1.length c1, .slice A2 l2.length c2] w fun e w' => e = .returned (.bool r) ∧ Below w.heap.size w w' := by
  have HR0 := Aside0.mk hr0
  have HC0 := Aside0.mk hc0
  clear hr0 hc0
  have HR1 := Aside0.mk hr1
  have HC1 := Aside0.mk hc1
  clear hr1 hc1
  have HR2 := Aside0.mk hr2
  have HC2 := Aside0.mk hc2
  clear hr2 hc2
  have HB := Aside0.mk (Below.refl w.heap.size w)
  have H : ((columbariumlaw6_written.f k l0).bind fun t30001 => ((columbariumlaw6_written.f k l1).bind fun t30004 => (if t30004.length + l2.length < 140737488355328 then ((some (t30004 ++ l2 : List Int)).bind fun y30007 => ((block_All.f k y30007).bind fun bt30010 => ((some (([] : List Int) : List Int)).bind fun y30015 => (if y30015.length + t30001.length < 140737488355328 then ((some (y30015 ++ t30001 : List Int)).bind fun y30018 => (if y30018.length + y30007.length < 140737488355328 then ((block_All.f k (y30018 ++ y30007)).bind fun bt30024 => ((block_All.f k t30001).bind fun bt30029 => (if bt30029.2.2 = 0 then (if bt30029.2.1 = (t30001.length : Int) then (if bt30010.2.2 = bt30024.2.2 then (if bt30024.2.1 = (wrap64 ((t30001.length : Int) + bt30010.2.1)) then ((some (([] : List (List Int)) : List (List Int))).bind fun y30034 => (if y30034.length + bt30029.1.length < 5864062014805 then ((some (y30034 ++ bt30029.1 : List (List Int))).bind fun y30037 => (if y30037.length + bt30010.1.length < 5864062014805 then ((columbariumlaw6_alike.f k bt30024.1 (y30037 ++ bt30010.1)).bind fun t30043 => (if t30043 = true then (columbariumlaw6_BlockJoins.l0 k t30001 bt30029.1 0 0) else (some false))) else (none))) else (none))) else (some false)) else (some false)) else (some false)) else (some false)))) else (none))) else (none))))) else (none)))) = some r := h
  clear h
  replace H := Option.bind_eq_some_iff.mp H
  obtain ⟨t30001, A40, H⟩ := H
  replace H : ((columbariumlaw6_written.f k l1).bind fun t30004 => (if t30004.length + l2.length < 140737488355328 then ((some (t30004 ++ l2 : List Int)).bind fun y30007 => ((block_All.f k y30007).bind fun bt30010 => ((some (([] : List Int) : List Int)).bind fun y30015 => (if y30015.length + t30001.length < 140737488355328 then ((some (y30015 ++ t30001 : List Int)).bind fun y30018 => (if y30018.length + y30007.length < 140737488355328 then ((block_All.f k (y30018 ++ y30007)).bind fun bt30024 => ((block_All.f k t30001).bind fun bt30029 => (if bt30029.2.2 = 0 then (if bt30029.2.1 = (t30001.length : Int) then (if bt30010.2.2 = bt30024.2.2 then (if bt30024.2.1 = (wrap64 ((t30001.length : Int) + bt30010.2.1)) then ((some (([] : List (List Int)) : List (List Int))).bind fun y30034 => (if y30034.length + bt30029.1.length < 5864062014805 then ((some (y30034 ++ bt30029.1 : List (List Int))).bind fun y30037 => (if y30037.length + bt30010.1.length < 5864062014805 then ((columbariumlaw6_alike.f k bt30024.1 (y30037 ++ bt30010.1)).bind fun t30043 => (if t30043 = true then (columbariumlaw6_BlockJoins.l0 k t30001 bt30029.1 0 0) else (some false))) else (none))) else (none))) else (some false)) else (some false)) else (some false)) else (some false)))) else (none))) else (none))))) else (none))) = some r := H
  have A4 := Aside0.mk A40
  clear A40
  replace H := Option.bind_eq_some_iff.mp H
  obtain ⟨t30004, A50, H⟩ := H
  replace H : (if t30004.length + l2.length < 140737488355328 then ((some (t30004 ++ l2 : List Int)).bind fun y30007 => ((block_All.f k y30007).bind fun bt30010 => ((some (([] : List Int) : List Int)).bind fun y30015 => (if y30015.length + t30001.length < 140737488355328 then ((some (y30015 ++ t30001 : List Int)).bind fun y30018 => (if y30018.length + y30007.length < 140737488355328 then ((block_All.f k (y30018 ++ y30007)).bind fun bt30024 => ((block_All.f k t30001).bind fun bt30029 => (if bt30029.2.2 = 0 then (if bt30029.2.1 = (t30001.length : Int) then (if bt30010.2.2 = bt30024.2.2 then (if bt30024.2.1 = (wrap64 ((t30001.length : Int) + bt30010.2.1)) then ((some (([] : List (List Int)) : List (List Int))).bind fun y30034 => (if y30034.length + bt30029.1.length < 5864062014805 then ((some (y30034 ++ bt30029.1 : List (List Int))).bind fun y30037 => (if y30037.length + bt30010.1.length < 5864062014805 then ((columbariumlaw6_alike.f k bt30024.1 (y30037 ++ bt30010.1)).bind fun t30043 => (if t30043 = true then (columbariumlaw6_BlockJoins.l0 k t30001 bt30029.1 0 0) else (some false))) else (none))) else (none))) else (some false)) else (some false)) else (some false)) else (some false)))) else (none))) else (none))))) else (none)) = some r := H
  have A5 := Aside0.mk A50
  clear A50
  by_cases c6 : t30004.length + l2.length < 140737488355328
  · rw [if_pos c6] at H
    have LMc6 := Aside0.mk c6
    clear c6
    obtain ⟨y30007, hy30007⟩ : ∃ y_ : List Int, y_ = (t30004 ++ l2) := ⟨_, rfl⟩
    replace H : ((block_All.f k y30007).bind fun bt30010 => ((some (([] : List Int) : List Int)).bind fun y30015 => (if y30015.length + t30001.length < 140737488355328 then ((some (y30015 ++ t30001 : List Int)).bind fun y30018 => (if y30018.length + y30007.length < 140737488355328 then ((block_All.f k (y30018 ++ y30007)).bind fun bt30024 => ((block_All.f k t30001).bind fun bt30029 => (if bt30029.2.2 = 0 then (if bt30029.2.1 = (t30001.length : Int) then (if bt30010.2.2 = bt30024.2.2 then (if bt30024.2.1 = (wrap64 ((t30001.length : Int) + bt30010.2.1)) then ((some (([] : List (List Int)) : List (List Int))).bind fun y30034 => (if y30034.length + bt30029.1.length < 5864062014805 then ((some (y30034 ++ bt30029.1 : List (List Int))).bind fun y30037 => (if y30037.length + bt30010.1.length < 5864062014805 then ((columbariumlaw6_alike.f k bt30024.1 (y30037 ++ bt30010.1)).bind fun t30043 => (if t30043 = true then (columbariumlaw6_BlockJoins.l0 k t30001 bt30029.1 0 0) else (some false))) else (none))) else (none))) else (some false)) else (some false)) else (some false)) else (some false)))) else (none))) else (none)))) = some r := by first | (rw [hy30007]; with_reducible exact H) | (have H2_ := (Option.bind_some _ _).symm.trans H; rw [hy30007]; with_reducible exact H2_) | (have H2_ := (Option.bind_some _ _).symm.trans H; with_reducible exact H2_) | with_reducible exact H | (rw [hy30007]; exact H) | exact H
    have Ny30007 := Aside0.mk hy30007
    clear hy30007
    replace H := Option.bind_eq_some_iff.mp H
    obtain ⟨⟨t30010, t30013, t30014⟩, A70, H⟩ := H
    replace H : ((some (([] : List Int) : List Int)).bind fun y30015 => (if y30015.length + t30001.length < 140737488355328 then ((some (y30015 ++ t30001 : List Int)).bind fun y30018 => (if y30018.length + y30007.length < 140737488355328 then ((block_All.f k (y30018 ++ y30007)).bind fun bt30024 => ((block_All.f k t30001).bind fun bt30029 => (if bt30029.2.2 = 0 then (if bt30029.2.1 = (t30001.length : Int) then (if t30014 = bt30024.2.2 then (if bt30024.2.1 = (wrap64 ((t30001.length : Int) + t30013)) then ((some (([] : List (List Int)) : List (List Int))).bind fun y30034 => (if y30034.length + bt30029.1.length < 5864062014805 then ((some (y30034 ++ bt30029.1 : List (List Int))).bind fun y30037 => (if y30037.length + t30010.length < 5864062014805 then ((columbariumlaw6_alike.f k bt30024.1 (y30037 ++ t30010)).bind fun t30043 => (if t30043 = true then (columbariumlaw6_BlockJoins.l0 k t30001 bt30029.1 0 0) else (some false))) else (none))) else (none))) else (some false)) else (some false)) else (some false)) else (some false)))) else (none))) else (none))) = some r := H
    have A7 := Aside0.mk A70
    clear A70
    obtain ⟨y30015, hy30015⟩ : ∃ y_ : List Int, y_ = (([] : List Int)) := ⟨_, rfl⟩
    replace H : (if y30015.length + t30001.length < 140737488355328 then ((some (y30015 ++ t30001 : List Int)).bind fun y30018 => (if y30018.length + y30007.length < 140737488355328 then ((block_All.f k (y30018 ++ y30007)).bind fun bt30024 => ((block_All.f k t30001).bind fun bt30029 => (if bt30029.2.2 = 0 then (if bt30029.2.1 = (t30001.length : Int) then (if t30014 = bt30024.2.2 then (if bt30024.2.1 = (wrap64 ((t30001.length : Int) + t30013)) then ((some (([] : List (List Int)) : List (List Int))).bind fun y30034 => (if y30034.length + bt30029.1.length < 5864062014805 then ((some (y30034 ++ bt30029.1 : List (List Int))).bind fun y30037 => (if y30037.length + t30010.length < 5864062014805 then ((columbariumlaw6_alike.f k bt30024.1 (y30037 ++ t30010)).bind fun t30043 => (if t30043 = true then (columbariumlaw6_BlockJoins.l0 k t30001 bt30029.1 0 0) else (some false))) else (none))) else (none))) else (some false)) else (some false)) else (some false)) else (some false)))) else (none))) else (none)) = some r := by first | (rw [hy30015]; with_reducible exact H) | (have H2_ := (Option.bind_some _ _).symm.trans H; rw [hy30015]; with_reducible exact H2_) | (have H2_ := (Option.bind_some _ _).symm.trans H; with_reducible exact H2_) | with_reducible exact H | (rw [hy30015]; exact H) | exact H
    have Ny30015 := Aside0.mk hy30015
    clear hy30015
    by_cases c8 : y30015.length + t30001.length < 140737488355328
    · rw [if_pos c8] at H
      have LMc8 := Aside0.mk c8
      clear c8
      obtain ⟨y30018, hy30018⟩ : ∃ y_ : List Int, y_ = (y30015 ++ t30001) := ⟨_, rfl⟩
      replace H : (if y30018.length + y30007.length < 140737488355328 then ((block_All.f k (y30018 ++ y30007)).bind fun bt30024 => ((block_All.f k t30001).bind fun bt30029 => (if bt30029.2.2 = 0 then (if bt30029.2.1 = (t30001.length : Int) then (if t30014 = bt30024.2.2 then (if bt30024.2.1 = (wrap64 ((t30001.length : Int) + t30013)) then ((some (([] : List (List Int)) : List (List Int))).bind fun y30034 => (if y30034.length + bt30029.1.length < 5864062014805 then ((some (y30034 ++ bt30029.1 : List (List Int))).bind fun y30037 => (if y30037.length + t30010.length < 5864062014805 then ((columbariumlaw6_alike.f k bt30024.1 (y30037 ++ t30010)).bind fun t30043 => (if t30043 = true then (columbariumlaw6_BlockJoins.l0 k t30001 bt30029.1 0 0) else (some false))) else (none))) else (none))) else (some false)) else (some false)) else (some false)) else (some false)))) else (none)) = some r := by first | (rw [hy30018]; with_reducible exact H) | (have H2_ := (Option.bind_some _ _).symm.trans H; rw [hy30018]; with_reducible exact H2_) | (have H2_ := (Option.bind_some _ _).symm.trans H; with_reducible exact H2_) | with_reducible exact H | (rw [hy30018]; exact H) | exact H
      have Ny30018 := Aside0.mk hy30018
      clear hy30018
      by_cases c9 : y30018.length + y30007.length < 140737488355328
      · rw [if_pos c9] at H
        have LMc9 := Aside0.mk c9
        clear c9
        obtain ⟨y30021, hy30021⟩ : ∃ y_ : List Int, y_ = (y30018 ++ y30007) := ⟨_, rfl⟩
        replace H : ((block_All.f k y30021).bind fun bt30024 => ((block_All.f k t30001).bind fun bt30029 => (if bt30029.2.2 = 0 then (if bt30029.2.1 = (t30001.length : Int) then (if t30014 = bt30024.2.2 then (if bt30024.2.1 = (wrap64 ((t30001.length : Int) + t30013)) then ((some (([] : List (List Int)) : List (List Int))).bind fun y30034 => (if y30034.length + bt30029.1.length < 5864062014805 then ((some (y30034 ++ bt30029.1 : List (List Int))).bind fun y30037 => (if y30037.length + t30010.length < 5864062014805 then ((columbariumlaw6_alike.f k bt30024.1 (y30037 ++ t30010)).bind fun t30043 => (if t30043 = true then (columbariumlaw6_BlockJoins.l0 k t30001 bt30029.1 0 0) else (some false))) else (none))) else (none))) else (some false)) else (some false)) else (some false)) else (some false)))) = some r := by first | (rw [hy30021]; with_reducible exact H) | (have H2_ := (Option.bind_some _ _).symm.trans H; rw [hy30021]; with_reducible exact H2_) | (have H2_ := (Option.bind_some _ _).symm.trans H; with_reducible exact H2_) | with_reducible exact H | (rw [hy30021]; exact H) | exact H
        have Ny30021 := Aside0.mk hy30021
        clear hy30021
        replace H := Option.bind_eq_some_iff.mp H
        obtain ⟨⟨t30024, t30027, t30028⟩, A100, H⟩ := H
        replace H : ((block_All.f k t30001).bind fun bt30029 => (if bt30029.2.2 = 0 then (if bt30029.2.1 = (t30001.length : Int) then (if t30014 = t30028 then (if t30027 = (wrap64 ((t30001.length : Int) + t30013)) then ((some (([] : List (List Int)) : List (List Int))).bind fun y30034 => (if y30034.length + bt30029.1.length < 5864062014805 then ((some (y30034 ++ bt30029.1 : List (List Int))).bind fun y30037 => (if y30037.length + t30010.length < 5864062014805 then ((columbariumlaw6_alike.f k t30024 (y30037 ++ t30010)).bind fun t30043 => (if t30043 = true then (columbariumlaw6_BlockJoins.l0 k t30001 bt30029.1 0 0) else (some false))) else (none))) else (none))) else (some false)) else (some false)) else (some false)) else (some false))) = some r := H
        have A10 := Aside0.mk A100
        clear A100
        replace H := Option.bind_eq_some_iff.mp H
        obtain ⟨⟨t30029, t30032, t30033⟩, A110, H⟩ := H
        replace H : (if t30033 = 0 then (if t30032 = (t30001.length : Int) then (if t30014 = t30028 then (if t30027 = (wrap64 ((t30001.length : Int) + t30013)) then ((some (([] : List (List Int)) : List (List Int))).bind fun y30034 => (if y30034.length + t30029.length < 5864062014805 then ((some (y30034 ++ t30029 : List (List Int))).bind fun y30037 => (if y30037.length + t30010.length < 5864062014805 then ((columbariumlaw6_alike.f k t30024 (y30037 ++ t30010)).bind fun t30043 => (if t30043 = true then (columbariumlaw6_BlockJoins.l0 k t30001 t30029 0 0) else (some false))) else (none))) else (none))) else (some false)) else (some false)) else (some false)) else (some false)) = some r := H
        have A11 := Aside0.mk A110
        clear A110
        by_cases c12 : t30033 = 0
        · rw [if_pos c12] at H
          have c12b0 : (t30033 == 0) = true := beq_iff_eq.mpr c12
          have c12b1 : (t30033 != 0) = false := bne_eq_false_iff_eq.mpr c12
          clear c12
          by_cases c13 : t30032 = (t30001.length : Int)
          · rw [if_pos c13] at H
            have c13b0 : (t30032 == (t30001.length : Int)) = true := beq_iff_eq.mpr c13
            have c13b1 : (t30032 != (t30001.length : Int)) = false := bne_eq_false_iff_eq.mpr c13
            clear c13
            by_cases c14 : t30014 = t30028
            · rw [if_pos c14] at H
              have c14b0 : (t30014 == t30028) = true := beq_iff_eq.mpr c14
              have c14b1 : (t30014 != t30028) = false := bne_eq_false_iff_eq.mpr c14
              clear c14
              by_cases c15 : t30027 = (wrap64 ((t30001.length : Int) + t30013))
              · rw [if_pos c15] at H
                have c15b0 : (t30027 == (wrap64 ((t30001.length : Int) + t30013))) = true := beq_iff_eq.mpr c15
                have c15b1 : (t30027 != (wrap64 ((t30001.length : Int) + t30013))) = false := bne_eq_false_iff_eq.mpr c15
                clear c15
                obtain ⟨y30034, hy30034⟩ : ∃ y_ : List (List Int), y_ = (([] : List (List Int))) := ⟨_, rfl⟩
                replace H : (if y30034.length + t30029.length < 5864062014805 then ((some (y30034 ++ t30029 : List (List Int))).bind fun y30037 => (if y30037.length + t30010.length < 5864062014805 then ((columbariumlaw6_alike.f k t30024 (y30037 ++ t30010)).bind fun t30043 => (if t30043 = true then (columbariumlaw6_BlockJoins.l0 k t30001 t30029 0 0) else (some false))) else (none))) else (none)) = some r := by first | (rw [hy30034]; with_reducible exact H) | (have H2_ := (Option.bind_some _ _).symm.trans H; rw [hy30034]; with_reducible exact H2_) | (have H2_ := (Option.bind_some _ _).symm.trans H; with_reducible exact H2_) | with_reducible exact H | (rw [hy30034]; exact H) | exact H
                have Ny30034 := Aside0.mk hy30034
                clear hy30034
                by_cases c16 : y30034.length + t30029.length < 5864062014805
                · rw [if_pos c16] at H
                  have LMc16 := Aside0.mk c16
                  clear c16
                  obtain ⟨y30037, hy30037⟩ : ∃ y_ : List (List Int), y_ = (y30034 ++ t30029) := ⟨_, rfl⟩
                  replace H : (if y30037.length + t30010.length < 5864062014805 then ((columbariumlaw6_alike.f k t30024 (y30037 ++ t30010)).bind fun t30043 => (if t30043 = true then (columbariumlaw6_BlockJoins.l0 k t30001 t30029 0 0) else (some false))) else (none)) = some r := by first | (rw [hy30037]; with_reducible exact H) | (have H2_ := (Option.bind_some _ _).symm.trans H; rw [hy30037]; with_reducible exact H2_) | (have H2_ := (Option.bind_some _ _).symm.trans H; with_reducible exact H2_) | with_reducible exact H | (rw [hy30037]; exact H) | exact H
                  have Ny30037 := Aside0.mk hy30037
                  clear hy30037
                  by_cases c17 : y30037.length + t30010.length < 5864062014805
                  · rw [if_pos c17] at H
                    have LMc17 := Aside0.mk c17
                    clear c17
                    obtain ⟨y30040, hy30040⟩ : ∃ y_ : List (List Int), y_ = (y30037 ++ t30010) := ⟨_, rfl⟩
                    replace H : ((columbariumlaw6_alike.f k t30024 y30040).bind fun t30043 => (if t30043 = true then (columbariumlaw6_BlockJoins.l0 k t30001 t30029 0 0) else (some false))) = some r := by first | (rw [hy30040]; with_reducible exact H) | (have H2_ := (Option.bind_some _ _).symm.trans H; rw [hy30040]; with_reducible exact H2_) | (have H2_ := (Option.bind_some _ _).symm.trans H; with_reducible exact H2_) | with_reducible exact H | (rw [hy30040]; exact H) | exact H
                    have Ny30040 := Aside0.mk hy30040
                    clear hy30040
                    replace H := Option.bind_eq_some_iff.mp H
                    obtain ⟨t30043, A180, H⟩ := H
                    replace H : (if t30043 = true then (columbariumlaw6_BlockJoins.l0 k t30001 t30029 0 0) else (some false)) = some r := H
                    have A18 := Aside0.mk A180
                    clear A180
                    by_cases c19 : t30043 = true
                    · subst c19
                      have H1 : (columbariumlaw6_BlockJoins.l0 k t30001 t30029 0 0) = some r := by rw [if_pos rfl] at H; exact H
                      clear H
                      have H := H1
                      clear H1
                      have H' := Aside0.mk H
                      clear H
                      go_enter Try.func14, Try.ntmps14
                      go_wp2_with (first | ((with_reducible refine gate_callee (f := 30) rfl ?_); refine goesL_ (some 24) rfl rfl Try.func30 (by kernel_rfl) rfl #[.slice A0 l0.length c0] rfl (by (try simp only [List.map_toArray, List.map_cons, List.map_nil]); first | done | rfl | (simp only [List.length_drop, List.length_take]; rfl)) ?_; (with_reducible refine (columbariumlaw6_written.calls k _ _ l0 t30001 _ ?side1 ?side2 A4.out).mono ?_); (case side1 => repeat (first | exact HR0.out | (with_reducible refine Kd.C_alloc ?_ _) | (with_reducible refine Kd.C_drewN ?_ _) | (with_reducible refine Kd.C_drew ?_))); (case side2 => exact HC0.out); rintro e w20 ⟨v30002, rfl, ho0, hb⟩; refine ⟨_, rfl, ?_⟩; have n0_ := Aside0.mk (Kd.R_lower ho0 (below_size (by repeat (first | (with_reducible first | exact HB.out | apply below_alloc | apply pw_below_drewN | apply below_drew1) | exact HB.out)))); have n1_ := Aside0.mk (below_step (by repeat (first | (with_reducible first | exact HB.out | apply below_alloc | apply pw_below_drewN | apply below_drew1) | exact HB.out)) hb); clear HB; have HO30003 := n0_; have HB := n1_; clear n0_ n1_; (try clear hb); (try clear hb2); (try clear hk); (try clear hi); (try clear ho0)) | ((with_reducible refine gate_callee (f := 30) rfl ?_); refine goesL_ (some 26) rfl rfl Try.func30 (by kernel_rfl) rfl #[.slice A1 l1.length c1] rfl (by (try simp only [List.map_toArray, List.map_cons, List.map_nil]); first | done | rfl | (simp only [List.length_drop, List.length_take]; rfl)) ?_; (with_reducible refine (columbariumlaw6_written.calls k _ _ l1 t30004 _ ?side1 ?side2 A5.out).mono ?_); (case side1 => repeat (first | exact (Kd.C_below HR1.out HB.out) | (with_reducible refine Kd.C_alloc ?_ _) | (with_reducible refine Kd.C_drewN ?_ _) | (with_reducible refine Kd.C_drew ?_))); (case side2 => exact HC1.out); rintro e w21 ⟨v30005, rfl, ho0, hb⟩; refine ⟨_, rfl, ?_⟩; have n0_ := Aside0.mk (Kd.R_elder' (by (with_reducible repeat (first | apply Kd.R_alloc | apply Kd.R_drewN | apply Kd.R_drew)); exact HO30003.out) (Kd.R_base ho0) hb); have n1_ := Aside0.mk (Kd.R_lower (Kd.R_new' ho0 (Kd.R_lt (by (with_reducible repeat (first | apply Kd.R_alloc | apply Kd.R_drewN | apply Kd.R_drew)); exact HO30003.out))) (below_size (by repeat (first | (with_reducible first | exact HB.out | apply below_alloc | apply pw_below_drewN | apply below_drew1) | exact HB.out)))); have n2_ := Aside0.mk (below_step (by repeat (first | (with_reducible first | exact HB.out | apply below_alloc | apply pw_below_drewN | apply below_drew1) | exact HB.out)) hb); clear HO30003; clear HB; have HO30003 := n0_; have HO30006 := n1_; have HB := n2_; clear n0_ n1_ n2_; (try clear hb); (try clear hb2); (try clear hk); (try clear hi); (try clear ho0)) | ((with_reducible refine gate_builtin (b := .append) (xs := #[.tmp 26, .tmp 27]) rfl ?_); (try (refine gate_guard (by rfl) ?_; dsimp only)); at_builtin; refine Kd.R_append_rows (Kd.int .u8) (w0 := w) w.heap.size rfl (.tmp 26) (.tmp 27) 24 5 (.int .u8 0) 1 rfl Try.underlying24 info5 rfl (by decide) (by omega) v30005 t30004 l2 _ _ _ (fun k_ => some k_ ≠ (v30002 : Value).ownBlock) (fun _ => False) rfl rfl ?aO ?aR (fun _ _ h => h) (fun _ h => h.elim) ?aF ?aB ?aS ?aL ?_; (case aR => repeat (first | exact (Kd.C_below HR2.out HB.out) | (with_reducible refine Kd.C_alloc ?_ _) | (with_reducible refine Kd.C_drewN ?_ _) | (with_reducible refine Kd.C_drew ?_))); (case aB => exact (by repeat (first | (with_reducible first | exact HB.out | apply below_alloc | apply pw_below_drewN | apply below_drew1) | exact HB.out))); (case aF => exact (fun k_ hk => Kd.fresh' (Kd.R_lt (by (with_reducible repeat (first | apply Kd.R_alloc | apply Kd.R_drewN | apply Kd.R_drew)); exact HO30003.out)) k_ hk)); (case aO => exact (by (with_reducible repeat (first | apply Kd.R_alloc | apply Kd.R_drewN | apply Kd.R_drew)); exact Kd.R_mono HO30006.out (fun _ hk => hk.2))); (case aS => exact (below_size (by repeat (first | (with_reducible first | exact HB.out | apply below_alloc | apply pw_below_drewN | apply below_drew1) | exact HB.out)))); (case aL => have := LMc6.out; omega); intro v30008 w22 ho hb hg hat; rw [← Ny30007.out] at ho; have n0_ := Aside0.mk (Kd.R_after (ok := (fun _ => True)) (by (with_reducible repeat (first | apply Kd.R_alloc | apply Kd.R_drewN | apply Kd.R_drew)); exact HO30003.out) hg hat); have n1_ := Aside0.mk (hb); have n2_ := Aside0.mk (ho); clear HO30003; clear HB; clear HO30006; have HO30003 := n0_; have HB := n1_; have HO30009 := n2_; clear n0_ n1_ n2_; clear ho hb hg hat; obtain ⟨Ao23, co23, eo23⟩ := Kd.R_slice HO30009.out; subst eo23) | ((with_reducible refine gate_callee (f := 29) rfl ?_); refine goesL_ (some 31) rfl rfl Try.func29 (by kernel_rfl) rfl #[.slice Ao23 y30007.length co23] rfl (by (try simp only [List.map_toArray, List.map_cons, List.map_nil]); first | done | rfl | (simp only [List.length_drop, List.length_take]; rfl)) ?_; (with_reducible refine (block_All.calls k _ _ y30007 t30010 t30013 t30014 _ ?side1 ?side2 A7.out).mono ?_); (case side1 => repeat (first | exact (Kd.R_reads' HO30009.out).2.2 | (with_reducible refine Kd.C_alloc ?_ _) | (with_reducible refine Kd.C_drewN ?_ _) | (with_reducible refine Kd.C_drew ?_))); (case side2 => exact (Kd.R_reads' HO30009.out).2.1); rintro e w24 ⟨v30011, rfl, ho0, hb⟩; refine ⟨_, rfl, ?_⟩; have n0_ := Aside0.mk (Kd.R_below (by (with_reducible repeat (first | apply Kd.R_alloc | apply Kd.R_drewN | apply Kd.R_drew)); exact HO30003.out) hb); have n1_ := Aside0.mk (Kd.R_below (by (with_reducible repeat (first | apply Kd.R_alloc | apply Kd.R_drewN | apply Kd.R_drew)); exact HO30009.out) hb); have n2_ := Aside0.mk (Kd.N_lower (Kd.N_mono (ok' := fun k_ => some k_ ≠ (v30002 : Value).ownBlock ∧ some k_ ≠ (.slice Ao23 y30007.length co23 : Value).ownBlock) ho0 (fun k_ hk_ => ⟨(Kd.fresh' (Kd.R_lt (by (with_reducible repeat (first | apply Kd.R_alloc | apply Kd.R_drewN | apply Kd.R_drew)); exact HO30003.out)) k_ hk_), (Kd.fresh' (Kd.R_lt (by (with_reducible repeat (first | apply Kd.R_alloc | apply Kd.R_drewN | apply Kd.R_drew)); exact HO30009.out)) k_ hk_)⟩)) (below_size (by repeat (first | (with_reducible first | exact HB.out | apply below_alloc | apply pw_below_drewN | apply below_drew1) | exact HB.out)))); have n3_ := Aside0.mk (below_step (by repeat (first | (with_reducible first | exact HB.out | apply below_alloc | apply pw_below_drewN | apply below_drew1) | exact HB.out)) hb); clear HO30003; clear HO30009; clear HB; have HO30003 := n0_; have HO30009 := n1_; have HO30012 := n2_; have HB := n3_; clear n0_ n1_ n2_ n3_; (try clear hb); (try clear hb2); (try clear hk); (try clear hi); (try clear ho0)) | ((with_reducible refine gate_dst (N := 36) rfl ?_); (try (refine gate_guard (by rfl) ?_; dsimp only)); refine Kd.R_lit (Kd.int .u8) _ 5 ?hg (N := 36) ?hd (xs := ([] : List Int)) (inner := []) (ok := fun _ => True) (okp := fun _ => True) ?hr ?hp (fun _ hk => hk) trivial (Below.refl _ _) (Nat.le_refl _) (by simp) ?_; (case hd => rfl); (case hg => rfl); (case hr => first | (go_simp; done) | (go_simp; rfl)); (case hp => exact (Reps.none _ _)); intro v30016 w25 ho26 hb hg_ hnew_; clear hg_ hnew_; (first | rw [← Ny30015.out] at ho26 | (simp only [Int.reduceToNat] at ho26; rw [← Ny30015.out] at ho26)); have n0_ := Aside0.mk (Kd.R_elder' (by (with_reducible repeat (first | apply Kd.R_alloc | apply Kd.R_drewN | apply Kd.R_drew)); exact HO30003.out) (Kd.R_base ho26) hb); have n1_ := Aside0.mk (Kd.R_elder' (by (with_reducible repeat (first | apply Kd.R_alloc | apply Kd.R_drewN | apply Kd.R_drew)); exact HO30009.out) (Kd.R_base ho26) hb); have n2_ := Aside0.mk (Kd.N_elder' (by (with_reducible repeat (first | apply Kd.N_alloc | apply Kd.N_drewN | apply Kd.N_drew)); exact HO30012.out) (Kd.R_base ho26) hb); have n3_ := Aside0.mk (Kd.R_lower (Kd.R_new' (Kd.R_new' ho26 (Kd.R_lt (by (with_reducible repeat (first | apply Kd.R_alloc | apply Kd.R_drewN | apply Kd.R_drew)); exact HO30003.out))) (Kd.R_lt (by (with_reducible repeat (first | apply Kd.R_alloc | apply Kd.R_drewN | apply Kd.R_drew)); exact HO30009.out))) (below_size (by repeat (first | (with_reducible first | exact HB.out | apply below_alloc | apply pw_below_drewN | apply below_drew1) | exact HB.out)))); have n4_ := Aside0.mk (below_step (by repeat (first | (with_reducible first | exact HB.out | apply below_alloc | apply pw_below_drewN | apply below_drew1) | exact HB.out)) hb); clear HO30003; clear HO30009; clear HO30012; clear HB; have HO30003 := n0_; have HO30009 := n1_; have HO30012 := n2_; have HO30017 := n3_; have HB := n4_; clear n0_ n1_ n2_ n3_ n4_; clear hb ho26; obtain ⟨Ao28, co28, eo28⟩ := Kd.R_slice HO30003.out; subst eo28) | ((with_reducible refine gate_builtin (b := .append) (xs := #[.tmp 36, .tmp 37]) rfl ?_); (try (refine gate_guard (by rfl) ?_; dsimp only)); at_builtin; refine Kd.R_append_rows (Kd.int .u8) (w0 := w) w.heap.size rfl (.tmp 36) (.tmp 37) 24 5 (.int .u8 0) 1 rfl Try.underlying24 info5 rfl (by decide) (by omega) v30016 y30015 t30001 _ _ _ (fun k_ => some k_ ≠ (.slice Ao28 t30001.length co28 : Value).ownBlock ∧ some k_ ≠ (.slice Ao23 y30007.length co23 : Value).ownBlock) (fun _ => False) rfl rfl ?aO ?aR (fun _ _ h => h) (fun _ h => h.elim) ?aF ?aB ?aS ?aL ?_; (case aR => repeat (first | exact (Kd.R_reads' HO30003.out).2.2 | (with_reducible refine Kd.C_alloc ?_ _) | (with_reducible refine Kd.C_drewN ?_ _) | (with_reducible refine Kd.C_drew ?_))); (case aB => exact (by repeat (first | (with_reducible first | exact HB.out | apply below_alloc | apply pw_below_drewN | apply below_drew1) | exact HB.out))); (case aF => exact (fun k_ hk => ⟨Kd.fresh' (Kd.R_lt (by (with_reducible repeat (first | apply Kd.R_alloc | apply Kd.R_drewN | apply Kd.R_drew)); exact HO30003.out)) k_ hk, Kd.fresh' (Kd.R_lt (by (with_reducible repeat (first | apply Kd.R_alloc | apply Kd.R_drewN | apply Kd.R_drew)); exact HO30009.out)) k_ hk⟩)); (case aO => exact (by (with_reducible repeat (first | apply Kd.R_alloc | apply Kd.R_drewN | apply Kd.R_drew)); exact Kd.R_mono HO30017.out (fun _ hk => ⟨hk.1.2, hk.2⟩))); (case aS => exact (below_size (by repeat (first | (with_reducible first | exact HB.out | apply below_alloc | apply pw_below_drewN | apply below_drew1) | exact HB.out)))); (case aL => have := LMc8.out; omega); intro v30019 w27 ho hb hg hat; rw [← Ny30018.out] at ho; have n0_ := Aside0.mk (Kd.R_after (ok := (fun k_ => some k_ ≠ (.slice Ao23 y30007.length co23 : Value).ownBlock)) (by (with_reducible repeat (first | apply Kd.R_alloc | apply Kd.R_drewN | apply Kd.R_drew)); exact Kd.R_mono HO30003.out (fun _ hk => ⟨hk.1.2, hk.2⟩)) hg hat); have n1_ := Aside0.mk (Kd.R_after (ok := (fun k_ => some k_ ≠ (.slice Ao28 t30001.length co28 : Value).ownBlock)) (by (with_reducible repeat (first | apply Kd.R_alloc | apply Kd.R_drewN | apply Kd.R_drew)); exact HO30009.out) hg hat); have n2_ := Aside0.mk (Kd.N_afterv (ok := (fun k_ => some k_ ≠ (.slice Ao28 t30001.length co28 : Value).ownBlock ∧ some k_ ≠ (.slice Ao23 y30007.length co23 : Value).ownBlock)) (by (with_reducible repeat (first | apply Kd.N_alloc | apply Kd.N_drewN | apply Kd.N_drew)); exact HO30012.out) hg hat); have n3_ := Aside0.mk (hb); have n4_ := Aside0.mk (ho); clear HO30003; clear HO30009; clear HO30012; clear HB; clear HO30017; have HO30003 := n0_; have HO30009 := n1_; have HO30012 := n2_; have HB := n3_; have HO30020 := n4_; clear n0_ n1_ n2_ n3_ n4_; clear ho hb hg hat) | ((with_reducible refine gate_builtin (b := .append) (xs := #[.tmp 38, .tmp 39]) rfl ?_); (try (refine gate_guard (by rfl) ?_; dsimp only)); at_builtin; refine Kd.R_append_rows (Kd.int .u8) (w0 := w) w.heap.size rfl (.tmp 38) (.tmp 39) 24 5 (.int .u8 0) 1 rfl Try.underlying24 info5 rfl (by decide) (by omega) v30019 y30018 y30007 _ _ _ (fun k_ => some k_ ≠ (.slice Ao28 t30001.length co28 : Value).ownBlock ∧ some k_ ≠ (.slice Ao23 y30007.length co23 : Value).ownBlock) (fun _ => False) rfl rfl ?aO ?aR (fun _ _ h => h) (fun _ h => h.elim) ?aF ?aB ?aS ?aL ?_; (case aR => repeat (first | exact (Kd.R_reads' HO30009.out).2.2 | (with_reducible refine Kd.C_alloc ?_ _) | (with_reducible refine Kd.C_drewN ?_ _) | (with_reducible refine Kd.C_drew ?_))); (case aB => exact (by repeat (first | (with_reducible first | exact HB.out | apply below_alloc | apply pw_below_drewN | apply below_drew1) | exact HB.out))); (case aF => exact (fun k_ hk => ⟨Kd.fresh' (Kd.R_lt (by (with_reducible repeat (first | apply Kd.R_alloc | apply Kd.R_drewN | apply Kd.R_drew)); exact HO30003.out)) k_ hk, Kd.fresh' (Kd.R_lt (by (with_reducible repeat (first | apply Kd.R_alloc | apply Kd.R_drewN | apply Kd.R_drew)); exact HO30009.out)) k_ hk⟩)); (case aO => exact (by (with_reducible repeat (first | apply Kd.R_alloc | apply Kd.R_drewN | apply Kd.R_drew)); exact HO30020.out)); (case aS => exact (below_size (by repeat (first | (with_reducible first | exact HB.out | apply below_alloc | apply pw_below_drewN | apply below_drew1) | exact HB.out)))); (case aL => have := LMc9.out; omega); intro v30022 w29 ho hb hg hat; rw [← Ny30021.out] at ho; have n0_ := Aside0.mk (Kd.R_after (ok := (fun k_ => some k_ ≠ (.slice Ao23 y30007.length co23 : Value).ownBlock)) (by (with_reducible repeat (first | apply Kd.R_alloc | apply Kd.R_drewN | apply Kd.R_drew)); exact HO30003.out) hg hat); have n1_ := Aside0.mk (Kd.R_after (ok := (fun k_ => some k_ ≠ (.slice Ao28 t30001.length co28 : Value).ownBlock)) (by (with_reducible repeat (first | apply Kd.R_alloc | apply Kd.R_drewN | apply Kd.R_drew)); exact HO30009.out) hg hat); have n2_ := Aside0.mk (Kd.N_afterv (ok := (fun k_ => some k_ ≠ (.slice Ao28 t30001.length co28 : Value).ownBlock ∧ some k_ ≠ (.slice Ao23 y30007.length co23 : Value).ownBlock)) (by (with_reducible repeat (first | apply Kd.N_alloc | apply Kd.N_drewN | apply Kd.N_drew)); exact HO30012.out) hg hat); have n3_ := Aside0.mk (hb); have n4_ := Aside0.mk (ho); clear HO30003; clear HO30009; clear HO30012; clear HB; clear HO30020; have HO30003 := n0_; have HO30009 := n1_; have HO30012 := n2_; have HB := n3_; have HO30023 := n4_; clear n0_ n1_ n2_ n3_ n4_; clear ho hb hg hat; obtain ⟨Ao30, co30, eo30⟩ := Kd.R_slice HO30023.out; subst eo30) | ((with_reducible refine gate_callee (f := 29) rfl ?_); refine goesL_ (some 41) rfl rfl Try.func29 (by kernel_rfl) rfl #[.slice Ao30 y30021.length co30] rfl (by (try simp only [List.map_toArray, List.map_cons, List.map_nil]); first | done | rfl | (simp only [List.length_drop, List.length_take]; rfl)) ?_; (with_reducible refine (block_All.calls k _ _ y30021 t30024 t30027 t30028 _ ?side1 ?side2 A10.out).mono ?_); (case side1 => repeat (first | exact (Kd.R_reads' HO30023.out).2.2 | (with_reducible refine Kd.C_alloc ?_ _) | (with_reducible refine Kd.C_drewN ?_ _) | (with_reducible refine Kd.C_drew ?_))); (case side2 => exact (Kd.R_reads' HO30023.out).2.1); rintro e w31 ⟨v30025, rfl, ho0, hb⟩; refine ⟨_, rfl, ?_⟩; have n0_ := Aside0.mk (Kd.R_below (by (with_reducible repeat (first | apply Kd.R_alloc | apply Kd.R_drewN | apply Kd.R_drew)); exact HO30003.out) hb); have n1_ := Aside0.mk (Kd.R_below (by (with_reducible repeat (first | apply Kd.R_alloc | apply Kd.R_drewN | apply Kd.R_drew)); exact HO30009.out) hb); have n2_ := Aside0.mk (Kd.N_elder' (by (with_reducible repeat (first | apply Kd.N_alloc | apply Kd.N_drewN | apply Kd.N_drew)); exact HO30012.out) (Kd.N_base ho0) hb); have n3_ := Aside0.mk (Kd.R_below (by (with_reducible repeat (first | apply Kd.R_alloc | apply Kd.R_drewN | apply Kd.R_drew)); exact HO30023.out) hb); have n4_ := Aside0.mk (Kd.N_lower (Kd.N_mono (ok' := fun k_ => some k_ ≠ (.slice Ao28 t30001.length co28 : Value).ownBlock ∧ some k_ ≠ (.slice Ao23 y30007.length co23 : Value).ownBlock ∧ some k_ ≠ (v30011 : Value).ownBlock ∧ some k_ ≠ (.slice Ao30 y30021.length co30 : Value).ownBlock) ho0 (fun k_ hk_ => ⟨(Kd.fresh' (Kd.R_lt (by (with_reducible repeat (first | apply Kd.R_alloc | apply Kd.R_drewN | apply Kd.R_drew)); exact HO30003.out)) k_ hk_), (Kd.fresh' (Kd.R_lt (by (with_reducible repeat (first | apply Kd.R_alloc | apply Kd.R_drewN | apply Kd.R_drew)); exact HO30009.out)) k_ hk_), (Kd.fresh' (Kd.N_lt (by (with_reducible repeat (first | apply Kd.N_alloc | apply Kd.N_drewN | apply Kd.N_drew)); exact HO30012.out)) k_ hk_), (Kd.fresh' (Kd.R_lt (by (with_reducible repeat (first | apply Kd.R_alloc | apply Kd.R_drewN | apply Kd.R_drew)); exact HO30023.out)) k_ hk_)⟩)) (below_size (by repeat (first | (with_reducible first | exact HB.out | apply below_alloc | apply pw_below_drewN | apply below_drew1) | exact HB.out)))); have n5_ := Aside0.mk (below_step (by repeat (first | (with_reducible first | exact HB.out | apply below_alloc | apply pw_below_drewN | apply below_drew1) | exact HB.out)) hb); clear HO30003; clear HO30009; clear HO30012; clear HO30023; clear HB; have HO30003 := n0_; have HO30009 := n1_; have HO30012 := n2_; have HO30023 := n3_; have HO30026 := n4_; have HB := n5_; clear n0_ n1_ n2_ n3_ n4_ n5_; (try clear hb); (try clear hb2); (try clear hk); (try clear hi); (try clear ho0)) | ((with_reducible refine gate_callee (f := 29) rfl ?_); refine goesL_ (some 47) rfl rfl Try.func29 (by kernel_rfl) rfl #[.slice Ao28 t30001.length co28] rfl (by (try simp only [List.map_toArray, List.map_cons, List.map_nil]); first | done | rfl | (simp only [List.length_drop, List.length_take]; rfl)) ?_; (with_reducible refine (block_All.calls k _ _ t30001 t30029 t30032 t30033 _ ?side1 ?side2 A11.out).mono ?_); (case side1 => repeat (first | exact (Kd.R_reads' HO30003.out).2.2 | (with_reducible refine Kd.C_alloc ?_ _) | (with_reducible refine Kd.C_drewN ?_ _) | (with_reducible refine Kd.C_drew ?_))); (case side2 => exact (Kd.R_reads' HO30003.out).2.1); rintro e w32 ⟨v30030, rfl, ho0, hb⟩; refine ⟨_, rfl, ?_⟩; have n0_ := Aside0.mk (Kd.R_below (by (with_reducible repeat (first | apply Kd.R_alloc | apply Kd.R_drewN | apply Kd.R_drew)); exact HO30003.out) hb); have n1_ := Aside0.mk (Kd.R_below (by (with_reducible repeat (first | apply Kd.R_alloc | apply Kd.R_drewN | apply Kd.R_drew)); exact HO30009.out) hb); have n2_ := Aside0.mk (Kd.N_elder' (by (with_reducible repeat (first | apply Kd.N_alloc | apply Kd.N_drewN | apply Kd.N_drew)); exact HO30012.out) (Kd.N_base ho0) hb); have n3_ := Aside0.mk (Kd.R_below (by (with_reducible repeat (first | apply Kd.R_alloc | apply Kd.R_drewN | apply Kd.R_drew)); exact HO30023.out) hb); have n4_ := Aside0.mk (Kd.N_elder' (by (with_reducible repeat (first | apply Kd.N_alloc | apply Kd.N_drewN | apply Kd.N_drew)); exact HO30026.out) (Kd.N_base ho0) hb); have n5_ := Aside0.mk (Kd.N_lower (Kd.N_mono (ok' := fun k_ => some k_ ≠ (.slice Ao28 t30001.length co28 : Value).ownBlock ∧ some k_ ≠ (.slice Ao23 y30007.length co23 : Value).ownBlock ∧ some k_ ≠ (v30011 : Value).ownBlock ∧ some k_ ≠ (.slice Ao30 y30021.length co30 : Value).ownBlock ∧ some k_ ≠ (v30025 : Value).ownBlock) ho0 (fun k_ hk_ => ⟨(Kd.fresh' (Kd.R_lt (by (with_reducible repeat (first | apply Kd.R_alloc | apply Kd.R_drewN | apply Kd.R_drew)); exact HO30003.out)) k_ hk_), (Kd.fresh' (Kd.R_lt (by (with_reducible repeat (first | apply Kd.R_alloc | apply Kd.R_drewN | apply Kd.R_drew)); exact HO30009.out)) k_ hk_), (Kd.fresh' (Kd.N_lt (by (with_reducible repeat (first | apply Kd.N_alloc | apply Kd.N_drewN | apply Kd.N_drew)); exact HO30012.out)) k_ hk_), (Kd.fresh' (Kd.R_lt (by (with_reducible repeat (first | apply Kd.R_alloc | apply Kd.R_drewN | apply Kd.R_drew)); exact HO30023.out)) k_ hk_), (Kd.fresh' (Kd.N_lt (by (with_reducible repeat (first | apply Kd.N_alloc | apply Kd.N_drewN | apply Kd.N_drew)); exact HO30026.out)) k_ hk_)⟩)) (below_size (by repeat (first | (with_reducible first | exact HB.out | apply below_alloc | apply pw_below_drewN | apply below_drew1) | exact HB.out)))); have n6_ := Aside0.mk (below_step (by repeat (first | (with_reducible first | exact HB.out | apply below_alloc | apply pw_below_drewN | apply below_drew1) | exact HB.out)) hb); clear HO30003; clear HO30009; clear HO30012; clear HO30023; clear HO30026; clear HB; have HO30003 := n0_; have HO30009 := n1_; have HO30012 := n2_; have HO30023 := n3_; have HO30026 := n4_; have HO30031 := n5_; have HB := n6_; clear n0_ n1_ n2_ n3_ n4_ n5_ n6_; (try clear hb); (try clear hb2); (try clear hk); (try clear hi); (try clear ho0)) | ((with_reducible refine gate_dst (N := 74) rfl ?_); (try (refine gate_guard (by rfl) ?_; dsimp only)); refine Kd.N_lit (Kd.slice 5 (Kd.int .u8)) _ 24 ?hg (N' := 74) ?hd (xs := ([] : List (List Int))) (inner := []) (ok := (fun k_ => some k_ ≠ (.slice Ao28 t30001.length co28 : Value).ownBlock ∧ some k_ ≠ (.slice Ao23 y30007.length co23 : Value).ownBlock ∧ some k_ ≠ (v30011 : Value).ownBlock ∧ some k_ ≠ (.slice Ao30 y30021.length co30 : Value).ownBlock ∧ some k_ ≠ (v30025 : Value).ownBlock ∧ some k_ ≠ (v30030 : Value).ownBlock)) (okp := (fun k_ => some k_ ≠ (.slice Ao28 t30001.length co28 : Value).ownBlock ∧ some k_ ≠ (.slice Ao23 y30007.length co23 : Value).ownBlock ∧ some k_ ≠ (v30011 : Value).ownBlock ∧ some k_ ≠ (.slice Ao30 y30021.length co30 : Value).ownBlock ∧ some k_ ≠ (v30025 : Value).ownBlock ∧ some k_ ≠ (v30030 : Value).ownBlock)) ?hr ?hp (fun _ hk => hk) ((show ∀ k_, w32.heap.size ≤ k_ → (fun k_ => some k_ ≠ (.slice Ao28 t30001.length co28 : Value).ownBlock ∧ some k_ ≠ (.slice Ao23 y30007.length co23 : Value).ownBlock ∧ some k_ ≠ (v30011 : Value).ownBlock ∧ some k_ ≠ (.slice Ao30 y30021.length co30 : Value).ownBlock ∧ some k_ ≠ (v30025 : Value).ownBlock ∧ some k_ ≠ (v30030 : Value).ownBlock) k_ from fun k_ hk => ⟨Kd.fresh' (Kd.R_lt (by (with_reducible repeat (first | apply Kd.R_alloc | apply Kd.R_drewN | apply Kd.R_drew)); exact HO30003.out)) k_ hk, Kd.fresh' (Kd.R_lt (by (with_reducible repeat (first | apply Kd.R_alloc | apply Kd.R_drewN | apply Kd.R_drew)); exact HO30009.out)) k_ hk, Kd.fresh' (Kd.N_lt (by (with_reducible repeat (first | apply Kd.N_alloc | apply Kd.N_drewN | apply Kd.N_drew)); exact HO30012.out)) k_ hk, Kd.fresh' (Kd.R_lt (by (with_reducible repeat (first | apply Kd.R_alloc | apply Kd.R_drewN | apply Kd.R_drew)); exact HO30023.out)) k_ hk, Kd.fresh' (Kd.N_lt (by (with_reducible repeat (first | apply Kd.N_alloc | apply Kd.N_drewN | apply Kd.N_drew)); exact HO30026.out)) k_ hk, Kd.fresh' (Kd.N_lt (by (with_reducible repeat (first | apply Kd.N_alloc | apply Kd.N_drewN | apply Kd.N_drew)); exact HO30031.out)) k_ hk⟩) _ (Nat.le_refl _)) (Below.refl _ _) (Nat.le_refl _) (by simp) ?_; (case hd => rfl); (case hg => rfl); (case hr => first | (go_simp; done) | (go_simp; rfl)); (case hp => exact (Reps.none _ _)); intro v30035 w33 ho34 hb hg_ hnew_; clear hg_ hnew_; (first | rw [← Ny30034.out] at ho34 | (simp only [Int.reduceToNat] at ho34; rw [← Ny30034.out] at ho34)); have n0_ := Aside0.mk (Kd.R_below (by (with_reducible repeat (first | apply Kd.R_alloc | apply Kd.R_drewN | apply Kd.R_drew)); exact HO30003.out) hb); have n1_ := Aside0.mk (Kd.R_below (by (with_reducible repeat (first | apply Kd.R_alloc | apply Kd.R_drewN | apply Kd.R_drew)); exact HO30009.out) hb); have n2_ := Aside0.mk (Kd.N_elder' (by (with_reducible repeat (first | apply Kd.N_alloc | apply Kd.N_drewN | apply Kd.N_drew)); exact HO30012.out) (Kd.N_base ho34) hb); have n3_ := Aside0.mk (Kd.R_below (by (with_reducible repeat (first | apply Kd.R_alloc | apply Kd.R_drewN | apply Kd.R_drew)); exact HO30023.out) hb); have n4_ := Aside0.mk (Kd.N_elder' (by (with_reducible repeat (first | apply Kd.N_alloc | apply Kd.N_drewN | apply Kd.N_drew)); exact HO30026.out) (Kd.N_base ho34) hb); have n5_ := Aside0.mk (Kd.N_elder' (by (with_reducible repeat (first | apply Kd.N_alloc | apply Kd.N_drewN | apply Kd.N_drew)); exact HO30031.out) (Kd.N_base ho34) hb); have n6_ := Aside0.mk (Kd.N_lower ho34 (below_size (by repeat (first | (with_reducible first | exact HB.out | apply below_alloc | apply pw_below_drewN | apply below_drew1) | exact HB.out)))); have n7_ := Aside0.mk (below_step (by repeat (first | (with_reducible first | exact HB.out | apply below_alloc | apply pw_below_drewN | apply below_drew1) | exact HB.out)) hb); clear HO30003; clear HO30009; clear HO30012; clear HO30023; clear HO30026; clear HO30031; clear HB; have HO30003 := n0_; have HO30009 := n1_; have HO30012 := n2_; have HO30023 := n3_; have HO30026 := n4_; have HO30031 := n5_; have HO30036 := n6_; have HB := n7_; clear n0_ n1_ n2_ n3_ n4_ n5_ n6_ n7_; clear hb ho34; obtain ⟨Ao36, co36, eo36⟩ := Kd.N_slice HO30031.out; subst eo36) | ((with_reducible refine gate_builtin (b := .append) (xs := #[.tmp 74, .tmp 75]) rfl ?_); (try (refine gate_guard (by rfl) ?_; dsimp only)); at_builtin; refine Kd.N_append_rows (Kd.slice 5 (Kd.int .u8)) (w0 := w) w.heap.size rfl (.tmp 74) (.tmp 75) 47 24 (.slice none 0 0) 24 rfl Try.underlying47 info24 rfl (by decide) (by omega) v30035 y30034 t30029 _ _ _ (fun k_ => some k_ ≠ (.slice Ao28 t30001.length co28 : Value).ownBlock ∧ some k_ ≠ (.slice Ao23 y30007.length co23 : Value).ownBlock ∧ some k_ ≠ (v30011 : Value).ownBlock ∧ some k_ ≠ (.slice Ao30 y30021.length co30 : Value).ownBlock ∧ some k_ ≠ (v30025 : Value).ownBlock) (fun k_ => ((fun k_ => some k_ ≠ (.slice Ao28 t30001.length co28 : Value).ownBlock ∧ some k_ ≠ (.slice Ao23 y30007.length co23 : Value).ownBlock ∧ some k_ ≠ (v30011 : Value).ownBlock ∧ some k_ ≠ (.slice Ao30 y30021.length co30 : Value).ownBlock ∧ some k_ ≠ (v30025 : Value).ownBlock)) k_ ∧ some k_ ≠ (v30035 : Value).ownBlock) rfl rfl ?aO ?aR (fun _ hk => hk) ?aF ?aB ?aS ?aL ?_; (case aR => exact (by skip; exact Kd.N_F (Kd.N_mono (ok' := (fun k_ => ((fun k_ => some k_ ≠ (.slice Ao28 t30001.length co28 : Value).ownBlock ∧ some k_ ≠ (.slice Ao23 y30007.length co23 : Value).ownBlock ∧ some k_ ≠ (v30011 : Value).ownBlock ∧ some k_ ≠ (.slice Ao30 y30021.length co30 : Value).ownBlock ∧ some k_ ≠ (v30025 : Value).ownBlock)) k_ ∧ some k_ ≠ (v30035 : Value).ownBlock)) (HO30031.out) (fun k_ hk => ⟨⟨hk.1.1, ⟨hk.1.2.1, ⟨hk.1.2.2.1, ⟨hk.1.2.2.2.1, hk.1.2.2.2.2⟩⟩⟩⟩, hk.2⟩)))); (case aB => exact (by repeat (first | (with_reducible first | exact HB.out | apply below_alloc | apply pw_below_drewN | apply below_drew1) | exact HB.out))); (case aF => exact (fun k_ hk => ⟨Kd.fresh' (Kd.R_lt (by (with_reducible repeat (first | apply Kd.R_alloc | apply Kd.R_drewN | apply Kd.R_drew)); exact HO30003.out)) k_ hk, Kd.fresh' (Kd.R_lt (by (with_reducible repeat (first | apply Kd.R_alloc | apply Kd.R_drewN | apply Kd.R_drew)); exact HO30009.out)) k_ hk, Kd.fresh' (Kd.N_lt (by (with_reducible repeat (first | apply Kd.N_alloc | apply Kd.N_drewN | apply Kd.N_drew)); exact HO30012.out)) k_ hk, Kd.fresh' (Kd.R_lt (by (with_reducible repeat (first | apply Kd.R_alloc | apply Kd.R_drewN | apply Kd.R_drew)); exact HO30023.out)) k_ hk, Kd.fresh' (Kd.N_lt (by (with_reducible repeat (first | apply Kd.N_alloc | apply Kd.N_drewN | apply Kd.N_drew)); exact HO30026.out)) k_ hk⟩)); (case aO => exact (by (with_reducible repeat (first | apply Kd.N_alloc | apply Kd.N_drewN | apply Kd.N_drew)); exact Kd.N_mono HO30036.out (fun _ hk => ⟨hk.1, ⟨hk.2.1, ⟨hk.2.2.1, ⟨hk.2.2.2.1, hk.2.2.2.2.1⟩⟩⟩⟩))); (case aS => exact (below_size (by repeat (first | (with_reducible first | exact HB.out | apply below_alloc | apply pw_below_drewN | apply below_drew1) | exact HB.out)))); (case aL => have := LMc16.out; omega); intro v30038 w35 ho hb hg hat; rw [← Ny30037.out] at ho; have n0_ := Aside0.mk (Kd.R_over' (by (with_reducible repeat (first | apply Kd.R_alloc | apply Kd.R_drewN | apply Kd.R_drew)); exact HO30003.out) (Kd.N_typed (by (with_reducible repeat (first | apply Kd.N_alloc | apply Kd.N_drewN | apply Kd.N_drew)); exact HO30036.out)) (by decide) hg); have n1_ := Aside0.mk (Kd.R_over' (by (with_reducible repeat (first | apply Kd.R_alloc | apply Kd.R_drewN | apply Kd.R_drew)); exact HO30009.out) (Kd.N_typed (by (with_reducible repeat (first | apply Kd.N_alloc | apply Kd.N_drewN | apply Kd.N_drew)); exact HO30036.out)) (by decide) hg); have n2_ := Aside0.mk (Kd.N_afterv (ok := (fun k_ => some k_ ≠ (.slice Ao28 t30001.length co28 : Value).ownBlock ∧ some k_ ≠ (.slice Ao23 y30007.length co23 : Value).ownBlock ∧ some k_ ≠ (.slice Ao30 y30021.length co30 : Value).ownBlock ∧ some k_ ≠ (v30025 : Value).ownBlock ∧ some k_ ≠ (.slice Ao36 t30029.length co36 : Value).ownBlock)) (by (with_reducible repeat (first | apply Kd.N_alloc | apply Kd.N_drewN | apply Kd.N_drew)); exact Kd.N_mono HO30012.out (fun _ hk => ⟨⟨hk.1.1.1.1.1, ⟨hk.1.1.1.1.2, ⟨hk.1.1.1.2, ⟨hk.1.1.2, hk.1.2⟩⟩⟩⟩, hk.2⟩)) hg hat); have n3_ := Aside0.mk (Kd.R_over' (by (with_reducible repeat (first | apply Kd.R_alloc | apply Kd.R_drewN | apply Kd.R_drew)); exact HO30023.out) (Kd.N_typed (by (with_reducible repeat (first | apply Kd.N_alloc | apply Kd.N_drewN | apply Kd.N_drew)); exact HO30036.out)) (by decide) hg); have n4_ := Aside0.mk (Kd.N_afterv (ok := (fun k_ => some k_ ≠ (.slice Ao28 t30001.length co28 : Value).ownBlock ∧ some k_ ≠ (.slice Ao23 y30007.length co23 : Value).ownBlock ∧ some k_ ≠ (v30011 : Value).ownBlock ∧ some k_ ≠ (.slice Ao30 y30021.length co30 : Value).ownBlock ∧ some k_ ≠ (.slice Ao36 t30029.length co36 : Value).ownBlock)) (by (with_reducible repeat (first | apply Kd.N_alloc | apply Kd.N_drewN | apply Kd.N_drew)); exact Kd.N_mono HO30026.out (fun _ hk => ⟨⟨hk.1.1.1, ⟨hk.1.1.2.1, ⟨hk.1.1.2.2.1, ⟨hk.1.1.2.2.2, hk.1.2⟩⟩⟩⟩, hk.2⟩)) hg hat); have n5_ := Aside0.mk (Kd.N_afterv (ok := (fun k_ => some k_ ≠ (.slice Ao28 t30001.length co28 : Value).ownBlock ∧ some k_ ≠ (.slice Ao23 y30007.length co23 : Value).ownBlock ∧ some k_ ≠ (v30011 : Value).ownBlock ∧ some k_ ≠ (.slice Ao30 y30021.length co30 : Value).ownBlock ∧ some k_ ≠ (v30025 : Value).ownBlock)) (by (with_reducible repeat (first | apply Kd.N_alloc | apply Kd.N_drewN | apply Kd.N_drew)); exact HO30031.out) hg hat); have n6_ := Aside0.mk (hb); have n7_ := Aside0.mk (ho); clear HO30003; clear HO30009; clear HO30012; clear HO30023; clear HO30026; clear HO30031; clear HB; clear HO30036; have HO30003 := n0_; have HO30009 := n1_; have HO30012 := n2_; have HO30023 := n3_; have HO30026 := n4_; have HO30031 := n5_; have HB := n6_; have HO30039 := n7_; clear n0_ n1_ n2_ n3_ n4_ n5_ n6_ n7_; clear ho hb hg hat; obtain ⟨Ao38, co38, eo38⟩ := Kd.N_slice HO30012.out; subst eo38) | ((with_reducible refine gate_builtin (b := .append) (xs := #[.tmp 76, .tmp 77]) rfl ?_); (try (refine gate_guard (by rfl) ?_; dsimp only)); at_builtin; refine Kd.N_append_rows (Kd.slice 5 (Kd.int .u8)) (w0 := w) w.heap.size rfl (.tmp 76) (.tmp 77) 47 24 (.slice none 0 0) 24 rfl Try.underlying47 info24 rfl (by decide) (by omega) v30038 y30037 t30010 _ _ _ (fun k_ => some k_ ≠ (.slice Ao28 t30001.length co28 : Value).ownBlock ∧ some k_ ≠ (.slice Ao23 y30007.length co23 : Value).ownBlock ∧ some k_ ≠ (.slice Ao30 y30021.length co30 : Value).ownBlock ∧ some k_ ≠ (v30025 : Value).ownBlock) (fun k_ => ((fun k_ => some k_ ≠ (.slice Ao28 t30001.length co28 : Value).ownBlock ∧ some k_ ≠ (.slice Ao23 y30007.length co23 : Value).ownBlock ∧ some k_ ≠ (.slice Ao30 y30021.length co30 : Value).ownBlock ∧ some k_ ≠ (v30025 : Value).ownBlock)) k_ ∧ some k_ ≠ (v30038 : Value).ownBlock) rfl rfl ?aO ?aR (fun _ hk => hk) ?aF ?aB ?aS ?aL ?_; (case aR => exact (by skip; exact Kd.N_F (Kd.N_mono (ok' := (fun k_ => ((fun k_ => some k_ ≠ (.slice Ao28 t30001.length co28 : Value).ownBlock ∧ some k_ ≠ (.slice Ao23 y30007.length co23 : Value).ownBlock ∧ some k_ ≠ (.slice Ao30 y30021.length co30 : Value).ownBlock ∧ some k_ ≠ (v30025 : Value).ownBlock)) k_ ∧ some k_ ≠ (v30038 : Value).ownBlock)) (HO30012.out) (fun k_ hk => ⟨⟨hk.1.1, ⟨hk.1.2.1, ⟨hk.1.2.2.1, hk.1.2.2.2.1⟩⟩⟩, hk.2⟩)))); (case aB => exact (by repeat (first | (with_reducible first | exact HB.out | apply below_alloc | apply pw_below_drewN | apply below_drew1) | exact HB.out))); (case aF => exact (fun k_ hk => ⟨Kd.fresh' (Kd.R_lt (by (with_reducible repeat (first | apply Kd.R_alloc | apply Kd.R_drewN | apply Kd.R_drew)); exact HO30003.out)) k_ hk, Kd.fresh' (Kd.R_lt (by (with_reducible repeat (first | apply Kd.R_alloc | apply Kd.R_drewN | apply Kd.R_drew)); exact HO30009.out)) k_ hk, Kd.fresh' (Kd.R_lt (by (with_reducible repeat (first | apply Kd.R_alloc | apply Kd.R_drewN | apply Kd.R_drew)); exact HO30023.out)) k_ hk, Kd.fresh' (Kd.N_lt (by (with_reducible repeat (first | apply Kd.N_alloc | apply Kd.N_drewN | apply Kd.N_drew)); exact HO30026.out)) k_ hk⟩)); (case aO => exact (by (with_reducible repeat (first | apply Kd.N_alloc | apply Kd.N_drewN | apply Kd.N_drew)); exact Kd.N_mono HO30039.out (fun _ hk => ⟨hk.1, ⟨hk.2.1, ⟨hk.2.2.2.1, hk.2.2.2.2⟩⟩⟩))); (case aS => exact (below_size (by repeat (first | (with_reducible first | exact HB.out | apply below_alloc | apply pw_below_drewN | apply below_drew1) | exact HB.out)))); (case aL => have := LMc17.out; omega); intro v30041 w37 ho hb hg hat; rw [← Ny30040.out] at ho; have n0_ := Aside0.mk (Kd.R_over' (by (with_reducible repeat (first | apply Kd.R_alloc | apply Kd.R_drewN | apply Kd.R_drew)); exact HO30003.out) (Kd.N_typed (by (with_reducible repeat (first | apply Kd.N_alloc | apply Kd.N_drewN | apply Kd.N_drew)); exact HO30039.out)) (by decide) hg); have n1_ := Aside0.mk (Kd.R_over' (by (with_reducible repeat (first | apply Kd.R_alloc | apply Kd.R_drewN | apply Kd.R_drew)); exact HO30009.out) (Kd.N_typed (by (with_reducible repeat (first | apply Kd.N_alloc | apply Kd.N_drewN | apply Kd.N_drew)); exact HO30039.out)) (by decide) hg); have n2_ := Aside0.mk (Kd.N_afterv (ok := (fun k_ => some k_ ≠ (.slice Ao28 t30001.length co28 : Value).ownBlock ∧ some k_ ≠ (.slice Ao23 y30007.length co23 : Value).ownBlock ∧ some k_ ≠ (.slice Ao30 y30021.length co30 : Value).ownBlock ∧ some k_ ≠ (v30025 : Value).ownBlock ∧ some k_ ≠ (.slice Ao36 t30029.length co36 : Value).ownBlock)) (by (with_reducible repeat (first | apply Kd.N_alloc | apply Kd.N_drewN | apply Kd.N_drew)); exact HO30012.out) hg hat); have n3_ := Aside0.mk (Kd.R_over' (by (with_reducible repeat (first | apply Kd.R_alloc | apply Kd.R_drewN | apply Kd.R_drew)); exact HO30023.out) (Kd.N_typed (by (with_reducible repeat (first | apply Kd.N_alloc | apply Kd.N_drewN | apply Kd.N_drew)); exact HO30039.out)) (by decide) hg); have n4_ := Aside0.mk (Kd.N_afterv (ok := (fun k_ => some k_ ≠ (.slice Ao28 t30001.length co28 : Value).ownBlock ∧ some k_ ≠ (.slice Ao23 y30007.length co23 : Value).ownBlock ∧ some k_ ≠ (.slice Ao38 t30010.length co38 : Value).ownBlock ∧ some k_ ≠ (.slice Ao30 y30021.length co30 : Value).ownBlock ∧ some k_ ≠ (.slice Ao36 t30029.length co36 : Value).ownBlock)) (by (with_reducible repeat (first | apply Kd.N_alloc | apply Kd.N_drewN | apply Kd.N_drew)); exact HO30026.out) hg hat); have n5_ := Aside0.mk (Kd.N_afterv (ok := (fun k_ => some k_ ≠ (.slice Ao28 t30001.length co28 : Value).ownBlock ∧ some k_ ≠ (.slice Ao23 y30007.length co23 : Value).ownBlock ∧ some k_ ≠ (.slice Ao38 t30010.length co38 : Value).ownBlock ∧ some k_ ≠ (.slice Ao30 y30021.length co30 : Value).ownBlock ∧ some k_ ≠ (v30025 : Value).ownBlock)) (by (with_reducible repeat (first | apply Kd.N_alloc | apply Kd.N_drewN | apply Kd.N_drew)); exact HO30031.out) hg hat); have n6_ := Aside0.mk (hb); have n7_ := Aside0.mk (ho); clear HO30003; clear HO30009; clear HO30012; clear HO30023; clear HO30026; clear HO30031; clear HB; clear HO30039; have HO30003 := n0_; have HO30009 := n1_; have HO30012 := n2_; have HO30023 := n3_; have HO30026 := n4_; have HO30031 := n5_; have HB := n6_; have HO30042 := n7_; clear n0_ n1_ n2_ n3_ n4_ n5_ n6_ n7_; clear ho hb hg hat; obtain ⟨Ao39, co39, eo39⟩ := Kd.N_slice HO30026.out; subst eo39; obtain ⟨Ao40, co40, eo40⟩ := Kd.N_slice HO30042.out; subst eo40) | (go_at_call 34; (with_reducible refine (columbariumlaw6_alike.calls k _ _ t30024 _ _ y30040 true _ ?side1 ?side2 ?side3 ?side4 A18.out).mono ?_); (case side1 => repeat (first | exact (Kd.N_reads' HO30026.out).2.2 | (with_reducible refine Kd.C_alloc ?_ _) | (with_reducible refine Kd.C_drewN ?_ _) | (with_reducible refine Kd.C_drew ?_))); (case side2 => exact (Kd.N_reads' HO30026.out).2.1); (case side3 => repeat (first | exact (Kd.N_reads' HO30042.out).2.2 | (with_reducible refine Kd.C_alloc ?_ _) | (with_reducible refine Kd.C_drewN ?_ _) | (with_reducible refine Kd.C_drew ?_))); (case side4 => exact (Kd.N_reads' HO30042.out).2.1); rintro e w' ⟨rfl, ⟨nd, rfl⟩⟩))
                      go_loopg [18, 19] k (fun kq v18 v19 w' => ∃ (x18_1 : Int) (x19_1 : Int), v18 = .int .i64 x18_1 ∧ v19 = .int .i64 x19_1 ∧ Aside0 (columbariumlaw6_BlockJoins.l0 kq t30001 t30029 x18_1 x19_1 = some r) ∧ Aside0 (kq ≤ k) ∧ Aside0 (Kd.R (Kd.int .u8) 5 w' w.heap.size (fun _ => True) (.slice Ao28 t30001.length co28) t30001) ∧ Aside0 (Kd.N (Kd.slice 5 (Kd.int .u8)) 24 w' w.heap.size (fun k_ => some k_ ≠ ((.slice Ao28 t30001.length co28) : Value).ownBlock) (.slice Ao36 t30029.length co36) t30029) ∧ Aside0 (Below w.heap.size w w'))
                      case atStart => exact ⟨(0), (0), (by first | rfl | (simp; done) | (simp [*]; done) | (refine congrArg (Value.int .i64) ?_; (try simp only [decide_eq_true_eq, decide_eq_false_iff_not] at *) <;> (unfold wrap64; omega))), (by first | rfl | (simp; done) | (simp [*]; done) | (refine congrArg (Value.int .i64) ?_; (try simp only [decide_eq_true_eq, decide_eq_false_iff_not] at *) <;> (unfold wrap64; omega))), H', ⟨Nat.le_refl _⟩, ⟨by (with_reducible repeat (first | apply Kd.R_alloc | apply Kd.R_drewN | apply Kd.R_drew)); exact Kd.R_mono HO30003.out (fun _ hk => trivial)⟩, ⟨by (with_reducible repeat (first | apply Kd.N_alloc | apply Kd.N_drewN | apply Kd.N_drew)); exact Kd.N_mono HO30031.out (fun _ hk => hk.1.1)⟩, ⟨by repeat (first | (with_reducible first | exact HB.out | apply below_alloc | apply pw_below_drewN | apply below_drew1) | exact HB.out)⟩⟩
                      case round =>
                        clear H'
                        try clear c1
                        try clear c2
                        try clear p2
                        try clear c3
                        try clear c6
                        try clear p6
                        try clear c8
                        try clear c9
                        try clear c12
                        try clear c12b0
                        try clear c12b1
                        try clear c13
                        try clear c13b0
                        try clear c13b1
                        try clear c14
                        try clear c14b0
                        try clear c14b1
                        try clear c15
                        try clear c15b0
                        try clear c15b1
                        try clear c16
                        try clear c17
                        try clear c19
                        try clear c29
                        try clear c30
                        obtain ⟨x18_1, x19_1, rfl, rfl, HA, HK1, HO_7, HO_15, HB⟩ := hrel
                        cases gk with
                        | zero => exact absurd HA.out (by simp [columbariumlaw6_BlockJoins.l0])
                        | succ k1 =>
                          have H := HA.out
                          clear HA
                          simp only [columbariumlaw6_BlockJoins.l0] at H
                          by_cases c41 : x19_1 < (t30029.length : Int)
                          · rw [if_pos c41] at H
                            have c41b0 : decide (x19_1 < (t30029.length : Int)) = true := decide_eq_true c41
                            clear c41
                            replace H := Option.bind_eq_some_iff.mp H
                            obtain ⟨⟨t30044, t30045, t30046⟩, A420, H⟩ := H
                            replace H : (if t30046 = 0 then (if 0 ≤ x19_1 then (if (strOfNums t30044).toList = (strOfNums (rd_L2 t30029 x19_1)).toList then (if t30045 ≤ x18_1 then (some false) else (columbariumlaw6_BlockJoins.l0 k1 t30001 t30029 t30045 (wrap64 (x19_1 + 1)))) else (some false)) else (none)) else (some false)) = some r := H
                            have A42 := Aside0.mk A420
                            clear A420
                            by_cases c43 : t30046 = 0
                            · rw [if_pos c43] at H
                              have c43b0 : (t30046 == 0) = true := beq_iff_eq.mpr c43
                              have c43b1 : (t30046 != 0) = false := bne_eq_false_iff_eq.mpr c43
                              clear c43
                              by_cases c44 : 0 ≤ x19_1
                              · rw [if_pos c44] at H
                                have c44b0 : decide (0 ≤ x19_1) = true := decide_eq_true c44
                                clear c44
                                by_cases c45 : (strOfNums t30044).toList = (strOfNums (rd_L2 t30029 x19_1)).toList
                                · rw [if_pos c45] at H
                                  have c45b0 : ((strOfNums t30044).toList == (strOfNums (rd_L2 t30029 x19_1)).toList) = true := beq_iff_eq.mpr c45
                                  have c45b1 : ((strOfNums t30044).toList != (strOfNums (rd_L2 t30029 x19_1)).toList) = false := bne_eq_false_iff_eq.mpr c45
                                  clear c45
                                  by_cases c46 : t30045 ≤ x18_1
                                  · rw [if_pos c46] at H
                                    have c46b0 : decide (t30045 ≤ x18_1) = true := decide_eq_true c46
                                    clear c46
                                    exact absurd ((Option.some.inj H).trans hr_.out) (by decide)
                                  · rw [if_neg c46] at H
                                    have c46b0 : decide (t30045 ≤ x18_1) = false := decide_eq_false c46
                                    clear c46
                                    have H' := Aside0.mk H
                                    clear H
                                    try go_wp2_with (first | ((with_reducible refine gate_callee (f := 28) rfl ?_); refine goesL_ (some 91) rfl rfl Try.func28 (by kernel_rfl) rfl #[.slice Ao28 t30001.length co28, .int .i64 x18_1] rfl (by (try simp only [List.map_toArray, List.map_cons, List.map_nil]); first | done | rfl | (simp only [List.length_drop, List.length_take]; rfl)) ?_; (with_reducible refine (block_Open.calls k1 _ _ t30001 x18_1 t30044 t30045 t30046 _ ?side1 ?side2 A42.out).mono ?_); (case side1 => repeat (first | exact (Kd.R_reads' HO_7.out).2.2 | (with_reducible refine Kd.C_alloc ?_ _) | (with_reducible refine Kd.C_drewN ?_ _) | (with_reducible refine Kd.C_drew ?_))); (case side2 => exact (Kd.R_reads' HO_7.out).2.1); rintro e w47 ⟨v30047, rfl, ho0, hb⟩; refine ⟨_, rfl, ?_⟩; have n0_ := Aside0.mk (Kd.R_elder' (by (with_reducible repeat (first | apply Kd.R_alloc | apply Kd.R_drewN | apply Kd.R_drew)); exact HO_7.out) (Kd.R_base ho0) hb); have n1_ := Aside0.mk (Kd.N_elder' (by (with_reducible repeat (first | apply Kd.N_alloc | apply Kd.N_drewN | apply Kd.N_drew)); exact HO_15.out) (Kd.R_base ho0) hb); have n2_ := Aside0.mk (Kd.R_lower (Kd.R_new' ho0 (Kd.R_lt (by (with_reducible repeat (first | apply Kd.R_alloc | apply Kd.R_drewN | apply Kd.R_drew)); exact HO_7.out))) (below_size (by repeat (first | (with_reducible first | exact HB.out | apply below_alloc | apply pw_below_drewN | apply below_drew1) | exact HB.out)))); have n3_ := Aside0.mk (below_step (by repeat (first | (with_reducible first | exact HB.out | apply below_alloc | apply pw_below_drewN | apply below_drew1) | exact HB.out)) hb); clear HO_7; clear HO_15; clear HB; have HO_7 := n0_; have HO_15 := n1_; have HO30048 := n2_; have HB := n3_; clear n0_ n1_ n2_ n3_; (try clear hb); (try clear hb2); (try clear hk); (try clear hi); (try clear ho0)))
                                    have n0_ := Aside0.mk (Kd.R_drew HO_7.out)
                                    have n1_ := Aside0.mk (Kd.N_drew HO_15.out)
                                    have n2_ := Aside0.mk (Kd.R_drew HO30048.out)
                                    have n3_ := Aside0.mk (below_drew1 HB.out)
                                    clear HO_7
                                    clear HO_15
                                    clear HO30048
                                    clear HB
                                    have HO_7 := n0_
                                    have HO_15 := n1_
                                    have HO30048 := n2_
                                    have HB := n3_
                                    clear n0_ n1_ n2_ n3_
                                    have p30049 : 0 ≤ (x19_1 : Int) := of_decide_eq_true (by first | (with_reducible assumption) | assumption)
                                    have q30049 : x19_1 < (t30029.length : Int) := of_decide_eq_true (by first | (with_reducible assumption) | assumption)
                                    obtain ⟨ad30049, A30049_0, c30049_0, e30049, hx30049_0, hl30049_0, hi30049_0⟩ := at_L2 (Kd.N_reads' HO_15.out).2.2 x19_1 p30049 q30049
                                    cases e30049
                                    obtain ⟨ce30049, hce30049, hMe30049, hcc30049⟩ := Kd.N_get HO_15.out [] x19_1 p30049 (by first | exact q30049 | exact of_decide_eq_true (by first | (with_reducible assumption) | assumption) | (have e_ := (Kd.N_reads' HO_15.out).1; omega))
                                    obtain ⟨ua30049_0, uc30049_0, rfl, ul30049_0, ge30049_0⟩ := Kd.FK_slice_open hMe30049
                                    have hv30049_0 := hcc30049 0 _ rfl
                                    rw [Nat.add_zero, show ((Kd.slice 5 (Kd.int .u8))).sz = 1 from rfl, Nat.mul_one] at hv30049_0
                                    replace hv30049_0 := Option.some.inj (hv30049_0.symm.trans hx30049_0)
                                    injection hv30049_0 with hva_ hvn_ hvc_
                                    rw [hva_] at ge30049_0
                                    rw [hvc_] at ul30049_0
                                    have HL30049_0 := Aside0.mk (show Kd.V (Kd.int .u8) 5 _ w.heap.size _ _ (rd_L2 t30029 x19_1) from Kd.V_mk ul30049_0 ge30049_0)
                                    clear hva_ hvn_ hvc_ ge30049_0 ul30049_0
                                    clear hcc30049 hce30049
                                    have HR30049_0 := Aside0.mk hi30049_0
                                    have HC30049_0 := Aside0.mk hl30049_0
                                    clear hi30049_0 hl30049_0
                                    replace p30049 := eq_true p30049
                                    replace q30049 := eq_true q30049
                                    refine start_ (n := 17) (S := fun w' => ((convert 24 9 v30047).run Try.prog w' = .ok (.string (strOfNums t30044)) w') ∧ w'.cell? (ad30049.add (x19_1).toNat) = some (.slice A30049_0 (rd_L2 t30029 x19_1).length c30049_0) ∧ (∀ m_ : Nat, m_ = (rd_L2 t30029 x19_1).length → (convert 24 9 (.slice A30049_0 m_ c30049_0)).run Try.prog w' = .ok (.string (strOfNums (rd_L2 t30029 x19_1))) w')) (ds := []) #[false, false, false, false, false, false, false, false, false, false, false, false, false, false, false, false, false] (by kernel_rfl) rfl rfl ⟨(by first | exact own_string Try.underlying24 Try.underlying5 Try.underlying9 (Kd.own_of_R (HO30048.out)) | exact own_string Try.underlying24 Try.underlying5 Try.underlying9 (Kd.own_of_R (Kd.R_drew HO30048.out))), hx30049_0, (by first | exact (pw_C_string_len (A := A30049_0) (c := c30049_0) Try.underlying24 Try.underlying5 Try.underlying9 (by repeat (first | (with_reducible exact HR30049_0.out) | (with_reducible refine Kd.C_alloc ?_ _) | (with_reducible refine Kd.C_drewN ?_ _) | (with_reducible refine Kd.C_drew ?_) | exact HR30049_0.out))).1 | exact (pw_C_string_len (A := A30049_0) (c := c30049_0) Try.underlying24 Try.underlying5 Try.underlying9 (Kd.C_below HR30049_0.out HB.out)).1 | exact (pw_C_string_len (A := A30049_0) (c := c30049_0) Try.underlying24 Try.underlying5 Try.underlying9 (HR30049_0.out)).1 | exact (pw_C_string_len (A := A30049_0) (c := c30049_0) Try.underlying24 Try.underlying5 Try.underlying9 (Kd.C_drew HR30049_0.out)).1)⟩ (fun hHeld => ?_); refine with_tabW columbariumlaw6_BlockJoins.tab13 columbariumlaw6_BlockJoins.bits13 (fun HT_ HW_ => ?_)
                                    generalize w47.drew = w48 at HO_7 HO_15 HO30048 HB HL30049_0 HR30049_0 hx30049_0 hHeld ⊢
                                    refine pure_ (i := 0) (N := some 95) (v := ?_) (a' := ?_) #[true, false, false, false, false, false, false, false, false, false, false, false, false, false, false, false, false] rfl rfl (any_of HT_.out (by kernel_rfl)) (fun _ _ _ h => h) (Or.inl ⟨by rfl, ?_⟩) ?_ ?_
                                    rotate_left
                                    · intro w'
                                      go_simp
                                      with_reducible rfl
                                    rotate_left
                                    · simp only [Act.put, List.setIfInBounds_toArray, List.set_cons_zero, List.set_cons_succ, i64_w, i32_w]
                                      rfl
                                    refine pure_ (i := 1) (N := some 96) (v := ?_) (a' := ?_) #[true, true, false, false, false, false, false, false, false, false, false, false, false, false, false, false, false] rfl rfl (any_of HT_.out (by kernel_rfl)) (fun _ _ _ h => h) (Or.inl ⟨by rfl, ?_⟩) ?_ ?_
                                    rotate_left
                                    · intro w'
                                      go_simp
                                      with_reducible rfl
                                    rotate_left
                                    · simp only [Act.put, List.setIfInBounds_toArray, List.set_cons_zero, List.set_cons_succ, i64_w, i32_w]
                                      rfl
                                    refine pure_ (i := 2) (N := some 97) (v := ?_) (a' := ?_) #[true, true, true, false, false, false, false, false, false, false, false, false, false, false, false, false, false] rfl rfl (any_of HT_.out (by kernel_rfl)) (fun _ _ _ h => h) (Or.inl ⟨by rfl, ?_⟩) ?_ ?_
                                    rotate_left
                                    · intro w'
                                      go_simp
                                      with_reducible rfl
                                    rotate_left
                                    · simp only [Act.put, List.setIfInBounds_toArray, List.set_cons_zero, List.set_cons_succ, i64_w, i32_w]
                                      rfl
                                    refine pure_ (i := 3) (N := some 98) (v := ?_) (a' := ?_) #[true, true, true, true, false, false, false, false, false, false, false, false, false, false, false, false, false] rfl rfl (any_of HT_.out (by kernel_rfl)) (fun _ _ _ h => h) (Or.inl ⟨by rfl, ?_⟩) ?_ ?_
                                    rotate_left
                                    · intro w'
                                      go_simp
                                      with_reducible rfl
                                    rotate_left
                                    · simp only [Act.put, List.setIfInBounds_toArray, List.set_cons_zero, List.set_cons_succ, i64_w, i32_w]
                                      rfl
                                    refine pure_ (i := 5) (N := some 100) (v := ?_) (a' := ?_) #[true, true, true, true, false, true, false, false, false, false, false, false, false, false, false, false, false] rfl rfl (any_of HT_.out (by kernel_rfl)) (fun _ _ _ h => h) (Or.inl ⟨by rfl, ?_⟩) ?_ ?_
                                    rotate_left
                                    · intro w'
                                      go_simp
                                      with_reducible rfl
                                    rotate_left
                                    · simp only [Act.put, List.setIfInBounds_toArray, List.set_cons_zero, List.set_cons_succ, i64_w, i32_w]
                                      rfl
                                    refine pure_ (i := 6) (N := some 101) (v := ?_) (a' := ?_) #[true, true, true, true, false, true, true, false, false, false, false, false, false, false, false, false, false] rfl rfl (any_of HT_.out (by kernel_rfl)) (fun _ _ _ h => h) (Or.inl ⟨by rfl, ?_⟩) ?_ ?_
                                    rotate_left
                                    · intro w'
                                      go_simp
                                      with_reducible rfl
                                    rotate_left
                                    · simp only [Act.put, List.setIfInBounds_toArray, List.set_cons_zero, List.set_cons_succ, i64_w, i32_w]
                                      rfl
                                    refine pure_ (i := 7) (N := some 102) (v := ?_) (a' := ?_) #[true, true, true, true, false, true, true, true, false, false, false, false, false, false, false, false, false] rfl rfl (any_of HT_.out (by kernel_rfl)) (fun _ _ _ h => h) (Or.inl ⟨by rfl, ?_⟩) ?_ ?_
                                    rotate_left
                                    · intro w'
                                      go_simp
                                      with_reducible rfl
                                    rotate_left
                                    · simp only [Act.put, List.setIfInBounds_toArray, List.set_cons_zero, List.set_cons_succ, i64_w, i32_w]
                                      rfl
                                    refine take_ (i := 4) (N := some 99) (v := ?_) (a' := ?_) #[true, true, true, true, true, true, true, true, false, false, false, false, false, false, false, false, false] rfl rfl (take_ofW HT_.out HW_.out (by kernel_rfl)) (fun _ _ _ h => h) (Or.inl ⟨by rfl, ?_⟩) hHeld ?_ ?_
                                    rotate_left
                                    · rintro w' ⟨s0, s1, s2⟩
                                      go_simp
                                      with_reducible rfl
                                    rotate_left
                                    · simp only [Act.put, List.setIfInBounds_toArray, List.set_cons_zero, List.set_cons_succ, i64_w, i32_w]
                                      rfl
                                    refine take_ (i := 8) (N := some 103) (v := ?_) (a' := ?_) #[true, true, true, true, true, true, true, true, true, false, false, false, false, false, false, false, false] rfl rfl (take_ofW HT_.out HW_.out (by kernel_rfl)) (fun _ _ _ h => h) (Or.inl ⟨by rfl, ?_⟩) hHeld ?_ ?_
                                    rotate_left
                                    · rintro w' ⟨s0, s1, s2⟩
                                      go_simp
                                      with_reducible rfl
                                    rotate_left
                                    · simp only [Act.put, List.setIfInBounds_toArray, List.set_cons_zero, List.set_cons_succ, i64_w, i32_w]
                                      rfl
                                    refine take_ (i := 9) (N := some 104) (v := ?_) (a' := ?_) #[true, true, true, true, true, true, true, true, true, true, false, false, false, false, false, false, false] rfl rfl (take_ofW HT_.out HW_.out (by kernel_rfl)) (fun _ _ _ h => h) (Or.inl ⟨by rfl, ?_⟩) hHeld ?_ ?_
                                    rotate_left
                                    · rintro w' ⟨s0, s1, s2⟩
                                      go_simp
                                      with_reducible rfl
                                    rotate_left
                                    · simp only [Act.put, List.setIfInBounds_toArray, List.set_cons_zero, List.set_cons_succ, i64_w, i32_w]
                                      rfl
                                    refine pure_ (i := 10) (N := some 105) (v := ?_) (a' := ?_) #[true, true, true, true, true, true, true, true, true, true, true, false, false, false, false, false, false] rfl rfl (any_of HT_.out (by kernel_rfl)) (fun _ _ _ h => h) (Or.inl ⟨by rfl, ?_⟩) ?_ ?_
                                    rotate_left
                                    · intro w'
                                      go_simp
                                      with_reducible rfl
                                    rotate_left
                                    · simp only [Act.put, List.setIfInBounds_toArray, List.set_cons_zero, List.set_cons_succ, i64_w, i32_w]
                                      rfl
                                    refine pure_ (i := 11) (N := some 106) (v := ?_) (a' := ?_) #[true, true, true, true, true, true, true, true, true, true, true, true, false, false, false, false, false] rfl rfl (any_of HT_.out (by kernel_rfl)) (fun _ _ _ h => h) (Or.inl ⟨by rfl, ?_⟩) ?_ ?_
                                    rotate_left
                                    · intro w'
                                      go_simp
                                      with_reducible rfl
                                    rotate_left
                                    · simp only [Act.put, List.setIfInBounds_toArray, List.set_cons_zero, List.set_cons_succ, i64_w, i32_w]
                                      rfl
                                    refine pure_ (i := 12) (N := some 107) (v := ?_) (a' := ?_) #[true, true, true, true, true, true, true, true, true, true, true, true, true, false, false, false, false] rfl rfl (any_of HT_.out (by kernel_rfl)) (fun _ _ _ h => h) (Or.inl ⟨by rfl, ?_⟩) ?_ ?_
                                    rotate_left
                                    · intro w'
                                      go_simp
                                      with_reducible rfl
                                    rotate_left
                                    · simp only [Act.put, List.setIfInBounds_toArray, List.set_cons_zero, List.set_cons_succ, i64_w, i32_w]
                                      rfl
                                    refine pure_ (i := 13) (N := some 108) (v := ?_) (a' := ?_) #[true, true, true, true, true, true, true, true, true, true, true, true, true, true, false, false, false] rfl rfl (any_of HT_.out (by kernel_rfl)) (fun _ _ _ h => h) (Or.inl ⟨by rfl, ?_⟩) ?_ ?_
                                    rotate_left
                                    · intro w'
                                      go_simp
                                      with_reducible rfl
                                    rotate_left
                                    · simp only [Act.put, List.setIfInBounds_toArray, List.set_cons_zero, List.set_cons_succ, i64_w, i32_w]
                                      rfl
                                    refine pure_ (i := 14) (N := some 109) (v := ?_) (a' := ?_) #[true, true, true, true, true, true, true, true, true, true, true, true, true, true, true, false, false] rfl rfl (any_of HT_.out (by kernel_rfl)) (fun _ _ _ h => h) (Or.inl ⟨by rfl, ?_⟩) ?_ ?_
                                    rotate_left
                                    · intro w'
                                      go_simp
                                      with_reducible rfl
                                    rotate_left
                                    · simp only [Act.put, List.setIfInBounds_toArray, List.set_cons_zero, List.set_cons_succ, i64_w, i32_w]
                                      rfl
                                    refine pure_ (i := 15) (N := some 110) (v := ?_) (a' := ?_) #[true, true, true, true, true, true, true, true, true, true, true, true, true, true, true, true, false] rfl rfl (any_of HT_.out (by kernel_rfl)) (fun _ _ _ h => h) (Or.inl ⟨by rfl, ?_⟩) ?_ ?_
                                    rotate_left
                                    · intro w'
                                      go_simp
                                      with_reducible rfl
                                    rotate_left
                                    · simp only [Act.put, List.setIfInBounds_toArray, List.set_cons_zero, List.set_cons_succ, i64_w, i32_w]
                                      rfl
                                    refine pure_ (i := 16) (N := some 111) (v := ?_) (a' := ?_) #[true, true, true, true, true, true, true, true, true, true, true, true, true, true, true, true, true] rfl rfl (any_of HT_.out (by kernel_rfl)) (fun _ _ _ h => h) (Or.inl ⟨by rfl, ?_⟩) ?_ ?_
                                    rotate_left
                                    · intro w'
                                      go_simp
                                      with_reducible rfl
                                    rotate_left
                                    · simp only [Act.put, List.setIfInBounds_toArray, List.set_cons_zero, List.set_cons_succ, i64_w, i32_w]
                                      rfl
                                    refine done_ (done_of HT_.out (by kernel_rfl)) ?_
                                    try go_wp2
                                    go_roundg k1
                                    case measure => have := HK1.out; omega
                                    case rel => exact ⟨(t30045), (wrap64 (x19_1 + 1)), (by first | rfl | (simp; done) | (simp [*]; done) | (refine congrArg (Value.int .i64) ?_; (try simp only [decide_eq_true_eq, decide_eq_false_iff_not] at *) <;> (unfold wrap64; omega))), (by first | rfl | (simp; done) | (simp [*]; done) | (refine congrArg (Value.int .i64) ?_; (try simp only [decide_eq_true_eq, decide_eq_false_iff_not] at *) <;> (unfold wrap64; omega))), H', ⟨by have := HK1.out; omega⟩, ⟨by (with_reducible repeat (first | apply Kd.R_alloc | apply Kd.R_drewN | apply Kd.R_drew)); exact Kd.R_mono HO_7.out (fun _ hk => trivial)⟩, ⟨by (with_reducible repeat (first | apply Kd.N_alloc | apply Kd.N_drewN | apply Kd.N_drew)); exact Kd.N_mono HO_15.out (fun _ hk => hk.1)⟩, ⟨by repeat (first | (with_reducible first | exact HB.out | apply below_alloc | apply pw_below_drewN | apply below_drew1) | exact HB.out)⟩⟩
                                · rw [if_neg c45] at H
                                  have c45b0 : ((strOfNums t30044).toList == (strOfNums (rd_L2 t30029 x19_1)).toList) = false := beq_eq_false_iff_ne.mpr c45
                                  have c45b1 : ((strOfNums t30044).toList != (strOfNums (rd_L2 t30029 x19_1)).toList) = true := bne_iff_ne.mpr c45
                                  exact absurd ((Option.some.inj H).trans hr_.out) (by decide)
                              · rw [if_neg c44] at H
                                exact absurd H (by simp)
                            · rw [if_neg c43] at H
                              have c43b0 : (t30046 == 0) = false := beq_eq_false_iff_ne.mpr c43
                              have c43b1 : (t30046 != 0) = true := bne_iff_ne.mpr c43
                              exact absurd ((Option.some.inj H).trans hr_.out) (by decide)
                          · rw [if_neg c41] at H
                            have c41b0 : decide (x19_1 < (t30029.length : Int)) = false := decide_eq_false c41
                            clear c41
                            by_cases c49 : x18_1 = (t30001.length : Int)
                            · rw [if_pos c49] at H
                              have c49b0 : (x18_1 == (t30001.length : Int)) = true := beq_iff_eq.mpr c49
                              have c49b1 : (x18_1 != (t30001.length : Int)) = false := bne_eq_false_iff_eq.mpr c49
                              clear c49
                              replace H := Option.bind_eq_some_iff.mp H
                              obtain ⟨t30050, A500, H⟩ := H
                              replace H : (some t30050) = some r := H
                              have A50 := Aside0.mk A500
                              clear A500
                              obtain rfl := Option.some.inj H
                              go_wp2_with (first | (go_at_call 27; (with_reducible refine (columbariumlaw6_known.calls k1  t30050 _ A50.out).mono ?_); rintro e w51 ⟨rfl, hb⟩; have n0_ := Aside0.mk (Kd.R_below (by (with_reducible repeat (first | apply Kd.R_alloc | apply Kd.R_drewN | apply Kd.R_drew)); exact HO_7.out) hb); have n1_ := Aside0.mk (Kd.N_below (by (with_reducible repeat (first | apply Kd.N_alloc | apply Kd.N_drewN | apply Kd.N_drew)); exact HO_15.out) hb); have n2_ := Aside0.mk (below_step (by repeat (first | (with_reducible first | exact HB.out | apply below_alloc | apply pw_below_drewN | apply below_drew1) | exact HB.out)) hb); clear HO_7; clear HO_15; clear HB; have HO_7 := n0_; have HO_15 := n1_; have HB := n2_; clear n0_ n1_ n2_; (try clear hb); (try clear hb2); (try clear hk); (try clear hi)))
                              go_ret
                              exact ⟨by first | rfl | (simp [errW_none, errW_some] <;> rfl) | (simp [*, errW_none, errW_some] <;> rfl), by repeat (first | (with_reducible first | exact HB.out | apply below_alloc | apply pw_below_drewN | apply below_drew1) | exact HB.out)⟩
                            · rw [if_neg c49] at H
                              have c49b0 : (x18_1 == (t30001.length : Int)) = false := beq_eq_false_iff_ne.mpr c49
                              have c49b1 : (x18_1 != (t30001.length : Int)) = true := bne_iff_ne.mpr c49
                              exact absurd ((Option.some.inj H).trans hr_.out) (by decide)
                    · replace c19 := Bool.eq_false_iff.mpr c19
                      subst c19
                      have H1 : (some false) = some r := by rw [if_neg (show ¬ (false = true) by decide)] at H; exact H
                      clear H
                      have H := H1
                      clear H1
                      exact absurd ((Option.some.inj H).trans hr_.out) (by decide)
                  · rw [if_neg c17] at H
                    exact absurd H (by simp)
                · rw [if_neg c16] at H
                  exact absurd H (by simp)
              · rw [if_neg c15] at H
                have c15b0 : (t30027 == (wrap64 ((t30001.length : Int) + t30013))) = false := beq_eq_false_iff_ne.mpr c15
                have c15b1 : (t30027 != (wrap64 ((t30001.length : Int) + t30013))) = true := bne_iff_ne.mpr c15
                exact absurd ((Option.some.inj H).trans hr_.out) (by decide)
            · rw [if_neg c14] at H
              have c14b0 : (t30014 == t30028) = false := beq_eq_false_iff_ne.mpr c14
              have c14b1 : (t30014 != t30028) = true := bne_iff_ne.mpr c14
              exact absurd ((Option.some.inj H).trans hr_.out) (by decide)
          · rw [if_neg c13] at H
            have c13b0 : (t30032 == (t30001.length : Int)) = false := beq_eq_false_iff_ne.mpr c13
            have c13b1 : (t30032 != (t30001.length : Int)) = true := bne_iff_ne.mpr c13
            exact absurd ((Option.some.inj H).trans hr_.out) (by decide)
        · rw [if_neg c12] at H
          have c12b0 : (t30033 == 0) = false := beq_eq_false_iff_ne.mpr c12
          have c12b1 : (t30033 != 0) = true := bne_iff_ne.mpr c12
          exact absurd ((Option.some.inj H).trans hr_.out) (by decide)
      · rw [if_neg c9] at H
        exact absurd H (by simp)
    · rw [if_neg c8] at H
      exact absurd H (by simp)
  · rw [if_neg c6] at H
    exact absurd H (by simp)

/-- THE ONE PURE STATEMENT of columbariumlaw6_BlockJoins: yours. -/
def columbariumlaw6_BlockJoins.Pure : Prop := ∀ (l0 : List ByteArray) (l1 : List ByteArray) (l2 : List Int), l0.length * 16 ≤ 140737488351232 → (∀ x ∈ l0, x.size ≤ maxLen) → l1.length * 16 ≤ 140737488351232 → (∀ x ∈ l1, x.size ≤ maxLen) → l2.length ≤ maxLen → l2.length * 1 ≤ 140737488351232 → (∀ x ∈ l2, (Lit.int .u8 x).wf = true) → ∃ k, columbariumlaw6_BlockJoins.f k l0 l1 l2 = some true
theorem columbariumlaw6_BlockJoins.walk (P : columbariumlaw6_BlockJoins.Pure) (a0 : Option Addr) (len0 cap0 : Nat) (z0 : List ByteArray) (a1 : Option Addr) (len1 cap1 : Nat) (z1 : List ByteArray) (a2 : Option Addr) (len2 cap2 : Nat) (z2 : List Int) (w : World) (w0 : z0.length = len0 ∧ len0 ≤ cap0 ∧ Kd.string.C w a0 len0 z0 ∧ ∀ x ∈ z0, x.size ≤ maxLen) (y0 : len0 * 16 ≤ 140737488351232) (w1 : z1.length = len1 ∧ len1 ≤ cap1 ∧ Kd.string.C w a1 len1 z1 ∧ ∀ x ∈ z1, x.size ≤ maxLen) (y1 : len1 * 16 ≤ 140737488351232) (w2 : (a2 = none ∧ len2 = 0 ∧ cap2 = 0 ∧ z2 = []) ∨ ∃ x, a2 = some x ∧ len2 ≤ cap2 ∧ cap2 ≤ maxLen ∧ z2.length = cap2 ∧ (∀ i, i < z2.length → w.cell? (x.add i) = some (.int .u8 (z2.getD i 0))) ∧ ∀ n ∈ z2, (Lit.int .u8 n).wf = true) (y2 : len2 * 1 ≤ 140737488351232) :
    Calls Try.prog 14 #[.slice a0 len0 cap0, .slice a1 len1 cap1, .slice a2 len2 cap2] w fun e w' => e = .returned (.bool true) ∧ Below w.heap.size w w' := by
  obtain ⟨rfl, hc0, hr0, hw0⟩ := w0
  obtain ⟨rfl, hc1, hr1, hw1⟩ := w1
  obtain ⟨l2, rfl, hr2, hm2, hw2, hc2⟩ := ReadsInt.ofRowC w2
  obtain ⟨k, h⟩ := P z0 z1 l2 y0 hw0 y1 hw1 hm2 y2 hw2
  refine (columbariumlaw6_BlockJoins.calls k _ _ z0 _ _ z1 _ _ l2 true w hr0 hc0 hr1 hc1 (Kd.C_of_reads (d := (0 : Int)) (h1 := fun _ => rfl) hr2) hc2 h ⟨rfl⟩).mono ?_
  rintro e w' ⟨rfl, hd⟩
  exact ⟨rfl, hd⟩

end Go.Proofs.Ytfgceanepgjfiaa.PS
