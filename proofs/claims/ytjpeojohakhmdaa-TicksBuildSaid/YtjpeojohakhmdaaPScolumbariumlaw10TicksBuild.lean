-- Written by a program of this session, out of the translation; Lean checks it.
import Derived.Test.YtjpeojohakhmdaaPSx0
import Derived.Test.YtjpeojohakhmdaaPSticksBuild
import Derived.Test.YtjpeojohakhmdaaPSticksRight
import Derived.Test.YtjpeojohakhmdaaPScolumbariumlaw10known
namespace Go.Proofs.Ytjpeojohakhmdaa.PS
open Go.RowKit Go.Proofs.YtjpeojohakhmdaaW.PrintWords Go.Proofs.YtjpeojohakhmdaaW.PrintLast Go.Proofs.YtjpeojohakhmdaaW.PrintMore
attribute [local go_sem high] pw_str_leq pw_str_gtr
attribute [local go_sem] pw_us8 pw_us32 pw_us64 pw_max2_str pw_min2_str max2_int min2_int max_two min_two max_three min_three max_four min_four   -- for this text's walks alone
set_option linter.unusedVariables false
set_option linter.unusedSimpArgs false

/-! ### columbariumlaw10_TicksBuild: function 11 -/
mutual
def columbariumlaw10_TicksBuild.l0 : Nat → List Int → Int → Bool → Int → Int → Int → List Int → Option (Bool)
  | 0, _, _, _, _, _, _, _ => none
  | k + 1, x0, x4, x5, x6, x24010000, x24010001, x24010002 => if x6 < (x0.length : Int) then (if x5 = true then (if 0 ≤ x6 then (if 0 ≤ (wrap64 (x6 - 1)) then (if (wrap64 (x6 - 1)) < (x0.length : Int) then (columbariumlaw10_TicksBuild.l0 k x0 x4 (decide ((rd x0 x6) ≥ (rd x0 (wrap64 (x6 - 1))))) (wrap64 (x6 + 1)) x24010000 x24010001 x24010002) else (none)) else (none)) else (none)) else (columbariumlaw10_TicksBuild.l0 k x0 x4 false (wrap64 (x6 + 1)) x24010000 x24010001 x24010002)) else (if x5 = true then (if x4 = 0 then (if x24010000 = (x0.length : Int) then (if (x24010002.length : Int) = (wrap64 (Int.tdiv (wrap64 ((x0.length : Int) + 3)) 4)) then ((ticks_Right.f k x24010000 x24010001 x24010002).bind fun t24012 => (if t24012 = true then (columbariumlaw10_TicksBuild.l1 k x0 0 x24010000 x24010001 x24010002) else (some false))) else (some false)) else (some false)) else (some false)) else (if x4 = 12 then (if x24010000 = 0 then (if (x24010002.length : Int) = 0 then ((columbariumlaw10_known.f k).bind fun t24018 => (some t24018)) else (some false)) else (some false)) else (some false)))
def columbariumlaw10_TicksBuild.l1 : Nat → List Int → Int → Int → Int → List Int → Option (Bool)
  | 0, _, _, _, _, _ => none
  | k + 1, x0, x7, x24010000, x24010001, x24010002 => if x7 < (x24010002.length : Int) then (if 0 ≤ x7 then (if 0 ≤ (wrap64 (4 * x7)) then (if (wrap64 (4 * x7)) < (x0.length : Int) then (if (rd x24010002 x7) = (rd x0 (wrap64 (4 * x7))) then (columbariumlaw10_TicksBuild.l1 k x0 (wrap64 (x7 + 1)) x24010000 x24010001 x24010002) else (some false)) else (none)) else (none)) else (none)) else (if (x0.length : Int) = 0 then ((columbariumlaw10_known.f k).bind fun t24015 => (some t24015)) else (if 0 ≤ (wrap64 ((x0.length : Int) - 1)) then (if (wrap64 ((x0.length : Int) - 1)) < (x0.length : Int) then (if x24010001 = (rd x0 (wrap64 ((x0.length : Int) - 1))) then ((columbariumlaw10_known.f k).bind fun t24017 => (some t24017)) else (some false)) else (none)) else (none)))
def columbariumlaw10_TicksBuild.l1000 : Nat → List Int → Int → Bool → Int → Int → Int → List Int → Option (Bool)
  | 0, _, _, _, _, _, _, _ => none
  | k + 1, x0, x4, x5, x6, x24026000, x24026001, x24026002 => if x6 < (x0.length : Int) then (if x5 = true then (if 0 ≤ x6 then (if 0 ≤ (wrap64 (x6 - 1)) then (if (wrap64 (x6 - 1)) < (x0.length : Int) then (columbariumlaw10_TicksBuild.l1000 k x0 x4 (decide ((rd x0 x6) ≥ (rd x0 (wrap64 (x6 - 1))))) (wrap64 (x6 + 1)) x24026000 x24026001 x24026002) else (none)) else (none)) else (none)) else (columbariumlaw10_TicksBuild.l1000 k x0 x4 false (wrap64 (x6 + 1)) x24026000 x24026001 x24026002)) else (if x5 = true then (if x4 = 0 then (if x24026000 = (x0.length : Int) then (if (x24026002.length : Int) = (wrap64 (Int.tdiv (wrap64 ((x0.length : Int) + 3)) 4)) then ((ticks_Right.f k x24026000 x24026001 x24026002).bind fun t24028 => (if t24028 = true then (columbariumlaw10_TicksBuild.l1001 k x0 0 x24026000 x24026001 x24026002) else (some false))) else (some false)) else (some false)) else (some false)) else (if x4 = 12 then (if x24026000 = 0 then (if (x24026002.length : Int) = 0 then ((columbariumlaw10_known.f k).bind fun t24034 => (some t24034)) else (some false)) else (some false)) else (some false)))
def columbariumlaw10_TicksBuild.l1001 : Nat → List Int → Int → Int → Int → List Int → Option (Bool)
  | 0, _, _, _, _, _ => none
  | k + 1, x0, x7, x24026000, x24026001, x24026002 => if x7 < (x24026002.length : Int) then (if 0 ≤ x7 then (if 0 ≤ (wrap64 (4 * x7)) then (if (wrap64 (4 * x7)) < (x0.length : Int) then (if (rd x24026002 x7) = (rd x0 (wrap64 (4 * x7))) then (columbariumlaw10_TicksBuild.l1001 k x0 (wrap64 (x7 + 1)) x24026000 x24026001 x24026002) else (some false)) else (none)) else (none)) else (none)) else (if (x0.length : Int) = 0 then ((columbariumlaw10_known.f k).bind fun t24031 => (some t24031)) else (if 0 ≤ (wrap64 ((x0.length : Int) - 1)) then (if (wrap64 ((x0.length : Int) - 1)) < (x0.length : Int) then (if x24026001 = (rd x0 (wrap64 ((x0.length : Int) - 1))) then ((columbariumlaw10_known.f k).bind fun t24033 => (some t24033)) else (some false)) else (none)) else (none)))
end
def columbariumlaw10_TicksBuild.f (k : Nat) (l0 : List Int) : Option (Bool) := if (l0.length : Int) > 60 then (if 60 ≤ (l0.length : Int) then ((some (l0.take 60 : List Int)).bind fun y24001 => ((ticks_Build.f k y24001).bind fun bt24003 => (columbariumlaw10_TicksBuild.l0 k y24001 bt24003.2.2.2 true 1 bt24003.1 bt24003.2.1 bt24003.2.2.1))) else (none)) else ((ticks_Build.f k l0).bind fun bt24019 => (columbariumlaw10_TicksBuild.l1000 k l0 bt24019.2.2.2 true 1 bt24019.1 bt24019.2.1 bt24019.2.2.1))
theorem columbariumlaw10_TicksBuild.mono_l : ∀ k, (∀ y0 y1 y2 y3 y4 y5 y6, LeO (columbariumlaw10_TicksBuild.l0 k y0 y1 y2 y3 y4 y5 y6) (columbariumlaw10_TicksBuild.l0 (k + 1) y0 y1 y2 y3 y4 y5 y6)) ∧ (∀ y0 y1 y2 y3 y4, LeO (columbariumlaw10_TicksBuild.l1 k y0 y1 y2 y3 y4) (columbariumlaw10_TicksBuild.l1 (k + 1) y0 y1 y2 y3 y4)) ∧ (∀ y0 y1 y2 y3 y4 y5 y6, LeO (columbariumlaw10_TicksBuild.l1000 k y0 y1 y2 y3 y4 y5 y6) (columbariumlaw10_TicksBuild.l1000 (k + 1) y0 y1 y2 y3 y4 y5 y6)) ∧ (∀ y0 y1 y2 y3 y4, LeO (columbariumlaw10_TicksBuild.l1001 k y0 y1 y2 y3 y4) (columbariumlaw10_TicksBuild.l1001 (k + 1) y0 y1 y2 y3 y4))
  | 0 => ⟨fun _ _ _ _ _ _ _ r h => by simp [columbariumlaw10_TicksBuild.l0] at h, fun _ _ _ _ _ r h => by simp [columbariumlaw10_TicksBuild.l1] at h, fun _ _ _ _ _ _ _ r h => by simp [columbariumlaw10_TicksBuild.l1000] at h, fun _ _ _ _ _ r h => by simp [columbariumlaw10_TicksBuild.l1001] at h⟩
  | k + 1 => by
    obtain ⟨ih0, ih1, ih2, ih3⟩ := columbariumlaw10_TicksBuild.mono_l k
    refine ⟨?_, ?_, ?_, ?_⟩
    · intro y0 y1 y2 y3 y4 y5 y6
      unfold columbariumlaw10_TicksBuild.l0
      repeat' first
      | (with_reducible exact ih0 _ _ _ _ _ _ _)
      | (with_reducible exact ih1 _ _ _ _ _)
      | (with_reducible exact ih2 _ _ _ _ _ _ _)
      | (with_reducible exact ih3 _ _ _ _ _)
      | (with_reducible exact columbariumlaw10_known.mono _)
      | (with_reducible exact ticks_Build.mono _ _)
      | (with_reducible exact ticks_Right.mono _ _ _ _)
      | (with_reducible exact LeO.refl _)
      | (with_reducible exact LeO.none _)
      | (with_reducible refine LeO.ite ?_ ?_)
      | (with_reducible refine LeO.bind ?_ (fun _ => ?_))
      | exact ih0 _ _ _ _ _ _ _
      | exact ih1 _ _ _ _ _
      | exact ih2 _ _ _ _ _ _ _
      | exact ih3 _ _ _ _ _
      | exact columbariumlaw10_known.mono _
      | exact ticks_Build.mono _ _
      | exact ticks_Right.mono _ _ _ _
      | exact LeO.none _
      | refine LeO.ite ?_ ?_
      | refine LeO.bind ?_ (fun _ => ?_)
    · intro y0 y1 y2 y3 y4
      unfold columbariumlaw10_TicksBuild.l1
      repeat' first
      | (with_reducible exact ih0 _ _ _ _ _ _ _)
      | (with_reducible exact ih1 _ _ _ _ _)
      | (with_reducible exact ih2 _ _ _ _ _ _ _)
      | (with_reducible exact ih3 _ _ _ _ _)
      | (with_reducible exact columbariumlaw10_known.mono _)
      | (with_reducible exact ticks_Build.mono _ _)
      | (with_reducible exact ticks_Right.mono _ _ _ _)
      | (with_reducible exact LeO.refl _)
      | (with_reducible exact LeO.none _)
      | (with_reducible refine LeO.ite ?_ ?_)
      | (with_reducible refine LeO.bind ?_ (fun _ => ?_))
      | exact ih0 _ _ _ _ _ _ _
      | exact ih1 _ _ _ _ _
      | exact ih2 _ _ _ _ _ _ _
      | exact ih3 _ _ _ _ _
      | exact columbariumlaw10_known.mono _
      | exact ticks_Build.mono _ _
      | exact ticks_Right.mono _ _ _ _
      | exact LeO.none _
      | refine LeO.ite ?_ ?_
      | refine LeO.bind ?_ (fun _ => ?_)
    · intro y0 y1 y2 y3 y4 y5 y6
      unfold columbariumlaw10_TicksBuild.l1000
      repeat' first
      | (with_reducible exact ih0 _ _ _ _ _ _ _)
      | (with_reducible exact ih1 _ _ _ _ _)
      | (with_reducible exact ih2 _ _ _ _ _ _ _)
      | (with_reducible exact ih3 _ _ _ _ _)
      | (with_reducible exact columbariumlaw10_known.mono _)
      | (with_reducible exact ticks_Build.mono _ _)
      | (with_reducible exact ticks_Right.mono _ _ _ _)
      | (with_reducible exact LeO.refl _)
      | (with_reducible exact LeO.none _)
      | (with_reducible refine LeO.ite ?_ ?_)
      | (with_reducible refine LeO.bind ?_ (fun _ => ?_))
      | exact ih0 _ _ _ _ _ _ _
      | exact ih1 _ _ _ _ _
      | exact ih2 _ _ _ _ _ _ _
      | exact ih3 _ _ _ _ _
      | exact columbariumlaw10_known.mono _
      | exact ticks_Build.mono _ _
      | exact ticks_Right.mono _ _ _ _
      | exact LeO.none _
      | refine LeO.ite ?_ ?_
      | refine LeO.bind ?_ (fun _ => ?_)
    · intro y0 y1 y2 y3 y4
      unfold columbariumlaw10_TicksBuild.l1001
      repeat' first
      | (with_reducible exact ih0 _ _ _ _ _ _ _)
      | (with_reducible exact ih1 _ _ _ _ _)
      | (with_reducible exact ih2 _ _ _ _ _ _ _)
      | (with_reducible exact ih3 _ _ _ _ _)
      | (with_reducible exact columbariumlaw10_known.mono _)
      | (with_reducible exact ticks_Build.mono _ _)
      | (with_reducible exact ticks_Right.mono _ _ _ _)
      | (with_reducible exact LeO.refl _)
      | (with_reducible exact LeO.none _)
      | (with_reducible refine LeO.ite ?_ ?_)
      | (with_reducible refine LeO.bind ?_ (fun _ => ?_))
      | exact ih0 _ _ _ _ _ _ _
      | exact ih1 _ _ _ _ _
      | exact ih2 _ _ _ _ _ _ _
      | exact ih3 _ _ _ _ _
      | exact columbariumlaw10_known.mono _
      | exact ticks_Build.mono _ _
      | exact ticks_Right.mono _ _ _ _
      | exact LeO.none _
      | refine LeO.ite ?_ ?_
      | refine LeO.bind ?_ (fun _ => ?_)
theorem columbariumlaw10_TicksBuild.mono : ∀ a0 k, LeO (columbariumlaw10_TicksBuild.f k a0) (columbariumlaw10_TicksBuild.f (k + 1) a0) := by
  intro a0 k
  obtain ⟨ih0, ih1, ih2, ih3⟩ := columbariumlaw10_TicksBuild.mono_l k
  unfold columbariumlaw10_TicksBuild.f
  repeat' first
      | (with_reducible exact ih0 _ _ _ _ _ _ _)
      | (with_reducible exact ih1 _ _ _ _ _)
      | (with_reducible exact ih2 _ _ _ _ _ _ _)
      | (with_reducible exact ih3 _ _ _ _ _)
      | (with_reducible exact columbariumlaw10_known.mono _)
      | (with_reducible exact ticks_Build.mono _ _)
      | (with_reducible exact ticks_Right.mono _ _ _ _)
      | (with_reducible exact LeO.refl _)
      | (with_reducible exact LeO.none _)
      | (with_reducible refine LeO.ite ?_ ?_)
      | (with_reducible refine LeO.bind ?_ (fun _ => ?_))
      | exact ih0 _ _ _ _ _ _ _
      | exact ih1 _ _ _ _ _
      | exact ih2 _ _ _ _ _ _ _
      | exact ih3 _ _ _ _ _
      | exact columbariumlaw10_known.mono _
      | exact ticks_Build.mono _ _
      | exact ticks_Right.mono _ _ _ _
      | exact LeO.none _
      | refine LeO.ite ?_ ?_
      | refine LeO.bind ?_ (fun _ => ?_)
def columbariumlaw10_TicksBuild.T8 : Bool × List (List Nat × List Nat) := (true, [([], []), ([0], [0]), ([1], [1]), ([1], [1]), ([2, 3, 1], [1, 2, 3]), ([4, 1], [1, 4]), ([1], [1]), ([1], [1]), ([7, 1], [1, 7]), ([6, 8, 1], [1, 6, 8]), ([9, 1], [1, 9]), ([5, 10, 1], [1, 5, 10]), ([1, 11], [1, 11]), ([12, 1, 0, 1, 2, 3, 4, 5, 6, 7, 8, 9, 10, 11, 12], [0, 12])])
def columbariumlaw10_TicksBuild.B8 : List Nat := [0, 1, 3, 3, 15, 31, 3, 3, 131, 451, 963, 2047, 4095, 8191]
theorem columbariumlaw10_TicksBuild.tab8 : rtab .any (opsOf Try.f11 8) = columbariumlaw10_TicksBuild.T8 := by kernel_rfl
theorem columbariumlaw10_TicksBuild.bits8 : waitsOk columbariumlaw10_TicksBuild.T8.2 columbariumlaw10_TicksBuild.B8 = true := by kernel_rfl
def columbariumlaw10_TicksBuild.T16 : Bool × List (List Nat × List Nat) := (true, [([], []), ([0], [0]), ([], []), ([1, 2], [1, 2]), ([3], [3]), ([], []), ([], []), ([6], [6]), ([5, 7], [5, 7]), ([8], [8]), ([4, 9], [4, 9])])
def columbariumlaw10_TicksBuild.B16 : List Nat := [0, 1, 0, 7, 15, 0, 0, 64, 224, 480, 1023]
theorem columbariumlaw10_TicksBuild.tab16 : rtab .any (opsOf Try.f11 16) = columbariumlaw10_TicksBuild.T16 := by kernel_rfl
theorem columbariumlaw10_TicksBuild.bits16 : waitsOk columbariumlaw10_TicksBuild.T16.2 columbariumlaw10_TicksBuild.B16 = true := by kernel_rfl
def columbariumlaw10_TicksBuild.T18 : Bool × List (List Nat × List Nat) := (true, [([], []), ([0], [0]), ([1], [1]), ([2], [2]), ([3], [3]), ([4, 3], [3, 4]), ([3], [3]), ([3], [3]), ([7, 3], [3, 7]), ([8, 3], [3, 8]), ([6, 9, 3], [3, 6, 9]), ([10, 3], [3, 10]), ([5, 11, 3], [3, 5, 11]), ([3, 12], [3, 12]), ([13, 3], [13]), ([14, 14], [14]), ([14, 15], [14, 15]), ([16, 15, 0, 1, 2, 3, 4, 5, 6, 7, 8, 9, 10, 11, 12, 13, 14, 15, 16], [16])])
def columbariumlaw10_TicksBuild.B18 : List Nat := [0, 1, 3, 7, 15, 31, 15, 15, 143, 399, 975, 1999, 4095, 8191, 16383, 32767, 65535, 131071]
theorem columbariumlaw10_TicksBuild.tab18 : rtab .any (opsOf Try.f11 18) = columbariumlaw10_TicksBuild.T18 := by kernel_rfl
theorem columbariumlaw10_TicksBuild.bits18 : waitsOk columbariumlaw10_TicksBuild.T18.2 columbariumlaw10_TicksBuild.B18 = true := by kernel_rfl
set_option maxHeartbeats 8000000 in
set_option maxRecDepth 100000 in
theorem columbariumlaw10_TicksBuild.calls (k : Nat) (A0 : Option Addr) (c0 : Nat) (l0 : List Int) (r : Bool) (w : World) (hr0 : Kd.C (Kd.int .i64) w A0 l0.length l0) (hc0 : l0.length ≤ c0) (h : columbariumlaw10_TicksBuild.f k l0 = some r) (hr_ : Aside0 (r = true)) :
    Calls Try.prog 11 #[.slice A0 l0.length c0] w fun e w' => e = .returned (.bool r) ∧ Below w.heap.size w w' := by
  have hu61 := Try.underlying61
  have HR0 := Aside0.mk hr0
  have HC0 := Aside0.mk hc0
  clear hr0 hc0
  have HB := Aside0.mk (Below.refl w.heap.size w)
  have H : (if (l0.length : Int) > 60 then (if 60 ≤ (l0.length : Int) then ((some (l0.take 60 : List Int)).bind fun y24001 => ((ticks_Build.f k y24001).bind fun bt24003 => (columbariumlaw10_TicksBuild.l0 k y24001 bt24003.2.2.2 true 1 bt24003.1 bt24003.2.1 bt24003.2.2.1))) else (none)) else ((ticks_Build.f k l0).bind fun bt24019 => (columbariumlaw10_TicksBuild.l1000 k l0 bt24019.2.2.2 true 1 bt24019.1 bt24019.2.1 bt24019.2.2.1))) = some r := h
  clear h
  by_cases c2 : (l0.length : Int) > 60
  · rw [if_pos c2] at H
    have c2b0 : decide (60 < (l0.length : Int)) = true := decide_eq_true c2
    have c2b1 : decide (60 < l0.length) = true := decide_eq_true (by omega)
    clear c2
    by_cases c3 : 60 ≤ (l0.length : Int)
    · rw [if_pos c3] at H
      have c3b0 := eq_true c3
      have c3b1 : decide (60 ≤ (l0.length : Int)) = true := decide_eq_true c3
      clear c3
      obtain ⟨y24001, hy24001⟩ : ∃ y_ : List Int, y_ = (l0.take 60) := ⟨_, rfl⟩
      replace H : ((ticks_Build.f k y24001).bind fun bt24003 => (columbariumlaw10_TicksBuild.l0 k y24001 bt24003.2.2.2 true 1 bt24003.1 bt24003.2.1 bt24003.2.2.1)) = some r := by first | (rw [hy24001]; with_reducible exact H) | (have H2_ := (Option.bind_some _ _).symm.trans H; rw [hy24001]; with_reducible exact H2_) | (have H2_ := (Option.bind_some _ _).symm.trans H; with_reducible exact H2_) | with_reducible exact H | (rw [hy24001]; exact H) | exact H
      have Ny24001 := Aside0.mk hy24001
      clear hy24001
      replace H := Option.bind_eq_some_iff.mp H
      obtain ⟨⟨t24003, t24004, t24005, t24008⟩, A40, H⟩ := H
      replace H : (columbariumlaw10_TicksBuild.l0 k y24001 t24008 true 1 t24003 t24004 t24005) = some r := H
      have A4 := Aside0.mk A40
      clear A40
      have H' := Aside0.mk H
      clear H
      obtain ⟨i05, hi05, _, hsz5, _⟩ := info_parts info2
      obtain ⟨hcut5, hA5, hC5⟩ := print_take_of (P := Try.prog) (Value.int .i64) 0 58 2 .i64 Try.underlying58 hi05 hsz5 A0 c0 l0 60 (by omega) (of_decide_eq_true (by first | (with_reducible assumption) | assumption)) HC0.out
      have HR24002 := Aside0.mk (Kd.C_of_reads (h1 := fun _ => rfl) (hA5 _ (Kd.reads_of_C HR0.out)))
      have HC24002 := Aside0.mk hC5
      clear hA5 hC5 hi05 hsz5
      rw [show (l0.take (60 : Int).toNat) = y24001 from Ny24001.out.symm] at hcut5
      rw [show (l0.take (60 : Int).toNat) = y24001 from Ny24001.out.symm] at HR24002
      rw [show (l0.take (60 : Int).toNat) = y24001 from Ny24001.out.symm] at HC24002
      go_enter Try.func11, Try.ntmps11
      go_wp2_with (first | ((with_reducible refine gate_callee (f := 30) rfl ?_); refine goesL_ (some 15) rfl rfl Try.func30 (by kernel_rfl) rfl #[.slice A0 y24001.length c0] rfl (by (try simp only [List.map_toArray, List.map_cons, List.map_nil]); first | done | rfl | (simp only [List.length_drop, List.length_take]; rfl)) ?_; (with_reducible refine (ticks_Build.calls k _ _ y24001 t24003 t24004 t24005 t24008 _ ?side1 ?side2 A4.out).mono ?_); (case side1 => repeat (first | exact HR24002.out | (with_reducible refine Kd.C_alloc ?_ _) | (with_reducible refine Kd.C_drewN ?_ _) | (with_reducible refine Kd.C_drew ?_))); (case side2 => exact HC24002.out); rintro e w6 ⟨v24006, rfl, ho0, hb⟩; refine ⟨_, rfl, ?_⟩; have n0_ := Aside0.mk (Kd.R_lower ho0 (below_size (by repeat (first | (with_reducible first | exact HB.out | apply below_alloc | apply pw_below_drewN | apply below_drew1) | exact HB.out)))); have n1_ := Aside0.mk (below_step (by repeat (first | (with_reducible first | exact HB.out | apply below_alloc | apply pw_below_drewN | apply below_drew1) | exact HB.out)) hb); clear HB; have HO24007 := n0_; have HB := n1_; clear n0_ n1_; (try clear hb); (try clear hb2); (try clear hk); (try clear hi); (try clear ho0)) | ((with_reducible refine gate_dst (N := 3) rfl ?_); (try (refine gate_guard (by rfl) ?_; dsimp only)); refine box_event ?hg (N := 3) ?hd (cs := #[.int .i64 0, .int .i64 0, .slice none 0 0]) (t := 61) ?hr ?_; (case hd => rfl); (case hg => rfl); (case hr => first | (go_simp; done) | (go_simp; rfl)); intro gb24009 hg w7 hbox hb; have n0_ := Aside0.mk (Kd.R_below (by (with_reducible repeat (first | apply Kd.R_alloc | apply Kd.R_drewN | apply Kd.R_drew)); exact HO24007.out) hb); have n1_ := Aside0.mk (below_step (by repeat (first | (with_reducible first | exact HB.out | apply below_alloc | apply pw_below_drewN | apply below_drew1) | exact HB.out)) hb); have n2_ := Aside0.mk (hbox); have n3_ := Aside0.mk ((by rw [hg]; exact (below_size (by repeat (first | (with_reducible first | exact HB.out | apply below_alloc | apply pw_below_drewN | apply below_drew1) | exact HB.out))) : w.heap.size ≤ gb24009)); have n4_ := Aside0.mk ((by rw [hg]; exact (below_size (by repeat (first | (with_reducible first | exact HB.out | apply below_alloc | apply pw_below_drewN | apply below_drew1) | exact HB.out))) : w.heap.size ≤ gb24009)); clear HO24007; clear HB; have HO24007 := n0_; have HB := n1_; have BK24009 := n2_; have GW24009 := n3_; have GE24009 := n4_; clear n0_ n1_ n2_ n3_ n4_; clear hb hbox hg; have hcz8_0 : w7.cell? ⟨gb24009, 0, none⟩ = some (.int .i64 0) := (blk_cell BK24009.out 0).trans rfl; have hcz8_1 : w7.cell? ⟨gb24009, 1, none⟩ = some (.int .i64 0) := (blk_cell BK24009.out 1).trans rfl; have hcz8_2 : w7.cell? ⟨gb24009, 2, none⟩ = some (.slice none 0 0) := (blk_cell BK24009.out 2).trans rfl; have hfz8_0 := blk_frozen BK24009.out 0; have hfz8_1 := blk_frozen BK24009.out 1; have hfz8_2 := blk_frozen BK24009.out 2; obtain ⟨Ao9, co9, eo9⟩ := Kd.R_slice HO24007.out; subst eo9))
      go_loopg [5, 6] k (fun kq v5 v6 w' => ∃ (x5_1 : Bool) (x6_1 : Int), v5 = .bool x5_1 ∧ v6 = .int .i64 x6_1 ∧ Aside0 (columbariumlaw10_TicksBuild.l0 kq y24001 t24008 x5_1 x6_1 t24003 t24004 t24005 = some r) ∧ Aside0 (kq ≤ k) ∧ Aside0 (Kd.R (Kd.int .i64) 2 w' w.heap.size (fun _ => True) (.slice Ao9 t24005.length co9) t24005) ∧ Aside0 (w'.heap[gb24009]? = some (.cells #[.int .i64 t24003, .int .i64 t24004, (.slice Ao9 t24005.length co9)] 61 (0, 0))) ∧ Aside0 (Below w.heap.size w w'))
      case atStart => exact ⟨(true), (1), (by first | rfl | (simp; done) | (simp [*]; done) | (refine congrArg (Value.int .i64) ?_; (try simp only [decide_eq_true_eq, decide_eq_false_iff_not] at *) <;> (unfold wrap64; omega))), (by first | rfl | (simp; done) | (simp [*]; done) | (refine congrArg (Value.int .i64) ?_; (try simp only [decide_eq_true_eq, decide_eq_false_iff_not] at *) <;> (unfold wrap64; omega))), H', ⟨Nat.le_refl _⟩, ⟨by (with_reducible repeat (first | apply Kd.R_alloc | apply Kd.R_drewN | apply Kd.R_drew)); exact Kd.R_mono (Kd.R_far (p := ⟨gb24009, 2, none⟩) (Kd.R_far (p := ⟨gb24009, 1, none⟩) (Kd.R_far (p := ⟨gb24009, 0, none⟩) (Kd.R_types HO24007.out BK24009.out (by decide)) (fun _ hk => hk.2) (.int .i64 t24003)) (fun _ hk => hk.2) (.int .i64 t24004)) (fun _ hk => hk.2) (.slice Ao9 t24005.length co9)) (fun _ hk => trivial)⟩, ⟨by (with_reducible repeat (first | refine blk_drewN ?_ _ | refine blk_drew ?_ | refine blk_alloc ?_ _)); refine blk_put (cs := #[.int .i64 t24003, .int .i64 t24004, .slice none 0 0]) ?_ 2 _ rfl; (with_reducible repeat (first | refine blk_drewN ?_ _ | refine blk_drew ?_ | refine blk_alloc ?_ _)); refine blk_put (cs := #[.int .i64 t24003, .int .i64 0, .slice none 0 0]) ?_ 1 _ rfl; (with_reducible repeat (first | refine blk_drewN ?_ _ | refine blk_drew ?_ | refine blk_alloc ?_ _)); refine blk_put (cs := #[.int .i64 0, .int .i64 0, .slice none 0 0]) ?_ 0 _ rfl; (with_reducible repeat (first | refine blk_drewN ?_ _ | refine blk_drew ?_ | refine blk_alloc ?_ _)); exact BK24009.out⟩, ⟨by repeat (first | (with_reducible first | exact HB.out | apply below_alloc | apply pw_below_drewN | apply below_drew1 | refine below_set ?_ GE24009.out) | exact HB.out)⟩⟩
      case round =>
        clear H'
        try clear c1
        try clear c2
        try clear c2b0
        try clear c2b1
        try clear p2
        try clear c3
        try clear c3b0
        try clear c3b1
        try clear p6
        try clear hcz8_0
        try clear hcz8_1
        try clear hcz8_2
        try clear hfz8_0
        try clear hfz8_1
        try clear hfz8_2
        obtain ⟨x5_1, x6_1, rfl, rfl, HA, HK1, HO_24010002, BK24009, HB⟩ := hrel
        cases gk with
        | zero => exact absurd HA.out (by simp [columbariumlaw10_TicksBuild.l0])
        | succ k1 =>
          have H := HA.out
          clear HA
          simp only [columbariumlaw10_TicksBuild.l0] at H
          by_cases c10 : x6_1 < (y24001.length : Int)
          · rw [if_pos c10] at H
            have c10b0 : decide (x6_1 < (y24001.length : Int)) = true := decide_eq_true c10
            clear c10
            by_cases c11 : x5_1 = true
            · subst c11
              have H1 : (if 0 ≤ x6_1 then (if 0 ≤ (wrap64 (x6_1 - 1)) then (if (wrap64 (x6_1 - 1)) < (y24001.length : Int) then (columbariumlaw10_TicksBuild.l0 k1 y24001 t24008 (decide ((rd y24001 x6_1) ≥ (rd y24001 (wrap64 (x6_1 - 1))))) (wrap64 (x6_1 + 1)) t24003 t24004 t24005) else (none)) else (none)) else (none)) = some r := by rw [if_pos rfl] at H; exact H
              clear H
              have H := H1
              clear H1
              by_cases c12 : 0 ≤ x6_1
              · rw [if_pos c12] at H
                have c12b0 : decide (0 ≤ x6_1) = true := decide_eq_true c12
                clear c12
                obtain ⟨ji13, hji13⟩ : ∃ j_ : Int, (wrap64 (x6_1 - 1)) = j_ := ⟨_, rfl⟩
                replace H : (if 0 ≤ (ji13) then (if (ji13) < (y24001.length : Int) then (columbariumlaw10_TicksBuild.l0 k1 y24001 t24008 (decide ((rd y24001 x6_1) ≥ (rd y24001 (ji13)))) (wrap64 (x6_1 + 1)) t24003 t24004 t24005) else (none)) else (none)) = some r := by first | (rw [hji13] at H; exact H) | (simp only [hji13] at H ⊢; exact H)
                have hji13w : (IntKind.i64.wrap (x6_1 - 1)) = ji13 := (i64_w _).trans hji13
                (try ((have hji13v : (x6_1 - 1) = ji13 := by ((have h_ := hji13); ((try simp only [decide_eq_true_eq] at *) <;> (unfold wrap64 at h_; omega)))); (have hji13l : 0 ≤ ji13 := by ((have h_ := hji13); ((try simp only [decide_eq_true_eq] at *) <;> (unfold wrap64 at h_; omega)))); (have hji13u : ji13 ≤ 64 := by ((have h_ := hji13); ((try simp only [decide_eq_true_eq] at *) <;> (unfold wrap64 at h_; omega))))))
                by_cases c14 : 0 ≤ (ji13)
                · rw [if_pos c14] at H
                  have c14b0 : decide (0 ≤ (ji13)) = true := decide_eq_true c14
                  clear c14
                  by_cases c15 : (ji13) < (y24001.length : Int)
                  · rw [if_pos c15] at H
                    have c15b0 : decide ((ji13) < (y24001.length : Int)) = true := decide_eq_true c15
                    clear c15
                    have H' := Aside0.mk H
                    clear H
                    try go_wp2
                    have n0_ := Aside0.mk (Kd.R_drew HO_24010002.out)
                    have n1_ := Aside0.mk (blk_drew BK24009.out)
                    have n2_ := Aside0.mk (below_drew1 HB.out)
                    clear HO_24010002
                    clear BK24009
                    clear HB
                    have HO_24010002 := n0_
                    have BK24009 := n1_
                    have HB := n2_
                    clear n0_ n1_ n2_
                    have p24010 : 0 ≤ (x6_1 : Int) := of_decide_eq_true (by first | (with_reducible assumption) | assumption)
                    have q24010 : x6_1 < (y24001.length : Int) := of_decide_eq_true (by first | (with_reducible assumption) | assumption)
                    obtain ⟨ad24010, e24010, hx24010_0⟩ := Kd.at_int HR24002.out x6_1 p24010 q24010
                    have hw24010_0 := hx24010_0
                    cases e24010
                    replace hx24010_0 := (HB.out.cell (World.block_lt_of_cell? w _ hx24010_0)).trans hx24010_0
                    replace p24010 := eq_true p24010
                    replace q24010 := eq_true q24010
                    have p24011 : 0 ≤ ((ji13) : Int) := of_decide_eq_true (by first | (with_reducible assumption) | assumption)
                    have q24011 : (ji13) < (y24001.length : Int) := of_decide_eq_true (by first | (with_reducible assumption) | assumption)
                    obtain ⟨ad24011, e24011, hx24011_0⟩ := Kd.at_int HR24002.out (ji13) p24011 q24011
                    have hw24011_0 := hx24011_0
                    obtain rfl : ad24010 = ad24011 := (by injection e24011)
                    replace hx24011_0 := (HB.out.cell (World.block_lt_of_cell? w _ hx24011_0)).trans hx24011_0
                    replace p24011 := eq_true p24011
                    replace q24011 := eq_true q24011
                    refine start_ (n := 14) (S := fun w' => w'.cell? (ad24010.add (x6_1).toNat) = some (.int .i64 (rd y24001 x6_1)) ∧ w'.cell? (ad24010.add ((ji13)).toNat) = some (.int .i64 (rd y24001 (ji13)))) (ds := []) #[false, false, false, false, false, false, false, false, false, false, false, false, false, false] (by kernel_rfl) rfl rfl ⟨((HB.out.cell (World.block_lt_of_cell? w _ hw24010_0)).trans hw24010_0), ((HB.out.cell (World.block_lt_of_cell? w _ hw24011_0)).trans hw24011_0)⟩ (fun hHeld => ?_); refine with_tabW columbariumlaw10_TicksBuild.tab8 columbariumlaw10_TicksBuild.bits8 (fun HT_ HW_ => ?_)
                    generalize wr.drew = w16 at HO_24010002 BK24009 HB hx24010_0 hx24011_0 hHeld ⊢
                    refine pure_ (i := 0) (N := some 24) (v := ?_) (a' := ?_) #[true, false, false, false, false, false, false, false, false, false, false, false, false, false] rfl rfl (any_of HT_.out (by kernel_rfl)) (fun _ _ _ h => h) (Or.inl ⟨by rfl, ?_⟩) ?_ ?_
                    rotate_left
                    · intro w'
                      go_simp
                      with_reducible rfl
                    rotate_left
                    · simp only [Act.put, List.setIfInBounds_toArray, List.set_cons_zero, List.set_cons_succ, i64_w, i32_w]
                      rfl
                    refine pure_ (i := 1) (N := some 25) (v := ?_) (a' := ?_) #[true, true, false, false, false, false, false, false, false, false, false, false, false, false] rfl rfl (any_of HT_.out (by kernel_rfl)) (fun _ _ _ h => h) (Or.inl ⟨by rfl, ?_⟩) ?_ ?_
                    rotate_left
                    · intro w'
                      go_simp
                      with_reducible rfl
                    rotate_left
                    · simp only [Act.put, List.setIfInBounds_toArray, List.set_cons_zero, List.set_cons_succ, i64_w, i32_w]
                      rfl
                    refine pure_ (i := 2) (N := some 26) (v := ?_) (a' := ?_) #[true, true, true, false, false, false, false, false, false, false, false, false, false, false] rfl rfl (any_of HT_.out (by kernel_rfl)) (fun _ _ _ h => h) (Or.inl ⟨by rfl, ?_⟩) ?_ ?_
                    rotate_left
                    · intro w'
                      go_simp
                      with_reducible rfl
                    rotate_left
                    · simp only [Act.put, List.setIfInBounds_toArray, List.set_cons_zero, List.set_cons_succ, i64_w, i32_w]
                      rfl
                    refine pure_ (i := 3) (N := some 27) (v := ?_) (a' := ?_) #[true, true, true, true, false, false, false, false, false, false, false, false, false, false] rfl rfl (any_of HT_.out (by kernel_rfl)) (fun _ _ _ h => h) (Or.inl ⟨by rfl, ?_⟩) ?_ ?_
                    rotate_left
                    · intro w'
                      go_simp
                      with_reducible rfl
                    rotate_left
                    · simp only [Act.put, List.setIfInBounds_toArray, List.set_cons_zero, List.set_cons_succ, i64_w, i32_w]
                      rfl
                    refine pure_ (i := 4) (N := some 28) (v := ?_) (a' := ?_) #[true, true, true, true, true, false, false, false, false, false, false, false, false, false] rfl rfl (any_of HT_.out (by kernel_rfl)) (fun _ _ _ h => h) (Or.inl ⟨by rfl, ?_⟩) ?_ ?_
                    rotate_left
                    · intro w'
                      go_simp
                      with_reducible rfl
                    rotate_left
                    · simp only [Act.put, List.setIfInBounds_toArray, List.set_cons_zero, List.set_cons_succ, i64_w, i32_w]
                      rfl
                    refine pure_ (i := 6) (N := some 30) (v := ?_) (a' := ?_) #[true, true, true, true, true, false, true, false, false, false, false, false, false, false] rfl rfl (any_of HT_.out (by kernel_rfl)) (fun _ _ _ h => h) (Or.inl ⟨by rfl, ?_⟩) ?_ ?_
                    rotate_left
                    · intro w'
                      go_simp
                      with_reducible rfl
                    rotate_left
                    · simp only [Act.put, List.setIfInBounds_toArray, List.set_cons_zero, List.set_cons_succ, i64_w, i32_w]
                      rfl
                    refine pure_ (i := 7) (N := some 31) (v := ?_) (a' := ?_) #[true, true, true, true, true, false, true, true, false, false, false, false, false, false] rfl rfl (any_of HT_.out (by kernel_rfl)) (fun _ _ _ h => h) (Or.inl ⟨by rfl, ?_⟩) ?_ ?_
                    rotate_left
                    · intro w'
                      go_simp
                      with_reducible rfl
                    rotate_left
                    · simp only [Act.put, List.setIfInBounds_toArray, List.set_cons_zero, List.set_cons_succ, i64_w, i32_w]
                      rfl
                    refine pure_ (i := 8) (N := some 32) (v := ?_) (a' := ?_) #[true, true, true, true, true, false, true, true, true, false, false, false, false, false] rfl rfl (any_of HT_.out (by kernel_rfl)) (fun _ _ _ h => h) (Or.inl ⟨by rfl, ?_⟩) ?_ ?_
                    rotate_left
                    · intro w'
                      go_simp
                      with_reducible rfl
                    rotate_left
                    · simp only [Act.put, List.setIfInBounds_toArray, List.set_cons_zero, List.set_cons_succ, i64_w, i32_w]
                      rfl
                    refine pure_ (i := 9) (N := some 33) (v := ?_) (a' := ?_) #[true, true, true, true, true, false, true, true, true, true, false, false, false, false] rfl rfl (any_of HT_.out (by kernel_rfl)) (fun _ _ _ h => h) (Or.inl ⟨by rfl, ?_⟩) ?_ ?_
                    rotate_left
                    · intro w'
                      go_simp
                      with_reducible rfl
                    rotate_left
                    · simp only [Act.put, List.setIfInBounds_toArray, List.set_cons_zero, List.set_cons_succ, i64_w, i32_w]
                      rfl
                    refine take_ (i := 5) (N := some 29) (v := ?_) (a' := ?_) #[true, true, true, true, true, true, true, true, true, true, false, false, false, false] rfl rfl (take_ofW HT_.out HW_.out (by kernel_rfl)) (fun _ _ _ h => h) (Or.inl ⟨by rfl, ?_⟩) hHeld ?_ ?_
                    rotate_left
                    · rintro w' ⟨s0, s1⟩
                      go_simp
                      with_reducible rfl
                    rotate_left
                    · simp only [Act.put, List.setIfInBounds_toArray, List.set_cons_zero, List.set_cons_succ, i64_w, i32_w]
                      rfl
                    refine take_ (i := 10) (N := some 34) (v := ?_) (a' := ?_) #[true, true, true, true, true, true, true, true, true, true, true, false, false, false] rfl rfl (take_ofW HT_.out HW_.out (by kernel_rfl)) (fun _ _ _ h => h) (Or.inl ⟨by rfl, ?_⟩) hHeld ?_ ?_
                    rotate_left
                    · rintro w' ⟨s0, s1⟩
                      go_simp
                      with_reducible rfl
                    rotate_left
                    · simp only [Act.put, List.setIfInBounds_toArray, List.set_cons_zero, List.set_cons_succ, i64_w, i32_w]
                      rfl
                    refine pure_ (i := 11) (N := some 35) (v := ?_) (a' := ?_) #[true, true, true, true, true, true, true, true, true, true, true, true, false, false] rfl rfl (any_of HT_.out (by kernel_rfl)) (fun _ _ _ h => h) (Or.inl ⟨by rfl, ?_⟩) ?_ ?_
                    rotate_left
                    · intro w'
                      go_simp
                      with_reducible rfl
                    rotate_left
                    · simp only [Act.put, List.setIfInBounds_toArray, List.set_cons_zero, List.set_cons_succ, i64_w, i32_w]
                      rfl
                    refine pure_ (i := 12) (N := some 36) (v := ?_) (a' := ?_) #[true, true, true, true, true, true, true, true, true, true, true, true, true, false] rfl rfl (any_of HT_.out (by kernel_rfl)) (fun _ _ _ h => h) (Or.inl ⟨by rfl, ?_⟩) ?_ ?_
                    rotate_left
                    · intro w'
                      go_simp
                      with_reducible rfl
                    rotate_left
                    · simp only [Act.put, List.setIfInBounds_toArray, List.set_cons_zero, List.set_cons_succ, i64_w, i32_w]
                      rfl
                    refine pure_ (i := 13) (N := some 5) (v := ?_) (a' := ?_) #[true, true, true, true, true, true, true, true, true, true, true, true, true, true] rfl rfl (any_of HT_.out (by kernel_rfl)) (fun _ _ _ h => h) (Or.inl ⟨by rfl, ?_⟩) ?_ ?_
                    rotate_left
                    · intro w'
                      go_simp
                      with_reducible rfl
                    rotate_left
                    · simp only [Act.put, List.setIfInBounds_toArray, List.set_cons_zero, List.set_cons_succ, i64_w, i32_w]
                      rfl
                    refine done_ (done_of HT_.out (by kernel_rfl)) ?_
                    try go_wp2
                    go_roundg k1
                    case measure => have := HK1.out; omega
                    case rel => exact ⟨(decide ((rd y24001 x6_1) ≥ (rd y24001 (ji13)))), (wrap64 (x6_1 + 1)), (by first | rfl | (simp; done) | (simp only [← hji13] <;> (first | rfl | simp)) | (simp [*]; done) | (refine congrArg (Value.int .i64) ?_; (try simp only [decide_eq_true_eq, decide_eq_false_iff_not] at *) <;> (unfold wrap64; omega))), (by first | rfl | (simp; done) | (simp [*]; done) | (refine congrArg (Value.int .i64) ?_; (try simp only [decide_eq_true_eq, decide_eq_false_iff_not] at *) <;> (unfold wrap64; omega))), H', ⟨by have := HK1.out; omega⟩, ⟨by (with_reducible repeat (first | apply Kd.R_alloc | apply Kd.R_drewN | apply Kd.R_drew)); exact HO_24010002.out⟩, ⟨by (with_reducible repeat (first | refine blk_drewN ?_ _ | refine blk_drew ?_ | refine blk_alloc ?_ _)); exact BK24009.out⟩, ⟨by repeat (first | (with_reducible first | exact HB.out | apply below_alloc | apply pw_below_drewN | apply below_drew1 | refine below_set ?_ GE24009.out) | exact HB.out)⟩⟩
                  · rw [if_neg c15] at H
                    exact absurd H (by simp)
                · rw [if_neg c14] at H
                  exact absurd H (by simp)
              · rw [if_neg c12] at H
                exact absurd H (by simp)
            · replace c11 := Bool.eq_false_iff.mpr c11
              subst c11
              have H1 : (columbariumlaw10_TicksBuild.l0 k1 y24001 t24008 false (wrap64 (x6_1 + 1)) t24003 t24004 t24005) = some r := by rw [if_neg (show ¬ (false = true) by decide)] at H; exact H
              clear H
              have H := H1
              clear H1
              have H' := Aside0.mk H
              clear H
              try go_wp2
              have n0_ := Aside0.mk (Kd.R_drew HO_24010002.out)
              have n1_ := Aside0.mk (blk_drew BK24009.out)
              have n2_ := Aside0.mk (below_drew1 HB.out)
              clear HO_24010002
              clear BK24009
              clear HB
              have HO_24010002 := n0_
              have BK24009 := n1_
              have HB := n2_
              clear n0_ n1_ n2_
              refine start_ (n := 14) (S := fun w' => True) (ds := []) #[false, false, false, false, false, false, false, false, false, false, false, false, false, false] (by kernel_rfl) rfl rfl trivial (fun hHeld => ?_); refine with_tabW columbariumlaw10_TicksBuild.tab8 columbariumlaw10_TicksBuild.bits8 (fun HT_ HW_ => ?_)
              generalize wr.drew = w17 at HO_24010002 BK24009 HB hHeld ⊢
              refine pure_ (i := 0) (N := some 24) (v := ?_) (a' := ?_) #[true, false, false, false, false, false, false, false, false, false, false, false, false, false] rfl rfl (any_of HT_.out (by kernel_rfl)) (fun _ _ _ h => h) (Or.inl ⟨by rfl, ?_⟩) ?_ ?_
              rotate_left
              · intro w'
                go_simp
                with_reducible rfl
              rotate_left
              · simp only [Act.put, List.setIfInBounds_toArray, List.set_cons_zero, List.set_cons_succ, i64_w, i32_w]
                rfl
              refine pure_ (i := 1) (N := some 25) (v := ?_) (a' := ?_) #[true, true, false, false, false, false, false, false, false, false, false, false, false, false] rfl rfl (any_of HT_.out (by kernel_rfl)) (fun _ _ _ h => h) (Or.inl ⟨by rfl, ?_⟩) ?_ ?_
              rotate_left
              · intro w'
                go_simp
                with_reducible rfl
              rotate_left
              · simp only [Act.put, List.setIfInBounds_toArray, List.set_cons_zero, List.set_cons_succ, i64_w, i32_w]
                rfl
              refine pure_ (i := 2) (N := some 26) (v := undef) (a' := ?_) #[true, true, true, false, false, false, false, false, false, false, false, false, false, false] rfl rfl (any_of HT_.out (by kernel_rfl)) (fun _ _ _ h => h) (Or.inr ⟨by rfl, rfl⟩) ?_ ?_
              rotate_left
              · simp only [Act.put, List.setIfInBounds_toArray, List.set_cons_zero, List.set_cons_succ, i64_w, i32_w]
                rfl
              refine pure_ (i := 3) (N := some 27) (v := undef) (a' := ?_) #[true, true, true, true, false, false, false, false, false, false, false, false, false, false] rfl rfl (any_of HT_.out (by kernel_rfl)) (fun _ _ _ h => h) (Or.inr ⟨by rfl, rfl⟩) ?_ ?_
              rotate_left
              · simp only [Act.put, List.setIfInBounds_toArray, List.set_cons_zero, List.set_cons_succ, i64_w, i32_w]
                rfl
              refine pure_ (i := 4) (N := some 28) (v := undef) (a' := ?_) #[true, true, true, true, true, false, false, false, false, false, false, false, false, false] rfl rfl (any_of HT_.out (by kernel_rfl)) (fun _ _ _ h => h) (Or.inr ⟨by rfl, rfl⟩) ?_ ?_
              rotate_left
              · simp only [Act.put, List.setIfInBounds_toArray, List.set_cons_zero, List.set_cons_succ, i64_w, i32_w]
                rfl
              refine pure_ (i := 5) (N := some 29) (v := undef) (a' := ?_) #[true, true, true, true, true, true, false, false, false, false, false, false, false, false] rfl rfl (any_of HT_.out (by kernel_rfl)) (fun _ _ _ h => h) (Or.inr ⟨by rfl, rfl⟩) ?_ ?_
              rotate_left
              · simp only [Act.put, List.setIfInBounds_toArray, List.set_cons_zero, List.set_cons_succ, i64_w, i32_w]
                rfl
              refine pure_ (i := 6) (N := some 30) (v := undef) (a' := ?_) #[true, true, true, true, true, true, true, false, false, false, false, false, false, false] rfl rfl (any_of HT_.out (by kernel_rfl)) (fun _ _ _ h => h) (Or.inr ⟨by rfl, rfl⟩) ?_ ?_
              rotate_left
              · simp only [Act.put, List.setIfInBounds_toArray, List.set_cons_zero, List.set_cons_succ, i64_w, i32_w]
                rfl
              refine pure_ (i := 7) (N := some 31) (v := undef) (a' := ?_) #[true, true, true, true, true, true, true, true, false, false, false, false, false, false] rfl rfl (any_of HT_.out (by kernel_rfl)) (fun _ _ _ h => h) (Or.inr ⟨by rfl, rfl⟩) ?_ ?_
              rotate_left
              · simp only [Act.put, List.setIfInBounds_toArray, List.set_cons_zero, List.set_cons_succ, i64_w, i32_w]
                rfl
              refine pure_ (i := 8) (N := some 32) (v := undef) (a' := ?_) #[true, true, true, true, true, true, true, true, true, false, false, false, false, false] rfl rfl (any_of HT_.out (by kernel_rfl)) (fun _ _ _ h => h) (Or.inr ⟨by rfl, rfl⟩) ?_ ?_
              rotate_left
              · simp only [Act.put, List.setIfInBounds_toArray, List.set_cons_zero, List.set_cons_succ, i64_w, i32_w]
                rfl
              refine pure_ (i := 9) (N := some 33) (v := undef) (a' := ?_) #[true, true, true, true, true, true, true, true, true, true, false, false, false, false] rfl rfl (any_of HT_.out (by kernel_rfl)) (fun _ _ _ h => h) (Or.inr ⟨by rfl, rfl⟩) ?_ ?_
              rotate_left
              · simp only [Act.put, List.setIfInBounds_toArray, List.set_cons_zero, List.set_cons_succ, i64_w, i32_w]
                rfl
              refine pure_ (i := 10) (N := some 34) (v := undef) (a' := ?_) #[true, true, true, true, true, true, true, true, true, true, true, false, false, false] rfl rfl (any_of HT_.out (by kernel_rfl)) (fun _ _ _ h => h) (Or.inr ⟨by rfl, rfl⟩) ?_ ?_
              rotate_left
              · simp only [Act.put, List.setIfInBounds_toArray, List.set_cons_zero, List.set_cons_succ, i64_w, i32_w]
                rfl
              refine pure_ (i := 11) (N := some 35) (v := undef) (a' := ?_) #[true, true, true, true, true, true, true, true, true, true, true, true, false, false] rfl rfl (any_of HT_.out (by kernel_rfl)) (fun _ _ _ h => h) (Or.inr ⟨by rfl, rfl⟩) ?_ ?_
              rotate_left
              · simp only [Act.put, List.setIfInBounds_toArray, List.set_cons_zero, List.set_cons_succ, i64_w, i32_w]
                rfl
              refine pure_ (i := 12) (N := some 36) (v := ?_) (a' := ?_) #[true, true, true, true, true, true, true, true, true, true, true, true, true, false] rfl rfl (any_of HT_.out (by kernel_rfl)) (fun _ _ _ h => h) (Or.inl ⟨by rfl, ?_⟩) ?_ ?_
              rotate_left
              · intro w'
                go_simp
                with_reducible rfl
              rotate_left
              · simp only [Act.put, List.setIfInBounds_toArray, List.set_cons_zero, List.set_cons_succ, i64_w, i32_w]
                rfl
              refine pure_ (i := 13) (N := some 5) (v := ?_) (a' := ?_) #[true, true, true, true, true, true, true, true, true, true, true, true, true, true] rfl rfl (any_of HT_.out (by kernel_rfl)) (fun _ _ _ h => h) (Or.inl ⟨by rfl, ?_⟩) ?_ ?_
              rotate_left
              · intro w'
                go_simp
                with_reducible rfl
              rotate_left
              · simp only [Act.put, List.setIfInBounds_toArray, List.set_cons_zero, List.set_cons_succ, i64_w, i32_w]
                rfl
              refine done_ (done_of HT_.out (by kernel_rfl)) ?_
              try go_wp2
              go_roundg k1
              case measure => have := HK1.out; omega
              case rel => exact ⟨(false), (wrap64 (x6_1 + 1)), (by first | rfl | (simp; done) | (simp [*]; done) | (refine congrArg (Value.int .i64) ?_; (try simp only [decide_eq_true_eq, decide_eq_false_iff_not] at *) <;> (unfold wrap64; omega))), (by first | rfl | (simp; done) | (simp [*]; done) | (refine congrArg (Value.int .i64) ?_; (try simp only [decide_eq_true_eq, decide_eq_false_iff_not] at *) <;> (unfold wrap64; omega))), H', ⟨by have := HK1.out; omega⟩, ⟨by (with_reducible repeat (first | apply Kd.R_alloc | apply Kd.R_drewN | apply Kd.R_drew)); exact HO_24010002.out⟩, ⟨by (with_reducible repeat (first | refine blk_drewN ?_ _ | refine blk_drew ?_ | refine blk_alloc ?_ _)); exact BK24009.out⟩, ⟨by repeat (first | (with_reducible first | exact HB.out | apply below_alloc | apply pw_below_drewN | apply below_drew1 | refine below_set ?_ GE24009.out) | exact HB.out)⟩⟩
          · rw [if_neg c10] at H
            have c10b0 : decide (x6_1 < (y24001.length : Int)) = false := decide_eq_false c10
            clear c10
            by_cases c18 : x5_1 = true
            · subst c18
              have H1 : (if t24008 = 0 then (if t24003 = (y24001.length : Int) then (if (t24005.length : Int) = (wrap64 (Int.tdiv (wrap64 ((y24001.length : Int) + 3)) 4)) then ((ticks_Right.f k1 t24003 t24004 t24005).bind fun t24012 => (if t24012 = true then (columbariumlaw10_TicksBuild.l1 k1 y24001 0 t24003 t24004 t24005) else (some false))) else (some false)) else (some false)) else (some false)) = some r := by rw [if_pos rfl] at H; exact H
              clear H
              have H := H1
              clear H1
              by_cases c19 : t24008 = 0
              · rw [if_pos c19] at H
                have c19b0 : (t24008 == 0) = true := beq_iff_eq.mpr c19
                have c19b1 : (t24008 != 0) = false := bne_eq_false_iff_eq.mpr c19
                clear c19
                by_cases c20 : t24003 = (y24001.length : Int)
                · rw [if_pos c20] at H
                  have c20b0 : (t24003 == (y24001.length : Int)) = true := beq_iff_eq.mpr c20
                  have c20b1 : (t24003 != (y24001.length : Int)) = false := bne_eq_false_iff_eq.mpr c20
                  clear c20
                  by_cases c21 : (t24005.length : Int) = (wrap64 (Int.tdiv (wrap64 ((y24001.length : Int) + 3)) 4))
                  · rw [if_pos c21] at H
                    have c21b0 : ((t24005.length : Int) == (wrap64 (Int.tdiv (wrap64 ((y24001.length : Int) + 3)) 4))) = true := beq_iff_eq.mpr c21
                    have c21b1 : ((t24005.length : Int) != (wrap64 (Int.tdiv (wrap64 ((y24001.length : Int) + 3)) 4))) = false := bne_eq_false_iff_eq.mpr c21
                    clear c21
                    replace H := Option.bind_eq_some_iff.mp H
                    obtain ⟨t24012, A220, H⟩ := H
                    replace H : (if t24012 = true then (columbariumlaw10_TicksBuild.l1 k1 y24001 0 t24003 t24004 t24005) else (some false)) = some r := H
                    have A22 := Aside0.mk A220
                    clear A220
                    by_cases c23 : t24012 = true
                    · subst c23
                      have H1 : (columbariumlaw10_TicksBuild.l1 k1 y24001 0 t24003 t24004 t24005) = some r := by rw [if_pos rfl] at H; exact H
                      clear H
                      have H := H1
                      clear H1
                      have H' := Aside0.mk H
                      clear H
                      have hcz24_0 : wr.cell? ⟨gb24009, 0, none⟩ = some (.int .i64 t24003) := (blk_cell BK24009.out 0).trans rfl
                      have hcz24_1 : wr.cell? ⟨gb24009, 1, none⟩ = some (.int .i64 t24004) := (blk_cell BK24009.out 1).trans rfl
                      have hcz24_2 : wr.cell? ⟨gb24009, 2, none⟩ = some (.slice Ao9 t24005.length co9) := (blk_cell BK24009.out 2).trans rfl
                      have hfz24_0 := blk_frozen BK24009.out 0
                      have hfz24_1 := blk_frozen BK24009.out 1
                      have hfz24_2 := blk_frozen BK24009.out 2
                      go_wp2_with (first | (go_at_call 31; (with_reducible refine (ticks_Right.calls k1 t24003 t24004 _ _ t24005 true _ ?side1 ?side2 A22.out).mono ?_); (case side1 => repeat (first | exact (Kd.R_reads' HO_24010002.out).2.2 | (with_reducible refine Kd.C_alloc ?_ _) | (with_reducible refine Kd.C_drewN ?_ _) | (with_reducible refine Kd.C_drew ?_))); (case side2 => exact (Kd.R_reads' HO_24010002.out).2.1); rintro e w25 ⟨rfl, hb⟩; have n0_ := Aside0.mk (Kd.R_below (by (with_reducible repeat (first | apply Kd.R_alloc | apply Kd.R_drewN | apply Kd.R_drew)); exact HO_24010002.out) hb); have n1_ := Aside0.mk (blk_below (g := gb24009) (o := .cells #[.int .i64 t24003, .int .i64 t24004, .slice Ao9 t24005.length co9] 61 (0, 0)) (by (with_reducible repeat (first | refine blk_drewN ?_ _ | refine blk_drew ?_ | refine blk_alloc ?_ _)); exact BK24009.out) hb); have n2_ := Aside0.mk (below_step (by repeat (first | (with_reducible first | exact HB.out | apply below_alloc | apply pw_below_drewN | apply below_drew1 | refine below_set ?_ GE24009.out) | exact HB.out)) hb); clear HO_24010002; clear BK24009; clear HB; have HO_24010002 := n0_; have BK24009 := n1_; have HB := n2_; clear n0_ n1_ n2_; (try clear hb); (try clear hb2); (try clear hk); (try clear hi)))
                      go_loopg [7] k1 (fun kq v7 w' => ∃ (x7_2 : Int), v7 = .int .i64 x7_2 ∧ Aside0 (columbariumlaw10_TicksBuild.l1 kq y24001 x7_2 t24003 t24004 t24005 = some r) ∧ Aside0 (kq ≤ k1) ∧ Aside0 (Kd.R (Kd.int .i64) 2 w' w.heap.size (fun _ => True) (.slice Ao9 t24005.length co9) t24005) ∧ Aside0 (w'.heap[gb24009]? = some (.cells #[.int .i64 t24003, .int .i64 t24004, (.slice Ao9 t24005.length co9)] 61 (0, 0))) ∧ Aside0 (Below w.heap.size w w'))
                      case atStart => exact ⟨(0), (by first | rfl | (simp; done) | (simp [*]; done) | (refine congrArg (Value.int .i64) ?_; (try simp only [decide_eq_true_eq, decide_eq_false_iff_not] at *) <;> (unfold wrap64; omega))), H', ⟨Nat.le_refl _⟩, ⟨by (with_reducible repeat (first | apply Kd.R_alloc | apply Kd.R_drewN | apply Kd.R_drew)); exact HO_24010002.out⟩, ⟨by (with_reducible repeat (first | refine blk_drewN ?_ _ | refine blk_drew ?_ | refine blk_alloc ?_ _)); exact BK24009.out⟩, ⟨by repeat (first | (with_reducible first | exact HB.out | apply below_alloc | apply pw_below_drewN | apply below_drew1 | refine below_set ?_ GE24009.out) | exact HB.out)⟩⟩
                      case round =>
                        clear H'
                        try clear c1
                        try clear c2
                        try clear c2b0
                        try clear c2b1
                        try clear p2
                        try clear q2
                        try clear hx2
                        try clear c3
                        try clear c3b0
                        try clear c3b1
                        try clear p6
                        try clear c10
                        try clear c10b0
                        try clear c11
                        try clear c12
                        try clear c12b0
                        try clear c14
                        try clear c14b0
                        try clear c15
                        try clear c15b0
                        try clear c18
                        try clear c19
                        try clear c19b0
                        try clear c19b1
                        try clear c20
                        try clear c20b0
                        try clear c20b1
                        try clear c21
                        try clear c21b0
                        try clear c21b1
                        try clear c23
                        try clear p24
                        try clear q24
                        try clear hx24
                        try clear hcz24_0
                        try clear hcz24_1
                        try clear hcz24_2
                        try clear hcz8_0
                        try clear hcz8_1
                        try clear hcz8_2
                        try clear hfz24_0
                        try clear hfz24_1
                        try clear hfz24_2
                        try clear hfz8_0
                        try clear hfz8_1
                        try clear hfz8_2
                        try clear hx24010_0
                        try clear hx24011_0
                        try clear p2
                        try clear p24010
                        try clear p24011
                        try clear p6
                        try clear q24010
                        try clear q24011
                        obtain ⟨x7_2, rfl, HA, HK2, HO_24010002, BK24009, HB⟩ := hrel
                        cases gk with
                        | zero => exact absurd HA.out (by simp [columbariumlaw10_TicksBuild.l1])
                        | succ k2 =>
                          have H := HA.out
                          clear HA
                          simp only [columbariumlaw10_TicksBuild.l1] at H
                          by_cases c26 : x7_2 < (t24005.length : Int)
                          · rw [if_pos c26] at H
                            have c26b0 : decide (x7_2 < (t24005.length : Int)) = true := decide_eq_true c26
                            clear c26
                            by_cases c27 : 0 ≤ x7_2
                            · rw [if_pos c27] at H
                              have c27b0 : decide (0 ≤ x7_2) = true := decide_eq_true c27
                              clear c27
                              obtain ⟨ji28, hji28⟩ : ∃ j_ : Int, (wrap64 (4 * x7_2)) = j_ := ⟨_, rfl⟩
                              replace H : (if 0 ≤ (ji28) then (if (ji28) < (y24001.length : Int) then (if (rd t24005 x7_2) = (rd y24001 (ji28)) then (columbariumlaw10_TicksBuild.l1 k2 y24001 (wrap64 (x7_2 + 1)) t24003 t24004 t24005) else (some false)) else (none)) else (none)) = some r := by first | (rw [hji28] at H; exact H) | (simp only [hji28] at H ⊢; exact H)
                              have hji28w : (IntKind.i64.wrap (4 * x7_2)) = ji28 := (i64_w _).trans hji28
                              (try ((have hji28v : (4 * x7_2) = ji28 := by ((have h_ := hji28); ((try simp only [decide_eq_true_eq] at *) <;> (unfold wrap64 at h_; omega)))); (have hji28l : 0 ≤ ji28 := by ((have h_ := hji28); ((try simp only [decide_eq_true_eq] at *) <;> (unfold wrap64 at h_; omega)))); (have hji28u : ji28 ≤ 64 := by ((have h_ := hji28); ((try simp only [decide_eq_true_eq] at *) <;> (unfold wrap64 at h_; omega))))))
                              by_cases c29 : 0 ≤ (ji28)
                              · rw [if_pos c29] at H
                                have c29b0 : decide (0 ≤ (ji28)) = true := decide_eq_true c29
                                clear c29
                                by_cases c30 : (ji28) < (y24001.length : Int)
                                · rw [if_pos c30] at H
                                  have c30b0 : decide ((ji28) < (y24001.length : Int)) = true := decide_eq_true c30
                                  clear c30
                                  by_cases c31 : (rd t24005 x7_2) = (rd y24001 (ji28))
                                  · rw [if_pos c31] at H
                                    have c31b0 : ((rd t24005 x7_2) == (rd y24001 (ji28))) = true := beq_iff_eq.mpr c31
                                    have c31b1 : ((rd t24005 x7_2) != (rd y24001 (ji28))) = false := bne_eq_false_iff_eq.mpr c31
                                    clear c31
                                    have H' := Aside0.mk H
                                    clear H
                                    have hcz32_0 : wr.cell? ⟨gb24009, 0, none⟩ = some (.int .i64 t24003) := (blk_cell BK24009.out 0).trans rfl
                                    have hcz32_1 : wr.cell? ⟨gb24009, 1, none⟩ = some (.int .i64 t24004) := (blk_cell BK24009.out 1).trans rfl
                                    have hcz32_2 : wr.cell? ⟨gb24009, 2, none⟩ = some (.slice Ao9 t24005.length co9) := (blk_cell BK24009.out 2).trans rfl
                                    have hfz32_0 := blk_frozen BK24009.out 0
                                    have hfz32_1 := blk_frozen BK24009.out 1
                                    have hfz32_2 := blk_frozen BK24009.out 2
                                    try go_wp2
                                    have n0_ := Aside0.mk (Kd.R_drew HO_24010002.out)
                                    have n1_ := Aside0.mk (blk_drew BK24009.out)
                                    have n2_ := Aside0.mk (below_drew1 HB.out)
                                    clear HO_24010002
                                    clear BK24009
                                    clear HB
                                    have HO_24010002 := n0_
                                    have BK24009 := n1_
                                    have HB := n2_
                                    clear n0_ n1_ n2_
                                    have p24013 : 0 ≤ (x7_2 : Int) := of_decide_eq_true (by first | (with_reducible assumption) | assumption)
                                    have q24013 : x7_2 < (t24005.length : Int) := of_decide_eq_true (by first | (with_reducible assumption) | assumption)
                                    obtain ⟨ad24013, e24013, hx24013_0⟩ := Kd.at_int (Kd.R_reads' HO_24010002.out).2.2 x7_2 p24013 q24013
                                    cases e24013
                                    replace p24013 := eq_true p24013
                                    replace q24013 := eq_true q24013
                                    have p24014 : 0 ≤ ((ji28) : Int) := of_decide_eq_true (by first | (with_reducible assumption) | assumption)
                                    have q24014 : (ji28) < (y24001.length : Int) := of_decide_eq_true (by first | (with_reducible assumption) | assumption)
                                    obtain ⟨ad24014, e24014, hx24014_0⟩ := Kd.at_int HR24002.out (ji28) p24014 q24014
                                    have hw24014_0 := hx24014_0
                                    cases e24014
                                    replace hx24014_0 := (HB.out.cell (World.block_lt_of_cell? w _ hx24014_0)).trans hx24014_0
                                    replace p24014 := eq_true p24014
                                    replace q24014 := eq_true q24014
                                    refine start_ (n := 11) (S := fun w' => w'.cell? ⟨gb24009, 0, none⟩ = some (.int .i64 t24003) ∧ w'.cell? ⟨gb24009, 1, none⟩ = some (.int .i64 t24004) ∧ w'.cell? ⟨gb24009, 2, none⟩ = some (.slice (some ad24013) t24005.length co9) ∧ w'.cell? (ad24013.add (x7_2).toNat) = some (.int .i64 (rd t24005 x7_2)) ∧ w'.cell? (ad24014.add ((ji28)).toNat) = some (.int .i64 (rd y24001 (ji28)))) (ds := []) #[false, false, false, false, false, false, false, false, false, false, false] (by kernel_rfl) rfl rfl ⟨(blk_cell BK24009.out 0).trans rfl, (blk_cell BK24009.out 1).trans rfl, (blk_cell BK24009.out 2).trans rfl, hx24013_0, ((HB.out.cell (World.block_lt_of_cell? w _ hw24014_0)).trans hw24014_0)⟩ (fun hHeld => ?_); refine with_tabW columbariumlaw10_TicksBuild.tab16 columbariumlaw10_TicksBuild.bits16 (fun HT_ HW_ => ?_)
                                    generalize wr.drew = w33 at HO_24010002 BK24009 HB hx24013_0 hx24014_0 hHeld ⊢
                                    refine pure_ (i := 0) (N := some 86) (v := ?_) (a' := ?_) #[true, false, false, false, false, false, false, false, false, false, false] rfl rfl (any_of HT_.out (by kernel_rfl)) (fun _ _ _ h => h) (Or.inl ⟨by rfl, ?_⟩) ?_ ?_
                                    rotate_left
                                    · intro w'
                                      go_simp
                                      with_reducible rfl
                                    rotate_left
                                    · simp only [Act.put, List.setIfInBounds_toArray, List.set_cons_zero, List.set_cons_succ, i64_w, i32_w]
                                      rfl
                                    refine pure_ (i := 2) (N := some 88) (v := ?_) (a' := ?_) #[true, false, true, false, false, false, false, false, false, false, false] rfl rfl (any_of HT_.out (by kernel_rfl)) (fun _ _ _ h => h) (Or.inl ⟨by rfl, ?_⟩) ?_ ?_
                                    rotate_left
                                    · intro w'
                                      go_simp
                                      with_reducible rfl
                                    rotate_left
                                    · simp only [Act.put, List.setIfInBounds_toArray, List.set_cons_zero, List.set_cons_succ, i64_w, i32_w]
                                      rfl
                                    refine pure_ (i := 5) (N := some 91) (v := ?_) (a' := ?_) #[true, false, true, false, false, true, false, false, false, false, false] rfl rfl (any_of HT_.out (by kernel_rfl)) (fun _ _ _ h => h) (Or.inl ⟨by rfl, ?_⟩) ?_ ?_
                                    rotate_left
                                    · intro w'
                                      go_simp
                                      with_reducible rfl
                                    rotate_left
                                    · simp only [Act.put, List.setIfInBounds_toArray, List.set_cons_zero, List.set_cons_succ, i64_w, i32_w]
                                      rfl
                                    refine pure_ (i := 6) (N := some 92) (v := ?_) (a' := ?_) #[true, false, true, false, false, true, true, false, false, false, false] rfl rfl (any_of HT_.out (by kernel_rfl)) (fun _ _ _ h => h) (Or.inl ⟨by rfl, ?_⟩) ?_ ?_
                                    rotate_left
                                    · intro w'
                                      go_simp
                                      with_reducible rfl
                                    rotate_left
                                    · simp only [Act.put, List.setIfInBounds_toArray, List.set_cons_zero, List.set_cons_succ, i64_w, i32_w]
                                      rfl
                                    refine pure_ (i := 7) (N := some 93) (v := ?_) (a' := ?_) #[true, false, true, false, false, true, true, true, false, false, false] rfl rfl (any_of HT_.out (by kernel_rfl)) (fun _ _ _ h => h) (Or.inl ⟨by rfl, ?_⟩) ?_ ?_
                                    rotate_left
                                    · intro w'
                                      go_simp
                                      with_reducible rfl
                                    rotate_left
                                    · simp only [Act.put, List.setIfInBounds_toArray, List.set_cons_zero, List.set_cons_succ, i64_w, i32_w]
                                      rfl
                                    refine pure_ (i := 8) (N := some 94) (v := ?_) (a' := ?_) #[true, false, true, false, false, true, true, true, true, false, false] rfl rfl (any_of HT_.out (by kernel_rfl)) (fun _ _ _ h => h) (Or.inl ⟨by rfl, ?_⟩) ?_ ?_
                                    rotate_left
                                    · intro w'
                                      go_simp
                                      with_reducible rfl
                                    rotate_left
                                    · simp only [Act.put, List.setIfInBounds_toArray, List.set_cons_zero, List.set_cons_succ, i64_w, i32_w]
                                      rfl
                                    refine take_ (i := 1) (N := some 87) (v := ?_) (a' := ?_) #[true, true, true, false, false, true, true, true, true, false, false] rfl rfl (take_ofW HT_.out HW_.out (by kernel_rfl)) (fun _ _ _ h => h) (Or.inl ⟨by rfl, ?_⟩) hHeld ?_ ?_
                                    rotate_left
                                    · rintro w' ⟨s0, s1, s2, s3, s4⟩
                                      go_simp
                                      with_reducible rfl
                                    rotate_left
                                    · simp only [Act.put, List.setIfInBounds_toArray, List.set_cons_zero, List.set_cons_succ, i64_w, i32_w]
                                      rfl
                                    refine pure_ (i := 3) (N := some 89) (v := ?_) (a' := ?_) #[true, true, true, true, false, true, true, true, true, false, false] rfl rfl (any_of HT_.out (by kernel_rfl)) (fun _ _ _ h => h) (Or.inl ⟨by rfl, ?_⟩) ?_ ?_
                                    rotate_left
                                    · intro w'
                                      go_simp
                                      with_reducible rfl
                                    rotate_left
                                    · simp only [Act.put, List.setIfInBounds_toArray, List.set_cons_zero, List.set_cons_succ, i64_w, i32_w]
                                      rfl
                                    refine take_ (i := 4) (N := some 90) (v := ?_) (a' := ?_) #[true, true, true, true, true, true, true, true, true, false, false] rfl rfl (take_ofW HT_.out HW_.out (by kernel_rfl)) (fun _ _ _ h => h) (Or.inl ⟨by rfl, ?_⟩) hHeld ?_ ?_
                                    rotate_left
                                    · rintro w' ⟨s0, s1, s2, s3, s4⟩
                                      go_simp
                                      with_reducible rfl
                                    rotate_left
                                    · simp only [Act.put, List.setIfInBounds_toArray, List.set_cons_zero, List.set_cons_succ, i64_w, i32_w]
                                      rfl
                                    refine take_ (i := 9) (N := some 95) (v := ?_) (a' := ?_) #[true, true, true, true, true, true, true, true, true, true, false] rfl rfl (take_ofW HT_.out HW_.out (by kernel_rfl)) (fun _ _ _ h => h) (Or.inl ⟨by rfl, ?_⟩) hHeld ?_ ?_
                                    rotate_left
                                    · rintro w' ⟨s0, s1, s2, s3, s4⟩
                                      go_simp
                                      with_reducible rfl
                                    rotate_left
                                    · simp only [Act.put, List.setIfInBounds_toArray, List.set_cons_zero, List.set_cons_succ, i64_w, i32_w]
                                      rfl
                                    refine pure_ (i := 10) (N := some 96) (v := ?_) (a' := ?_) #[true, true, true, true, true, true, true, true, true, true, true] rfl rfl (any_of HT_.out (by kernel_rfl)) (fun _ _ _ h => h) (Or.inl ⟨by rfl, ?_⟩) ?_ ?_
                                    rotate_left
                                    · intro w'
                                      go_simp
                                      with_reducible rfl
                                    rotate_left
                                    · simp only [Act.put, List.setIfInBounds_toArray, List.set_cons_zero, List.set_cons_succ, i64_w, i32_w]
                                      rfl
                                    refine done_ (done_of HT_.out (by kernel_rfl)) ?_
                                    try go_wp2
                                    go_roundg k2
                                    case measure => have := HK1.out; have := HK2.out; omega
                                    case rel => exact ⟨(wrap64 (x7_2 + 1)), (by first | rfl | (simp; done) | (simp [*]; done) | (refine congrArg (Value.int .i64) ?_; (try simp only [decide_eq_true_eq, decide_eq_false_iff_not] at *) <;> (unfold wrap64; omega))), H', ⟨by have := HK1.out; have := HK2.out; omega⟩, ⟨by (with_reducible repeat (first | apply Kd.R_alloc | apply Kd.R_drewN | apply Kd.R_drew)); exact HO_24010002.out⟩, ⟨by (with_reducible repeat (first | refine blk_drewN ?_ _ | refine blk_drew ?_ | refine blk_alloc ?_ _)); exact BK24009.out⟩, ⟨by repeat (first | (with_reducible first | exact HB.out | apply below_alloc | apply pw_below_drewN | apply below_drew1 | refine below_set ?_ GE24009.out) | exact HB.out)⟩⟩
                                  · rw [if_neg c31] at H
                                    have c31b0 : ((rd t24005 x7_2) == (rd y24001 (ji28))) = false := beq_eq_false_iff_ne.mpr c31
                                    have c31b1 : ((rd t24005 x7_2) != (rd y24001 (ji28))) = true := bne_iff_ne.mpr c31
                                    exact absurd ((Option.some.inj H).trans hr_.out) (by decide)
                                · rw [if_neg c30] at H
                                  exact absurd H (by simp)
                              · rw [if_neg c29] at H
                                exact absurd H (by simp)
                            · rw [if_neg c27] at H
                              exact absurd H (by simp)
                          · rw [if_neg c26] at H
                            have c26b0 : decide (x7_2 < (t24005.length : Int)) = false := decide_eq_false c26
                            clear c26
                            by_cases c34 : (y24001.length : Int) = 0
                            · rw [if_pos c34] at H
                              have c34b0 : ((y24001.length : Int) == 0) = true := beq_iff_eq.mpr c34
                              have c34b1 : ((y24001.length : Int) != 0) = false := bne_eq_false_iff_eq.mpr c34
                              clear c34
                              replace H := Option.bind_eq_some_iff.mp H
                              obtain ⟨t24015, A350, H⟩ := H
                              replace H : (some t24015) = some r := H
                              have A35 := Aside0.mk A350
                              clear A350
                              obtain rfl := Option.some.inj H
                              have hcz36_0 : wr.cell? ⟨gb24009, 0, none⟩ = some (.int .i64 t24003) := (blk_cell BK24009.out 0).trans rfl
                              have hcz36_1 : wr.cell? ⟨gb24009, 1, none⟩ = some (.int .i64 t24004) := (blk_cell BK24009.out 1).trans rfl
                              have hcz36_2 : wr.cell? ⟨gb24009, 2, none⟩ = some (.slice Ao9 t24005.length co9) := (blk_cell BK24009.out 2).trans rfl
                              have hfz36_0 := blk_frozen BK24009.out 0
                              have hfz36_1 := blk_frozen BK24009.out 1
                              have hfz36_2 := blk_frozen BK24009.out 2
                              try go_wp2
                              have n0_ := Aside0.mk (Kd.R_drew HO_24010002.out)
                              have n1_ := Aside0.mk (blk_drew BK24009.out)
                              have n2_ := Aside0.mk (below_drew1 HB.out)
                              clear HO_24010002
                              clear BK24009
                              clear HB
                              have HO_24010002 := n0_
                              have BK24009 := n1_
                              have HB := n2_
                              clear n0_ n1_ n2_
                              refine start_ (n := 18) (S := fun w' => True) (ds := []) #[false, false, false, false, false, false, false, false, false, false, false, false, false, false, false, false, false, false] (by kernel_rfl) rfl rfl trivial (fun hHeld => ?_); refine with_tabW columbariumlaw10_TicksBuild.tab18 columbariumlaw10_TicksBuild.bits18 (fun HT_ HW_ => ?_)
                              generalize wr.drew = w37 at HO_24010002 BK24009 HB hHeld ⊢
                              refine pure_ (i := 0) (N := some 97) (v := ?_) (a' := ?_) #[true, false, false, false, false, false, false, false, false, false, false, false, false, false, false, false, false, false] rfl rfl (any_of HT_.out (by kernel_rfl)) (fun _ _ _ h => h) (Or.inl ⟨by rfl, ?_⟩) ?_ ?_
                              rotate_left
                              · intro w'
                                go_simp
                                with_reducible rfl
                              rotate_left
                              · simp only [Act.put, List.setIfInBounds_toArray, List.set_cons_zero, List.set_cons_succ, i64_w, i32_w]
                                rfl
                              refine pure_ (i := 1) (N := some 98) (v := ?_) (a' := ?_) #[true, true, false, false, false, false, false, false, false, false, false, false, false, false, false, false, false, false] rfl rfl (any_of HT_.out (by kernel_rfl)) (fun _ _ _ h => h) (Or.inl ⟨by rfl, ?_⟩) ?_ ?_
                              rotate_left
                              · intro w'
                                go_simp
                                with_reducible rfl
                              rotate_left
                              · simp only [Act.put, List.setIfInBounds_toArray, List.set_cons_zero, List.set_cons_succ, i64_w, i32_w]
                                rfl
                              refine pure_ (i := 2) (N := some 99) (v := ?_) (a' := ?_) #[true, true, true, false, false, false, false, false, false, false, false, false, false, false, false, false, false, false] rfl rfl (any_of HT_.out (by kernel_rfl)) (fun _ _ _ h => h) (Or.inl ⟨by rfl, ?_⟩) ?_ ?_
                              rotate_left
                              · intro w'
                                go_simp
                                with_reducible rfl
                              rotate_left
                              · simp only [Act.put, List.setIfInBounds_toArray, List.set_cons_zero, List.set_cons_succ, i64_w, i32_w]
                                rfl
                              refine pure_ (i := 3) (N := some 100) (v := ?_) (a' := ?_) #[true, true, true, true, false, false, false, false, false, false, false, false, false, false, false, false, false, false] rfl rfl (any_of HT_.out (by kernel_rfl)) (fun _ _ _ h => h) (Or.inl ⟨by rfl, ?_⟩) ?_ ?_
                              rotate_left
                              · intro w'
                                go_simp
                                with_reducible rfl
                              rotate_left
                              · simp only [Act.put, List.setIfInBounds_toArray, List.set_cons_zero, List.set_cons_succ, i64_w, i32_w]
                                rfl
                              refine pure_ (i := 4) (N := some 101) (v := undef) (a' := ?_) #[true, true, true, true, true, false, false, false, false, false, false, false, false, false, false, false, false, false] rfl rfl (any_of HT_.out (by kernel_rfl)) (fun _ _ _ h => h) (Or.inr ⟨by rfl, rfl⟩) ?_ ?_
                              rotate_left
                              · simp only [Act.put, List.setIfInBounds_toArray, List.set_cons_zero, List.set_cons_succ, i64_w, i32_w]
                                rfl
                              refine pure_ (i := 5) (N := some 102) (v := undef) (a' := ?_) #[true, true, true, true, true, true, false, false, false, false, false, false, false, false, false, false, false, false] rfl rfl (any_of HT_.out (by kernel_rfl)) (fun _ _ _ h => h) (Or.inr ⟨by rfl, rfl⟩) ?_ ?_
                              rotate_left
                              · simp only [Act.put, List.setIfInBounds_toArray, List.set_cons_zero, List.set_cons_succ, i64_w, i32_w]
                                rfl
                              refine pure_ (i := 6) (N := some 103) (v := undef) (a' := ?_) #[true, true, true, true, true, true, true, false, false, false, false, false, false, false, false, false, false, false] rfl rfl (any_of HT_.out (by kernel_rfl)) (fun _ _ _ h => h) (Or.inr ⟨by rfl, rfl⟩) ?_ ?_
                              rotate_left
                              · simp only [Act.put, List.setIfInBounds_toArray, List.set_cons_zero, List.set_cons_succ, i64_w, i32_w]
                                rfl
                              refine pure_ (i := 7) (N := some 104) (v := undef) (a' := ?_) #[true, true, true, true, true, true, true, true, false, false, false, false, false, false, false, false, false, false] rfl rfl (any_of HT_.out (by kernel_rfl)) (fun _ _ _ h => h) (Or.inr ⟨by rfl, rfl⟩) ?_ ?_
                              rotate_left
                              · simp only [Act.put, List.setIfInBounds_toArray, List.set_cons_zero, List.set_cons_succ, i64_w, i32_w]
                                rfl
                              refine pure_ (i := 8) (N := some 105) (v := undef) (a' := ?_) #[true, true, true, true, true, true, true, true, true, false, false, false, false, false, false, false, false, false] rfl rfl (any_of HT_.out (by kernel_rfl)) (fun _ _ _ h => h) (Or.inr ⟨by rfl, rfl⟩) ?_ ?_
                              rotate_left
                              · simp only [Act.put, List.setIfInBounds_toArray, List.set_cons_zero, List.set_cons_succ, i64_w, i32_w]
                                rfl
                              refine pure_ (i := 9) (N := some 106) (v := undef) (a' := ?_) #[true, true, true, true, true, true, true, true, true, true, false, false, false, false, false, false, false, false] rfl rfl (any_of HT_.out (by kernel_rfl)) (fun _ _ _ h => h) (Or.inr ⟨by rfl, rfl⟩) ?_ ?_
                              rotate_left
                              · simp only [Act.put, List.setIfInBounds_toArray, List.set_cons_zero, List.set_cons_succ, i64_w, i32_w]
                                rfl
                              refine pure_ (i := 10) (N := some 107) (v := undef) (a' := ?_) #[true, true, true, true, true, true, true, true, true, true, true, false, false, false, false, false, false, false] rfl rfl (any_of HT_.out (by kernel_rfl)) (fun _ _ _ h => h) (Or.inr ⟨by rfl, rfl⟩) ?_ ?_
                              rotate_left
                              · simp only [Act.put, List.setIfInBounds_toArray, List.set_cons_zero, List.set_cons_succ, i64_w, i32_w]
                                rfl
                              refine pure_ (i := 11) (N := some 108) (v := undef) (a' := ?_) #[true, true, true, true, true, true, true, true, true, true, true, true, false, false, false, false, false, false] rfl rfl (any_of HT_.out (by kernel_rfl)) (fun _ _ _ h => h) (Or.inr ⟨by rfl, rfl⟩) ?_ ?_
                              rotate_left
                              · simp only [Act.put, List.setIfInBounds_toArray, List.set_cons_zero, List.set_cons_succ, i64_w, i32_w]
                                rfl
                              refine pure_ (i := 12) (N := some 109) (v := undef) (a' := ?_) #[true, true, true, true, true, true, true, true, true, true, true, true, true, false, false, false, false, false] rfl rfl (any_of HT_.out (by kernel_rfl)) (fun _ _ _ h => h) (Or.inr ⟨by rfl, rfl⟩) ?_ ?_
                              rotate_left
                              · simp only [Act.put, List.setIfInBounds_toArray, List.set_cons_zero, List.set_cons_succ, i64_w, i32_w]
                                rfl
                              refine pure_ (i := 13) (N := some 110) (v := ?_) (a' := ?_) #[true, true, true, true, true, true, true, true, true, true, true, true, true, true, false, false, false, false] rfl rfl (any_of HT_.out (by kernel_rfl)) (fun _ _ _ h => h) (Or.inl ⟨by rfl, ?_⟩) ?_ ?_
                              rotate_left
                              · intro w'
                                go_simp
                                with_reducible rfl
                              rotate_left
                              · simp only [Act.put, List.setIfInBounds_toArray, List.set_cons_zero, List.set_cons_succ, i64_w, i32_w]
                                rfl
                              refine pure_ (i := 14) (N := some 111) (v := ?_) (a' := ?_) #[true, true, true, true, true, true, true, true, true, true, true, true, true, true, true, false, false, false] rfl rfl (any_of HT_.out (by kernel_rfl)) (fun _ _ _ h => h) (Or.inl ⟨by rfl, ?_⟩) ?_ ?_
                              rotate_left
                              · intro w'
                                go_simp
                                with_reducible rfl
                              rotate_left
                              · simp only [Act.put, List.setIfInBounds_toArray, List.set_cons_zero, List.set_cons_succ, i64_w, i32_w]
                                rfl
                              refine one_ (i := 15) (N := some 112) #[true, true, true, true, true, true, true, true, true, true, true, true, true, true, true, true, false, false] rfl rfl (one_of HT_.out (by kernel_rfl)) (by decide) (fun K hK => ?_)
                              refine goes_ Try.func33 (by kernel_rfl) rfl #[] (by rfl) rfl rfl (by (try simp only [List.map_toArray, List.map_cons, List.map_nil]); first | done | rfl | (simp only [List.length_drop, List.length_take]; rfl)) ?_
                              with_reducible refine (columbariumlaw10_known.calls k2  t24015 _ A35.out).mono ?_
                              rintro e w38 ⟨rfl, hb⟩
                              refine ⟨_, rfl, ?_⟩
                              have n0_ := Aside0.mk (Kd.R_below (by (with_reducible repeat (first | apply Kd.R_alloc | apply Kd.R_drewN | apply Kd.R_drew)); exact HO_24010002.out) hb)
                              have n1_ := Aside0.mk (blk_below (g := gb24009) (o := .cells #[.int .i64 t24003, .int .i64 t24004, .slice Ao9 t24005.length co9] 61 (0, 0)) (by (with_reducible repeat (first | refine blk_drewN ?_ _ | refine blk_drew ?_ | refine blk_alloc ?_ _)); exact BK24009.out) hb)
                              have n2_ := Aside0.mk (below_step (by repeat (first | (with_reducible first | exact HB.out | apply below_alloc | apply pw_below_drewN | apply below_drew1 | refine below_set ?_ GE24009.out) | exact HB.out)) hb)
                              clear HO_24010002
                              clear BK24009
                              clear HB
                              have HO_24010002 := n0_
                              have BK24009 := n1_
                              have HB := n2_
                              clear n0_ n1_ n2_
                              (try clear hb)
                              (try clear hb2)
                              (try clear hk)
                              (try clear hi)
                              refine hK.out _ _ trivial (fun hHeld => ?_)
                              clear hK K
                              refine norm_ (a' := ?_) ?_ ?_
                              rotate_left
                              · show Act.put _ (some 112) _ = _
                                simp only [Act.put, List.setIfInBounds_toArray, List.set_cons_zero, List.set_cons_succ, i64_w, i32_w]
                                rfl
                              refine pure_ (i := 16) (N := some 113) (v := ?_) (a' := ?_) #[true, true, true, true, true, true, true, true, true, true, true, true, true, true, true, true, true, false] rfl rfl (any_of HT_.out (by kernel_rfl)) (fun _ _ _ h => h) (Or.inl ⟨by rfl, ?_⟩) ?_ ?_
                              rotate_left
                              · intro w'
                                go_simp
                                with_reducible rfl
                              rotate_left
                              · simp only [Act.put, List.setIfInBounds_toArray, List.set_cons_zero, List.set_cons_succ, i64_w, i32_w]
                                rfl
                              refine pure_ (i := 17) (N := some 2) (v := ?_) (a' := ?_) #[true, true, true, true, true, true, true, true, true, true, true, true, true, true, true, true, true, true] rfl rfl (any_of HT_.out (by kernel_rfl)) (fun _ _ _ h => h) (Or.inl ⟨by rfl, ?_⟩) ?_ ?_
                              rotate_left
                              · intro w'
                                go_simp
                                with_reducible rfl
                              rotate_left
                              · simp only [Act.put, List.setIfInBounds_toArray, List.set_cons_zero, List.set_cons_succ, i64_w, i32_w]
                                rfl
                              refine done_ (done_of HT_.out (by kernel_rfl)) ?_
                              try go_wp2
                              go_ret
                              exact ⟨by first | rfl | (simp [errW_none, errW_some] <;> rfl) | (simp [*, errW_none, errW_some] <;> rfl), by repeat (first | (with_reducible first | exact HB.out | apply below_alloc | apply pw_below_drewN | apply below_drew1 | refine below_set ?_ GE24009.out) | exact HB.out)⟩
                            · rw [if_neg c34] at H
                              have c34b0 : ((y24001.length : Int) == 0) = false := beq_eq_false_iff_ne.mpr c34
                              have c34b1 : ((y24001.length : Int) != 0) = true := bne_iff_ne.mpr c34
                              have c34b2 : ¬ (y24001 = []) := fun h_ => c34 (by rw [h_]; rfl)
                              obtain ⟨ji39, hji39⟩ : ∃ j_ : Int, (wrap64 ((y24001.length : Int) - 1)) = j_ := ⟨_, rfl⟩
                              replace H : (if 0 ≤ (ji39) then (if (ji39) < (y24001.length : Int) then (if t24004 = (rd y24001 (ji39)) then ((columbariumlaw10_known.f k2).bind fun t24017 => (some t24017)) else (some false)) else (none)) else (none)) = some r := by first | (rw [hji39] at H; exact H) | (simp only [hji39] at H ⊢; exact H)
                              have hji39w : (IntKind.i64.wrap ((y24001.length : Int) - 1)) = ji39 := (i64_w _).trans hji39
                              (try ((have hji39v : ((y24001.length : Int) - 1) = ji39 := by ((have h_ := hji39); ((try simp only [decide_eq_true_eq] at *) <;> (unfold wrap64 at h_; omega)))); (have hji39l : 0 ≤ ji39 := by ((have h_ := hji39); ((try simp only [decide_eq_true_eq] at *) <;> (unfold wrap64 at h_; omega)))); (have hji39u : ji39 ≤ 64 := by ((have h_ := hji39); ((try simp only [decide_eq_true_eq] at *) <;> (unfold wrap64 at h_; omega))))))
                              by_cases c40 : 0 ≤ (ji39)
                              · rw [if_pos c40] at H
                                have c40b0 : decide (0 ≤ (ji39)) = true := decide_eq_true c40
                                clear c40
                                by_cases c41 : (ji39) < (y24001.length : Int)
                                · rw [if_pos c41] at H
                                  have c41b0 : decide ((ji39) < (y24001.length : Int)) = true := decide_eq_true c41
                                  clear c41
                                  by_cases c42 : t24004 = (rd y24001 (ji39))
                                  · rw [if_pos c42] at H
                                    have c42b0 : (t24004 == (rd y24001 (ji39))) = true := beq_iff_eq.mpr c42
                                    have c42b1 : (t24004 != (rd y24001 (ji39))) = false := bne_eq_false_iff_eq.mpr c42
                                    clear c42
                                    replace H := Option.bind_eq_some_iff.mp H
                                    obtain ⟨t24017, A430, H⟩ := H
                                    replace H : (some t24017) = some r := H
                                    have A43 := Aside0.mk A430
                                    clear A430
                                    obtain rfl := Option.some.inj H
                                    have hcz44_0 : wr.cell? ⟨gb24009, 0, none⟩ = some (.int .i64 t24003) := (blk_cell BK24009.out 0).trans rfl
                                    have hcz44_1 : wr.cell? ⟨gb24009, 1, none⟩ = some (.int .i64 t24004) := (blk_cell BK24009.out 1).trans rfl
                                    have hcz44_2 : wr.cell? ⟨gb24009, 2, none⟩ = some (.slice Ao9 t24005.length co9) := (blk_cell BK24009.out 2).trans rfl
                                    have hfz44_0 := blk_frozen BK24009.out 0
                                    have hfz44_1 := blk_frozen BK24009.out 1
                                    have hfz44_2 := blk_frozen BK24009.out 2
                                    try go_wp2
                                    have n0_ := Aside0.mk (Kd.R_drew HO_24010002.out)
                                    have n1_ := Aside0.mk (blk_drew BK24009.out)
                                    have n2_ := Aside0.mk (below_drew1 HB.out)
                                    clear HO_24010002
                                    clear BK24009
                                    clear HB
                                    have HO_24010002 := n0_
                                    have BK24009 := n1_
                                    have HB := n2_
                                    clear n0_ n1_ n2_
                                    have p24016 : 0 ≤ ((ji39) : Int) := of_decide_eq_true (by first | (with_reducible assumption) | assumption)
                                    have q24016 : (ji39) < (y24001.length : Int) := of_decide_eq_true (by first | (with_reducible assumption) | assumption)
                                    obtain ⟨ad24016, e24016, hx24016_0⟩ := Kd.at_int HR24002.out (ji39) p24016 q24016
                                    have hw24016_0 := hx24016_0
                                    cases e24016
                                    replace hx24016_0 := (HB.out.cell (World.block_lt_of_cell? w _ hx24016_0)).trans hx24016_0
                                    replace p24016 := eq_true p24016
                                    replace q24016 := eq_true q24016
                                    refine start_ (n := 18) (S := fun w' => w'.cell? ⟨gb24009, 0, none⟩ = some (.int .i64 t24003) ∧ w'.cell? ⟨gb24009, 1, none⟩ = some (.int .i64 t24004) ∧ w'.cell? ⟨gb24009, 2, none⟩ = some (.slice Ao9 t24005.length co9) ∧ w'.cell? (ad24016.add ((ji39)).toNat) = some (.int .i64 (rd y24001 (ji39)))) (ds := []) #[false, false, false, false, false, false, false, false, false, false, false, false, false, false, false, false, false, false] (by kernel_rfl) rfl rfl ⟨(blk_cell BK24009.out 0).trans rfl, (blk_cell BK24009.out 1).trans rfl, (blk_cell BK24009.out 2).trans rfl, ((HB.out.cell (World.block_lt_of_cell? w _ hw24016_0)).trans hw24016_0)⟩ (fun hHeld => ?_); refine with_tabW columbariumlaw10_TicksBuild.tab18 columbariumlaw10_TicksBuild.bits18 (fun HT_ HW_ => ?_)
                                    generalize wr.drew = w45 at HO_24010002 BK24009 HB hx24016_0 hHeld ⊢
                                    refine pure_ (i := 0) (N := some 97) (v := ?_) (a' := ?_) #[true, false, false, false, false, false, false, false, false, false, false, false, false, false, false, false, false, false] rfl rfl (any_of HT_.out (by kernel_rfl)) (fun _ _ _ h => h) (Or.inl ⟨by rfl, ?_⟩) ?_ ?_
                                    rotate_left
                                    · intro w'
                                      go_simp
                                      with_reducible rfl
                                    rotate_left
                                    · simp only [Act.put, List.setIfInBounds_toArray, List.set_cons_zero, List.set_cons_succ, i64_w, i32_w]
                                      rfl
                                    refine pure_ (i := 1) (N := some 98) (v := ?_) (a' := ?_) #[true, true, false, false, false, false, false, false, false, false, false, false, false, false, false, false, false, false] rfl rfl (any_of HT_.out (by kernel_rfl)) (fun _ _ _ h => h) (Or.inl ⟨by rfl, ?_⟩) ?_ ?_
                                    rotate_left
                                    · intro w'
                                      go_simp
                                      with_reducible rfl
                                    rotate_left
                                    · simp only [Act.put, List.setIfInBounds_toArray, List.set_cons_zero, List.set_cons_succ, i64_w, i32_w]
                                      rfl
                                    refine pure_ (i := 2) (N := some 99) (v := ?_) (a' := ?_) #[true, true, true, false, false, false, false, false, false, false, false, false, false, false, false, false, false, false] rfl rfl (any_of HT_.out (by kernel_rfl)) (fun _ _ _ h => h) (Or.inl ⟨by rfl, ?_⟩) ?_ ?_
                                    rotate_left
                                    · intro w'
                                      go_simp
                                      with_reducible rfl
                                    rotate_left
                                    · simp only [Act.put, List.setIfInBounds_toArray, List.set_cons_zero, List.set_cons_succ, i64_w, i32_w]
                                      rfl
                                    refine pure_ (i := 3) (N := some 100) (v := ?_) (a' := ?_) #[true, true, true, true, false, false, false, false, false, false, false, false, false, false, false, false, false, false] rfl rfl (any_of HT_.out (by kernel_rfl)) (fun _ _ _ h => h) (Or.inl ⟨by rfl, ?_⟩) ?_ ?_
                                    rotate_left
                                    · intro w'
                                      go_simp
                                      with_reducible rfl
                                    rotate_left
                                    · simp only [Act.put, List.setIfInBounds_toArray, List.set_cons_zero, List.set_cons_succ, i64_w, i32_w]
                                      rfl
                                    refine pure_ (i := 4) (N := some 101) (v := ?_) (a' := ?_) #[true, true, true, true, true, false, false, false, false, false, false, false, false, false, false, false, false, false] rfl rfl (any_of HT_.out (by kernel_rfl)) (fun _ _ _ h => h) (Or.inl ⟨by rfl, ?_⟩) ?_ ?_
                                    rotate_left
                                    · intro w'
                                      go_simp
                                      with_reducible rfl
                                    rotate_left
                                    · simp only [Act.put, List.setIfInBounds_toArray, List.set_cons_zero, List.set_cons_succ, i64_w, i32_w]
                                      rfl
                                    refine pure_ (i := 6) (N := some 103) (v := ?_) (a' := ?_) #[true, true, true, true, true, false, true, false, false, false, false, false, false, false, false, false, false, false] rfl rfl (any_of HT_.out (by kernel_rfl)) (fun _ _ _ h => h) (Or.inl ⟨by rfl, ?_⟩) ?_ ?_
                                    rotate_left
                                    · intro w'
                                      go_simp
                                      with_reducible rfl
                                    rotate_left
                                    · simp only [Act.put, List.setIfInBounds_toArray, List.set_cons_zero, List.set_cons_succ, i64_w, i32_w]
                                      rfl
                                    refine pure_ (i := 7) (N := some 104) (v := ?_) (a' := ?_) #[true, true, true, true, true, false, true, true, false, false, false, false, false, false, false, false, false, false] rfl rfl (any_of HT_.out (by kernel_rfl)) (fun _ _ _ h => h) (Or.inl ⟨by rfl, ?_⟩) ?_ ?_
                                    rotate_left
                                    · intro w'
                                      go_simp
                                      with_reducible rfl
                                    rotate_left
                                    · simp only [Act.put, List.setIfInBounds_toArray, List.set_cons_zero, List.set_cons_succ, i64_w, i32_w]
                                      rfl
                                    refine pure_ (i := 8) (N := some 105) (v := ?_) (a' := ?_) #[true, true, true, true, true, false, true, true, true, false, false, false, false, false, false, false, false, false] rfl rfl (any_of HT_.out (by kernel_rfl)) (fun _ _ _ h => h) (Or.inl ⟨by rfl, ?_⟩) ?_ ?_
                                    rotate_left
                                    · intro w'
                                      go_simp
                                      with_reducible rfl
                                    rotate_left
                                    · simp only [Act.put, List.setIfInBounds_toArray, List.set_cons_zero, List.set_cons_succ, i64_w, i32_w]
                                      rfl
                                    refine pure_ (i := 9) (N := some 106) (v := ?_) (a' := ?_) #[true, true, true, true, true, false, true, true, true, true, false, false, false, false, false, false, false, false] rfl rfl (any_of HT_.out (by kernel_rfl)) (fun _ _ _ h => h) (Or.inl ⟨by rfl, ?_⟩) ?_ ?_
                                    rotate_left
                                    · intro w'
                                      go_simp
                                      with_reducible rfl
                                    rotate_left
                                    · simp only [Act.put, List.setIfInBounds_toArray, List.set_cons_zero, List.set_cons_succ, i64_w, i32_w]
                                      rfl
                                    refine pure_ (i := 10) (N := some 107) (v := ?_) (a' := ?_) #[true, true, true, true, true, false, true, true, true, true, true, false, false, false, false, false, false, false] rfl rfl (any_of HT_.out (by kernel_rfl)) (fun _ _ _ h => h) (Or.inl ⟨by rfl, ?_⟩) ?_ ?_
                                    rotate_left
                                    · intro w'
                                      go_simp
                                      with_reducible rfl
                                    rotate_left
                                    · simp only [Act.put, List.setIfInBounds_toArray, List.set_cons_zero, List.set_cons_succ, i64_w, i32_w]
                                      rfl
                                    refine take_ (i := 5) (N := some 102) (v := ?_) (a' := ?_) #[true, true, true, true, true, true, true, true, true, true, true, false, false, false, false, false, false, false] rfl rfl (take_ofW HT_.out HW_.out (by kernel_rfl)) (fun _ _ _ h => h) (Or.inl ⟨by rfl, ?_⟩) hHeld ?_ ?_
                                    rotate_left
                                    · rintro w' ⟨s0, s1, s2, s3⟩
                                      go_simp
                                      with_reducible rfl
                                    rotate_left
                                    · simp only [Act.put, List.setIfInBounds_toArray, List.set_cons_zero, List.set_cons_succ, i64_w, i32_w]
                                      rfl
                                    refine take_ (i := 11) (N := some 108) (v := ?_) (a' := ?_) #[true, true, true, true, true, true, true, true, true, true, true, true, false, false, false, false, false, false] rfl rfl (take_ofW HT_.out HW_.out (by kernel_rfl)) (fun _ _ _ h => h) (Or.inl ⟨by rfl, ?_⟩) hHeld ?_ ?_
                                    rotate_left
                                    · rintro w' ⟨s0, s1, s2, s3⟩
                                      go_simp
                                      with_reducible rfl
                                    rotate_left
                                    · simp only [Act.put, List.setIfInBounds_toArray, List.set_cons_zero, List.set_cons_succ, i64_w, i32_w]
                                      rfl
                                    refine pure_ (i := 12) (N := some 109) (v := ?_) (a' := ?_) #[true, true, true, true, true, true, true, true, true, true, true, true, true, false, false, false, false, false] rfl rfl (any_of HT_.out (by kernel_rfl)) (fun _ _ _ h => h) (Or.inl ⟨by rfl, ?_⟩) ?_ ?_
                                    rotate_left
                                    · intro w'
                                      go_simp
                                      with_reducible rfl
                                    rotate_left
                                    · simp only [Act.put, List.setIfInBounds_toArray, List.set_cons_zero, List.set_cons_succ, i64_w, i32_w]
                                      rfl
                                    refine pure_ (i := 13) (N := some 110) (v := ?_) (a' := ?_) #[true, true, true, true, true, true, true, true, true, true, true, true, true, true, false, false, false, false] rfl rfl (any_of HT_.out (by kernel_rfl)) (fun _ _ _ h => h) (Or.inl ⟨by rfl, ?_⟩) ?_ ?_
                                    rotate_left
                                    · intro w'
                                      go_simp
                                      with_reducible rfl
                                    rotate_left
                                    · simp only [Act.put, List.setIfInBounds_toArray, List.set_cons_zero, List.set_cons_succ, i64_w, i32_w]
                                      rfl
                                    refine pure_ (i := 14) (N := some 111) (v := ?_) (a' := ?_) #[true, true, true, true, true, true, true, true, true, true, true, true, true, true, true, false, false, false] rfl rfl (any_of HT_.out (by kernel_rfl)) (fun _ _ _ h => h) (Or.inl ⟨by rfl, ?_⟩) ?_ ?_
                                    rotate_left
                                    · intro w'
                                      go_simp
                                      with_reducible rfl
                                    rotate_left
                                    · simp only [Act.put, List.setIfInBounds_toArray, List.set_cons_zero, List.set_cons_succ, i64_w, i32_w]
                                      rfl
                                    refine one_ (i := 15) (N := some 112) #[true, true, true, true, true, true, true, true, true, true, true, true, true, true, true, true, false, false] rfl rfl (one_of HT_.out (by kernel_rfl)) (by decide) (fun K hK => ?_)
                                    refine goes_ Try.func33 (by kernel_rfl) rfl #[] (by rfl) rfl rfl (by (try simp only [List.map_toArray, List.map_cons, List.map_nil]); first | done | rfl | (simp only [List.length_drop, List.length_take]; rfl)) ?_
                                    with_reducible refine (columbariumlaw10_known.calls k2  t24017 _ A43.out).mono ?_
                                    rintro e w46 ⟨rfl, hb⟩
                                    refine ⟨_, rfl, ?_⟩
                                    have n0_ := Aside0.mk (Kd.R_below (by (with_reducible repeat (first | apply Kd.R_alloc | apply Kd.R_drewN | apply Kd.R_drew)); exact HO_24010002.out) hb)
                                    have n1_ := Aside0.mk (blk_below (g := gb24009) (o := .cells #[.int .i64 t24003, .int .i64 t24004, .slice Ao9 t24005.length co9] 61 (0, 0)) (by (with_reducible repeat (first | refine blk_drewN ?_ _ | refine blk_drew ?_ | refine blk_alloc ?_ _)); exact BK24009.out) hb)
                                    have n2_ := Aside0.mk (below_step (by repeat (first | (with_reducible first | exact HB.out | apply below_alloc | apply pw_below_drewN | apply below_drew1 | refine below_set ?_ GE24009.out) | exact HB.out)) hb)
                                    clear HO_24010002
                                    clear BK24009
                                    clear HB
                                    have HO_24010002 := n0_
                                    have BK24009 := n1_
                                    have HB := n2_
                                    clear n0_ n1_ n2_
                                    (try clear hb)
                                    (try clear hb2)
                                    (try clear hk)
                                    (try clear hi)
                                    refine hK.out _ _ ⟨(blk_cell BK24009.out 0).trans rfl, (blk_cell BK24009.out 1).trans rfl, (blk_cell BK24009.out 2).trans rfl, ((HB.out.cell (World.block_lt_of_cell? w _ hw24016_0)).trans hw24016_0)⟩ (fun hHeld => ?_)
                                    clear hK K
                                    refine norm_ (a' := ?_) ?_ ?_
                                    rotate_left
                                    · show Act.put _ (some 112) _ = _
                                      simp only [Act.put, List.setIfInBounds_toArray, List.set_cons_zero, List.set_cons_succ, i64_w, i32_w]
                                      rfl
                                    refine pure_ (i := 16) (N := some 113) (v := ?_) (a' := ?_) #[true, true, true, true, true, true, true, true, true, true, true, true, true, true, true, true, true, false] rfl rfl (any_of HT_.out (by kernel_rfl)) (fun _ _ _ h => h) (Or.inl ⟨by rfl, ?_⟩) ?_ ?_
                                    rotate_left
                                    · intro w'
                                      go_simp
                                      with_reducible rfl
                                    rotate_left
                                    · simp only [Act.put, List.setIfInBounds_toArray, List.set_cons_zero, List.set_cons_succ, i64_w, i32_w]
                                      rfl
                                    refine pure_ (i := 17) (N := some 2) (v := ?_) (a' := ?_) #[true, true, true, true, true, true, true, true, true, true, true, true, true, true, true, true, true, true] rfl rfl (any_of HT_.out (by kernel_rfl)) (fun _ _ _ h => h) (Or.inl ⟨by rfl, ?_⟩) ?_ ?_
                                    rotate_left
                                    · intro w'
                                      go_simp
                                      with_reducible rfl
                                    rotate_left
                                    · simp only [Act.put, List.setIfInBounds_toArray, List.set_cons_zero, List.set_cons_succ, i64_w, i32_w]
                                      rfl
                                    refine done_ (done_of HT_.out (by kernel_rfl)) ?_
                                    try go_wp2
                                    go_ret
                                    exact ⟨by first | rfl | (simp [errW_none, errW_some] <;> rfl) | (simp only [← hji39]; first | rfl | (simp [errW_none, errW_some] <;> rfl)) | (simp [*, errW_none, errW_some] <;> rfl), by repeat (first | (with_reducible first | exact HB.out | apply below_alloc | apply pw_below_drewN | apply below_drew1 | refine below_set ?_ GE24009.out) | exact HB.out)⟩
                                  · rw [if_neg c42] at H
                                    have c42b0 : (t24004 == (rd y24001 (ji39))) = false := beq_eq_false_iff_ne.mpr c42
                                    have c42b1 : (t24004 != (rd y24001 (ji39))) = true := bne_iff_ne.mpr c42
                                    exact absurd ((Option.some.inj H).trans hr_.out) (by decide)
                                · rw [if_neg c41] at H
                                  exact absurd H (by simp)
                              · rw [if_neg c40] at H
                                exact absurd H (by simp)
                    · replace c23 := Bool.eq_false_iff.mpr c23
                      subst c23
                      have H1 : (some false) = some r := by rw [if_neg (show ¬ (false = true) by decide)] at H; exact H
                      clear H
                      have H := H1
                      clear H1
                      exact absurd ((Option.some.inj H).trans hr_.out) (by decide)
                  · rw [if_neg c21] at H
                    have c21b0 : ((t24005.length : Int) == (wrap64 (Int.tdiv (wrap64 ((y24001.length : Int) + 3)) 4))) = false := beq_eq_false_iff_ne.mpr c21
                    have c21b1 : ((t24005.length : Int) != (wrap64 (Int.tdiv (wrap64 ((y24001.length : Int) + 3)) 4))) = true := bne_iff_ne.mpr c21
                    exact absurd ((Option.some.inj H).trans hr_.out) (by decide)
                · rw [if_neg c20] at H
                  have c20b0 : (t24003 == (y24001.length : Int)) = false := beq_eq_false_iff_ne.mpr c20
                  have c20b1 : (t24003 != (y24001.length : Int)) = true := bne_iff_ne.mpr c20
                  exact absurd ((Option.some.inj H).trans hr_.out) (by decide)
              · rw [if_neg c19] at H
                have c19b0 : (t24008 == 0) = false := beq_eq_false_iff_ne.mpr c19
                have c19b1 : (t24008 != 0) = true := bne_iff_ne.mpr c19
                exact absurd ((Option.some.inj H).trans hr_.out) (by decide)
            · replace c18 := Bool.eq_false_iff.mpr c18
              subst c18
              have H1 : (if t24008 = 12 then (if t24003 = 0 then (if (t24005.length : Int) = 0 then ((columbariumlaw10_known.f k1).bind fun t24018 => (some t24018)) else (some false)) else (some false)) else (some false)) = some r := by rw [if_neg (show ¬ (false = true) by decide)] at H; exact H
              clear H
              have H := H1
              clear H1
              by_cases c47 : t24008 = 12
              · rw [if_pos c47] at H
                have c47b0 : (t24008 == 12) = true := beq_iff_eq.mpr c47
                have c47b1 : (t24008 != 12) = false := bne_eq_false_iff_eq.mpr c47
                clear c47
                by_cases c48 : t24003 = 0
                · rw [if_pos c48] at H
                  have c48b0 : (t24003 == 0) = true := beq_iff_eq.mpr c48
                  have c48b1 : (t24003 != 0) = false := bne_eq_false_iff_eq.mpr c48
                  clear c48
                  by_cases c49 : (t24005.length : Int) = 0
                  · rw [if_pos c49] at H
                    have c49b0 : ((t24005.length : Int) == 0) = true := beq_iff_eq.mpr c49
                    have c49b1 : ((t24005.length : Int) != 0) = false := bne_eq_false_iff_eq.mpr c49
                    clear c49
                    replace H := Option.bind_eq_some_iff.mp H
                    obtain ⟨t24018, A500, H⟩ := H
                    replace H : (some t24018) = some r := H
                    have A50 := Aside0.mk A500
                    clear A500
                    obtain rfl := Option.some.inj H
                    have hcz51_0 : wr.cell? ⟨gb24009, 0, none⟩ = some (.int .i64 t24003) := (blk_cell BK24009.out 0).trans rfl
                    have hcz51_1 : wr.cell? ⟨gb24009, 1, none⟩ = some (.int .i64 t24004) := (blk_cell BK24009.out 1).trans rfl
                    have hcz51_2 : wr.cell? ⟨gb24009, 2, none⟩ = some (.slice Ao9 t24005.length co9) := (blk_cell BK24009.out 2).trans rfl
                    have hfz51_0 := blk_frozen BK24009.out 0
                    have hfz51_1 := blk_frozen BK24009.out 1
                    have hfz51_2 := blk_frozen BK24009.out 2
                    go_wp2_with (first | (go_at_call 33; (with_reducible refine (columbariumlaw10_known.calls k1  t24018 _ A50.out).mono ?_); rintro e w52 ⟨rfl, hb⟩; have n0_ := Aside0.mk (Kd.R_below (by (with_reducible repeat (first | apply Kd.R_alloc | apply Kd.R_drewN | apply Kd.R_drew)); exact HO_24010002.out) hb); have n1_ := Aside0.mk (blk_below (g := gb24009) (o := .cells #[.int .i64 t24003, .int .i64 t24004, .slice Ao9 t24005.length co9] 61 (0, 0)) (by (with_reducible repeat (first | refine blk_drewN ?_ _ | refine blk_drew ?_ | refine blk_alloc ?_ _)); exact BK24009.out) hb); have n2_ := Aside0.mk (below_step (by repeat (first | (with_reducible first | exact HB.out | apply below_alloc | apply pw_below_drewN | apply below_drew1 | refine below_set ?_ GE24009.out) | exact HB.out)) hb); clear HO_24010002; clear BK24009; clear HB; have HO_24010002 := n0_; have BK24009 := n1_; have HB := n2_; clear n0_ n1_ n2_; (try clear hb); (try clear hb2); (try clear hk); (try clear hi)))
                    go_ret
                    exact ⟨by first | rfl | (simp [errW_none, errW_some] <;> rfl) | (simp [*, errW_none, errW_some] <;> rfl), by repeat (first | (with_reducible first | exact HB.out | apply below_alloc | apply pw_below_drewN | apply below_drew1 | refine below_set ?_ GE24009.out) | exact HB.out)⟩
                  · rw [if_neg c49] at H
                    have c49b0 : ((t24005.length : Int) == 0) = false := beq_eq_false_iff_ne.mpr c49
                    have c49b1 : ((t24005.length : Int) != 0) = true := bne_iff_ne.mpr c49
                    have c49b2 : ¬ (t24005 = []) := fun h_ => c49 (by rw [h_]; rfl)
                    exact absurd ((Option.some.inj H).trans hr_.out) (by decide)
                · rw [if_neg c48] at H
                  have c48b0 : (t24003 == 0) = false := beq_eq_false_iff_ne.mpr c48
                  have c48b1 : (t24003 != 0) = true := bne_iff_ne.mpr c48
                  exact absurd ((Option.some.inj H).trans hr_.out) (by decide)
              · rw [if_neg c47] at H
                have c47b0 : (t24008 == 12) = false := beq_eq_false_iff_ne.mpr c47
                have c47b1 : (t24008 != 12) = true := bne_iff_ne.mpr c47
                exact absurd ((Option.some.inj H).trans hr_.out) (by decide)
    · rw [if_neg c3] at H
      exact absurd H (by simp)
  · rw [if_neg c2] at H
    have c2b0 : decide (60 < (l0.length : Int)) = false := decide_eq_false c2
    have c2b1 : decide (60 < l0.length) = false := decide_eq_false (by omega)
    clear c2
    replace H := Option.bind_eq_some_iff.mp H
    obtain ⟨⟨t24019, t24020, t24021, t24024⟩, A530, H⟩ := H
    replace H : (columbariumlaw10_TicksBuild.l1000 k l0 t24024 true 1 t24019 t24020 t24021) = some r := H
    have A53 := Aside0.mk A530
    clear A530
    have H' := Aside0.mk H
    clear H
    go_enter Try.func11, Try.ntmps11
    go_wp2_with (first | ((with_reducible refine gate_callee (f := 30) rfl ?_); refine goesL_ (some 15) rfl rfl Try.func30 (by kernel_rfl) rfl #[.slice A0 l0.length c0] rfl (by (try simp only [List.map_toArray, List.map_cons, List.map_nil]); first | done | rfl | (simp only [List.length_drop, List.length_take]; rfl)) ?_; (with_reducible refine (ticks_Build.calls k _ _ l0 t24019 t24020 t24021 t24024 _ ?side1 ?side2 A53.out).mono ?_); (case side1 => repeat (first | exact HR0.out | (with_reducible refine Kd.C_alloc ?_ _) | (with_reducible refine Kd.C_drewN ?_ _) | (with_reducible refine Kd.C_drew ?_))); (case side2 => exact HC0.out); rintro e w54 ⟨v24022, rfl, ho0, hb⟩; refine ⟨_, rfl, ?_⟩; have n0_ := Aside0.mk (Kd.R_lower ho0 (below_size (by repeat (first | (with_reducible first | exact HB.out | apply below_alloc | apply pw_below_drewN | apply below_drew1) | exact HB.out)))); have n1_ := Aside0.mk (below_step (by repeat (first | (with_reducible first | exact HB.out | apply below_alloc | apply pw_below_drewN | apply below_drew1) | exact HB.out)) hb); clear HB; have HO24023 := n0_; have HB := n1_; clear n0_ n1_; (try clear hb); (try clear hb2); (try clear hk); (try clear hi); (try clear ho0)) | ((with_reducible refine gate_dst (N := 3) rfl ?_); (try (refine gate_guard (by rfl) ?_; dsimp only)); refine box_event ?hg (N := 3) ?hd (cs := #[.int .i64 0, .int .i64 0, .slice none 0 0]) (t := 61) ?hr ?_; (case hd => rfl); (case hg => rfl); (case hr => first | (go_simp; done) | (go_simp; rfl)); intro gb24025 hg w55 hbox hb; have n0_ := Aside0.mk (Kd.R_below (by (with_reducible repeat (first | apply Kd.R_alloc | apply Kd.R_drewN | apply Kd.R_drew)); exact HO24023.out) hb); have n1_ := Aside0.mk (below_step (by repeat (first | (with_reducible first | exact HB.out | apply below_alloc | apply pw_below_drewN | apply below_drew1) | exact HB.out)) hb); have n2_ := Aside0.mk (hbox); have n3_ := Aside0.mk ((by rw [hg]; exact (below_size (by repeat (first | (with_reducible first | exact HB.out | apply below_alloc | apply pw_below_drewN | apply below_drew1) | exact HB.out))) : w.heap.size ≤ gb24025)); have n4_ := Aside0.mk ((by rw [hg]; exact (below_size (by repeat (first | (with_reducible first | exact HB.out | apply below_alloc | apply pw_below_drewN | apply below_drew1) | exact HB.out))) : w.heap.size ≤ gb24025)); clear HO24023; clear HB; have HO24023 := n0_; have HB := n1_; have BK24025 := n2_; have GW24025 := n3_; have GE24025 := n4_; clear n0_ n1_ n2_ n3_ n4_; clear hb hbox hg; have hcz56_0 : w55.cell? ⟨gb24025, 0, none⟩ = some (.int .i64 0) := (blk_cell BK24025.out 0).trans rfl; have hcz56_1 : w55.cell? ⟨gb24025, 1, none⟩ = some (.int .i64 0) := (blk_cell BK24025.out 1).trans rfl; have hcz56_2 : w55.cell? ⟨gb24025, 2, none⟩ = some (.slice none 0 0) := (blk_cell BK24025.out 2).trans rfl; have hfz56_0 := blk_frozen BK24025.out 0; have hfz56_1 := blk_frozen BK24025.out 1; have hfz56_2 := blk_frozen BK24025.out 2; obtain ⟨Ao57, co57, eo57⟩ := Kd.R_slice HO24023.out; subst eo57))
    go_loopg [5, 6] k (fun kq v5 v6 w' => ∃ (x5_1 : Bool) (x6_1 : Int), v5 = .bool x5_1 ∧ v6 = .int .i64 x6_1 ∧ Aside0 (columbariumlaw10_TicksBuild.l1000 kq l0 t24024 x5_1 x6_1 t24019 t24020 t24021 = some r) ∧ Aside0 (kq ≤ k) ∧ Aside0 (Kd.R (Kd.int .i64) 2 w' w.heap.size (fun _ => True) (.slice Ao57 t24021.length co57) t24021) ∧ Aside0 (w'.heap[gb24025]? = some (.cells #[.int .i64 t24019, .int .i64 t24020, (.slice Ao57 t24021.length co57)] 61 (0, 0))) ∧ Aside0 (Below w.heap.size w w'))
    case atStart => exact ⟨(true), (1), (by first | rfl | (simp; done) | (simp [*]; done) | (refine congrArg (Value.int .i64) ?_; (try simp only [decide_eq_true_eq, decide_eq_false_iff_not] at *) <;> (unfold wrap64; omega))), (by first | rfl | (simp; done) | (simp [*]; done) | (refine congrArg (Value.int .i64) ?_; (try simp only [decide_eq_true_eq, decide_eq_false_iff_not] at *) <;> (unfold wrap64; omega))), H', ⟨Nat.le_refl _⟩, ⟨by (with_reducible repeat (first | apply Kd.R_alloc | apply Kd.R_drewN | apply Kd.R_drew)); exact Kd.R_mono (Kd.R_far (p := ⟨gb24025, 2, none⟩) (Kd.R_far (p := ⟨gb24025, 1, none⟩) (Kd.R_far (p := ⟨gb24025, 0, none⟩) (Kd.R_types HO24023.out BK24025.out (by decide)) (fun _ hk => hk.2) (.int .i64 t24019)) (fun _ hk => hk.2) (.int .i64 t24020)) (fun _ hk => hk.2) (.slice Ao57 t24021.length co57)) (fun _ hk => trivial)⟩, ⟨by (with_reducible repeat (first | refine blk_drewN ?_ _ | refine blk_drew ?_ | refine blk_alloc ?_ _)); refine blk_put (cs := #[.int .i64 t24019, .int .i64 t24020, .slice none 0 0]) ?_ 2 _ rfl; (with_reducible repeat (first | refine blk_drewN ?_ _ | refine blk_drew ?_ | refine blk_alloc ?_ _)); refine blk_put (cs := #[.int .i64 t24019, .int .i64 0, .slice none 0 0]) ?_ 1 _ rfl; (with_reducible repeat (first | refine blk_drewN ?_ _ | refine blk_drew ?_ | refine blk_alloc ?_ _)); refine blk_put (cs := #[.int .i64 0, .int .i64 0, .slice none 0 0]) ?_ 0 _ rfl; (with_reducible repeat (first | refine blk_drewN ?_ _ | refine blk_drew ?_ | refine blk_alloc ?_ _)); exact BK24025.out⟩, ⟨by repeat (first | (with_reducible first | exact HB.out | apply below_alloc | apply pw_below_drewN | apply below_drew1 | refine below_set ?_ GE24025.out) | exact HB.out)⟩⟩
    case round =>
      clear H'
      try clear c1
      try clear c2
      try clear c2b0
      try clear c2b1
      try clear p2
      try clear q2
      try clear hx2
      try clear c3
      try clear c4
      try clear p6
      try clear c11
      try clear c18
      try clear c19
      try clear c19b0
      try clear c19b1
      try clear c20
      try clear c20b0
      try clear c20b1
      try clear c21
      try clear c21b0
      try clear c21b1
      try clear c23
      try clear p24
      try clear q24
      try clear hx24
      try clear c26
      try clear c26b0
      try clear c27
      try clear c29
      try clear c30
      try clear c31
      try clear c31b0
      try clear c31b1
      try clear c33
      try clear c34
      try clear c34b0
      try clear c34b1
      try clear c34b2
      try clear c40
      try clear c40b0
      try clear c41
      try clear c41b0
      try clear c42
      try clear c42b0
      try clear c42b1
      try clear c47
      try clear c47b0
      try clear c47b1
      try clear c48
      try clear c48b0
      try clear c48b1
      try clear c49
      try clear c49b0
      try clear c49b1
      try clear c49b2
      try clear hcz36_0
      try clear hcz36_1
      try clear hcz36_2
      try clear hcz44_0
      try clear hcz44_1
      try clear hcz44_2
      try clear hcz51_0
      try clear hcz51_1
      try clear hcz51_2
      try clear hcz56_0
      try clear hcz56_1
      try clear hcz56_2
      try clear hfz36_0
      try clear hfz36_1
      try clear hfz36_2
      try clear hfz44_0
      try clear hfz44_1
      try clear hfz44_2
      try clear hfz51_0
      try clear hfz51_1
      try clear hfz51_2
      try clear hfz56_0
      try clear hfz56_1
      try clear hfz56_2
      try clear hx24013_0
      try clear hx24014_0
      try clear hx24016_0
      try clear p24013
      try clear p24014
      try clear p24016
      try clear q24013
      try clear q24014
      try clear q24016
      obtain ⟨x5_1, x6_1, rfl, rfl, HA, HK1, HO_24026002, BK24025, HB⟩ := hrel
      cases gk with
      | zero => exact absurd HA.out (by simp [columbariumlaw10_TicksBuild.l1000])
      | succ k1 =>
        have H := HA.out
        clear HA
        simp only [columbariumlaw10_TicksBuild.l1000] at H
        by_cases c58 : x6_1 < (l0.length : Int)
        · rw [if_pos c58] at H
          have c58b0 : decide (x6_1 < (l0.length : Int)) = true := decide_eq_true c58
          clear c58
          by_cases c59 : x5_1 = true
          · subst c59
            have H1 : (if 0 ≤ x6_1 then (if 0 ≤ (wrap64 (x6_1 - 1)) then (if (wrap64 (x6_1 - 1)) < (l0.length : Int) then (columbariumlaw10_TicksBuild.l1000 k1 l0 t24024 (decide ((rd l0 x6_1) ≥ (rd l0 (wrap64 (x6_1 - 1))))) (wrap64 (x6_1 + 1)) t24019 t24020 t24021) else (none)) else (none)) else (none)) = some r := by rw [if_pos rfl] at H; exact H
            clear H
            have H := H1
            clear H1
            by_cases c60 : 0 ≤ x6_1
            · rw [if_pos c60] at H
              have c60b0 : decide (0 ≤ x6_1) = true := decide_eq_true c60
              clear c60
              obtain ⟨ji61, hji61⟩ : ∃ j_ : Int, (wrap64 (x6_1 - 1)) = j_ := ⟨_, rfl⟩
              replace H : (if 0 ≤ (ji61) then (if (ji61) < (l0.length : Int) then (columbariumlaw10_TicksBuild.l1000 k1 l0 t24024 (decide ((rd l0 x6_1) ≥ (rd l0 (ji61)))) (wrap64 (x6_1 + 1)) t24019 t24020 t24021) else (none)) else (none)) = some r := by first | (rw [hji61] at H; exact H) | (simp only [hji61] at H ⊢; exact H)
              have hji61w : (IntKind.i64.wrap (x6_1 - 1)) = ji61 := (i64_w _).trans hji61
              (try ((have hji61v : (x6_1 - 1) = ji61 := by ((have h_ := hji61); ((try simp only [decide_eq_true_eq] at *) <;> (unfold wrap64 at h_; omega)))); (have hji61l : 0 ≤ ji61 := by ((have h_ := hji61); ((try simp only [decide_eq_true_eq] at *) <;> (unfold wrap64 at h_; omega)))); (have hji61u : ji61 ≤ 64 := by ((have h_ := hji61); ((try simp only [decide_eq_true_eq] at *) <;> (unfold wrap64 at h_; omega))))))
              by_cases c62 : 0 ≤ (ji61)
              · rw [if_pos c62] at H
                have c62b0 : decide (0 ≤ (ji61)) = true := decide_eq_true c62
                clear c62
                by_cases c63 : (ji61) < (l0.length : Int)
                · rw [if_pos c63] at H
                  have c63b0 : decide ((ji61) < (l0.length : Int)) = true := decide_eq_true c63
                  clear c63
                  have H' := Aside0.mk H
                  clear H
                  try go_wp2
                  have n0_ := Aside0.mk (Kd.R_drew HO_24026002.out)
                  have n1_ := Aside0.mk (blk_drew BK24025.out)
                  have n2_ := Aside0.mk (below_drew1 HB.out)
                  clear HO_24026002
                  clear BK24025
                  clear HB
                  have HO_24026002 := n0_
                  have BK24025 := n1_
                  have HB := n2_
                  clear n0_ n1_ n2_
                  have p24026 : 0 ≤ (x6_1 : Int) := of_decide_eq_true (by first | (with_reducible assumption) | assumption)
                  have q24026 : x6_1 < (l0.length : Int) := of_decide_eq_true (by first | (with_reducible assumption) | assumption)
                  obtain ⟨ad24026, e24026, hx24026_0⟩ := Kd.at_int HR0.out x6_1 p24026 q24026
                  have hw24026_0 := hx24026_0
                  cases e24026
                  replace hx24026_0 := (HB.out.cell (World.block_lt_of_cell? w _ hx24026_0)).trans hx24026_0
                  replace p24026 := eq_true p24026
                  replace q24026 := eq_true q24026
                  have p24027 : 0 ≤ ((ji61) : Int) := of_decide_eq_true (by first | (with_reducible assumption) | assumption)
                  have q24027 : (ji61) < (l0.length : Int) := of_decide_eq_true (by first | (with_reducible assumption) | assumption)
                  obtain ⟨ad24027, e24027, hx24027_0⟩ := Kd.at_int HR0.out (ji61) p24027 q24027
                  have hw24027_0 := hx24027_0
                  obtain rfl : ad24026 = ad24027 := (by injection e24027)
                  replace hx24027_0 := (HB.out.cell (World.block_lt_of_cell? w _ hx24027_0)).trans hx24027_0
                  replace p24027 := eq_true p24027
                  replace q24027 := eq_true q24027
                  refine start_ (n := 14) (S := fun w' => w'.cell? (ad24026.add (x6_1).toNat) = some (.int .i64 (rd l0 x6_1)) ∧ w'.cell? (ad24026.add ((ji61)).toNat) = some (.int .i64 (rd l0 (ji61)))) (ds := []) #[false, false, false, false, false, false, false, false, false, false, false, false, false, false] (by kernel_rfl) rfl rfl ⟨((HB.out.cell (World.block_lt_of_cell? w _ hw24026_0)).trans hw24026_0), ((HB.out.cell (World.block_lt_of_cell? w _ hw24027_0)).trans hw24027_0)⟩ (fun hHeld => ?_); refine with_tabW columbariumlaw10_TicksBuild.tab8 columbariumlaw10_TicksBuild.bits8 (fun HT_ HW_ => ?_)
                  generalize wr.drew = w64 at HO_24026002 BK24025 HB hx24026_0 hx24027_0 hHeld ⊢
                  refine pure_ (i := 0) (N := some 24) (v := ?_) (a' := ?_) #[true, false, false, false, false, false, false, false, false, false, false, false, false, false] rfl rfl (any_of HT_.out (by kernel_rfl)) (fun _ _ _ h => h) (Or.inl ⟨by rfl, ?_⟩) ?_ ?_
                  rotate_left
                  · intro w'
                    go_simp
                    with_reducible rfl
                  rotate_left
                  · simp only [Act.put, List.setIfInBounds_toArray, List.set_cons_zero, List.set_cons_succ, i64_w, i32_w]
                    rfl
                  refine pure_ (i := 1) (N := some 25) (v := ?_) (a' := ?_) #[true, true, false, false, false, false, false, false, false, false, false, false, false, false] rfl rfl (any_of HT_.out (by kernel_rfl)) (fun _ _ _ h => h) (Or.inl ⟨by rfl, ?_⟩) ?_ ?_
                  rotate_left
                  · intro w'
                    go_simp
                    with_reducible rfl
                  rotate_left
                  · simp only [Act.put, List.setIfInBounds_toArray, List.set_cons_zero, List.set_cons_succ, i64_w, i32_w]
                    rfl
                  refine pure_ (i := 2) (N := some 26) (v := ?_) (a' := ?_) #[true, true, true, false, false, false, false, false, false, false, false, false, false, false] rfl rfl (any_of HT_.out (by kernel_rfl)) (fun _ _ _ h => h) (Or.inl ⟨by rfl, ?_⟩) ?_ ?_
                  rotate_left
                  · intro w'
                    go_simp
                    with_reducible rfl
                  rotate_left
                  · simp only [Act.put, List.setIfInBounds_toArray, List.set_cons_zero, List.set_cons_succ, i64_w, i32_w]
                    rfl
                  refine pure_ (i := 3) (N := some 27) (v := ?_) (a' := ?_) #[true, true, true, true, false, false, false, false, false, false, false, false, false, false] rfl rfl (any_of HT_.out (by kernel_rfl)) (fun _ _ _ h => h) (Or.inl ⟨by rfl, ?_⟩) ?_ ?_
                  rotate_left
                  · intro w'
                    go_simp
                    with_reducible rfl
                  rotate_left
                  · simp only [Act.put, List.setIfInBounds_toArray, List.set_cons_zero, List.set_cons_succ, i64_w, i32_w]
                    rfl
                  refine pure_ (i := 4) (N := some 28) (v := ?_) (a' := ?_) #[true, true, true, true, true, false, false, false, false, false, false, false, false, false] rfl rfl (any_of HT_.out (by kernel_rfl)) (fun _ _ _ h => h) (Or.inl ⟨by rfl, ?_⟩) ?_ ?_
                  rotate_left
                  · intro w'
                    go_simp
                    with_reducible rfl
                  rotate_left
                  · simp only [Act.put, List.setIfInBounds_toArray, List.set_cons_zero, List.set_cons_succ, i64_w, i32_w]
                    rfl
                  refine pure_ (i := 6) (N := some 30) (v := ?_) (a' := ?_) #[true, true, true, true, true, false, true, false, false, false, false, false, false, false] rfl rfl (any_of HT_.out (by kernel_rfl)) (fun _ _ _ h => h) (Or.inl ⟨by rfl, ?_⟩) ?_ ?_
                  rotate_left
                  · intro w'
                    go_simp
                    with_reducible rfl
                  rotate_left
                  · simp only [Act.put, List.setIfInBounds_toArray, List.set_cons_zero, List.set_cons_succ, i64_w, i32_w]
                    rfl
                  refine pure_ (i := 7) (N := some 31) (v := ?_) (a' := ?_) #[true, true, true, true, true, false, true, true, false, false, false, false, false, false] rfl rfl (any_of HT_.out (by kernel_rfl)) (fun _ _ _ h => h) (Or.inl ⟨by rfl, ?_⟩) ?_ ?_
                  rotate_left
                  · intro w'
                    go_simp
                    with_reducible rfl
                  rotate_left
                  · simp only [Act.put, List.setIfInBounds_toArray, List.set_cons_zero, List.set_cons_succ, i64_w, i32_w]
                    rfl
                  refine pure_ (i := 8) (N := some 32) (v := ?_) (a' := ?_) #[true, true, true, true, true, false, true, true, true, false, false, false, false, false] rfl rfl (any_of HT_.out (by kernel_rfl)) (fun _ _ _ h => h) (Or.inl ⟨by rfl, ?_⟩) ?_ ?_
                  rotate_left
                  · intro w'
                    go_simp
                    with_reducible rfl
                  rotate_left
                  · simp only [Act.put, List.setIfInBounds_toArray, List.set_cons_zero, List.set_cons_succ, i64_w, i32_w]
                    rfl
                  refine pure_ (i := 9) (N := some 33) (v := ?_) (a' := ?_) #[true, true, true, true, true, false, true, true, true, true, false, false, false, false] rfl rfl (any_of HT_.out (by kernel_rfl)) (fun _ _ _ h => h) (Or.inl ⟨by rfl, ?_⟩) ?_ ?_
                  rotate_left
                  · intro w'
                    go_simp
                    with_reducible rfl
                  rotate_left
                  · simp only [Act.put, List.setIfInBounds_toArray, List.set_cons_zero, List.set_cons_succ, i64_w, i32_w]
                    rfl
                  refine take_ (i := 5) (N := some 29) (v := ?_) (a' := ?_) #[true, true, true, true, true, true, true, true, true, true, false, false, false, false] rfl rfl (take_ofW HT_.out HW_.out (by kernel_rfl)) (fun _ _ _ h => h) (Or.inl ⟨by rfl, ?_⟩) hHeld ?_ ?_
                  rotate_left
                  · rintro w' ⟨s0, s1⟩
                    go_simp
                    with_reducible rfl
                  rotate_left
                  · simp only [Act.put, List.setIfInBounds_toArray, List.set_cons_zero, List.set_cons_succ, i64_w, i32_w]
                    rfl
                  refine take_ (i := 10) (N := some 34) (v := ?_) (a' := ?_) #[true, true, true, true, true, true, true, true, true, true, true, false, false, false] rfl rfl (take_ofW HT_.out HW_.out (by kernel_rfl)) (fun _ _ _ h => h) (Or.inl ⟨by rfl, ?_⟩) hHeld ?_ ?_
                  rotate_left
                  · rintro w' ⟨s0, s1⟩
                    go_simp
                    with_reducible rfl
                  rotate_left
                  · simp only [Act.put, List.setIfInBounds_toArray, List.set_cons_zero, List.set_cons_succ, i64_w, i32_w]
                    rfl
                  refine pure_ (i := 11) (N := some 35) (v := ?_) (a' := ?_) #[true, true, true, true, true, true, true, true, true, true, true, true, false, false] rfl rfl (any_of HT_.out (by kernel_rfl)) (fun _ _ _ h => h) (Or.inl ⟨by rfl, ?_⟩) ?_ ?_
                  rotate_left
                  · intro w'
                    go_simp
                    with_reducible rfl
                  rotate_left
                  · simp only [Act.put, List.setIfInBounds_toArray, List.set_cons_zero, List.set_cons_succ, i64_w, i32_w]
                    rfl
                  refine pure_ (i := 12) (N := some 36) (v := ?_) (a' := ?_) #[true, true, true, true, true, true, true, true, true, true, true, true, true, false] rfl rfl (any_of HT_.out (by kernel_rfl)) (fun _ _ _ h => h) (Or.inl ⟨by rfl, ?_⟩) ?_ ?_
                  rotate_left
                  · intro w'
                    go_simp
                    with_reducible rfl
                  rotate_left
                  · simp only [Act.put, List.setIfInBounds_toArray, List.set_cons_zero, List.set_cons_succ, i64_w, i32_w]
                    rfl
                  refine pure_ (i := 13) (N := some 5) (v := ?_) (a' := ?_) #[true, true, true, true, true, true, true, true, true, true, true, true, true, true] rfl rfl (any_of HT_.out (by kernel_rfl)) (fun _ _ _ h => h) (Or.inl ⟨by rfl, ?_⟩) ?_ ?_
                  rotate_left
                  · intro w'
                    go_simp
                    with_reducible rfl
                  rotate_left
                  · simp only [Act.put, List.setIfInBounds_toArray, List.set_cons_zero, List.set_cons_succ, i64_w, i32_w]
                    rfl
                  refine done_ (done_of HT_.out (by kernel_rfl)) ?_
                  try go_wp2
                  go_roundg k1
                  case measure => have := HK1.out; omega
                  case rel => exact ⟨(decide ((rd l0 x6_1) ≥ (rd l0 (ji61)))), (wrap64 (x6_1 + 1)), (by first | rfl | (simp; done) | (simp only [← hji61] <;> (first | rfl | simp)) | (simp [*]; done) | (refine congrArg (Value.int .i64) ?_; (try simp only [decide_eq_true_eq, decide_eq_false_iff_not] at *) <;> (unfold wrap64; omega))), (by first | rfl | (simp; done) | (simp [*]; done) | (refine congrArg (Value.int .i64) ?_; (try simp only [decide_eq_true_eq, decide_eq_false_iff_not] at *) <;> (unfold wrap64; omega))), H', ⟨by have := HK1.out; omega⟩, ⟨by (with_reducible repeat (first | apply Kd.R_alloc | apply Kd.R_drewN | apply Kd.R_drew)); exact HO_24026002.out⟩, ⟨by (with_reducible repeat (first | refine blk_drewN ?_ _ | refine blk_drew ?_ | refine blk_alloc ?_ _)); exact BK24025.out⟩, ⟨by repeat (first | (with_reducible first | exact HB.out | apply below_alloc | apply pw_below_drewN | apply below_drew1 | refine below_set ?_ GE24025.out) | exact HB.out)⟩⟩
                · rw [if_neg c63] at H
                  exact absurd H (by simp)
              · rw [if_neg c62] at H
                exact absurd H (by simp)
            · rw [if_neg c60] at H
              exact absurd H (by simp)
          · replace c59 := Bool.eq_false_iff.mpr c59
            subst c59
            have H1 : (columbariumlaw10_TicksBuild.l1000 k1 l0 t24024 false (wrap64 (x6_1 + 1)) t24019 t24020 t24021) = some r := by rw [if_neg (show ¬ (false = true) by decide)] at H; exact H
            clear H
            have H := H1
            clear H1
            have H' := Aside0.mk H
            clear H
            try go_wp2
            have n0_ := Aside0.mk (Kd.R_drew HO_24026002.out)
            have n1_ := Aside0.mk (blk_drew BK24025.out)
            have n2_ := Aside0.mk (below_drew1 HB.out)
            clear HO_24026002
            clear BK24025
            clear HB
            have HO_24026002 := n0_
            have BK24025 := n1_
            have HB := n2_
            clear n0_ n1_ n2_
            refine start_ (n := 14) (S := fun w' => True) (ds := []) #[false, false, false, false, false, false, false, false, false, false, false, false, false, false] (by kernel_rfl) rfl rfl trivial (fun hHeld => ?_); refine with_tabW columbariumlaw10_TicksBuild.tab8 columbariumlaw10_TicksBuild.bits8 (fun HT_ HW_ => ?_)
            generalize wr.drew = w65 at HO_24026002 BK24025 HB hHeld ⊢
            refine pure_ (i := 0) (N := some 24) (v := ?_) (a' := ?_) #[true, false, false, false, false, false, false, false, false, false, false, false, false, false] rfl rfl (any_of HT_.out (by kernel_rfl)) (fun _ _ _ h => h) (Or.inl ⟨by rfl, ?_⟩) ?_ ?_
            rotate_left
            · intro w'
              go_simp
              with_reducible rfl
            rotate_left
            · simp only [Act.put, List.setIfInBounds_toArray, List.set_cons_zero, List.set_cons_succ, i64_w, i32_w]
              rfl
            refine pure_ (i := 1) (N := some 25) (v := ?_) (a' := ?_) #[true, true, false, false, false, false, false, false, false, false, false, false, false, false] rfl rfl (any_of HT_.out (by kernel_rfl)) (fun _ _ _ h => h) (Or.inl ⟨by rfl, ?_⟩) ?_ ?_
            rotate_left
            · intro w'
              go_simp
              with_reducible rfl
            rotate_left
            · simp only [Act.put, List.setIfInBounds_toArray, List.set_cons_zero, List.set_cons_succ, i64_w, i32_w]
              rfl
            refine pure_ (i := 2) (N := some 26) (v := undef) (a' := ?_) #[true, true, true, false, false, false, false, false, false, false, false, false, false, false] rfl rfl (any_of HT_.out (by kernel_rfl)) (fun _ _ _ h => h) (Or.inr ⟨by rfl, rfl⟩) ?_ ?_
            rotate_left
            · simp only [Act.put, List.setIfInBounds_toArray, List.set_cons_zero, List.set_cons_succ, i64_w, i32_w]
              rfl
            refine pure_ (i := 3) (N := some 27) (v := undef) (a' := ?_) #[true, true, true, true, false, false, false, false, false, false, false, false, false, false] rfl rfl (any_of HT_.out (by kernel_rfl)) (fun _ _ _ h => h) (Or.inr ⟨by rfl, rfl⟩) ?_ ?_
            rotate_left
            · simp only [Act.put, List.setIfInBounds_toArray, List.set_cons_zero, List.set_cons_succ, i64_w, i32_w]
              rfl
            refine pure_ (i := 4) (N := some 28) (v := undef) (a' := ?_) #[true, true, true, true, true, false, false, false, false, false, false, false, false, false] rfl rfl (any_of HT_.out (by kernel_rfl)) (fun _ _ _ h => h) (Or.inr ⟨by rfl, rfl⟩) ?_ ?_
            rotate_left
            · simp only [Act.put, List.setIfInBounds_toArray, List.set_cons_zero, List.set_cons_succ, i64_w, i32_w]
              rfl
            refine pure_ (i := 5) (N := some 29) (v := undef) (a' := ?_) #[true, true, true, true, true, true, false, false, false, false, false, false, false, false] rfl rfl (any_of HT_.out (by kernel_rfl)) (fun _ _ _ h => h) (Or.inr ⟨by rfl, rfl⟩) ?_ ?_
            rotate_left
            · simp only [Act.put, List.setIfInBounds_toArray, List.set_cons_zero, List.set_cons_succ, i64_w, i32_w]
              rfl
            refine pure_ (i := 6) (N := some 30) (v := undef) (a' := ?_) #[true, true, true, true, true, true, true, false, false, false, false, false, false, false] rfl rfl (any_of HT_.out (by kernel_rfl)) (fun _ _ _ h => h) (Or.inr ⟨by rfl, rfl⟩) ?_ ?_
            rotate_left
            · simp only [Act.put, List.setIfInBounds_toArray, List.set_cons_zero, List.set_cons_succ, i64_w, i32_w]
              rfl
            refine pure_ (i := 7) (N := some 31) (v := undef) (a' := ?_) #[true, true, true, true, true, true, true, true, false, false, false, false, false, false] rfl rfl (any_of HT_.out (by kernel_rfl)) (fun _ _ _ h => h) (Or.inr ⟨by rfl, rfl⟩) ?_ ?_
            rotate_left
            · simp only [Act.put, List.setIfInBounds_toArray, List.set_cons_zero, List.set_cons_succ, i64_w, i32_w]
              rfl
            refine pure_ (i := 8) (N := some 32) (v := undef) (a' := ?_) #[true, true, true, true, true, true, true, true, true, false, false, false, false, false] rfl rfl (any_of HT_.out (by kernel_rfl)) (fun _ _ _ h => h) (Or.inr ⟨by rfl, rfl⟩) ?_ ?_
            rotate_left
            · simp only [Act.put, List.setIfInBounds_toArray, List.set_cons_zero, List.set_cons_succ, i64_w, i32_w]
              rfl
            refine pure_ (i := 9) (N := some 33) (v := undef) (a' := ?_) #[true, true, true, true, true, true, true, true, true, true, false, false, false, false] rfl rfl (any_of HT_.out (by kernel_rfl)) (fun _ _ _ h => h) (Or.inr ⟨by rfl, rfl⟩) ?_ ?_
            rotate_left
            · simp only [Act.put, List.setIfInBounds_toArray, List.set_cons_zero, List.set_cons_succ, i64_w, i32_w]
              rfl
            refine pure_ (i := 10) (N := some 34) (v := undef) (a' := ?_) #[true, true, true, true, true, true, true, true, true, true, true, false, false, false] rfl rfl (any_of HT_.out (by kernel_rfl)) (fun _ _ _ h => h) (Or.inr ⟨by rfl, rfl⟩) ?_ ?_
            rotate_left
            · simp only [Act.put, List.setIfInBounds_toArray, List.set_cons_zero, List.set_cons_succ, i64_w, i32_w]
              rfl
            refine pure_ (i := 11) (N := some 35) (v := undef) (a' := ?_) #[true, true, true, true, true, true, true, true, true, true, true, true, false, false] rfl rfl (any_of HT_.out (by kernel_rfl)) (fun _ _ _ h => h) (Or.inr ⟨by rfl, rfl⟩) ?_ ?_
            rotate_left
            · simp only [Act.put, List.setIfInBounds_toArray, List.set_cons_zero, List.set_cons_succ, i64_w, i32_w]
              rfl
            refine pure_ (i := 12) (N := some 36) (v := ?_) (a' := ?_) #[true, true, true, true, true, true, true, true, true, true, true, true, true, false] rfl rfl (any_of HT_.out (by kernel_rfl)) (fun _ _ _ h => h) (Or.inl ⟨by rfl, ?_⟩) ?_ ?_
            rotate_left
            · intro w'
              go_simp
              with_reducible rfl
            rotate_left
            · simp only [Act.put, List.setIfInBounds_toArray, List.set_cons_zero, List.set_cons_succ, i64_w, i32_w]
              rfl
            refine pure_ (i := 13) (N := some 5) (v := ?_) (a' := ?_) #[true, true, true, true, true, true, true, true, true, true, true, true, true, true] rfl rfl (any_of HT_.out (by kernel_rfl)) (fun _ _ _ h => h) (Or.inl ⟨by rfl, ?_⟩) ?_ ?_
            rotate_left
            · intro w'
              go_simp
              with_reducible rfl
            rotate_left
            · simp only [Act.put, List.setIfInBounds_toArray, List.set_cons_zero, List.set_cons_succ, i64_w, i32_w]
              rfl
            refine done_ (done_of HT_.out (by kernel_rfl)) ?_
            try go_wp2
            go_roundg k1
            case measure => have := HK1.out; omega
            case rel => exact ⟨(false), (wrap64 (x6_1 + 1)), (by first | rfl | (simp; done) | (simp [*]; done) | (refine congrArg (Value.int .i64) ?_; (try simp only [decide_eq_true_eq, decide_eq_false_iff_not] at *) <;> (unfold wrap64; omega))), (by first | rfl | (simp; done) | (simp [*]; done) | (refine congrArg (Value.int .i64) ?_; (try simp only [decide_eq_true_eq, decide_eq_false_iff_not] at *) <;> (unfold wrap64; omega))), H', ⟨by have := HK1.out; omega⟩, ⟨by (with_reducible repeat (first | apply Kd.R_alloc | apply Kd.R_drewN | apply Kd.R_drew)); exact HO_24026002.out⟩, ⟨by (with_reducible repeat (first | refine blk_drewN ?_ _ | refine blk_drew ?_ | refine blk_alloc ?_ _)); exact BK24025.out⟩, ⟨by repeat (first | (with_reducible first | exact HB.out | apply below_alloc | apply pw_below_drewN | apply below_drew1 | refine below_set ?_ GE24025.out) | exact HB.out)⟩⟩
        · rw [if_neg c58] at H
          have c58b0 : decide (x6_1 < (l0.length : Int)) = false := decide_eq_false c58
          clear c58
          by_cases c66 : x5_1 = true
          · subst c66
            have H1 : (if t24024 = 0 then (if t24019 = (l0.length : Int) then (if (t24021.length : Int) = (wrap64 (Int.tdiv (wrap64 ((l0.length : Int) + 3)) 4)) then ((ticks_Right.f k1 t24019 t24020 t24021).bind fun t24028 => (if t24028 = true then (columbariumlaw10_TicksBuild.l1001 k1 l0 0 t24019 t24020 t24021) else (some false))) else (some false)) else (some false)) else (some false)) = some r := by rw [if_pos rfl] at H; exact H
            clear H
            have H := H1
            clear H1
            by_cases c67 : t24024 = 0
            · rw [if_pos c67] at H
              have c67b0 : (t24024 == 0) = true := beq_iff_eq.mpr c67
              have c67b1 : (t24024 != 0) = false := bne_eq_false_iff_eq.mpr c67
              clear c67
              by_cases c68 : t24019 = (l0.length : Int)
              · rw [if_pos c68] at H
                have c68b0 : (t24019 == (l0.length : Int)) = true := beq_iff_eq.mpr c68
                have c68b1 : (t24019 != (l0.length : Int)) = false := bne_eq_false_iff_eq.mpr c68
                clear c68
                by_cases c69 : (t24021.length : Int) = (wrap64 (Int.tdiv (wrap64 ((l0.length : Int) + 3)) 4))
                · rw [if_pos c69] at H
                  have c69b0 : ((t24021.length : Int) == (wrap64 (Int.tdiv (wrap64 ((l0.length : Int) + 3)) 4))) = true := beq_iff_eq.mpr c69
                  have c69b1 : ((t24021.length : Int) != (wrap64 (Int.tdiv (wrap64 ((l0.length : Int) + 3)) 4))) = false := bne_eq_false_iff_eq.mpr c69
                  clear c69
                  replace H := Option.bind_eq_some_iff.mp H
                  obtain ⟨t24028, A700, H⟩ := H
                  replace H : (if t24028 = true then (columbariumlaw10_TicksBuild.l1001 k1 l0 0 t24019 t24020 t24021) else (some false)) = some r := H
                  have A70 := Aside0.mk A700
                  clear A700
                  by_cases c71 : t24028 = true
                  · subst c71
                    have H1 : (columbariumlaw10_TicksBuild.l1001 k1 l0 0 t24019 t24020 t24021) = some r := by rw [if_pos rfl] at H; exact H
                    clear H
                    have H := H1
                    clear H1
                    have H' := Aside0.mk H
                    clear H
                    have hcz72_0 : wr.cell? ⟨gb24025, 0, none⟩ = some (.int .i64 t24019) := (blk_cell BK24025.out 0).trans rfl
                    have hcz72_1 : wr.cell? ⟨gb24025, 1, none⟩ = some (.int .i64 t24020) := (blk_cell BK24025.out 1).trans rfl
                    have hcz72_2 : wr.cell? ⟨gb24025, 2, none⟩ = some (.slice Ao57 t24021.length co57) := (blk_cell BK24025.out 2).trans rfl
                    have hfz72_0 := blk_frozen BK24025.out 0
                    have hfz72_1 := blk_frozen BK24025.out 1
                    have hfz72_2 := blk_frozen BK24025.out 2
                    go_wp2_with (first | (go_at_call 31; (with_reducible refine (ticks_Right.calls k1 t24019 t24020 _ _ t24021 true _ ?side1 ?side2 A70.out).mono ?_); (case side1 => repeat (first | exact (Kd.R_reads' HO_24026002.out).2.2 | (with_reducible refine Kd.C_alloc ?_ _) | (with_reducible refine Kd.C_drewN ?_ _) | (with_reducible refine Kd.C_drew ?_))); (case side2 => exact (Kd.R_reads' HO_24026002.out).2.1); rintro e w73 ⟨rfl, hb⟩; have n0_ := Aside0.mk (Kd.R_below (by (with_reducible repeat (first | apply Kd.R_alloc | apply Kd.R_drewN | apply Kd.R_drew)); exact HO_24026002.out) hb); have n1_ := Aside0.mk (blk_below (g := gb24025) (o := .cells #[.int .i64 t24019, .int .i64 t24020, .slice Ao57 t24021.length co57] 61 (0, 0)) (by (with_reducible repeat (first | refine blk_drewN ?_ _ | refine blk_drew ?_ | refine blk_alloc ?_ _)); exact BK24025.out) hb); have n2_ := Aside0.mk (below_step (by repeat (first | (with_reducible first | exact HB.out | apply below_alloc | apply pw_below_drewN | apply below_drew1 | refine below_set ?_ GE24025.out) | exact HB.out)) hb); clear HO_24026002; clear BK24025; clear HB; have HO_24026002 := n0_; have BK24025 := n1_; have HB := n2_; clear n0_ n1_ n2_; (try clear hb); (try clear hb2); (try clear hk); (try clear hi)))
                    go_loopg [7] k1 (fun kq v7 w' => ∃ (x7_2 : Int), v7 = .int .i64 x7_2 ∧ Aside0 (columbariumlaw10_TicksBuild.l1001 kq l0 x7_2 t24019 t24020 t24021 = some r) ∧ Aside0 (kq ≤ k1) ∧ Aside0 (Kd.R (Kd.int .i64) 2 w' w.heap.size (fun _ => True) (.slice Ao57 t24021.length co57) t24021) ∧ Aside0 (w'.heap[gb24025]? = some (.cells #[.int .i64 t24019, .int .i64 t24020, (.slice Ao57 t24021.length co57)] 61 (0, 0))) ∧ Aside0 (Below w.heap.size w w'))
                    case atStart => exact ⟨(0), (by first | rfl | (simp; done) | (simp [*]; done) | (refine congrArg (Value.int .i64) ?_; (try simp only [decide_eq_true_eq, decide_eq_false_iff_not] at *) <;> (unfold wrap64; omega))), H', ⟨Nat.le_refl _⟩, ⟨by (with_reducible repeat (first | apply Kd.R_alloc | apply Kd.R_drewN | apply Kd.R_drew)); exact HO_24026002.out⟩, ⟨by (with_reducible repeat (first | refine blk_drewN ?_ _ | refine blk_drew ?_ | refine blk_alloc ?_ _)); exact BK24025.out⟩, ⟨by repeat (first | (with_reducible first | exact HB.out | apply below_alloc | apply pw_below_drewN | apply below_drew1 | refine below_set ?_ GE24025.out) | exact HB.out)⟩⟩
                    case round =>
                      clear H'
                      try clear c1
                      try clear c2
                      try clear c2b0
                      try clear c2b1
                      try clear p2
                      try clear q2
                      try clear hx2
                      try clear c3
                      try clear c4
                      try clear c5
                      try clear c6
                      try clear p6
                      try clear c7
                      try clear c11
                      try clear c18
                      try clear c19
                      try clear c19b0
                      try clear c19b1
                      try clear c20
                      try clear c20b0
                      try clear c20b1
                      try clear c21
                      try clear c21b0
                      try clear c21b1
                      try clear c23
                      try clear p24
                      try clear q24
                      try clear hx24
                      try clear c26
                      try clear c26b0
                      try clear c27
                      try clear c29
                      try clear c30
                      try clear c31
                      try clear c31b0
                      try clear c31b1
                      try clear c33
                      try clear c34
                      try clear c34b0
                      try clear c34b1
                      try clear c34b2
                      try clear c40
                      try clear c40b0
                      try clear c41
                      try clear c41b0
                      try clear c42
                      try clear c42b0
                      try clear c42b1
                      try clear c47
                      try clear c47b0
                      try clear c47b1
                      try clear c48
                      try clear c48b0
                      try clear c48b1
                      try clear c49
                      try clear c49b0
                      try clear c49b1
                      try clear c49b2
                      try clear c58
                      try clear c58b0
                      try clear c59
                      try clear c60
                      try clear c60b0
                      try clear c62
                      try clear c62b0
                      try clear c63
                      try clear c63b0
                      try clear p64
                      try clear c66
                      try clear c67
                      try clear c67b0
                      try clear c67b1
                      try clear c68
                      try clear c68b0
                      try clear c68b1
                      try clear c69
                      try clear c69b0
                      try clear c69b1
                      try clear c71
                      try clear hcz36_0
                      try clear hcz36_1
                      try clear hcz36_2
                      try clear hcz44_0
                      try clear hcz44_1
                      try clear hcz44_2
                      try clear hcz51_0
                      try clear hcz51_1
                      try clear hcz51_2
                      try clear hcz56_0
                      try clear hcz56_1
                      try clear hcz56_2
                      try clear hcz72_0
                      try clear hcz72_1
                      try clear hcz72_2
                      try clear hfz36_0
                      try clear hfz36_1
                      try clear hfz36_2
                      try clear hfz44_0
                      try clear hfz44_1
                      try clear hfz44_2
                      try clear hfz51_0
                      try clear hfz51_1
                      try clear hfz51_2
                      try clear hfz56_0
                      try clear hfz56_1
                      try clear hfz56_2
                      try clear hfz72_0
                      try clear hfz72_1
                      try clear hfz72_2
                      try clear hx24013_0
                      try clear hx24014_0
                      try clear hx24016_0
                      try clear hx24026_0
                      try clear hx24027_0
                      try clear p2
                      try clear p24
                      try clear p24013
                      try clear p24014
                      try clear p24016
                      try clear p24026
                      try clear p24027
                      try clear p6
                      try clear q2
                      try clear q24
                      try clear q24013
                      try clear q24014
                      try clear q24016
                      try clear q24026
                      try clear q24027
                      obtain ⟨x7_2, rfl, HA, HK2, HO_24026002, BK24025, HB⟩ := hrel
                      cases gk with
                      | zero => exact absurd HA.out (by simp [columbariumlaw10_TicksBuild.l1001])
                      | succ k2 =>
                        have H := HA.out
                        clear HA
                        simp only [columbariumlaw10_TicksBuild.l1001] at H
                        by_cases c74 : x7_2 < (t24021.length : Int)
                        · rw [if_pos c74] at H
                          have c74b0 : decide (x7_2 < (t24021.length : Int)) = true := decide_eq_true c74
                          clear c74
                          by_cases c75 : 0 ≤ x7_2
                          · rw [if_pos c75] at H
                            have c75b0 : decide (0 ≤ x7_2) = true := decide_eq_true c75
                            clear c75
                            obtain ⟨ji76, hji76⟩ : ∃ j_ : Int, (wrap64 (4 * x7_2)) = j_ := ⟨_, rfl⟩
                            replace H : (if 0 ≤ (ji76) then (if (ji76) < (l0.length : Int) then (if (rd t24021 x7_2) = (rd l0 (ji76)) then (columbariumlaw10_TicksBuild.l1001 k2 l0 (wrap64 (x7_2 + 1)) t24019 t24020 t24021) else (some false)) else (none)) else (none)) = some r := by first | (rw [hji76] at H; exact H) | (simp only [hji76] at H ⊢; exact H)
                            have hji76w : (IntKind.i64.wrap (4 * x7_2)) = ji76 := (i64_w _).trans hji76
                            (try ((have hji76v : (4 * x7_2) = ji76 := by ((have h_ := hji76); ((try simp only [decide_eq_true_eq] at *) <;> (unfold wrap64 at h_; omega)))); (have hji76l : 0 ≤ ji76 := by ((have h_ := hji76); ((try simp only [decide_eq_true_eq] at *) <;> (unfold wrap64 at h_; omega)))); (have hji76u : ji76 ≤ 64 := by ((have h_ := hji76); ((try simp only [decide_eq_true_eq] at *) <;> (unfold wrap64 at h_; omega))))))
                            by_cases c77 : 0 ≤ (ji76)
                            · rw [if_pos c77] at H
                              have c77b0 : decide (0 ≤ (ji76)) = true := decide_eq_true c77
                              clear c77
                              by_cases c78 : (ji76) < (l0.length : Int)
                              · rw [if_pos c78] at H
                                have c78b0 : decide ((ji76) < (l0.length : Int)) = true := decide_eq_true c78
                                clear c78
                                by_cases c79 : (rd t24021 x7_2) = (rd l0 (ji76))
                                · rw [if_pos c79] at H
                                  have c79b0 : ((rd t24021 x7_2) == (rd l0 (ji76))) = true := beq_iff_eq.mpr c79
                                  have c79b1 : ((rd t24021 x7_2) != (rd l0 (ji76))) = false := bne_eq_false_iff_eq.mpr c79
                                  clear c79
                                  have H' := Aside0.mk H
                                  clear H
                                  have hcz80_0 : wr.cell? ⟨gb24025, 0, none⟩ = some (.int .i64 t24019) := (blk_cell BK24025.out 0).trans rfl
                                  have hcz80_1 : wr.cell? ⟨gb24025, 1, none⟩ = some (.int .i64 t24020) := (blk_cell BK24025.out 1).trans rfl
                                  have hcz80_2 : wr.cell? ⟨gb24025, 2, none⟩ = some (.slice Ao57 t24021.length co57) := (blk_cell BK24025.out 2).trans rfl
                                  have hfz80_0 := blk_frozen BK24025.out 0
                                  have hfz80_1 := blk_frozen BK24025.out 1
                                  have hfz80_2 := blk_frozen BK24025.out 2
                                  try go_wp2
                                  have n0_ := Aside0.mk (Kd.R_drew HO_24026002.out)
                                  have n1_ := Aside0.mk (blk_drew BK24025.out)
                                  have n2_ := Aside0.mk (below_drew1 HB.out)
                                  clear HO_24026002
                                  clear BK24025
                                  clear HB
                                  have HO_24026002 := n0_
                                  have BK24025 := n1_
                                  have HB := n2_
                                  clear n0_ n1_ n2_
                                  have p24029 : 0 ≤ (x7_2 : Int) := of_decide_eq_true (by first | (with_reducible assumption) | assumption)
                                  have q24029 : x7_2 < (t24021.length : Int) := of_decide_eq_true (by first | (with_reducible assumption) | assumption)
                                  obtain ⟨ad24029, e24029, hx24029_0⟩ := Kd.at_int (Kd.R_reads' HO_24026002.out).2.2 x7_2 p24029 q24029
                                  cases e24029
                                  replace p24029 := eq_true p24029
                                  replace q24029 := eq_true q24029
                                  have p24030 : 0 ≤ ((ji76) : Int) := of_decide_eq_true (by first | (with_reducible assumption) | assumption)
                                  have q24030 : (ji76) < (l0.length : Int) := of_decide_eq_true (by first | (with_reducible assumption) | assumption)
                                  obtain ⟨ad24030, e24030, hx24030_0⟩ := Kd.at_int HR0.out (ji76) p24030 q24030
                                  have hw24030_0 := hx24030_0
                                  cases e24030
                                  replace hx24030_0 := (HB.out.cell (World.block_lt_of_cell? w _ hx24030_0)).trans hx24030_0
                                  replace p24030 := eq_true p24030
                                  replace q24030 := eq_true q24030
                                  refine start_ (n := 11) (S := fun w' => w'.cell? ⟨gb24025, 0, none⟩ = some (.int .i64 t24019) ∧ w'.cell? ⟨gb24025, 1, none⟩ = some (.int .i64 t24020) ∧ w'.cell? ⟨gb24025, 2, none⟩ = some (.slice (some ad24029) t24021.length co57) ∧ w'.cell? (ad24029.add (x7_2).toNat) = some (.int .i64 (rd t24021 x7_2)) ∧ w'.cell? (ad24030.add ((ji76)).toNat) = some (.int .i64 (rd l0 (ji76)))) (ds := []) #[false, false, false, false, false, false, false, false, false, false, false] (by kernel_rfl) rfl rfl ⟨(blk_cell BK24025.out 0).trans rfl, (blk_cell BK24025.out 1).trans rfl, (blk_cell BK24025.out 2).trans rfl, hx24029_0, ((HB.out.cell (World.block_lt_of_cell? w _ hw24030_0)).trans hw24030_0)⟩ (fun hHeld => ?_); refine with_tabW columbariumlaw10_TicksBuild.tab16 columbariumlaw10_TicksBuild.bits16 (fun HT_ HW_ => ?_)
                                  generalize wr.drew = w81 at HO_24026002 BK24025 HB hx24029_0 hx24030_0 hHeld ⊢
                                  refine pure_ (i := 0) (N := some 86) (v := ?_) (a' := ?_) #[true, false, false, false, false, false, false, false, false, false, false] rfl rfl (any_of HT_.out (by kernel_rfl)) (fun _ _ _ h => h) (Or.inl ⟨by rfl, ?_⟩) ?_ ?_
                                  rotate_left
                                  · intro w'
                                    go_simp
                                    with_reducible rfl
                                  rotate_left
                                  · simp only [Act.put, List.setIfInBounds_toArray, List.set_cons_zero, List.set_cons_succ, i64_w, i32_w]
                                    rfl
                                  refine pure_ (i := 2) (N := some 88) (v := ?_) (a' := ?_) #[true, false, true, false, false, false, false, false, false, false, false] rfl rfl (any_of HT_.out (by kernel_rfl)) (fun _ _ _ h => h) (Or.inl ⟨by rfl, ?_⟩) ?_ ?_
                                  rotate_left
                                  · intro w'
                                    go_simp
                                    with_reducible rfl
                                  rotate_left
                                  · simp only [Act.put, List.setIfInBounds_toArray, List.set_cons_zero, List.set_cons_succ, i64_w, i32_w]
                                    rfl
                                  refine pure_ (i := 5) (N := some 91) (v := ?_) (a' := ?_) #[true, false, true, false, false, true, false, false, false, false, false] rfl rfl (any_of HT_.out (by kernel_rfl)) (fun _ _ _ h => h) (Or.inl ⟨by rfl, ?_⟩) ?_ ?_
                                  rotate_left
                                  · intro w'
                                    go_simp
                                    with_reducible rfl
                                  rotate_left
                                  · simp only [Act.put, List.setIfInBounds_toArray, List.set_cons_zero, List.set_cons_succ, i64_w, i32_w]
                                    rfl
                                  refine pure_ (i := 6) (N := some 92) (v := ?_) (a' := ?_) #[true, false, true, false, false, true, true, false, false, false, false] rfl rfl (any_of HT_.out (by kernel_rfl)) (fun _ _ _ h => h) (Or.inl ⟨by rfl, ?_⟩) ?_ ?_
                                  rotate_left
                                  · intro w'
                                    go_simp
                                    with_reducible rfl
                                  rotate_left
                                  · simp only [Act.put, List.setIfInBounds_toArray, List.set_cons_zero, List.set_cons_succ, i64_w, i32_w]
                                    rfl
                                  refine pure_ (i := 7) (N := some 93) (v := ?_) (a' := ?_) #[true, false, true, false, false, true, true, true, false, false, false] rfl rfl (any_of HT_.out (by kernel_rfl)) (fun _ _ _ h => h) (Or.inl ⟨by rfl, ?_⟩) ?_ ?_
                                  rotate_left
                                  · intro w'
                                    go_simp
                                    with_reducible rfl
                                  rotate_left
                                  · simp only [Act.put, List.setIfInBounds_toArray, List.set_cons_zero, List.set_cons_succ, i64_w, i32_w]
                                    rfl
                                  refine pure_ (i := 8) (N := some 94) (v := ?_) (a' := ?_) #[true, false, true, false, false, true, true, true, true, false, false] rfl rfl (any_of HT_.out (by kernel_rfl)) (fun _ _ _ h => h) (Or.inl ⟨by rfl, ?_⟩) ?_ ?_
                                  rotate_left
                                  · intro w'
                                    go_simp
                                    with_reducible rfl
                                  rotate_left
                                  · simp only [Act.put, List.setIfInBounds_toArray, List.set_cons_zero, List.set_cons_succ, i64_w, i32_w]
                                    rfl
                                  refine take_ (i := 1) (N := some 87) (v := ?_) (a' := ?_) #[true, true, true, false, false, true, true, true, true, false, false] rfl rfl (take_ofW HT_.out HW_.out (by kernel_rfl)) (fun _ _ _ h => h) (Or.inl ⟨by rfl, ?_⟩) hHeld ?_ ?_
                                  rotate_left
                                  · rintro w' ⟨s0, s1, s2, s3, s4⟩
                                    go_simp
                                    with_reducible rfl
                                  rotate_left
                                  · simp only [Act.put, List.setIfInBounds_toArray, List.set_cons_zero, List.set_cons_succ, i64_w, i32_w]
                                    rfl
                                  refine pure_ (i := 3) (N := some 89) (v := ?_) (a' := ?_) #[true, true, true, true, false, true, true, true, true, false, false] rfl rfl (any_of HT_.out (by kernel_rfl)) (fun _ _ _ h => h) (Or.inl ⟨by rfl, ?_⟩) ?_ ?_
                                  rotate_left
                                  · intro w'
                                    go_simp
                                    with_reducible rfl
                                  rotate_left
                                  · simp only [Act.put, List.setIfInBounds_toArray, List.set_cons_zero, List.set_cons_succ, i64_w, i32_w]
                                    rfl
                                  refine take_ (i := 4) (N := some 90) (v := ?_) (a' := ?_) #[true, true, true, true, true, true, true, true, true, false, false] rfl rfl (take_ofW HT_.out HW_.out (by kernel_rfl)) (fun _ _ _ h => h) (Or.inl ⟨by rfl, ?_⟩) hHeld ?_ ?_
                                  rotate_left
                                  · rintro w' ⟨s0, s1, s2, s3, s4⟩
                                    go_simp
                                    with_reducible rfl
                                  rotate_left
                                  · simp only [Act.put, List.setIfInBounds_toArray, List.set_cons_zero, List.set_cons_succ, i64_w, i32_w]
                                    rfl
                                  refine take_ (i := 9) (N := some 95) (v := ?_) (a' := ?_) #[true, true, true, true, true, true, true, true, true, true, false] rfl rfl (take_ofW HT_.out HW_.out (by kernel_rfl)) (fun _ _ _ h => h) (Or.inl ⟨by rfl, ?_⟩) hHeld ?_ ?_
                                  rotate_left
                                  · rintro w' ⟨s0, s1, s2, s3, s4⟩
                                    go_simp
                                    with_reducible rfl
                                  rotate_left
                                  · simp only [Act.put, List.setIfInBounds_toArray, List.set_cons_zero, List.set_cons_succ, i64_w, i32_w]
                                    rfl
                                  refine pure_ (i := 10) (N := some 96) (v := ?_) (a' := ?_) #[true, true, true, true, true, true, true, true, true, true, true] rfl rfl (any_of HT_.out (by kernel_rfl)) (fun _ _ _ h => h) (Or.inl ⟨by rfl, ?_⟩) ?_ ?_
                                  rotate_left
                                  · intro w'
                                    go_simp
                                    with_reducible rfl
                                  rotate_left
                                  · simp only [Act.put, List.setIfInBounds_toArray, List.set_cons_zero, List.set_cons_succ, i64_w, i32_w]
                                    rfl
                                  refine done_ (done_of HT_.out (by kernel_rfl)) ?_
                                  try go_wp2
                                  go_roundg k2
                                  case measure => have := HK1.out; have := HK2.out; omega
                                  case rel => exact ⟨(wrap64 (x7_2 + 1)), (by first | rfl | (simp; done) | (simp [*]; done) | (refine congrArg (Value.int .i64) ?_; (try simp only [decide_eq_true_eq, decide_eq_false_iff_not] at *) <;> (unfold wrap64; omega))), H', ⟨by have := HK1.out; have := HK2.out; omega⟩, ⟨by (with_reducible repeat (first | apply Kd.R_alloc | apply Kd.R_drewN | apply Kd.R_drew)); exact HO_24026002.out⟩, ⟨by (with_reducible repeat (first | refine blk_drewN ?_ _ | refine blk_drew ?_ | refine blk_alloc ?_ _)); exact BK24025.out⟩, ⟨by repeat (first | (with_reducible first | exact HB.out | apply below_alloc | apply pw_below_drewN | apply below_drew1 | refine below_set ?_ GE24025.out) | exact HB.out)⟩⟩
                                · rw [if_neg c79] at H
                                  have c79b0 : ((rd t24021 x7_2) == (rd l0 (ji76))) = false := beq_eq_false_iff_ne.mpr c79
                                  have c79b1 : ((rd t24021 x7_2) != (rd l0 (ji76))) = true := bne_iff_ne.mpr c79
                                  exact absurd ((Option.some.inj H).trans hr_.out) (by decide)
                              · rw [if_neg c78] at H
                                exact absurd H (by simp)
                            · rw [if_neg c77] at H
                              exact absurd H (by simp)
                          · rw [if_neg c75] at H
                            exact absurd H (by simp)
                        · rw [if_neg c74] at H
                          have c74b0 : decide (x7_2 < (t24021.length : Int)) = false := decide_eq_false c74
                          clear c74
                          by_cases c82 : (l0.length : Int) = 0
                          · rw [if_pos c82] at H
                            have c82b0 : ((l0.length : Int) == 0) = true := beq_iff_eq.mpr c82
                            have c82b1 : ((l0.length : Int) != 0) = false := bne_eq_false_iff_eq.mpr c82
                            clear c82
                            replace H := Option.bind_eq_some_iff.mp H
                            obtain ⟨t24031, A830, H⟩ := H
                            replace H : (some t24031) = some r := H
                            have A83 := Aside0.mk A830
                            clear A830
                            obtain rfl := Option.some.inj H
                            have hcz84_0 : wr.cell? ⟨gb24025, 0, none⟩ = some (.int .i64 t24019) := (blk_cell BK24025.out 0).trans rfl
                            have hcz84_1 : wr.cell? ⟨gb24025, 1, none⟩ = some (.int .i64 t24020) := (blk_cell BK24025.out 1).trans rfl
                            have hcz84_2 : wr.cell? ⟨gb24025, 2, none⟩ = some (.slice Ao57 t24021.length co57) := (blk_cell BK24025.out 2).trans rfl
                            have hfz84_0 := blk_frozen BK24025.out 0
                            have hfz84_1 := blk_frozen BK24025.out 1
                            have hfz84_2 := blk_frozen BK24025.out 2
                            try go_wp2
                            have n0_ := Aside0.mk (Kd.R_drew HO_24026002.out)
                            have n1_ := Aside0.mk (blk_drew BK24025.out)
                            have n2_ := Aside0.mk (below_drew1 HB.out)
                            clear HO_24026002
                            clear BK24025
                            clear HB
                            have HO_24026002 := n0_
                            have BK24025 := n1_
                            have HB := n2_
                            clear n0_ n1_ n2_
                            refine start_ (n := 18) (S := fun w' => True) (ds := []) #[false, false, false, false, false, false, false, false, false, false, false, false, false, false, false, false, false, false] (by kernel_rfl) rfl rfl trivial (fun hHeld => ?_); refine with_tabW columbariumlaw10_TicksBuild.tab18 columbariumlaw10_TicksBuild.bits18 (fun HT_ HW_ => ?_)
                            generalize wr.drew = w85 at HO_24026002 BK24025 HB hHeld ⊢
                            refine pure_ (i := 0) (N := some 97) (v := ?_) (a' := ?_) #[true, false, false, false, false, false, false, false, false, false, false, false, false, false, false, false, false, false] rfl rfl (any_of HT_.out (by kernel_rfl)) (fun _ _ _ h => h) (Or.inl ⟨by rfl, ?_⟩) ?_ ?_
                            rotate_left
                            · intro w'
                              go_simp
                              with_reducible rfl
                            rotate_left
                            · simp only [Act.put, List.setIfInBounds_toArray, List.set_cons_zero, List.set_cons_succ, i64_w, i32_w]
                              rfl
                            refine pure_ (i := 1) (N := some 98) (v := ?_) (a' := ?_) #[true, true, false, false, false, false, false, false, false, false, false, false, false, false, false, false, false, false] rfl rfl (any_of HT_.out (by kernel_rfl)) (fun _ _ _ h => h) (Or.inl ⟨by rfl, ?_⟩) ?_ ?_
                            rotate_left
                            · intro w'
                              go_simp
                              with_reducible rfl
                            rotate_left
                            · simp only [Act.put, List.setIfInBounds_toArray, List.set_cons_zero, List.set_cons_succ, i64_w, i32_w]
                              rfl
                            refine pure_ (i := 2) (N := some 99) (v := ?_) (a' := ?_) #[true, true, true, false, false, false, false, false, false, false, false, false, false, false, false, false, false, false] rfl rfl (any_of HT_.out (by kernel_rfl)) (fun _ _ _ h => h) (Or.inl ⟨by rfl, ?_⟩) ?_ ?_
                            rotate_left
                            · intro w'
                              go_simp
                              with_reducible rfl
                            rotate_left
                            · simp only [Act.put, List.setIfInBounds_toArray, List.set_cons_zero, List.set_cons_succ, i64_w, i32_w]
                              rfl
                            refine pure_ (i := 3) (N := some 100) (v := ?_) (a' := ?_) #[true, true, true, true, false, false, false, false, false, false, false, false, false, false, false, false, false, false] rfl rfl (any_of HT_.out (by kernel_rfl)) (fun _ _ _ h => h) (Or.inl ⟨by rfl, ?_⟩) ?_ ?_
                            rotate_left
                            · intro w'
                              go_simp
                              with_reducible rfl
                            rotate_left
                            · simp only [Act.put, List.setIfInBounds_toArray, List.set_cons_zero, List.set_cons_succ, i64_w, i32_w]
                              rfl
                            refine pure_ (i := 4) (N := some 101) (v := undef) (a' := ?_) #[true, true, true, true, true, false, false, false, false, false, false, false, false, false, false, false, false, false] rfl rfl (any_of HT_.out (by kernel_rfl)) (fun _ _ _ h => h) (Or.inr ⟨by rfl, rfl⟩) ?_ ?_
                            rotate_left
                            · simp only [Act.put, List.setIfInBounds_toArray, List.set_cons_zero, List.set_cons_succ, i64_w, i32_w]
                              rfl
                            refine pure_ (i := 5) (N := some 102) (v := undef) (a' := ?_) #[true, true, true, true, true, true, false, false, false, false, false, false, false, false, false, false, false, false] rfl rfl (any_of HT_.out (by kernel_rfl)) (fun _ _ _ h => h) (Or.inr ⟨by rfl, rfl⟩) ?_ ?_
                            rotate_left
                            · simp only [Act.put, List.setIfInBounds_toArray, List.set_cons_zero, List.set_cons_succ, i64_w, i32_w]
                              rfl
                            refine pure_ (i := 6) (N := some 103) (v := undef) (a' := ?_) #[true, true, true, true, true, true, true, false, false, false, false, false, false, false, false, false, false, false] rfl rfl (any_of HT_.out (by kernel_rfl)) (fun _ _ _ h => h) (Or.inr ⟨by rfl, rfl⟩) ?_ ?_
                            rotate_left
                            · simp only [Act.put, List.setIfInBounds_toArray, List.set_cons_zero, List.set_cons_succ, i64_w, i32_w]
                              rfl
                            refine pure_ (i := 7) (N := some 104) (v := undef) (a' := ?_) #[true, true, true, true, true, true, true, true, false, false, false, false, false, false, false, false, false, false] rfl rfl (any_of HT_.out (by kernel_rfl)) (fun _ _ _ h => h) (Or.inr ⟨by rfl, rfl⟩) ?_ ?_
                            rotate_left
                            · simp only [Act.put, List.setIfInBounds_toArray, List.set_cons_zero, List.set_cons_succ, i64_w, i32_w]
                              rfl
                            refine pure_ (i := 8) (N := some 105) (v := undef) (a' := ?_) #[true, true, true, true, true, true, true, true, true, false, false, false, false, false, false, false, false, false] rfl rfl (any_of HT_.out (by kernel_rfl)) (fun _ _ _ h => h) (Or.inr ⟨by rfl, rfl⟩) ?_ ?_
                            rotate_left
                            · simp only [Act.put, List.setIfInBounds_toArray, List.set_cons_zero, List.set_cons_succ, i64_w, i32_w]
                              rfl
                            refine pure_ (i := 9) (N := some 106) (v := undef) (a' := ?_) #[true, true, true, true, true, true, true, true, true, true, false, false, false, false, false, false, false, false] rfl rfl (any_of HT_.out (by kernel_rfl)) (fun _ _ _ h => h) (Or.inr ⟨by rfl, rfl⟩) ?_ ?_
                            rotate_left
                            · simp only [Act.put, List.setIfInBounds_toArray, List.set_cons_zero, List.set_cons_succ, i64_w, i32_w]
                              rfl
                            refine pure_ (i := 10) (N := some 107) (v := undef) (a' := ?_) #[true, true, true, true, true, true, true, true, true, true, true, false, false, false, false, false, false, false] rfl rfl (any_of HT_.out (by kernel_rfl)) (fun _ _ _ h => h) (Or.inr ⟨by rfl, rfl⟩) ?_ ?_
                            rotate_left
                            · simp only [Act.put, List.setIfInBounds_toArray, List.set_cons_zero, List.set_cons_succ, i64_w, i32_w]
                              rfl
                            refine pure_ (i := 11) (N := some 108) (v := undef) (a' := ?_) #[true, true, true, true, true, true, true, true, true, true, true, true, false, false, false, false, false, false] rfl rfl (any_of HT_.out (by kernel_rfl)) (fun _ _ _ h => h) (Or.inr ⟨by rfl, rfl⟩) ?_ ?_
                            rotate_left
                            · simp only [Act.put, List.setIfInBounds_toArray, List.set_cons_zero, List.set_cons_succ, i64_w, i32_w]
                              rfl
                            refine pure_ (i := 12) (N := some 109) (v := undef) (a' := ?_) #[true, true, true, true, true, true, true, true, true, true, true, true, true, false, false, false, false, false] rfl rfl (any_of HT_.out (by kernel_rfl)) (fun _ _ _ h => h) (Or.inr ⟨by rfl, rfl⟩) ?_ ?_
                            rotate_left
                            · simp only [Act.put, List.setIfInBounds_toArray, List.set_cons_zero, List.set_cons_succ, i64_w, i32_w]
                              rfl
                            refine pure_ (i := 13) (N := some 110) (v := ?_) (a' := ?_) #[true, true, true, true, true, true, true, true, true, true, true, true, true, true, false, false, false, false] rfl rfl (any_of HT_.out (by kernel_rfl)) (fun _ _ _ h => h) (Or.inl ⟨by rfl, ?_⟩) ?_ ?_
                            rotate_left
                            · intro w'
                              go_simp
                              with_reducible rfl
                            rotate_left
                            · simp only [Act.put, List.setIfInBounds_toArray, List.set_cons_zero, List.set_cons_succ, i64_w, i32_w]
                              rfl
                            refine pure_ (i := 14) (N := some 111) (v := ?_) (a' := ?_) #[true, true, true, true, true, true, true, true, true, true, true, true, true, true, true, false, false, false] rfl rfl (any_of HT_.out (by kernel_rfl)) (fun _ _ _ h => h) (Or.inl ⟨by rfl, ?_⟩) ?_ ?_
                            rotate_left
                            · intro w'
                              go_simp
                              with_reducible rfl
                            rotate_left
                            · simp only [Act.put, List.setIfInBounds_toArray, List.set_cons_zero, List.set_cons_succ, i64_w, i32_w]
                              rfl
                            refine one_ (i := 15) (N := some 112) #[true, true, true, true, true, true, true, true, true, true, true, true, true, true, true, true, false, false] rfl rfl (one_of HT_.out (by kernel_rfl)) (by decide) (fun K hK => ?_)
                            refine goes_ Try.func33 (by kernel_rfl) rfl #[] (by rfl) rfl rfl (by (try simp only [List.map_toArray, List.map_cons, List.map_nil]); first | done | rfl | (simp only [List.length_drop, List.length_take]; rfl)) ?_
                            with_reducible refine (columbariumlaw10_known.calls k2  t24031 _ A83.out).mono ?_
                            rintro e w86 ⟨rfl, hb⟩
                            refine ⟨_, rfl, ?_⟩
                            have n0_ := Aside0.mk (Kd.R_below (by (with_reducible repeat (first | apply Kd.R_alloc | apply Kd.R_drewN | apply Kd.R_drew)); exact HO_24026002.out) hb)
                            have n1_ := Aside0.mk (blk_below (g := gb24025) (o := .cells #[.int .i64 t24019, .int .i64 t24020, .slice Ao57 t24021.length co57] 61 (0, 0)) (by (with_reducible repeat (first | refine blk_drewN ?_ _ | refine blk_drew ?_ | refine blk_alloc ?_ _)); exact BK24025.out) hb)
                            have n2_ := Aside0.mk (below_step (by repeat (first | (with_reducible first | exact HB.out | apply below_alloc | apply pw_below_drewN | apply below_drew1 | refine below_set ?_ GE24025.out) | exact HB.out)) hb)
                            clear HO_24026002
                            clear BK24025
                            clear HB
                            have HO_24026002 := n0_
                            have BK24025 := n1_
                            have HB := n2_
                            clear n0_ n1_ n2_
                            (try clear hb)
                            (try clear hb2)
                            (try clear hk)
                            (try clear hi)
                            refine hK.out _ _ trivial (fun hHeld => ?_)
                            clear hK K
                            refine norm_ (a' := ?_) ?_ ?_
                            rotate_left
                            · show Act.put _ (some 112) _ = _
                              simp only [Act.put, List.setIfInBounds_toArray, List.set_cons_zero, List.set_cons_succ, i64_w, i32_w]
                              rfl
                            refine pure_ (i := 16) (N := some 113) (v := ?_) (a' := ?_) #[true, true, true, true, true, true, true, true, true, true, true, true, true, true, true, true, true, false] rfl rfl (any_of HT_.out (by kernel_rfl)) (fun _ _ _ h => h) (Or.inl ⟨by rfl, ?_⟩) ?_ ?_
                            rotate_left
                            · intro w'
                              go_simp
                              with_reducible rfl
                            rotate_left
                            · simp only [Act.put, List.setIfInBounds_toArray, List.set_cons_zero, List.set_cons_succ, i64_w, i32_w]
                              rfl
                            refine pure_ (i := 17) (N := some 2) (v := ?_) (a' := ?_) #[true, true, true, true, true, true, true, true, true, true, true, true, true, true, true, true, true, true] rfl rfl (any_of HT_.out (by kernel_rfl)) (fun _ _ _ h => h) (Or.inl ⟨by rfl, ?_⟩) ?_ ?_
                            rotate_left
                            · intro w'
                              go_simp
                              with_reducible rfl
                            rotate_left
                            · simp only [Act.put, List.setIfInBounds_toArray, List.set_cons_zero, List.set_cons_succ, i64_w, i32_w]
                              rfl
                            refine done_ (done_of HT_.out (by kernel_rfl)) ?_
                            try go_wp2
                            go_ret
                            exact ⟨by first | rfl | (simp [errW_none, errW_some] <;> rfl) | (simp [*, errW_none, errW_some] <;> rfl), by repeat (first | (with_reducible first | exact HB.out | apply below_alloc | apply pw_below_drewN | apply below_drew1 | refine below_set ?_ GE24025.out) | exact HB.out)⟩
                          · rw [if_neg c82] at H
                            have c82b0 : ((l0.length : Int) == 0) = false := beq_eq_false_iff_ne.mpr c82
                            have c82b1 : ((l0.length : Int) != 0) = true := bne_iff_ne.mpr c82
                            have c82b2 : ¬ (l0 = []) := fun h_ => c82 (by rw [h_]; rfl)
                            obtain ⟨ji87, hji87⟩ : ∃ j_ : Int, (wrap64 ((l0.length : Int) - 1)) = j_ := ⟨_, rfl⟩
                            replace H : (if 0 ≤ (ji87) then (if (ji87) < (l0.length : Int) then (if t24020 = (rd l0 (ji87)) then ((columbariumlaw10_known.f k2).bind fun t24033 => (some t24033)) else (some false)) else (none)) else (none)) = some r := by first | (rw [hji87] at H; exact H) | (simp only [hji87] at H ⊢; exact H)
                            have hji87w : (IntKind.i64.wrap ((l0.length : Int) - 1)) = ji87 := (i64_w _).trans hji87
                            (try ((have hji87v : ((l0.length : Int) - 1) = ji87 := by ((have h_ := hji87); ((try simp only [decide_eq_true_eq] at *) <;> (unfold wrap64 at h_; omega)))); (have hji87l : 0 ≤ ji87 := by ((have h_ := hji87); ((try simp only [decide_eq_true_eq] at *) <;> (unfold wrap64 at h_; omega)))); (have hji87u : ji87 ≤ 64 := by ((have h_ := hji87); ((try simp only [decide_eq_true_eq] at *) <;> (unfold wrap64 at h_; omega))))))
                            by_cases c88 : 0 ≤ (ji87)
                            · rw [if_pos c88] at H
                              have c88b0 : decide (0 ≤ (ji87)) = true := decide_eq_true c88
                              clear c88
                              by_cases c89 : (ji87) < (l0.length : Int)
                              · rw [if_pos c89] at H
                                have c89b0 : decide ((ji87) < (l0.length : Int)) = true := decide_eq_true c89
                                clear c89
                                by_cases c90 : t24020 = (rd l0 (ji87))
                                · rw [if_pos c90] at H
                                  have c90b0 : (t24020 == (rd l0 (ji87))) = true := beq_iff_eq.mpr c90
                                  have c90b1 : (t24020 != (rd l0 (ji87))) = false := bne_eq_false_iff_eq.mpr c90
                                  clear c90
                                  replace H := Option.bind_eq_some_iff.mp H
                                  obtain ⟨t24033, A910, H⟩ := H
                                  replace H : (some t24033) = some r := H
                                  have A91 := Aside0.mk A910
                                  clear A910
                                  obtain rfl := Option.some.inj H
                                  have hcz92_0 : wr.cell? ⟨gb24025, 0, none⟩ = some (.int .i64 t24019) := (blk_cell BK24025.out 0).trans rfl
                                  have hcz92_1 : wr.cell? ⟨gb24025, 1, none⟩ = some (.int .i64 t24020) := (blk_cell BK24025.out 1).trans rfl
                                  have hcz92_2 : wr.cell? ⟨gb24025, 2, none⟩ = some (.slice Ao57 t24021.length co57) := (blk_cell BK24025.out 2).trans rfl
                                  have hfz92_0 := blk_frozen BK24025.out 0
                                  have hfz92_1 := blk_frozen BK24025.out 1
                                  have hfz92_2 := blk_frozen BK24025.out 2
                                  try go_wp2
                                  have n0_ := Aside0.mk (Kd.R_drew HO_24026002.out)
                                  have n1_ := Aside0.mk (blk_drew BK24025.out)
                                  have n2_ := Aside0.mk (below_drew1 HB.out)
                                  clear HO_24026002
                                  clear BK24025
                                  clear HB
                                  have HO_24026002 := n0_
                                  have BK24025 := n1_
                                  have HB := n2_
                                  clear n0_ n1_ n2_
                                  have p24032 : 0 ≤ ((ji87) : Int) := of_decide_eq_true (by first | (with_reducible assumption) | assumption)
                                  have q24032 : (ji87) < (l0.length : Int) := of_decide_eq_true (by first | (with_reducible assumption) | assumption)
                                  obtain ⟨ad24032, e24032, hx24032_0⟩ := Kd.at_int HR0.out (ji87) p24032 q24032
                                  have hw24032_0 := hx24032_0
                                  cases e24032
                                  replace hx24032_0 := (HB.out.cell (World.block_lt_of_cell? w _ hx24032_0)).trans hx24032_0
                                  replace p24032 := eq_true p24032
                                  replace q24032 := eq_true q24032
                                  refine start_ (n := 18) (S := fun w' => w'.cell? ⟨gb24025, 0, none⟩ = some (.int .i64 t24019) ∧ w'.cell? ⟨gb24025, 1, none⟩ = some (.int .i64 t24020) ∧ w'.cell? ⟨gb24025, 2, none⟩ = some (.slice Ao57 t24021.length co57) ∧ w'.cell? (ad24032.add ((ji87)).toNat) = some (.int .i64 (rd l0 (ji87)))) (ds := []) #[false, false, false, false, false, false, false, false, false, false, false, false, false, false, false, false, false, false] (by kernel_rfl) rfl rfl ⟨(blk_cell BK24025.out 0).trans rfl, (blk_cell BK24025.out 1).trans rfl, (blk_cell BK24025.out 2).trans rfl, ((HB.out.cell (World.block_lt_of_cell? w _ hw24032_0)).trans hw24032_0)⟩ (fun hHeld => ?_); refine with_tabW columbariumlaw10_TicksBuild.tab18 columbariumlaw10_TicksBuild.bits18 (fun HT_ HW_ => ?_)
                                  generalize wr.drew = w93 at HO_24026002 BK24025 HB hx24032_0 hHeld ⊢
                                  refine pure_ (i := 0) (N := some 97) (v := ?_) (a' := ?_) #[true, false, false, false, false, false, false, false, false, false, false, false, false, false, false, false, false, false] rfl rfl (any_of HT_.out (by kernel_rfl)) (fun _ _ _ h => h) (Or.inl ⟨by rfl, ?_⟩) ?_ ?_
                                  rotate_left
                                  · intro w'
                                    go_simp
                                    with_reducible rfl
                                  rotate_left
                                  · simp only [Act.put, List.setIfInBounds_toArray, List.set_cons_zero, List.set_cons_succ, i64_w, i32_w]
                                    rfl
                                  refine pure_ (i := 1) (N := some 98) (v := ?_) (a' := ?_) #[true, true, false, false, false, false, false, false, false, false, false, false, false, false, false, false, false, false] rfl rfl (any_of HT_.out (by kernel_rfl)) (fun _ _ _ h => h) (Or.inl ⟨by rfl, ?_⟩) ?_ ?_
                                  rotate_left
                                  · intro w'
                                    go_simp
                                    with_reducible rfl
                                  rotate_left
                                  · simp only [Act.put, List.setIfInBounds_toArray, List.set_cons_zero, List.set_cons_succ, i64_w, i32_w]
                                    rfl
                                  refine pure_ (i := 2) (N := some 99) (v := ?_) (a' := ?_) #[true, true, true, false, false, false, false, false, false, false, false, false, false, false, false, false, false, false] rfl rfl (any_of HT_.out (by kernel_rfl)) (fun _ _ _ h => h) (Or.inl ⟨by rfl, ?_⟩) ?_ ?_
                                  rotate_left
                                  · intro w'
                                    go_simp
                                    with_reducible rfl
                                  rotate_left
                                  · simp only [Act.put, List.setIfInBounds_toArray, List.set_cons_zero, List.set_cons_succ, i64_w, i32_w]
                                    rfl
                                  refine pure_ (i := 3) (N := some 100) (v := ?_) (a' := ?_) #[true, true, true, true, false, false, false, false, false, false, false, false, false, false, false, false, false, false] rfl rfl (any_of HT_.out (by kernel_rfl)) (fun _ _ _ h => h) (Or.inl ⟨by rfl, ?_⟩) ?_ ?_
                                  rotate_left
                                  · intro w'
                                    go_simp
                                    with_reducible rfl
                                  rotate_left
                                  · simp only [Act.put, List.setIfInBounds_toArray, List.set_cons_zero, List.set_cons_succ, i64_w, i32_w]
                                    rfl
                                  refine pure_ (i := 4) (N := some 101) (v := ?_) (a' := ?_) #[true, true, true, true, true, false, false, false, false, false, false, false, false, false, false, false, false, false] rfl rfl (any_of HT_.out (by kernel_rfl)) (fun _ _ _ h => h) (Or.inl ⟨by rfl, ?_⟩) ?_ ?_
                                  rotate_left
                                  · intro w'
                                    go_simp
                                    with_reducible rfl
                                  rotate_left
                                  · simp only [Act.put, List.setIfInBounds_toArray, List.set_cons_zero, List.set_cons_succ, i64_w, i32_w]
                                    rfl
                                  refine pure_ (i := 6) (N := some 103) (v := ?_) (a' := ?_) #[true, true, true, true, true, false, true, false, false, false, false, false, false, false, false, false, false, false] rfl rfl (any_of HT_.out (by kernel_rfl)) (fun _ _ _ h => h) (Or.inl ⟨by rfl, ?_⟩) ?_ ?_
                                  rotate_left
                                  · intro w'
                                    go_simp
                                    with_reducible rfl
                                  rotate_left
                                  · simp only [Act.put, List.setIfInBounds_toArray, List.set_cons_zero, List.set_cons_succ, i64_w, i32_w]
                                    rfl
                                  refine pure_ (i := 7) (N := some 104) (v := ?_) (a' := ?_) #[true, true, true, true, true, false, true, true, false, false, false, false, false, false, false, false, false, false] rfl rfl (any_of HT_.out (by kernel_rfl)) (fun _ _ _ h => h) (Or.inl ⟨by rfl, ?_⟩) ?_ ?_
                                  rotate_left
                                  · intro w'
                                    go_simp
                                    with_reducible rfl
                                  rotate_left
                                  · simp only [Act.put, List.setIfInBounds_toArray, List.set_cons_zero, List.set_cons_succ, i64_w, i32_w]
                                    rfl
                                  refine pure_ (i := 8) (N := some 105) (v := ?_) (a' := ?_) #[true, true, true, true, true, false, true, true, true, false, false, false, false, false, false, false, false, false] rfl rfl (any_of HT_.out (by kernel_rfl)) (fun _ _ _ h => h) (Or.inl ⟨by rfl, ?_⟩) ?_ ?_
                                  rotate_left
                                  · intro w'
                                    go_simp
                                    with_reducible rfl
                                  rotate_left
                                  · simp only [Act.put, List.setIfInBounds_toArray, List.set_cons_zero, List.set_cons_succ, i64_w, i32_w]
                                    rfl
                                  refine pure_ (i := 9) (N := some 106) (v := ?_) (a' := ?_) #[true, true, true, true, true, false, true, true, true, true, false, false, false, false, false, false, false, false] rfl rfl (any_of HT_.out (by kernel_rfl)) (fun _ _ _ h => h) (Or.inl ⟨by rfl, ?_⟩) ?_ ?_
                                  rotate_left
                                  · intro w'
                                    go_simp
                                    with_reducible rfl
                                  rotate_left
                                  · simp only [Act.put, List.setIfInBounds_toArray, List.set_cons_zero, List.set_cons_succ, i64_w, i32_w]
                                    rfl
                                  refine pure_ (i := 10) (N := some 107) (v := ?_) (a' := ?_) #[true, true, true, true, true, false, true, true, true, true, true, false, false, false, false, false, false, false] rfl rfl (any_of HT_.out (by kernel_rfl)) (fun _ _ _ h => h) (Or.inl ⟨by rfl, ?_⟩) ?_ ?_
                                  rotate_left
                                  · intro w'
                                    go_simp
                                    with_reducible rfl
                                  rotate_left
                                  · simp only [Act.put, List.setIfInBounds_toArray, List.set_cons_zero, List.set_cons_succ, i64_w, i32_w]
                                    rfl
                                  refine take_ (i := 5) (N := some 102) (v := ?_) (a' := ?_) #[true, true, true, true, true, true, true, true, true, true, true, false, false, false, false, false, false, false] rfl rfl (take_ofW HT_.out HW_.out (by kernel_rfl)) (fun _ _ _ h => h) (Or.inl ⟨by rfl, ?_⟩) hHeld ?_ ?_
                                  rotate_left
                                  · rintro w' ⟨s0, s1, s2, s3⟩
                                    go_simp
                                    with_reducible rfl
                                  rotate_left
                                  · simp only [Act.put, List.setIfInBounds_toArray, List.set_cons_zero, List.set_cons_succ, i64_w, i32_w]
                                    rfl
                                  refine take_ (i := 11) (N := some 108) (v := ?_) (a' := ?_) #[true, true, true, true, true, true, true, true, true, true, true, true, false, false, false, false, false, false] rfl rfl (take_ofW HT_.out HW_.out (by kernel_rfl)) (fun _ _ _ h => h) (Or.inl ⟨by rfl, ?_⟩) hHeld ?_ ?_
                                  rotate_left
                                  · rintro w' ⟨s0, s1, s2, s3⟩
                                    go_simp
                                    with_reducible rfl
                                  rotate_left
                                  · simp only [Act.put, List.setIfInBounds_toArray, List.set_cons_zero, List.set_cons_succ, i64_w, i32_w]
                                    rfl
                                  refine pure_ (i := 12) (N := some 109) (v := ?_) (a' := ?_) #[true, true, true, true, true, true, true, true, true, true, true, true, true, false, false, false, false, false] rfl rfl (any_of HT_.out (by kernel_rfl)) (fun _ _ _ h => h) (Or.inl ⟨by rfl, ?_⟩) ?_ ?_
                                  rotate_left
                                  · intro w'
                                    go_simp
                                    with_reducible rfl
                                  rotate_left
                                  · simp only [Act.put, List.setIfInBounds_toArray, List.set_cons_zero, List.set_cons_succ, i64_w, i32_w]
                                    rfl
                                  refine pure_ (i := 13) (N := some 110) (v := ?_) (a' := ?_) #[true, true, true, true, true, true, true, true, true, true, true, true, true, true, false, false, false, false] rfl rfl (any_of HT_.out (by kernel_rfl)) (fun _ _ _ h => h) (Or.inl ⟨by rfl, ?_⟩) ?_ ?_
                                  rotate_left
                                  · intro w'
                                    go_simp
                                    with_reducible rfl
                                  rotate_left
                                  · simp only [Act.put, List.setIfInBounds_toArray, List.set_cons_zero, List.set_cons_succ, i64_w, i32_w]
                                    rfl
                                  refine pure_ (i := 14) (N := some 111) (v := ?_) (a' := ?_) #[true, true, true, true, true, true, true, true, true, true, true, true, true, true, true, false, false, false] rfl rfl (any_of HT_.out (by kernel_rfl)) (fun _ _ _ h => h) (Or.inl ⟨by rfl, ?_⟩) ?_ ?_
                                  rotate_left
                                  · intro w'
                                    go_simp
                                    with_reducible rfl
                                  rotate_left
                                  · simp only [Act.put, List.setIfInBounds_toArray, List.set_cons_zero, List.set_cons_succ, i64_w, i32_w]
                                    rfl
                                  refine one_ (i := 15) (N := some 112) #[true, true, true, true, true, true, true, true, true, true, true, true, true, true, true, true, false, false] rfl rfl (one_of HT_.out (by kernel_rfl)) (by decide) (fun K hK => ?_)
                                  refine goes_ Try.func33 (by kernel_rfl) rfl #[] (by rfl) rfl rfl (by (try simp only [List.map_toArray, List.map_cons, List.map_nil]); first | done | rfl | (simp only [List.length_drop, List.length_take]; rfl)) ?_
                                  with_reducible refine (columbariumlaw10_known.calls k2  t24033 _ A91.out).mono ?_
                                  rintro e w94 ⟨rfl, hb⟩
                                  refine ⟨_, rfl, ?_⟩
                                  have n0_ := Aside0.mk (Kd.R_below (by (with_reducible repeat (first | apply Kd.R_alloc | apply Kd.R_drewN | apply Kd.R_drew)); exact HO_24026002.out) hb)
                                  have n1_ := Aside0.mk (blk_below (g := gb24025) (o := .cells #[.int .i64 t24019, .int .i64 t24020, .slice Ao57 t24021.length co57] 61 (0, 0)) (by (with_reducible repeat (first | refine blk_drewN ?_ _ | refine blk_drew ?_ | refine blk_alloc ?_ _)); exact BK24025.out) hb)
                                  have n2_ := Aside0.mk (below_step (by repeat (first | (with_reducible first | exact HB.out | apply below_alloc | apply pw_below_drewN | apply below_drew1 | refine below_set ?_ GE24025.out) | exact HB.out)) hb)
                                  clear HO_24026002
                                  clear BK24025
                                  clear HB
                                  have HO_24026002 := n0_
                                  have BK24025 := n1_
                                  have HB := n2_
                                  clear n0_ n1_ n2_
                                  (try clear hb)
                                  (try clear hb2)
                                  (try clear hk)
                                  (try clear hi)
                                  refine hK.out _ _ ⟨(blk_cell BK24025.out 0).trans rfl, (blk_cell BK24025.out 1).trans rfl, (blk_cell BK24025.out 2).trans rfl, ((HB.out.cell (World.block_lt_of_cell? w _ hw24032_0)).trans hw24032_0)⟩ (fun hHeld => ?_)
                                  clear hK K
                                  refine norm_ (a' := ?_) ?_ ?_
                                  rotate_left
                                  · show Act.put _ (some 112) _ = _
                                    simp only [Act.put, List.setIfInBounds_toArray, List.set_cons_zero, List.set_cons_succ, i64_w, i32_w]
                                    rfl
                                  refine pure_ (i := 16) (N := some 113) (v := ?_) (a' := ?_) #[true, true, true, true, true, true, true, true, true, true, true, true, true, true, true, true, true, false] rfl rfl (any_of HT_.out (by kernel_rfl)) (fun _ _ _ h => h) (Or.inl ⟨by rfl, ?_⟩) ?_ ?_
                                  rotate_left
                                  · intro w'
                                    go_simp
                                    with_reducible rfl
                                  rotate_left
                                  · simp only [Act.put, List.setIfInBounds_toArray, List.set_cons_zero, List.set_cons_succ, i64_w, i32_w]
                                    rfl
                                  refine pure_ (i := 17) (N := some 2) (v := ?_) (a' := ?_) #[true, true, true, true, true, true, true, true, true, true, true, true, true, true, true, true, true, true] rfl rfl (any_of HT_.out (by kernel_rfl)) (fun _ _ _ h => h) (Or.inl ⟨by rfl, ?_⟩) ?_ ?_
                                  rotate_left
                                  · intro w'
                                    go_simp
                                    with_reducible rfl
                                  rotate_left
                                  · simp only [Act.put, List.setIfInBounds_toArray, List.set_cons_zero, List.set_cons_succ, i64_w, i32_w]
                                    rfl
                                  refine done_ (done_of HT_.out (by kernel_rfl)) ?_
                                  try go_wp2
                                  go_ret
                                  exact ⟨by first | rfl | (simp [errW_none, errW_some] <;> rfl) | (simp only [← hji87]; first | rfl | (simp [errW_none, errW_some] <;> rfl)) | (simp [*, errW_none, errW_some] <;> rfl), by repeat (first | (with_reducible first | exact HB.out | apply below_alloc | apply pw_below_drewN | apply below_drew1 | refine below_set ?_ GE24025.out) | exact HB.out)⟩
                                · rw [if_neg c90] at H
                                  have c90b0 : (t24020 == (rd l0 (ji87))) = false := beq_eq_false_iff_ne.mpr c90
                                  have c90b1 : (t24020 != (rd l0 (ji87))) = true := bne_iff_ne.mpr c90
                                  exact absurd ((Option.some.inj H).trans hr_.out) (by decide)
                              · rw [if_neg c89] at H
                                exact absurd H (by simp)
                            · rw [if_neg c88] at H
                              exact absurd H (by simp)
                  · replace c71 := Bool.eq_false_iff.mpr c71
                    subst c71
                    have H1 : (some false) = some r := by rw [if_neg (show ¬ (false = true) by decide)] at H; exact H
                    clear H
                    have H := H1
                    clear H1
                    exact absurd ((Option.some.inj H).trans hr_.out) (by decide)
                · rw [if_neg c69] at H
                  have c69b0 : ((t24021.length : Int) == (wrap64 (Int.tdiv (wrap64 ((l0.length : Int) + 3)) 4))) = false := beq_eq_false_iff_ne.mpr c69
                  have c69b1 : ((t24021.length : Int) != (wrap64 (Int.tdiv (wrap64 ((l0.length : Int) + 3)) 4))) = true := bne_iff_ne.mpr c69
                  exact absurd ((Option.some.inj H).trans hr_.out) (by decide)
              · rw [if_neg c68] at H
                have c68b0 : (t24019 == (l0.length : Int)) = false := beq_eq_false_iff_ne.mpr c68
                have c68b1 : (t24019 != (l0.length : Int)) = true := bne_iff_ne.mpr c68
                exact absurd ((Option.some.inj H).trans hr_.out) (by decide)
            · rw [if_neg c67] at H
              have c67b0 : (t24024 == 0) = false := beq_eq_false_iff_ne.mpr c67
              have c67b1 : (t24024 != 0) = true := bne_iff_ne.mpr c67
              exact absurd ((Option.some.inj H).trans hr_.out) (by decide)
          · replace c66 := Bool.eq_false_iff.mpr c66
            subst c66
            have H1 : (if t24024 = 12 then (if t24019 = 0 then (if (t24021.length : Int) = 0 then ((columbariumlaw10_known.f k1).bind fun t24034 => (some t24034)) else (some false)) else (some false)) else (some false)) = some r := by rw [if_neg (show ¬ (false = true) by decide)] at H; exact H
            clear H
            have H := H1
            clear H1
            by_cases c95 : t24024 = 12
            · rw [if_pos c95] at H
              have c95b0 : (t24024 == 12) = true := beq_iff_eq.mpr c95
              have c95b1 : (t24024 != 12) = false := bne_eq_false_iff_eq.mpr c95
              clear c95
              by_cases c96 : t24019 = 0
              · rw [if_pos c96] at H
                have c96b0 : (t24019 == 0) = true := beq_iff_eq.mpr c96
                have c96b1 : (t24019 != 0) = false := bne_eq_false_iff_eq.mpr c96
                clear c96
                by_cases c97 : (t24021.length : Int) = 0
                · rw [if_pos c97] at H
                  have c97b0 : ((t24021.length : Int) == 0) = true := beq_iff_eq.mpr c97
                  have c97b1 : ((t24021.length : Int) != 0) = false := bne_eq_false_iff_eq.mpr c97
                  clear c97
                  replace H := Option.bind_eq_some_iff.mp H
                  obtain ⟨t24034, A980, H⟩ := H
                  replace H : (some t24034) = some r := H
                  have A98 := Aside0.mk A980
                  clear A980
                  obtain rfl := Option.some.inj H
                  have hcz99_0 : wr.cell? ⟨gb24025, 0, none⟩ = some (.int .i64 t24019) := (blk_cell BK24025.out 0).trans rfl
                  have hcz99_1 : wr.cell? ⟨gb24025, 1, none⟩ = some (.int .i64 t24020) := (blk_cell BK24025.out 1).trans rfl
                  have hcz99_2 : wr.cell? ⟨gb24025, 2, none⟩ = some (.slice Ao57 t24021.length co57) := (blk_cell BK24025.out 2).trans rfl
                  have hfz99_0 := blk_frozen BK24025.out 0
                  have hfz99_1 := blk_frozen BK24025.out 1
                  have hfz99_2 := blk_frozen BK24025.out 2
                  go_wp2_with (first | (go_at_call 33; (with_reducible refine (columbariumlaw10_known.calls k1  t24034 _ A98.out).mono ?_); rintro e w100 ⟨rfl, hb⟩; have n0_ := Aside0.mk (Kd.R_below (by (with_reducible repeat (first | apply Kd.R_alloc | apply Kd.R_drewN | apply Kd.R_drew)); exact HO_24026002.out) hb); have n1_ := Aside0.mk (blk_below (g := gb24025) (o := .cells #[.int .i64 t24019, .int .i64 t24020, .slice Ao57 t24021.length co57] 61 (0, 0)) (by (with_reducible repeat (first | refine blk_drewN ?_ _ | refine blk_drew ?_ | refine blk_alloc ?_ _)); exact BK24025.out) hb); have n2_ := Aside0.mk (below_step (by repeat (first | (with_reducible first | exact HB.out | apply below_alloc | apply pw_below_drewN | apply below_drew1 | refine below_set ?_ GE24025.out) | exact HB.out)) hb); clear HO_24026002; clear BK24025; clear HB; have HO_24026002 := n0_; have BK24025 := n1_; have HB := n2_; clear n0_ n1_ n2_; (try clear hb); (try clear hb2); (try clear hk); (try clear hi)))
                  go_ret
                  exact ⟨by first | rfl | (simp [errW_none, errW_some] <;> rfl) | (simp [*, errW_none, errW_some] <;> rfl), by repeat (first | (with_reducible first | exact HB.out | apply below_alloc | apply pw_below_drewN | apply below_drew1 | refine below_set ?_ GE24025.out) | exact HB.out)⟩
                · rw [if_neg c97] at H
                  have c97b0 : ((t24021.length : Int) == 0) = false := beq_eq_false_iff_ne.mpr c97
                  have c97b1 : ((t24021.length : Int) != 0) = true := bne_iff_ne.mpr c97
                  have c97b2 : ¬ (t24021 = []) := fun h_ => c97 (by rw [h_]; rfl)
                  exact absurd ((Option.some.inj H).trans hr_.out) (by decide)
              · rw [if_neg c96] at H
                have c96b0 : (t24019 == 0) = false := beq_eq_false_iff_ne.mpr c96
                have c96b1 : (t24019 != 0) = true := bne_iff_ne.mpr c96
                exact absurd ((Option.some.inj H).trans hr_.out) (by decide)
            · rw [if_neg c95] at H
              have c95b0 : (t24024 == 12) = false := beq_eq_false_iff_ne.mpr c95
              have c95b1 : (t24024 != 12) = true := bne_iff_ne.mpr c95
              exact absurd ((Option.some.inj H).trans hr_.out) (by decide)

/-- THE ONE PURE STATEMENT of columbariumlaw10_TicksBuild: yours. -/
def columbariumlaw10_TicksBuild.Pure : Prop := ∀ (l0 : List Int), l0.length ≤ maxLen → l0.length * 8 ≤ 140737488351232 → (∀ x ∈ l0, (Lit.int .i64 x).wf = true) → ∃ k, columbariumlaw10_TicksBuild.f k l0 = some true
theorem columbariumlaw10_TicksBuild.walk (P : columbariumlaw10_TicksBuild.Pure) (a0 : Option Addr) (len0 cap0 : Nat) (z0 : List Int) (w : World) (w0 : (a0 = none ∧ len0 = 0 ∧ cap0 = 0 ∧ z0 = []) ∨ ∃ x, a0 = some x ∧ len0 ≤ cap0 ∧ cap0 ≤ maxLen ∧ z0.length = cap0 ∧ (∀ i, i < z0.length → w.cell? (x.add i) = some (.int .i64 (z0.getD i 0))) ∧ ∀ n ∈ z0, (Lit.int .i64 n).wf = true) (y0 : len0 * 8 ≤ 140737488351232) :
    Calls Try.prog 11 #[.slice a0 len0 cap0] w fun e w' => e = .returned (.bool true) ∧ Below w.heap.size w w' := by
  obtain ⟨l0, rfl, hr0, hm0, hw0, hc0⟩ := ReadsInt.ofRowC w0
  obtain ⟨k, h⟩ := P l0 hm0 y0 hw0
  refine (columbariumlaw10_TicksBuild.calls k _ _ l0 true w (Kd.C_of_reads (d := (0 : Int)) (h1 := fun _ => rfl) hr0) hc0 h ⟨rfl⟩).mono ?_
  rintro e w' ⟨rfl, hd⟩
  exact ⟨rfl, hd⟩

end Go.Proofs.Ytjpeojohakhmdaa.PS
