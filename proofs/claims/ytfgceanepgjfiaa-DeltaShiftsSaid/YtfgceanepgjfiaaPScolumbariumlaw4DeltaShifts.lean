-- Written by a program of this session, out of the translation; Lean checks it.
import Derived.Test.YtfgceanepgjfiaaPSx0
import Derived.Test.YtfgceanepgjfiaaPSdeltaEncode
import Derived.Test.YtfgceanepgjfiaaPScolumbariumlaw4known
namespace Go.Proofs.Ytfgceanepgjfiaa.PS
open Go.RowKit Go.Proofs.YtfgceanepgjfiaaW.PrintWords Go.Proofs.YtfgceanepgjfiaaW.PrintLast Go.Proofs.YtfgceanepgjfiaaW.PrintMore
attribute [local go_sem high] pw_str_leq pw_str_gtr
attribute [local go_sem] pw_us8 pw_us32 pw_us64 pw_max2_str pw_min2_str max2_int min2_int max_two min_two max_three min_three max_four min_four   -- for this text's walks alone
set_option linter.unusedVariables false
set_option linter.unusedSimpArgs false

/-! ### columbariumlaw4_DeltaShifts: function 4 -/
mutual
def columbariumlaw4_DeltaShifts.l0 : Nat → List Int → Int → List Int → Int → Option (Bool)
  | 0, _, _, _, _ => none
  | k + 1, x0, x1, x5, x6 => if x6 < (x0.length : Int) then (if 0 ≤ x6 then (if x5.length < 17592186044416 then (columbariumlaw4_DeltaShifts.l0 k x0 x1 (x5 ++ [wrap64 ((rd x0 x6) + x1)]) (wrap64 (x6 + 1))) else (none)) else (none)) else ((delta_Encode.f k x0).bind fun t10007 => ((delta_Encode.f k x5).bind fun t10010 => (if (x0.length : Int) = 0 then (if (strOfNums t10007).toList = (strOfNums t10010).toList then ((columbariumlaw4_known.f k).bind fun t10013 => (some t10013)) else (some false)) else (if 1 ≤ (x0.length : Int) then ((delta_Encode.f k (x0.take 1)).bind fun t10016 => (if 1 ≤ (x5.length : Int) then ((delta_Encode.f k (x5.take 1)).bind fun t10023 => (if (t10007.length : Int) ≥ (t10016.length : Int) then (if (t10010.length : Int) ≥ (t10023.length : Int) then (if 0 ≤ (t10016.length : Int) then (if (t10016.length : Int) ≤ (t10007.length : Int) then (if 0 ≤ (t10023.length : Int) then (if (t10023.length : Int) ≤ (t10010.length : Int) then (if (strOfNums (t10007.drop ((t10016.length : Int) : Int).toNat)).toList = (strOfNums (t10010.drop ((t10023.length : Int) : Int).toNat)).toList then ((columbariumlaw4_known.f k).bind fun t10034 => (some t10034)) else (some false)) else (none)) else (none)) else (none)) else (none)) else (some false)) else (some false))) else (none))) else (none)))))
def columbariumlaw4_DeltaShifts.l1000 : Nat → List Int → Int → List Int → Int → Option (Bool)
  | 0, _, _, _, _ => none
  | k + 1, x0, x1, x5, x6 => if x6 < (x0.length : Int) then (if 0 ≤ x6 then (if x5.length < 17592186044416 then (columbariumlaw4_DeltaShifts.l1000 k x0 x1 (x5 ++ [wrap64 ((rd x0 x6) + x1)]) (wrap64 (x6 + 1))) else (none)) else (none)) else ((delta_Encode.f k x0).bind fun t10039 => ((delta_Encode.f k x5).bind fun t10042 => (if (x0.length : Int) = 0 then (if (strOfNums t10039).toList = (strOfNums t10042).toList then ((columbariumlaw4_known.f k).bind fun t10045 => (some t10045)) else (some false)) else (if 1 ≤ (x0.length : Int) then ((delta_Encode.f k (x0.take 1)).bind fun t10048 => (if 1 ≤ (x5.length : Int) then ((delta_Encode.f k (x5.take 1)).bind fun t10055 => (if (t10039.length : Int) ≥ (t10048.length : Int) then (if (t10042.length : Int) ≥ (t10055.length : Int) then (if 0 ≤ (t10048.length : Int) then (if (t10048.length : Int) ≤ (t10039.length : Int) then (if 0 ≤ (t10055.length : Int) then (if (t10055.length : Int) ≤ (t10042.length : Int) then (if (strOfNums (t10039.drop ((t10048.length : Int) : Int).toNat)).toList = (strOfNums (t10042.drop ((t10055.length : Int) : Int).toNat)).toList then ((columbariumlaw4_known.f k).bind fun t10066 => (some t10066)) else (some false)) else (none)) else (none)) else (none)) else (none)) else (some false)) else (some false))) else (none))) else (none)))))
end
def columbariumlaw4_DeltaShifts.f (k : Nat) (l0 : List Int) (a1 : Int) : Option (Bool) := if (l0.length : Int) > 60 then (if 60 ≤ (l0.length : Int) then (columbariumlaw4_DeltaShifts.l0 k (l0.take 60) a1 ([] : List Int) 0) else (none)) else (columbariumlaw4_DeltaShifts.l1000 k l0 a1 ([] : List Int) 0)
theorem columbariumlaw4_DeltaShifts.mono_l : ∀ k, (∀ y0 y1 y2 y3, LeO (columbariumlaw4_DeltaShifts.l0 k y0 y1 y2 y3) (columbariumlaw4_DeltaShifts.l0 (k + 1) y0 y1 y2 y3)) ∧ (∀ y0 y1 y2 y3, LeO (columbariumlaw4_DeltaShifts.l1000 k y0 y1 y2 y3) (columbariumlaw4_DeltaShifts.l1000 (k + 1) y0 y1 y2 y3))
  | 0 => ⟨fun _ _ _ _ r h => by simp [columbariumlaw4_DeltaShifts.l0] at h, fun _ _ _ _ r h => by simp [columbariumlaw4_DeltaShifts.l1000] at h⟩
  | k + 1 => by
    obtain ⟨ih0, ih1⟩ := columbariumlaw4_DeltaShifts.mono_l k
    refine ⟨?_, ?_⟩
    · intro y0 y1 y2 y3
      unfold columbariumlaw4_DeltaShifts.l0
      repeat' first
      | (with_reducible exact ih0 _ _ _ _)
      | (with_reducible exact ih1 _ _ _ _)
      | (with_reducible exact columbariumlaw4_known.mono _)
      | (with_reducible exact delta_Encode.mono _ _)
      | (with_reducible exact LeO.refl _)
      | (with_reducible exact LeO.none _)
      | (with_reducible refine LeO.ite ?_ ?_)
      | (with_reducible refine LeO.bind ?_ (fun _ => ?_))
      | exact ih0 _ _ _ _
      | exact ih1 _ _ _ _
      | exact columbariumlaw4_known.mono _
      | exact delta_Encode.mono _ _
      | exact LeO.none _
      | refine LeO.ite ?_ ?_
      | refine LeO.bind ?_ (fun _ => ?_)
    · intro y0 y1 y2 y3
      unfold columbariumlaw4_DeltaShifts.l1000
      repeat' first
      | (with_reducible exact ih0 _ _ _ _)
      | (with_reducible exact ih1 _ _ _ _)
      | (with_reducible exact columbariumlaw4_known.mono _)
      | (with_reducible exact delta_Encode.mono _ _)
      | (with_reducible exact LeO.refl _)
      | (with_reducible exact LeO.none _)
      | (with_reducible refine LeO.ite ?_ ?_)
      | (with_reducible refine LeO.bind ?_ (fun _ => ?_))
      | exact ih0 _ _ _ _
      | exact ih1 _ _ _ _
      | exact columbariumlaw4_known.mono _
      | exact delta_Encode.mono _ _
      | exact LeO.none _
      | refine LeO.ite ?_ ?_
      | refine LeO.bind ?_ (fun _ => ?_)
theorem columbariumlaw4_DeltaShifts.mono : ∀ a0 a1 k, LeO (columbariumlaw4_DeltaShifts.f k a0 a1) (columbariumlaw4_DeltaShifts.f (k + 1) a0 a1) := by
  intro a0 a1 k
  obtain ⟨ih0, ih1⟩ := columbariumlaw4_DeltaShifts.mono_l k
  unfold columbariumlaw4_DeltaShifts.f
  repeat' first
      | (with_reducible exact ih0 _ _ _ _)
      | (with_reducible exact ih1 _ _ _ _)
      | (with_reducible exact columbariumlaw4_known.mono _)
      | (with_reducible exact delta_Encode.mono _ _)
      | (with_reducible exact LeO.refl _)
      | (with_reducible exact LeO.none _)
      | (with_reducible refine LeO.ite ?_ ?_)
      | (with_reducible refine LeO.bind ?_ (fun _ => ?_))
      | exact ih0 _ _ _ _
      | exact ih1 _ _ _ _
      | exact columbariumlaw4_known.mono _
      | exact delta_Encode.mono _ _
      | exact LeO.none _
      | refine LeO.ite ?_ ?_
      | refine LeO.bind ?_ (fun _ => ?_)
def columbariumlaw4_DeltaShifts.T13 : Bool × List (List Nat × List Nat) := (true, [([], []), ([0], [0]), ([], []), ([2], [2]), ([1, 3], [1, 3]), ([4], [4]), ([5], [5]), ([6, 5], [5, 6]), ([5], [5]), ([8, 5], [5, 8]), ([7, 9, 5], [5, 7, 9]), ([5, 10], [5, 10]), ([11, 5], [11]), ([12], [12]), ([12], [12]), ([14, 12], [12, 14]), ([13, 15, 12], [12, 13, 15]), ([16, 12], [12, 16]), ([12], [12]), ([12], [12]), ([19, 12], [12, 19]), ([18, 20, 12], [12, 18, 20]), ([21, 12], [12, 21]), ([17, 22, 12], [12, 17, 22]), ([12, 23], [12, 23]), ([24, 12], [24]), ([25, 25], [25]), ([25, 26], [25, 26]), ([27, 26, 0, 1, 2, 3, 4, 5, 6, 7, 8, 9, 10, 11, 12, 13, 14, 15, 16, 17, 18, 19, 20, 21, 22, 23, 24, 25, 26, 27], [27])])
def columbariumlaw4_DeltaShifts.B13 : List Nat := [0, 1, 0, 4, 15, 31, 63, 127, 63, 319, 1023, 2047, 4095, 8191, 8191, 24575, 65535, 131071, 8191, 8191, 532479, 1843199, 3940351, 8388607, 16777215, 33554431, 67108863, 134217727, 268435455]
theorem columbariumlaw4_DeltaShifts.tab13 : rtab .any (opsOf Try.f4 13) = columbariumlaw4_DeltaShifts.T13 := by kernel_rfl
theorem columbariumlaw4_DeltaShifts.bits13 : waitsOk columbariumlaw4_DeltaShifts.T13.2 columbariumlaw4_DeltaShifts.B13 = true := by kernel_rfl
set_option maxHeartbeats 8000000 in
set_option maxRecDepth 100000 in
theorem columbariumlaw4_DeltaShifts.calls (k : Nat) (A0 : Option Addr) (c0 : Nat) (l0 : List Int) (a1 : Int) (r : Bool) (w : World) (hr0 : Kd.C (Kd.int .i64) w A0 l0.length l0) (hc0 : l0.length ≤ c0) (h : columbariumlaw4_DeltaShifts.f k l0 a1 = some r) (hr_ : Aside0 (r = true)) :
    Calls Try.prog 4 #[.slice A0 l0.length c0, .int .i64 a1] w fun e w' => e = .returned (.bool r) ∧ Below w.heap.size w w' := by
  have HR0 := Aside0.mk hr0
  have HC0 := Aside0.mk hc0
  clear hr0 hc0
  have HB := Aside0.mk (Below.refl w.heap.size w)
  have H : (if (l0.length : Int) > 60 then (if 60 ≤ (l0.length : Int) then (columbariumlaw4_DeltaShifts.l0 k (l0.take 60) a1 ([] : List Int) 0) else (none)) else (columbariumlaw4_DeltaShifts.l1000 k l0 a1 ([] : List Int) 0)) = some r := h
  clear h
  by_cases c3 : (l0.length : Int) > 60
  · rw [if_pos c3] at H
    have c3b0 : decide (60 < (l0.length : Int)) = true := decide_eq_true c3
    have c3b1 : decide (60 < l0.length) = true := decide_eq_true (by omega)
    clear c3
    by_cases c4 : 60 ≤ (l0.length : Int)
    · rw [if_pos c4] at H
      have c4b0 := eq_true c4
      have c4b1 : decide (60 ≤ (l0.length : Int)) = true := decide_eq_true c4
      clear c4
      obtain ⟨y10001, hy10001⟩ : ∃ y_ : List Int, y_ = (l0.take 60) := ⟨_, rfl⟩
      replace H : (columbariumlaw4_DeltaShifts.l0 k y10001 a1 ([] : List Int) 0) = some r := by first | (rw [hy10001]; with_reducible exact H) | (have H2_ := (Option.bind_some _ _).symm.trans H; rw [hy10001]; with_reducible exact H2_) | (have H2_ := (Option.bind_some _ _).symm.trans H; with_reducible exact H2_) | with_reducible exact H | (rw [hy10001]; exact H) | exact H
      have Ny10001 := Aside0.mk hy10001
      clear hy10001
      have H' := Aside0.mk H
      clear H
      obtain ⟨i05, hi05, _, hsz5, _⟩ := info_parts info2
      obtain ⟨hcut5, hA5, hC5⟩ := print_take_of (P := Try.prog) (Value.int .i64) 0 23 2 .i64 Try.underlying23 hi05 hsz5 A0 c0 l0 60 (by omega) (of_decide_eq_true (by first | (with_reducible assumption) | assumption)) HC0.out
      have HR10002 := Aside0.mk (Kd.C_of_reads (h1 := fun _ => rfl) (hA5 _ (Kd.reads_of_C HR0.out)))
      have HC10002 := Aside0.mk hC5
      clear hA5 hC5 hi05 hsz5
      rw [show (l0.take (60 : Int).toNat) = y10001 from Ny10001.out.symm] at hcut5
      rw [show (l0.take (60 : Int).toNat) = y10001 from Ny10001.out.symm] at HR10002
      rw [show (l0.take (60 : Int).toNat) = y10001 from Ny10001.out.symm] at HC10002
      go_enter Try.func4, Try.ntmps4
      go_wp2_with (first | (go_at_call 18; go_in))
      go_loopg [5, 6] k (fun kq v5 v6 w' => ∃ (x5_1 : List Int) (x6_1 : Int), v6 = .int .i64 x6_1 ∧ Aside0 (columbariumlaw4_DeltaShifts.l0 kq y10001 a1 x5_1 x6_1 = some r) ∧ Aside0 (kq ≤ k) ∧ Aside0 (Kd.R (Kd.int .i64) 2 w' w.heap.size (fun _ => True) v5 x5_1) ∧ Aside0 (Below w.heap.size w w'))
      case atStart => exact ⟨(([] : List Int)), (0), (by first | rfl | (simp; done) | (simp [*]; done) | (refine congrArg (Value.int .i64) ?_; (try simp only [decide_eq_true_eq, decide_eq_false_iff_not] at *) <;> (unfold wrap64; omega))), H', ⟨Nat.le_refl _⟩, ⟨by first | exact Kd.R_nil _ _ _ _ _ | exact Kd.N_nil _ _ _ _ _ | exact Kd.V_nil _ _ _ _ _ | exact Kd.Q_nil _ _ _ _ _ | exact Kd.S_nil _ _ _ _ _⟩, ⟨by repeat (first | (with_reducible first | exact HB.out | apply below_alloc | apply pw_below_drewN | apply below_drew1) | exact HB.out)⟩⟩
      case round =>
        clear H'
        try clear p2
        try clear c3
        try clear c3b0
        try clear c3b1
        try clear c4
        try clear c4b0
        try clear c4b1
        obtain ⟨x5_1, x6_1, rfl, HA, HK1, HO_5, HB⟩ := hrel
        cases gk with
        | zero => exact absurd HA.out (by simp [columbariumlaw4_DeltaShifts.l0])
        | succ k1 =>
          have H := HA.out
          clear HA
          simp only [columbariumlaw4_DeltaShifts.l0] at H
          by_cases c6 : x6_1 < (y10001.length : Int)
          · rw [if_pos c6] at H
            have c6b0 : decide (x6_1 < (y10001.length : Int)) = true := decide_eq_true c6
            clear c6
            by_cases c7 : 0 ≤ x6_1
            · rw [if_pos c7] at H
              have c7b0 : decide (0 ≤ x6_1) = true := decide_eq_true c7
              clear c7
              by_cases c8 : x5_1.length < 17592186044416
              · rw [if_pos c8] at H
                have LMc8 := Aside0.mk c8
                clear c8
                obtain ⟨y10004, hy10004⟩ : ∃ y_ : List Int, y_ = (x5_1 ++ [wrap64 ((rd y10001 x6_1) + a1)]) := ⟨_, rfl⟩
                replace H : (columbariumlaw4_DeltaShifts.l0 k1 y10001 a1 y10004 (wrap64 (x6_1 + 1))) = some r := by first | (rw [hy10004]; with_reducible exact H) | (have H2_ := (Option.bind_some _ _).symm.trans H; rw [hy10004]; with_reducible exact H2_) | (have H2_ := (Option.bind_some _ _).symm.trans H; with_reducible exact H2_) | with_reducible exact H | (rw [hy10004]; exact H) | exact H
                have Ny10004 := Aside0.mk hy10004
                clear hy10004
                have H' := Aside0.mk H
                clear H
                have p10003 : 0 ≤ (x6_1 : Int) := of_decide_eq_true (by first | (with_reducible assumption) | assumption)
                have q10003 : x6_1 < (y10001.length : Int) := of_decide_eq_true (by first | (with_reducible assumption) | assumption)
                obtain ⟨ad10003, e10003, hx10003_0⟩ := Kd.at_int HR10002.out x6_1 p10003 q10003
                cases e10003
                replace hx10003_0 := (HB.out.cell (World.block_lt_of_cell? w _ hx10003_0)).trans hx10003_0
                replace p10003 := eq_true p10003
                replace q10003 := eq_true q10003
                go_wp2_with (first | ((with_reducible refine gate_builtin (b := .append) (xs := #[.tmp 19, .tmp 26]) rfl ?_); (try (refine gate_guard (by rfl) ?_; dsimp only)); at_builtin; refine Kd.R_append (Kd.int .i64) (w0 := w) w.heap.size rfl (.tmp 19) (.tmp 26) 23 2 (.int .i64 0) 8 rfl Try.underlying23 info2 rfl (by decide) (by omega) u5 x5_1 (wrap64 ((rd y10001 x6_1) + a1)) [.int .i64 (wrap64 ((rd y10001 x6_1) + a1))] (fun _ => True) (fun _ => False) rfl rfl ?aP (fun _ hk => hk.elim) ?aF ?aO ?aB ?aS ?aL ?_; (case aP => exact rfl); (case aB => exact (by repeat (first | (with_reducible first | exact HB.out | apply below_alloc | apply pw_below_drewN | apply below_drew1) | exact HB.out))); (case aF => exact (fun _ _ => trivial)); (case aO => exact (by (with_reducible repeat (first | apply Kd.R_alloc | apply Kd.R_drewN | apply Kd.R_drew)); exact HO_5.out)); (case aS => exact (below_size (by repeat (first | (with_reducible first | exact HB.out | apply below_alloc | apply pw_below_drewN | apply below_drew1) | exact HB.out)))); (case aL => have := LMc8.out; omega); intro v10005 w9 ho hb hg hat; rw [← Ny10004.out] at ho; have n0_ := Aside0.mk (hb); have n1_ := Aside0.mk (ho); clear HB; clear HO_5; have HB := n0_; have HO10006 := n1_; clear n0_ n1_; clear ho hb hg hat))
                go_roundg k1
                case measure => have := HK1.out; omega
                case rel => exact ⟨(y10004), (wrap64 (x6_1 + 1)), (by first | rfl | (simp; done) | (simp [*]; done) | (refine congrArg (Value.int .i64) ?_; (try simp only [decide_eq_true_eq, decide_eq_false_iff_not] at *) <;> (unfold wrap64; omega))), H', ⟨by have := HK1.out; omega⟩, ⟨by (with_reducible repeat (first | apply Kd.R_alloc | apply Kd.R_drewN | apply Kd.R_drew)); exact HO10006.out⟩, ⟨by repeat (first | (with_reducible first | exact HB.out | apply below_alloc | apply pw_below_drewN | apply below_drew1) | exact HB.out)⟩⟩
              · rw [if_neg c8] at H
                exact absurd H (by simp)
            · rw [if_neg c7] at H
              exact absurd H (by simp)
          · rw [if_neg c6] at H
            have c6b0 : decide (x6_1 < (y10001.length : Int)) = false := decide_eq_false c6
            clear c6
            replace H := Option.bind_eq_some_iff.mp H
            obtain ⟨t10007, A100, H⟩ := H
            replace H : ((delta_Encode.f k1 x5_1).bind fun t10010 => (if (y10001.length : Int) = 0 then (if (strOfNums t10007).toList = (strOfNums t10010).toList then ((columbariumlaw4_known.f k1).bind fun t10013 => (some t10013)) else (some false)) else (if 1 ≤ (y10001.length : Int) then ((delta_Encode.f k1 (y10001.take 1)).bind fun t10016 => (if 1 ≤ (x5_1.length : Int) then ((delta_Encode.f k1 (x5_1.take 1)).bind fun t10023 => (if (t10007.length : Int) ≥ (t10016.length : Int) then (if (t10010.length : Int) ≥ (t10023.length : Int) then (if 0 ≤ (t10016.length : Int) then (if (t10016.length : Int) ≤ (t10007.length : Int) then (if 0 ≤ (t10023.length : Int) then (if (t10023.length : Int) ≤ (t10010.length : Int) then (if (strOfNums (t10007.drop ((t10016.length : Int) : Int).toNat)).toList = (strOfNums (t10010.drop ((t10023.length : Int) : Int).toNat)).toList then ((columbariumlaw4_known.f k1).bind fun t10034 => (some t10034)) else (some false)) else (none)) else (none)) else (none)) else (none)) else (some false)) else (some false))) else (none))) else (none)))) = some r := H
            have A10 := Aside0.mk A100
            clear A100
            replace H := Option.bind_eq_some_iff.mp H
            obtain ⟨t10010, A110, H⟩ := H
            replace H : (if (y10001.length : Int) = 0 then (if (strOfNums t10007).toList = (strOfNums t10010).toList then ((columbariumlaw4_known.f k1).bind fun t10013 => (some t10013)) else (some false)) else (if 1 ≤ (y10001.length : Int) then ((delta_Encode.f k1 (y10001.take 1)).bind fun t10016 => (if 1 ≤ (x5_1.length : Int) then ((delta_Encode.f k1 (x5_1.take 1)).bind fun t10023 => (if (t10007.length : Int) ≥ (t10016.length : Int) then (if (t10010.length : Int) ≥ (t10023.length : Int) then (if 0 ≤ (t10016.length : Int) then (if (t10016.length : Int) ≤ (t10007.length : Int) then (if 0 ≤ (t10023.length : Int) then (if (t10023.length : Int) ≤ (t10010.length : Int) then (if (strOfNums (t10007.drop ((t10016.length : Int) : Int).toNat)).toList = (strOfNums (t10010.drop ((t10023.length : Int) : Int).toNat)).toList then ((columbariumlaw4_known.f k1).bind fun t10034 => (some t10034)) else (some false)) else (none)) else (none)) else (none)) else (none)) else (some false)) else (some false))) else (none))) else (none))) = some r := H
            have A11 := Aside0.mk A110
            clear A110
            by_cases c12 : (y10001.length : Int) = 0
            · rw [if_pos c12] at H
              have c12b0 : ((y10001.length : Int) == 0) = true := beq_iff_eq.mpr c12
              have c12b1 : ((y10001.length : Int) != 0) = false := bne_eq_false_iff_eq.mpr c12
              clear c12
              by_cases c13 : (strOfNums t10007).toList = (strOfNums t10010).toList
              · rw [if_pos c13] at H
                have c13b0 : ((strOfNums t10007).toList == (strOfNums t10010).toList) = true := beq_iff_eq.mpr c13
                have c13b1 : ((strOfNums t10007).toList != (strOfNums t10010).toList) = false := bne_eq_false_iff_eq.mpr c13
                clear c13
                replace H := Option.bind_eq_some_iff.mp H
                obtain ⟨t10013, A140, H⟩ := H
                replace H : (some t10013) = some r := H
                have A14 := Aside0.mk A140
                clear A140
                obtain rfl := Option.some.inj H
                go_wp2_with (first | ((with_reducible refine gate_callee (f := 16) rfl ?_); refine goesL_ (some 29) rfl rfl Try.func16 (by kernel_rfl) rfl #[.slice A0 y10001.length c0] rfl (by (try simp only [List.map_toArray, List.map_cons, List.map_nil]); first | done | rfl | (simp only [List.length_drop, List.length_take]; rfl)) ?_; (with_reducible refine (delta_Encode.calls k1 _ _ y10001 t10007 _ ?side1 ?side2 A10.out).mono ?_); (case side1 => repeat (first | exact (Kd.C_below HR10002.out HB.out) | (with_reducible refine Kd.C_alloc ?_ _) | (with_reducible refine Kd.C_drewN ?_ _) | (with_reducible refine Kd.C_drew ?_))); (case side2 => exact HC10002.out); rintro e w15 ⟨v10008, rfl, ho0, hb⟩; refine ⟨_, rfl, ?_⟩; have n0_ := Aside0.mk (Kd.R_below (by (with_reducible repeat (first | apply Kd.R_alloc | apply Kd.R_drewN | apply Kd.R_drew)); exact HO_5.out) hb); have n1_ := Aside0.mk (Kd.R_lower ho0 (below_size (by repeat (first | (with_reducible first | exact HB.out | apply below_alloc | apply pw_below_drewN | apply below_drew1) | exact HB.out)))); have n2_ := Aside0.mk (below_step (by repeat (first | (with_reducible first | exact HB.out | apply below_alloc | apply pw_below_drewN | apply below_drew1) | exact HB.out)) hb); clear HO_5; clear HB; have HO_5 := n0_; have HO10009 := n1_; have HB := n2_; clear n0_ n1_ n2_; (try clear hb); (try clear hb2); (try clear hk); (try clear hi); (try clear ho0); obtain ⟨Ao16, co16, eo16⟩ := Kd.R_slice HO_5.out; subst eo16) | ((with_reducible refine gate_callee (f := 16) rfl ?_); refine goesL_ (some 31) rfl rfl Try.func16 (by kernel_rfl) rfl #[.slice Ao16 x5_1.length co16] rfl (by (try simp only [List.map_toArray, List.map_cons, List.map_nil]); first | done | rfl | (simp only [List.length_drop, List.length_take]; rfl)) ?_; (with_reducible refine (delta_Encode.calls k1 _ _ x5_1 t10010 _ ?side1 ?side2 A11.out).mono ?_); (case side1 => repeat (first | exact (Kd.R_reads' HO_5.out).2.2 | (with_reducible refine Kd.C_alloc ?_ _) | (with_reducible refine Kd.C_drewN ?_ _) | (with_reducible refine Kd.C_drew ?_))); (case side2 => exact (Kd.R_reads' HO_5.out).2.1); rintro e w17 ⟨v10011, rfl, ho0, hb⟩; refine ⟨_, rfl, ?_⟩; have n0_ := Aside0.mk (Kd.R_below (by (with_reducible repeat (first | apply Kd.R_alloc | apply Kd.R_drewN | apply Kd.R_drew)); exact HO_5.out) hb); have n1_ := Aside0.mk (Kd.R_elder' (by (with_reducible repeat (first | apply Kd.R_alloc | apply Kd.R_drewN | apply Kd.R_drew)); exact HO10009.out) (Kd.R_base ho0) hb); have n2_ := Aside0.mk (Kd.R_lower (Kd.R_new' ho0 (Kd.R_lt (by (with_reducible repeat (first | apply Kd.R_alloc | apply Kd.R_drewN | apply Kd.R_drew)); exact HO10009.out))) (below_size (by repeat (first | (with_reducible first | exact HB.out | apply below_alloc | apply pw_below_drewN | apply below_drew1) | exact HB.out)))); have n3_ := Aside0.mk (below_step (by repeat (first | (with_reducible first | exact HB.out | apply below_alloc | apply pw_below_drewN | apply below_drew1) | exact HB.out)) hb); clear HO_5; clear HO10009; clear HB; have HO_5 := n0_; have HO10009 := n1_; have HO10012 := n2_; have HB := n3_; clear n0_ n1_ n2_ n3_; (try clear hb); (try clear hb2); (try clear hk); (try clear hi); (try clear ho0); have hcv18 := own_string (P := Try.prog) Try.underlying24 Try.underlying5 Try.underlying9 (Kd.own_of_R HO10009.out); have hcv19 := own_string (P := Try.prog) Try.underlying24 Try.underlying5 Try.underlying9 (Kd.own_of_R HO10012.out)) | (go_at_call 17; (with_reducible refine (columbariumlaw4_known.calls k1  t10013 _ A14.out).mono ?_); rintro e w20 ⟨rfl, hb⟩; have n0_ := Aside0.mk (Kd.R_below (by (with_reducible repeat (first | apply Kd.R_alloc | apply Kd.R_drewN | apply Kd.R_drew)); exact HO_5.out) hb); have n1_ := Aside0.mk (Kd.R_below (by (with_reducible repeat (first | apply Kd.R_alloc | apply Kd.R_drewN | apply Kd.R_drew)); exact HO10009.out) hb); have n2_ := Aside0.mk (Kd.R_below (by (with_reducible repeat (first | apply Kd.R_alloc | apply Kd.R_drewN | apply Kd.R_drew)); exact HO10012.out) hb); have n3_ := Aside0.mk (below_step (by repeat (first | (with_reducible first | exact HB.out | apply below_alloc | apply pw_below_drewN | apply below_drew1) | exact HB.out)) hb); clear HO_5; clear HO10009; clear HO10012; clear HB; have HO_5 := n0_; have HO10009 := n1_; have HO10012 := n2_; have HB := n3_; clear n0_ n1_ n2_ n3_; (try clear hb); (try clear hb2); (try clear hk); (try clear hi)))
                go_ret
                exact ⟨by first | rfl | (simp [errW_none, errW_some] <;> rfl) | (simp [*, errW_none, errW_some] <;> rfl), by repeat (first | (with_reducible first | exact HB.out | apply below_alloc | apply pw_below_drewN | apply below_drew1) | exact HB.out)⟩
              · rw [if_neg c13] at H
                have c13b0 : ((strOfNums t10007).toList == (strOfNums t10010).toList) = false := beq_eq_false_iff_ne.mpr c13
                have c13b1 : ((strOfNums t10007).toList != (strOfNums t10010).toList) = true := bne_iff_ne.mpr c13
                exact absurd ((Option.some.inj H).trans hr_.out) (by decide)
            · rw [if_neg c12] at H
              have c12b0 : ((y10001.length : Int) == 0) = false := beq_eq_false_iff_ne.mpr c12
              have c12b1 : ((y10001.length : Int) != 0) = true := bne_iff_ne.mpr c12
              have c12b2 : ¬ (y10001 = []) := fun h_ => c12 (by rw [h_]; rfl)
              by_cases c21 : 1 ≤ (y10001.length : Int)
              · rw [if_pos c21] at H
                have c21b0 := eq_true c21
                have c21b1 : decide (1 ≤ (y10001.length : Int)) = true := decide_eq_true c21
                clear c21
                obtain ⟨y10014, hy10014⟩ : ∃ y_ : List Int, y_ = (y10001.take 1) := ⟨_, rfl⟩
                replace H : ((delta_Encode.f k1 y10014).bind fun t10016 => (if 1 ≤ (x5_1.length : Int) then ((delta_Encode.f k1 (x5_1.take 1)).bind fun t10023 => (if (t10007.length : Int) ≥ (t10016.length : Int) then (if (t10010.length : Int) ≥ (t10023.length : Int) then (if 0 ≤ (t10016.length : Int) then (if (t10016.length : Int) ≤ (t10007.length : Int) then (if 0 ≤ (t10023.length : Int) then (if (t10023.length : Int) ≤ (t10010.length : Int) then (if (strOfNums (t10007.drop ((t10016.length : Int) : Int).toNat)).toList = (strOfNums (t10010.drop ((t10023.length : Int) : Int).toNat)).toList then ((columbariumlaw4_known.f k1).bind fun t10034 => (some t10034)) else (some false)) else (none)) else (none)) else (none)) else (none)) else (some false)) else (some false))) else (none))) = some r := by first | (rw [hy10014]; with_reducible exact H) | (have H2_ := (Option.bind_some _ _).symm.trans H; rw [hy10014]; with_reducible exact H2_) | (have H2_ := (Option.bind_some _ _).symm.trans H; with_reducible exact H2_) | with_reducible exact H | (rw [hy10014]; exact H) | exact H
                have Ny10014 := Aside0.mk hy10014
                clear hy10014
                replace H := Option.bind_eq_some_iff.mp H
                obtain ⟨t10016, A220, H⟩ := H
                replace H : (if 1 ≤ (x5_1.length : Int) then ((delta_Encode.f k1 (x5_1.take 1)).bind fun t10023 => (if (t10007.length : Int) ≥ (t10016.length : Int) then (if (t10010.length : Int) ≥ (t10023.length : Int) then (if 0 ≤ (t10016.length : Int) then (if (t10016.length : Int) ≤ (t10007.length : Int) then (if 0 ≤ (t10023.length : Int) then (if (t10023.length : Int) ≤ (t10010.length : Int) then (if (strOfNums (t10007.drop ((t10016.length : Int) : Int).toNat)).toList = (strOfNums (t10010.drop ((t10023.length : Int) : Int).toNat)).toList then ((columbariumlaw4_known.f k1).bind fun t10034 => (some t10034)) else (some false)) else (none)) else (none)) else (none)) else (none)) else (some false)) else (some false))) else (none)) = some r := H
                have A22 := Aside0.mk A220
                clear A220
                by_cases c23 : 1 ≤ (x5_1.length : Int)
                · rw [if_pos c23] at H
                  have c23b0 := eq_true c23
                  have c23b1 : decide (1 ≤ (x5_1.length : Int)) = true := decide_eq_true c23
                  clear c23
                  obtain ⟨y10019, hy10019⟩ : ∃ y_ : List Int, y_ = (x5_1.take 1) := ⟨_, rfl⟩
                  replace H : ((delta_Encode.f k1 y10019).bind fun t10023 => (if (t10007.length : Int) ≥ (t10016.length : Int) then (if (t10010.length : Int) ≥ (t10023.length : Int) then (if 0 ≤ (t10016.length : Int) then (if (t10016.length : Int) ≤ (t10007.length : Int) then (if 0 ≤ (t10023.length : Int) then (if (t10023.length : Int) ≤ (t10010.length : Int) then (if (strOfNums (t10007.drop ((t10016.length : Int) : Int).toNat)).toList = (strOfNums (t10010.drop ((t10023.length : Int) : Int).toNat)).toList then ((columbariumlaw4_known.f k1).bind fun t10034 => (some t10034)) else (some false)) else (none)) else (none)) else (none)) else (none)) else (some false)) else (some false))) = some r := by first | (rw [hy10019]; with_reducible exact H) | (have H2_ := (Option.bind_some _ _).symm.trans H; rw [hy10019]; with_reducible exact H2_) | (have H2_ := (Option.bind_some _ _).symm.trans H; with_reducible exact H2_) | with_reducible exact H | (rw [hy10019]; exact H) | exact H
                  have Ny10019 := Aside0.mk hy10019
                  clear hy10019
                  replace H := Option.bind_eq_some_iff.mp H
                  obtain ⟨t10023, A240, H⟩ := H
                  replace H : (if (t10007.length : Int) ≥ (t10016.length : Int) then (if (t10010.length : Int) ≥ (t10023.length : Int) then (if 0 ≤ (t10016.length : Int) then (if (t10016.length : Int) ≤ (t10007.length : Int) then (if 0 ≤ (t10023.length : Int) then (if (t10023.length : Int) ≤ (t10010.length : Int) then (if (strOfNums (t10007.drop ((t10016.length : Int) : Int).toNat)).toList = (strOfNums (t10010.drop ((t10023.length : Int) : Int).toNat)).toList then ((columbariumlaw4_known.f k1).bind fun t10034 => (some t10034)) else (some false)) else (none)) else (none)) else (none)) else (none)) else (some false)) else (some false)) = some r := H
                  have A24 := Aside0.mk A240
                  clear A240
                  by_cases c25 : (t10007.length : Int) ≥ (t10016.length : Int)
                  · rw [if_pos c25] at H
                    have c25b0 : decide ((t10016.length : Int) ≤ (t10007.length : Int)) = true := decide_eq_true c25
                    have c25b1 : decide (t10016.length ≤ t10007.length) = true := decide_eq_true (Int.ofNat_le.mp c25)
                    clear c25
                    by_cases c26 : (t10010.length : Int) ≥ (t10023.length : Int)
                    · rw [if_pos c26] at H
                      have c26b0 : decide ((t10023.length : Int) ≤ (t10010.length : Int)) = true := decide_eq_true c26
                      have c26b1 : decide (t10023.length ≤ t10010.length) = true := decide_eq_true (Int.ofNat_le.mp c26)
                      clear c26
                      by_cases c27 : 0 ≤ (t10016.length : Int)
                      · rw [if_pos c27] at H
                        have c27b0 := eq_true c27
                        have c27b1 : decide (0 ≤ (t10016.length : Int)) = true := decide_eq_true c27
                        clear c27
                        by_cases c28 : (t10016.length : Int) ≤ (t10007.length : Int)
                        · rw [if_pos c28] at H
                          have c28b0 := eq_true c28
                          have c28b1 : decide ((t10016.length : Int) ≤ (t10007.length : Int)) = true := decide_eq_true c28
                          clear c28
                          obtain ⟨y10026, hy10026⟩ : ∃ y_ : List Int, y_ = (t10007.drop ((t10016.length : Int) : Int).toNat) := ⟨_, rfl⟩
                          replace H : (if 0 ≤ (t10023.length : Int) then (if (t10023.length : Int) ≤ (t10010.length : Int) then (if (strOfNums y10026).toList = (strOfNums (t10010.drop ((t10023.length : Int) : Int).toNat)).toList then ((columbariumlaw4_known.f k1).bind fun t10034 => (some t10034)) else (some false)) else (none)) else (none)) = some r := by first | (rw [hy10026]; with_reducible exact H) | (have H2_ := (Option.bind_some _ _).symm.trans H; rw [hy10026]; with_reducible exact H2_) | (have H2_ := (Option.bind_some _ _).symm.trans H; with_reducible exact H2_) | with_reducible exact H | (rw [hy10026]; exact H) | exact H
                          have Ny10026 := Aside0.mk hy10026
                          clear hy10026
                          by_cases c29 : 0 ≤ (t10023.length : Int)
                          · rw [if_pos c29] at H
                            have c29b0 := eq_true c29
                            have c29b1 : decide (0 ≤ (t10023.length : Int)) = true := decide_eq_true c29
                            clear c29
                            by_cases c30 : (t10023.length : Int) ≤ (t10010.length : Int)
                            · rw [if_pos c30] at H
                              have c30b0 := eq_true c30
                              have c30b1 : decide ((t10023.length : Int) ≤ (t10010.length : Int)) = true := decide_eq_true c30
                              clear c30
                              obtain ⟨y10030, hy10030⟩ : ∃ y_ : List Int, y_ = (t10010.drop ((t10023.length : Int) : Int).toNat) := ⟨_, rfl⟩
                              replace H : (if (strOfNums y10026).toList = (strOfNums y10030).toList then ((columbariumlaw4_known.f k1).bind fun t10034 => (some t10034)) else (some false)) = some r := by first | (rw [hy10030]; with_reducible exact H) | (have H2_ := (Option.bind_some _ _).symm.trans H; rw [hy10030]; with_reducible exact H2_) | (have H2_ := (Option.bind_some _ _).symm.trans H; with_reducible exact H2_) | with_reducible exact H | (rw [hy10030]; exact H) | exact H
                              have Ny10030 := Aside0.mk hy10030
                              clear hy10030
                              by_cases c31 : (strOfNums y10026).toList = (strOfNums y10030).toList
                              · rw [if_pos c31] at H
                                have c31b0 : ((strOfNums y10026).toList == (strOfNums y10030).toList) = true := beq_iff_eq.mpr c31
                                have c31b1 : ((strOfNums y10026).toList != (strOfNums y10030).toList) = false := bne_eq_false_iff_eq.mpr c31
                                clear c31
                                replace H := Option.bind_eq_some_iff.mp H
                                obtain ⟨t10034, A320, H⟩ := H
                                replace H : (some t10034) = some r := H
                                have A32 := Aside0.mk A320
                                clear A320
                                obtain rfl := Option.some.inj H
                                try go_wp2_with (first | ((with_reducible refine gate_callee (f := 16) rfl ?_); refine goesL_ (some 29) rfl rfl Try.func16 (by kernel_rfl) rfl #[.slice A0 y10001.length c0] rfl (by (try simp only [List.map_toArray, List.map_cons, List.map_nil]); first | done | rfl | (simp only [List.length_drop, List.length_take]; rfl)) ?_; (with_reducible refine (delta_Encode.calls k1 _ _ y10001 t10007 _ ?side1 ?side2 A10.out).mono ?_); (case side1 => repeat (first | exact (Kd.C_below HR10002.out HB.out) | (with_reducible refine Kd.C_alloc ?_ _) | (with_reducible refine Kd.C_drewN ?_ _) | (with_reducible refine Kd.C_drew ?_))); (case side2 => exact HC10002.out); rintro e w33 ⟨v10008, rfl, ho0, hb⟩; refine ⟨_, rfl, ?_⟩; have n0_ := Aside0.mk (Kd.R_below (by (with_reducible repeat (first | apply Kd.R_alloc | apply Kd.R_drewN | apply Kd.R_drew)); exact HO_5.out) hb); have n1_ := Aside0.mk (Kd.R_lower ho0 (below_size (by repeat (first | (with_reducible first | exact HB.out | apply below_alloc | apply pw_below_drewN | apply below_drew1) | exact HB.out)))); have n2_ := Aside0.mk (below_step (by repeat (first | (with_reducible first | exact HB.out | apply below_alloc | apply pw_below_drewN | apply below_drew1) | exact HB.out)) hb); clear HO_5; clear HB; have HO_5 := n0_; have HO10009 := n1_; have HB := n2_; clear n0_ n1_ n2_; (try clear hb); (try clear hb2); (try clear hk); (try clear hi); (try clear ho0); obtain ⟨Ao34, co34, eo34⟩ := Kd.R_slice HO_5.out; subst eo34) | ((with_reducible refine gate_callee (f := 16) rfl ?_); refine goesL_ (some 31) rfl rfl Try.func16 (by kernel_rfl) rfl #[.slice Ao34 x5_1.length co34] rfl (by (try simp only [List.map_toArray, List.map_cons, List.map_nil]); first | done | rfl | (simp only [List.length_drop, List.length_take]; rfl)) ?_; (with_reducible refine (delta_Encode.calls k1 _ _ x5_1 t10010 _ ?side1 ?side2 A11.out).mono ?_); (case side1 => repeat (first | exact (Kd.R_reads' HO_5.out).2.2 | (with_reducible refine Kd.C_alloc ?_ _) | (with_reducible refine Kd.C_drewN ?_ _) | (with_reducible refine Kd.C_drew ?_))); (case side2 => exact (Kd.R_reads' HO_5.out).2.1); rintro e w35 ⟨v10011, rfl, ho0, hb⟩; refine ⟨_, rfl, ?_⟩; have n0_ := Aside0.mk (Kd.R_below (by (with_reducible repeat (first | apply Kd.R_alloc | apply Kd.R_drewN | apply Kd.R_drew)); exact HO_5.out) hb); have n1_ := Aside0.mk (Kd.R_elder' (by (with_reducible repeat (first | apply Kd.R_alloc | apply Kd.R_drewN | apply Kd.R_drew)); exact HO10009.out) (Kd.R_base ho0) hb); have n2_ := Aside0.mk (Kd.R_lower (Kd.R_new' ho0 (Kd.R_lt (by (with_reducible repeat (first | apply Kd.R_alloc | apply Kd.R_drewN | apply Kd.R_drew)); exact HO10009.out))) (below_size (by repeat (first | (with_reducible first | exact HB.out | apply below_alloc | apply pw_below_drewN | apply below_drew1) | exact HB.out)))); have n3_ := Aside0.mk (below_step (by repeat (first | (with_reducible first | exact HB.out | apply below_alloc | apply pw_below_drewN | apply below_drew1) | exact HB.out)) hb); clear HO_5; clear HO10009; clear HB; have HO_5 := n0_; have HO10009 := n1_; have HO10012 := n2_; have HB := n3_; clear n0_ n1_ n2_ n3_; (try clear hb); (try clear hb2); (try clear hk); (try clear hi); (try clear ho0); obtain ⟨i036, hi036, _, hsz36, _⟩ := info_parts info2; obtain ⟨hcut36, hA36, hC36⟩ := print_take_of (P := Try.prog) (Value.int .i64) 0 23 2 .i64 Try.underlying23 hi036 hsz36 A0 c0 y10001 1 (by omega) (of_decide_eq_true (by first | (with_reducible assumption) | assumption)) HC10002.out; have HR10015 := Aside0.mk (Kd.C_of_reads (h1 := fun _ => rfl) (hA36 _ (Kd.reads_of_C HR10002.out))); have HC10015 := Aside0.mk hC36; clear hA36 hC36 hi036 hsz36; rw [show (y10001.take (1 : Int).toNat) = y10014 from Ny10014.out.symm] at hcut36; rw [show (y10001.take (1 : Int).toNat) = y10014 from Ny10014.out.symm] at HR10015; rw [show (y10001.take (1 : Int).toNat) = y10014 from Ny10014.out.symm] at HC10015) | ((with_reducible refine gate_callee (f := 16) rfl ?_); refine goesL_ (some 45) rfl rfl Try.func16 (by kernel_rfl) rfl #[.slice A0 y10014.length c0] rfl (by (try simp only [List.map_toArray, List.map_cons, List.map_nil]); first | done | rfl | (simp only [List.length_drop, List.length_take]; rfl)) ?_; (with_reducible refine (delta_Encode.calls k1 _ _ y10014 t10016 _ ?side1 ?side2 A22.out).mono ?_); (case side1 => repeat (first | exact (Kd.C_below HR10015.out HB.out) | (with_reducible refine Kd.C_alloc ?_ _) | (with_reducible refine Kd.C_drewN ?_ _) | (with_reducible refine Kd.C_drew ?_))); (case side2 => exact HC10015.out); rintro e w37 ⟨v10017, rfl, ho0, hb⟩; refine ⟨_, rfl, ?_⟩; have n0_ := Aside0.mk (Kd.R_below (by (with_reducible repeat (first | apply Kd.R_alloc | apply Kd.R_drewN | apply Kd.R_drew)); exact HO_5.out) hb); have n1_ := Aside0.mk (Kd.R_elder' (by (with_reducible repeat (first | apply Kd.R_alloc | apply Kd.R_drewN | apply Kd.R_drew)); exact HO10009.out) (Kd.R_base ho0) hb); have n2_ := Aside0.mk (Kd.R_elder' (by (with_reducible repeat (first | apply Kd.R_alloc | apply Kd.R_drewN | apply Kd.R_drew)); exact HO10012.out) (Kd.R_base ho0) hb); have n3_ := Aside0.mk (Kd.R_lower (Kd.R_new' (Kd.R_new' ho0 (Kd.R_lt (by (with_reducible repeat (first | apply Kd.R_alloc | apply Kd.R_drewN | apply Kd.R_drew)); exact HO10009.out))) (Kd.R_lt (by (with_reducible repeat (first | apply Kd.R_alloc | apply Kd.R_drewN | apply Kd.R_drew)); exact HO10012.out))) (below_size (by repeat (first | (with_reducible first | exact HB.out | apply below_alloc | apply pw_below_drewN | apply below_drew1) | exact HB.out)))); have n4_ := Aside0.mk (below_step (by repeat (first | (with_reducible first | exact HB.out | apply below_alloc | apply pw_below_drewN | apply below_drew1) | exact HB.out)) hb); clear HO_5; clear HO10009; clear HO10012; clear HB; have HO_5 := n0_; have HO10009 := n1_; have HO10012 := n2_; have HO10018 := n3_; have HB := n4_; clear n0_ n1_ n2_ n3_ n4_; (try clear hb); (try clear hb2); (try clear hk); (try clear hi); (try clear ho0); have q38 : (1 : Int) ≤ ((x5_1.length : Int) : Int) := of_decide_eq_true (by first | (with_reducible assumption) | assumption); obtain ⟨i038, hi038, _, hsz38, _⟩ := info_parts info2; have hroom38 : x5_1.length ≤ co34 := (Kd.R_reads' HO_5.out).2.1; have hC38 : Kd.C (Kd.int .i64) _ Ao34 x5_1.length x5_1 := (Kd.R_reads' HO_5.out).2.2; have hcut38 := cut_to (P := Try.prog) 23 2 .i64 Try.underlying23 hi038 Ao34 x5_1.length co34 1 (by omega) q38 hroom38; have hr38 := Kd.C_take (m := 1) hC38 (by omega); have hy38 : y10019.length = (1 : Int).toNat := (by rw [Ny10019.out, List.length_take]; omega); rw [← Ny10019.out] at hr38; rw [← hy38] at hcut38; have HR10022 := Aside0.mk hr38; have HC10022 := Aside0.mk (show y10019.length ≤ co34 from by omega); clear hr38 hC38 hroom38 hi038 hsz38; have KY38 := Aside0.mk hy38; clear hy38; have KL38 := Aside0.mk (show 1 ≤ x5_1.length from by omega); replace q38 := eq_true q38) | ((with_reducible refine gate_callee (f := 16) rfl ?_); refine goesL_ (some 48) rfl rfl Try.func16 (by kernel_rfl) rfl #[.slice Ao34 y10019.length co34] rfl (by (try simp only [List.map_toArray, List.map_cons, List.map_nil]); first | done | rfl | (simp only [List.length_drop, List.length_take]; rfl)) ?_; (with_reducible refine (delta_Encode.calls k1 _ _ y10019 t10023 _ ?side1 ?side2 A24.out).mono ?_); (case side1 => repeat (first | exact (by repeat (first | (with_reducible exact HR10022.out) | (with_reducible refine Kd.C_alloc ?_ _) | (with_reducible refine Kd.C_drewN ?_ _) | (with_reducible refine Kd.C_drew ?_) | exact HR10022.out)) | (with_reducible refine Kd.C_alloc ?_ _) | (with_reducible refine Kd.C_drewN ?_ _) | (with_reducible refine Kd.C_drew ?_))); (case side2 => exact HC10022.out); rintro e w39 ⟨v10024, rfl, ho0, hb⟩; refine ⟨_, rfl, ?_⟩; have n0_ := Aside0.mk (Kd.R_below (by (with_reducible repeat (first | apply Kd.R_alloc | apply Kd.R_drewN | apply Kd.R_drew)); exact HO_5.out) hb); have n1_ := Aside0.mk (Kd.R_elder' (by (with_reducible repeat (first | apply Kd.R_alloc | apply Kd.R_drewN | apply Kd.R_drew)); exact HO10009.out) (Kd.R_base ho0) hb); have n2_ := Aside0.mk (Kd.R_elder' (by (with_reducible repeat (first | apply Kd.R_alloc | apply Kd.R_drewN | apply Kd.R_drew)); exact HO10012.out) (Kd.R_base ho0) hb); have n3_ := Aside0.mk (Kd.R_elder' (by (with_reducible repeat (first | apply Kd.R_alloc | apply Kd.R_drewN | apply Kd.R_drew)); exact HO10018.out) (Kd.R_base ho0) hb); have n4_ := Aside0.mk (Kd.R_lower (Kd.R_new' (Kd.R_new' (Kd.R_new' ho0 (Kd.R_lt (by (with_reducible repeat (first | apply Kd.R_alloc | apply Kd.R_drewN | apply Kd.R_drew)); exact HO10009.out))) (Kd.R_lt (by (with_reducible repeat (first | apply Kd.R_alloc | apply Kd.R_drewN | apply Kd.R_drew)); exact HO10012.out))) (Kd.R_lt (by (with_reducible repeat (first | apply Kd.R_alloc | apply Kd.R_drewN | apply Kd.R_drew)); exact HO10018.out))) (below_size (by repeat (first | (with_reducible first | exact HB.out | apply below_alloc | apply pw_below_drewN | apply below_drew1) | exact HB.out)))); have n5_ := Aside0.mk (Kd.C_below (by repeat (first | (with_reducible exact HR10022.out) | (with_reducible refine Kd.C_alloc ?_ _) | (with_reducible refine Kd.C_drewN ?_ _) | (with_reducible refine Kd.C_drew ?_) | exact HR10022.out)) hb); have n6_ := Aside0.mk (below_step (by repeat (first | (with_reducible first | exact HB.out | apply below_alloc | apply pw_below_drewN | apply below_drew1) | exact HB.out)) hb); clear HO_5; clear HO10009; clear HO10012; clear HO10018; clear HR10022; clear HB; have HO_5 := n0_; have HO10009 := n1_; have HO10012 := n2_; have HO10018 := n3_; have HO10025 := n4_; have HR10022 := n5_; have HB := n6_; clear n0_ n1_ n2_ n3_ n4_ n5_ n6_; (try clear hb); (try clear hb2); (try clear hk); (try clear hi); (try clear ho0)))
                                have n0_ := Aside0.mk (Kd.R_drew HO_5.out)
                                have n1_ := Aside0.mk (Kd.R_drew HO10009.out)
                                have n2_ := Aside0.mk (Kd.R_drew HO10012.out)
                                have n3_ := Aside0.mk (Kd.R_drew HO10018.out)
                                have n4_ := Aside0.mk (Kd.R_drew HO10025.out)
                                have n5_ := Aside0.mk (Kd.C_drew HR10022.out)
                                have n6_ := Aside0.mk (below_drew1 HB.out)
                                clear HO_5
                                clear HO10009
                                clear HO10012
                                clear HO10018
                                clear HO10025
                                clear HR10022
                                clear HB
                                have HO_5 := n0_
                                have HO10009 := n1_
                                have HO10012 := n2_
                                have HO10018 := n3_
                                have HO10025 := n4_
                                have HR10022 := n5_
                                have HB := n6_
                                clear n0_ n1_ n2_ n3_ n4_ n5_ n6_
                                obtain ⟨Ao41, co41, eo41⟩ := Kd.R_slice HO10009.out
                                (first | subst eo41 | (injection eo41 with f1_ f2_ f3_; have f4_ := f1_.symm; have f5_ := f3_.symm; clear f1_ f2_ f3_; subst f4_; subst f5_))
                                obtain ⟨Ao42, co42, eo42⟩ := Kd.R_slice HO10018.out
                                (first | subst eo42 | (injection eo42 with f1_ f2_ f3_; have f4_ := f1_.symm; have f5_ := f3_.symm; clear f1_ f2_ f3_; subst f4_; subst f5_))
                                obtain ⟨Ao43, co43, eo43⟩ := Kd.R_slice HO10012.out
                                (first | subst eo43 | (injection eo43 with f1_ f2_ f3_; have f4_ := f1_.symm; have f5_ := f3_.symm; clear f1_ f2_ f3_; subst f4_; subst f5_))
                                obtain ⟨Ao44, co44, eo44⟩ := Kd.R_slice HO10025.out
                                (first | subst eo44 | (injection eo44 with f1_ f2_ f3_; have f4_ := f1_.symm; have f5_ := f3_.symm; clear f1_ f2_ f3_; subst f4_; subst f5_))
                                have q45 : ((t10016.length : Int) : Int) ≤ ((t10007.length : Int) : Int) := of_decide_eq_true (by first | (with_reducible assumption) | assumption)
                                obtain ⟨i045, hi045, _, hsz45, _⟩ := info_parts info5
                                have hroom45 : t10007.length ≤ co41 := (Kd.R_reads' HO10009.out).2.1
                                have hC45 : Kd.C (Kd.int .u8) _ Ao41 t10007.length t10007 := (Kd.R_reads' HO10009.out).2.2
                                have q045 : (0 : Int) ≤ ((t10016.length : Int) : Int) := of_decide_eq_true (by first | (with_reducible assumption) | assumption)
                                have hcut45 := cut_from (P := Try.prog) 24 5 .i64 Try.underlying24 hi045 1 hsz45 Ao41 t10007.length co41 (t10016.length : Int) q045 q45
                                have hr45 := Kd.C_drop (m := ((t10016.length : Int) : Int).toNat) (c := co41) hC45 (by omega) hroom45
                                obtain ⟨A45, hA45⟩ : ∃ A1, A1 = (if co41 = ((t10016.length : Int) : Int).toNat then Ao41 else (Ao41 : Option Addr).map (·.add (((t10016.length : Int) : Int).toNat * 1))) := ⟨_, rfl⟩
                                obtain ⟨c45, hc45⟩ : ∃ c1, c1 = co41 - ((t10016.length : Int) : Int).toNat := ⟨_, rfl⟩
                                have hy45 : y10026.length = t10007.length - ((t10016.length : Int) : Int).toNat := (by rw [Ny10026.out, List.length_drop] <;> omega)
                                rw [show (t10007).drop ((t10016.length : Int) : Int).toNat = y10026 from Ny10026.out.symm] at hr45
                                replace hr45 : Kd.C (Kd.int .u8) _ A45 y10026.length y10026 := (by rw [hA45]; exact hr45)
                                rw [← hy45, ← hA45, ← hc45] at hcut45
                                have HR10029 := Aside0.mk hr45
                                have HC10029 := Aside0.mk (show y10026.length ≤ c45 from by rw [hy45, hc45]; exact Nat.sub_le_sub_right hroom45 _)
                                clear hr45 hC45 hroom45 hi045 hsz45 hc45
                                have KY45 := Aside0.mk hy45
                                have KA45 := Aside0.mk hA45
                                clear hy45 hA45
                                have KL45 := Aside0.mk (show ((t10016.length : Int) : Int).toNat ≤ t10007.length from by omega)
                                replace q45 := eq_true q45
                                have q46 : ((t10023.length : Int) : Int) ≤ ((t10010.length : Int) : Int) := of_decide_eq_true (by first | (with_reducible assumption) | assumption)
                                obtain ⟨i046, hi046, _, hsz46, _⟩ := info_parts info5
                                have hroom46 : t10010.length ≤ co43 := (Kd.R_reads' HO10012.out).2.1
                                have hC46 : Kd.C (Kd.int .u8) _ Ao43 t10010.length t10010 := (Kd.R_reads' HO10012.out).2.2
                                have q046 : (0 : Int) ≤ ((t10023.length : Int) : Int) := of_decide_eq_true (by first | (with_reducible assumption) | assumption)
                                have hcut46 := cut_from (P := Try.prog) 24 5 .i64 Try.underlying24 hi046 1 hsz46 Ao43 t10010.length co43 (t10023.length : Int) q046 q46
                                have hr46 := Kd.C_drop (m := ((t10023.length : Int) : Int).toNat) (c := co43) hC46 (by omega) hroom46
                                obtain ⟨A46, hA46⟩ : ∃ A1, A1 = (if co43 = ((t10023.length : Int) : Int).toNat then Ao43 else (Ao43 : Option Addr).map (·.add (((t10023.length : Int) : Int).toNat * 1))) := ⟨_, rfl⟩
                                obtain ⟨c46, hc46⟩ : ∃ c1, c1 = co43 - ((t10023.length : Int) : Int).toNat := ⟨_, rfl⟩
                                have hy46 : y10030.length = t10010.length - ((t10023.length : Int) : Int).toNat := (by rw [Ny10030.out, List.length_drop] <;> omega)
                                rw [show (t10010).drop ((t10023.length : Int) : Int).toNat = y10030 from Ny10030.out.symm] at hr46
                                replace hr46 : Kd.C (Kd.int .u8) _ A46 y10030.length y10030 := (by rw [hA46]; exact hr46)
                                rw [← hy46, ← hA46, ← hc46] at hcut46
                                have HR10033 := Aside0.mk hr46
                                have HC10033 := Aside0.mk (show y10030.length ≤ c46 from by rw [hy46, hc46]; exact Nat.sub_le_sub_right hroom46 _)
                                clear hr46 hC46 hroom46 hi046 hsz46 hc46
                                have KY46 := Aside0.mk hy46
                                have KA46 := Aside0.mk hA46
                                clear hy46 hA46
                                have KL46 := Aside0.mk (show ((t10023.length : Int) : Int).toNat ≤ t10010.length from by omega)
                                replace q46 := eq_true q46
                                refine start_ (n := 29) (S := fun w' => (∀ m_ : Nat, m_ = y10026.length → (convert 24 9 (.slice A45 m_ c45)).run Try.prog w' = .ok (.string (strOfNums y10026)) w') ∧ (∀ m_ : Nat, m_ = y10030.length → (convert 24 9 (.slice A46 m_ c46)).run Try.prog w' = .ok (.string (strOfNums y10030)) w')) (ds := [26]) #[false, false, false, false, false, false, false, false, false, false, false, false, false, false, false, false, false, false, false, false, false, false, false, false, false, false, false, false, false] (by kernel_rfl) rfl rfl ⟨(by first | exact (pw_C_string_len (A := A45) (c := c45) Try.underlying24 Try.underlying5 Try.underlying9 (by repeat (first | (with_reducible exact HR10029.out) | (with_reducible refine Kd.C_alloc ?_ _) | (with_reducible refine Kd.C_drewN ?_ _) | (with_reducible refine Kd.C_drew ?_) | exact HR10029.out))).1 | exact (pw_C_string_len (A := A45) (c := c45) Try.underlying24 Try.underlying5 Try.underlying9 (Kd.C_below HR10029.out HB.out)).1 | exact (pw_C_string_len (A := A45) (c := c45) Try.underlying24 Try.underlying5 Try.underlying9 (HR10029.out)).1 | exact (pw_C_string_len (A := A45) (c := c45) Try.underlying24 Try.underlying5 Try.underlying9 (Kd.C_drew HR10029.out)).1), (by first | exact (pw_C_string_len (A := A46) (c := c46) Try.underlying24 Try.underlying5 Try.underlying9 (by repeat (first | (with_reducible exact HR10033.out) | (with_reducible refine Kd.C_alloc ?_ _) | (with_reducible refine Kd.C_drewN ?_ _) | (with_reducible refine Kd.C_drew ?_) | exact HR10033.out))).1 | exact (pw_C_string_len (A := A46) (c := c46) Try.underlying24 Try.underlying5 Try.underlying9 (Kd.C_below HR10033.out HB.out)).1 | exact (pw_C_string_len (A := A46) (c := c46) Try.underlying24 Try.underlying5 Try.underlying9 (HR10033.out)).1 | exact (pw_C_string_len (A := A46) (c := c46) Try.underlying24 Try.underlying5 Try.underlying9 (Kd.C_drew HR10033.out)).1)⟩ (fun hHeld => ?_); refine with_tabW columbariumlaw4_DeltaShifts.tab13 columbariumlaw4_DeltaShifts.bits13 (fun HT_ HW_ => ?_)
                                generalize w39.drew = w40 at HO_5 HO10009 HO10012 HO10018 HO10025 HR10022 HB HR10029 HR10033 hHeld ⊢
                                refine pure_ (i := 0) (N := some 49) (v := ?_) (a' := ?_) #[true, false, false, false, false, false, false, false, false, false, false, false, false, false, false, false, false, false, false, false, false, false, false, false, false, false, false, false, false] rfl rfl (any_of HT_.out (by kernel_rfl)) (fun _ _ _ h => h) (Or.inl ⟨by rfl, ?_⟩) ?_ ?_
                                rotate_left
                                · intro w'
                                  go_simp
                                  with_reducible rfl
                                rotate_left
                                · simp only [Act.put, List.setIfInBounds_toArray, List.set_cons_zero, List.set_cons_succ, i64_w, i32_w]
                                  rfl
                                refine pure_ (i := 1) (N := some 50) (v := ?_) (a' := ?_) #[true, true, false, false, false, false, false, false, false, false, false, false, false, false, false, false, false, false, false, false, false, false, false, false, false, false, false, false, false] rfl rfl (any_of HT_.out (by kernel_rfl)) (fun _ _ _ h => h) (Or.inl ⟨by rfl, ?_⟩) ?_ ?_
                                rotate_left
                                · intro w'
                                  go_simp
                                  with_reducible rfl
                                rotate_left
                                · simp only [Act.put, List.setIfInBounds_toArray, List.set_cons_zero, List.set_cons_succ, i64_w, i32_w]
                                  rfl
                                refine pure_ (i := 2) (N := some 51) (v := ?_) (a' := ?_) #[true, true, true, false, false, false, false, false, false, false, false, false, false, false, false, false, false, false, false, false, false, false, false, false, false, false, false, false, false] rfl rfl (any_of HT_.out (by kernel_rfl)) (fun _ _ _ h => h) (Or.inl ⟨by rfl, ?_⟩) ?_ ?_
                                rotate_left
                                · intro w'
                                  go_simp
                                  with_reducible rfl
                                rotate_left
                                · simp only [Act.put, List.setIfInBounds_toArray, List.set_cons_zero, List.set_cons_succ, i64_w, i32_w]
                                  rfl
                                refine pure_ (i := 3) (N := some 52) (v := ?_) (a' := ?_) #[true, true, true, true, false, false, false, false, false, false, false, false, false, false, false, false, false, false, false, false, false, false, false, false, false, false, false, false, false] rfl rfl (any_of HT_.out (by kernel_rfl)) (fun _ _ _ h => h) (Or.inl ⟨by rfl, ?_⟩) ?_ ?_
                                rotate_left
                                · intro w'
                                  go_simp
                                  with_reducible rfl
                                rotate_left
                                · simp only [Act.put, List.setIfInBounds_toArray, List.set_cons_zero, List.set_cons_succ, i64_w, i32_w]
                                  rfl
                                refine pure_ (i := 4) (N := some 53) (v := ?_) (a' := ?_) #[true, true, true, true, true, false, false, false, false, false, false, false, false, false, false, false, false, false, false, false, false, false, false, false, false, false, false, false, false] rfl rfl (any_of HT_.out (by kernel_rfl)) (fun _ _ _ h => h) (Or.inl ⟨by rfl, ?_⟩) ?_ ?_
                                rotate_left
                                · intro w'
                                  go_simp
                                  with_reducible rfl
                                rotate_left
                                · simp only [Act.put, List.setIfInBounds_toArray, List.set_cons_zero, List.set_cons_succ, i64_w, i32_w]
                                  rfl
                                refine pure_ (i := 5) (N := some 54) (v := ?_) (a' := ?_) #[true, true, true, true, true, true, false, false, false, false, false, false, false, false, false, false, false, false, false, false, false, false, false, false, false, false, false, false, false] rfl rfl (any_of HT_.out (by kernel_rfl)) (fun _ _ _ h => h) (Or.inl ⟨by rfl, ?_⟩) ?_ ?_
                                rotate_left
                                · intro w'
                                  go_simp
                                  with_reducible rfl
                                rotate_left
                                · simp only [Act.put, List.setIfInBounds_toArray, List.set_cons_zero, List.set_cons_succ, i64_w, i32_w]
                                  rfl
                                refine pure_ (i := 6) (N := some 55) (v := ?_) (a' := ?_) #[true, true, true, true, true, true, true, false, false, false, false, false, false, false, false, false, false, false, false, false, false, false, false, false, false, false, false, false, false] rfl rfl (any_of HT_.out (by kernel_rfl)) (fun _ _ _ h => h) (Or.inl ⟨by rfl, ?_⟩) ?_ ?_
                                rotate_left
                                · intro w'
                                  go_simp
                                  with_reducible rfl
                                rotate_left
                                · simp only [Act.put, List.setIfInBounds_toArray, List.set_cons_zero, List.set_cons_succ, i64_w, i32_w]
                                  rfl
                                refine pure_ (i := 7) (N := some 56) (v := ?_) (a' := ?_) #[true, true, true, true, true, true, true, true, false, false, false, false, false, false, false, false, false, false, false, false, false, false, false, false, false, false, false, false, false] rfl rfl (any_of HT_.out (by kernel_rfl)) (fun _ _ _ h => h) (Or.inl ⟨by rfl, ?_⟩) ?_ ?_
                                rotate_left
                                · intro w'
                                  go_simp
                                  with_reducible rfl
                                rotate_left
                                · simp only [Act.put, List.setIfInBounds_toArray, List.set_cons_zero, List.set_cons_succ, i64_w, i32_w]
                                  rfl
                                refine pure_ (i := 8) (N := some 57) (v := ?_) (a' := ?_) #[true, true, true, true, true, true, true, true, true, false, false, false, false, false, false, false, false, false, false, false, false, false, false, false, false, false, false, false, false] rfl rfl (any_of HT_.out (by kernel_rfl)) (fun _ _ _ h => h) (Or.inl ⟨by rfl, ?_⟩) ?_ ?_
                                rotate_left
                                · intro w'
                                  go_simp
                                  with_reducible rfl
                                rotate_left
                                · simp only [Act.put, List.setIfInBounds_toArray, List.set_cons_zero, List.set_cons_succ, i64_w, i32_w]
                                  rfl
                                refine pure_ (i := 9) (N := some 58) (v := ?_) (a' := ?_) #[true, true, true, true, true, true, true, true, true, true, false, false, false, false, false, false, false, false, false, false, false, false, false, false, false, false, false, false, false] rfl rfl (any_of HT_.out (by kernel_rfl)) (fun _ _ _ h => h) (Or.inl ⟨by rfl, ?_⟩) ?_ ?_
                                rotate_left
                                · intro w'
                                  go_simp
                                  with_reducible rfl
                                rotate_left
                                · simp only [Act.put, List.setIfInBounds_toArray, List.set_cons_zero, List.set_cons_succ, i64_w, i32_w]
                                  rfl
                                refine pure_ (i := 10) (N := some 59) (v := ?_) (a' := ?_) #[true, true, true, true, true, true, true, true, true, true, true, false, false, false, false, false, false, false, false, false, false, false, false, false, false, false, false, false, false] rfl rfl (any_of HT_.out (by kernel_rfl)) (fun _ _ _ h => h) (Or.inl ⟨by rfl, ?_⟩) ?_ ?_
                                rotate_left
                                · intro w'
                                  go_simp
                                  with_reducible rfl
                                rotate_left
                                · simp only [Act.put, List.setIfInBounds_toArray, List.set_cons_zero, List.set_cons_succ, i64_w, i32_w]
                                  rfl
                                refine pure_ (i := 11) (N := some 60) (v := ?_) (a' := ?_) #[true, true, true, true, true, true, true, true, true, true, true, true, false, false, false, false, false, false, false, false, false, false, false, false, false, false, false, false, false] rfl rfl (any_of HT_.out (by kernel_rfl)) (fun _ _ _ h => h) (Or.inl ⟨by rfl, ?_⟩) ?_ ?_
                                rotate_left
                                · intro w'
                                  go_simp
                                  with_reducible rfl
                                rotate_left
                                · simp only [Act.put, List.setIfInBounds_toArray, List.set_cons_zero, List.set_cons_succ, i64_w, i32_w]
                                  rfl
                                refine pure_ (i := 12) (N := some 61) (v := ?_) (a' := ?_) #[true, true, true, true, true, true, true, true, true, true, true, true, true, false, false, false, false, false, false, false, false, false, false, false, false, false, false, false, false] rfl rfl (any_of HT_.out (by kernel_rfl)) (fun _ _ _ h => h) (Or.inl ⟨by rfl, ?_⟩) ?_ ?_
                                rotate_left
                                · intro w'
                                  go_simp
                                  with_reducible rfl
                                rotate_left
                                · simp only [Act.put, List.setIfInBounds_toArray, List.set_cons_zero, List.set_cons_succ, i64_w, i32_w]
                                  rfl
                                refine pure_ (i := 13) (N := some 62) (v := ?_) (a' := ?_) #[true, true, true, true, true, true, true, true, true, true, true, true, true, true, false, false, false, false, false, false, false, false, false, false, false, false, false, false, false] rfl rfl (any_of HT_.out (by kernel_rfl)) (fun _ _ _ h => h) (Or.inl ⟨by rfl, ?_⟩) ?_ ?_
                                rotate_left
                                · intro w'
                                  go_simp
                                  with_reducible rfl
                                rotate_left
                                · simp only [Act.put, List.setIfInBounds_toArray, List.set_cons_zero, List.set_cons_succ, i64_w, i32_w]
                                  rfl
                                refine pure_ (i := 14) (N := some 63) (v := ?_) (a' := ?_) #[true, true, true, true, true, true, true, true, true, true, true, true, true, true, true, false, false, false, false, false, false, false, false, false, false, false, false, false, false] rfl rfl (any_of HT_.out (by kernel_rfl)) (fun _ _ _ h => h) (Or.inl ⟨by rfl, ?_⟩) ?_ ?_
                                rotate_left
                                · intro w'
                                  go_simp
                                  with_reducible rfl
                                rotate_left
                                · simp only [Act.put, List.setIfInBounds_toArray, List.set_cons_zero, List.set_cons_succ, i64_w, i32_w]
                                  rfl
                                refine pure_ (i := 15) (N := some 64) (v := ?_) (a' := ?_) #[true, true, true, true, true, true, true, true, true, true, true, true, true, true, true, true, false, false, false, false, false, false, false, false, false, false, false, false, false] rfl rfl (any_of HT_.out (by kernel_rfl)) (fun _ _ _ h => h) (Or.inl ⟨by rfl, ?_⟩) ?_ ?_
                                rotate_left
                                · intro w'
                                  go_simp
                                  with_reducible rfl
                                rotate_left
                                · simp only [Act.put, List.setIfInBounds_toArray, List.set_cons_zero, List.set_cons_succ, i64_w, i32_w]
                                  rfl
                                refine pure_ (i := 16) (N := some 65) (v := ?_) (a' := ?_) #[true, true, true, true, true, true, true, true, true, true, true, true, true, true, true, true, true, false, false, false, false, false, false, false, false, false, false, false, false] rfl rfl (any_of HT_.out (by kernel_rfl)) (fun _ _ _ h => h) (Or.inl ⟨by rfl, ?_⟩) ?_ ?_
                                rotate_left
                                · intro w'
                                  go_simp
                                  with_reducible rfl
                                rotate_left
                                · simp only [Act.put, List.setIfInBounds_toArray, List.set_cons_zero, List.set_cons_succ, i64_w, i32_w]
                                  rfl
                                refine pure_ (i := 18) (N := some 67) (v := ?_) (a' := ?_) #[true, true, true, true, true, true, true, true, true, true, true, true, true, true, true, true, true, false, true, false, false, false, false, false, false, false, false, false, false] rfl rfl (any_of HT_.out (by kernel_rfl)) (fun _ _ _ h => h) (Or.inl ⟨by rfl, ?_⟩) ?_ ?_
                                rotate_left
                                · intro w'
                                  go_simp
                                  with_reducible rfl
                                rotate_left
                                · simp only [Act.put, List.setIfInBounds_toArray, List.set_cons_zero, List.set_cons_succ, i64_w, i32_w]
                                  rfl
                                refine pure_ (i := 19) (N := some 68) (v := ?_) (a' := ?_) #[true, true, true, true, true, true, true, true, true, true, true, true, true, true, true, true, true, false, true, true, false, false, false, false, false, false, false, false, false] rfl rfl (any_of HT_.out (by kernel_rfl)) (fun _ _ _ h => h) (Or.inl ⟨by rfl, ?_⟩) ?_ ?_
                                rotate_left
                                · intro w'
                                  go_simp
                                  with_reducible rfl
                                rotate_left
                                · simp only [Act.put, List.setIfInBounds_toArray, List.set_cons_zero, List.set_cons_succ, i64_w, i32_w]
                                  rfl
                                refine pure_ (i := 20) (N := some 69) (v := ?_) (a' := ?_) #[true, true, true, true, true, true, true, true, true, true, true, true, true, true, true, true, true, false, true, true, true, false, false, false, false, false, false, false, false] rfl rfl (any_of HT_.out (by kernel_rfl)) (fun _ _ _ h => h) (Or.inl ⟨by rfl, ?_⟩) ?_ ?_
                                rotate_left
                                · intro w'
                                  go_simp
                                  with_reducible rfl
                                rotate_left
                                · simp only [Act.put, List.setIfInBounds_toArray, List.set_cons_zero, List.set_cons_succ, i64_w, i32_w]
                                  rfl
                                refine pure_ (i := 21) (N := some 70) (v := ?_) (a' := ?_) #[true, true, true, true, true, true, true, true, true, true, true, true, true, true, true, true, true, false, true, true, true, true, false, false, false, false, false, false, false] rfl rfl (any_of HT_.out (by kernel_rfl)) (fun _ _ _ h => h) (Or.inl ⟨by rfl, ?_⟩) ?_ ?_
                                rotate_left
                                · intro w'
                                  go_simp
                                  with_reducible rfl
                                rotate_left
                                · simp only [Act.put, List.setIfInBounds_toArray, List.set_cons_zero, List.set_cons_succ, i64_w, i32_w]
                                  rfl
                                refine take_ (i := 17) (N := some 66) (v := ?_) (a' := ?_) #[true, true, true, true, true, true, true, true, true, true, true, true, true, true, true, true, true, true, true, true, true, true, false, false, false, false, false, false, false] rfl rfl (take_ofW HT_.out HW_.out (by kernel_rfl)) (fun _ _ _ h => h) (Or.inl ⟨by rfl, ?_⟩) hHeld ?_ ?_
                                rotate_left
                                · rintro w' ⟨s0, s1⟩
                                  go_simp
                                  with_reducible rfl
                                rotate_left
                                · simp only [Act.put, List.setIfInBounds_toArray, List.set_cons_zero, List.set_cons_succ, i64_w, i32_w]
                                  rfl
                                refine take_ (i := 22) (N := some 71) (v := ?_) (a' := ?_) #[true, true, true, true, true, true, true, true, true, true, true, true, true, true, true, true, true, true, true, true, true, true, true, false, false, false, false, false, false] rfl rfl (take_ofW HT_.out HW_.out (by kernel_rfl)) (fun _ _ _ h => h) (Or.inl ⟨by rfl, ?_⟩) hHeld ?_ ?_
                                rotate_left
                                · rintro w' ⟨s0, s1⟩
                                  go_simp
                                  with_reducible rfl
                                rotate_left
                                · simp only [Act.put, List.setIfInBounds_toArray, List.set_cons_zero, List.set_cons_succ, i64_w, i32_w]
                                  rfl
                                refine pure_ (i := 23) (N := some 72) (v := ?_) (a' := ?_) #[true, true, true, true, true, true, true, true, true, true, true, true, true, true, true, true, true, true, true, true, true, true, true, true, false, false, false, false, false] rfl rfl (any_of HT_.out (by kernel_rfl)) (fun _ _ _ h => h) (Or.inl ⟨by rfl, ?_⟩) ?_ ?_
                                rotate_left
                                · intro w'
                                  go_simp
                                  with_reducible rfl
                                rotate_left
                                · simp only [Act.put, List.setIfInBounds_toArray, List.set_cons_zero, List.set_cons_succ, i64_w, i32_w]
                                  rfl
                                refine pure_ (i := 24) (N := some 73) (v := ?_) (a' := ?_) #[true, true, true, true, true, true, true, true, true, true, true, true, true, true, true, true, true, true, true, true, true, true, true, true, true, false, false, false, false] rfl rfl (any_of HT_.out (by kernel_rfl)) (fun _ _ _ h => h) (Or.inl ⟨by rfl, ?_⟩) ?_ ?_
                                rotate_left
                                · intro w'
                                  go_simp
                                  with_reducible rfl
                                rotate_left
                                · simp only [Act.put, List.setIfInBounds_toArray, List.set_cons_zero, List.set_cons_succ, i64_w, i32_w]
                                  rfl
                                refine pure_ (i := 25) (N := some 74) (v := ?_) (a' := ?_) #[true, true, true, true, true, true, true, true, true, true, true, true, true, true, true, true, true, true, true, true, true, true, true, true, true, true, false, false, false] rfl rfl (any_of HT_.out (by kernel_rfl)) (fun _ _ _ h => h) (Or.inl ⟨by rfl, ?_⟩) ?_ ?_
                                rotate_left
                                · intro w'
                                  go_simp
                                  with_reducible rfl
                                rotate_left
                                · simp only [Act.put, List.setIfInBounds_toArray, List.set_cons_zero, List.set_cons_succ, i64_w, i32_w]
                                  rfl
                                refine last_ (i := 26) (N := some 75) #[true, true, true, true, true, true, true, true, true, true, true, true, true, true, true, true, true, true, true, true, true, true, true, true, true, true, true, false, false] rfl rfl (one_of HT_.out (by kernel_rfl)) (by decide) (fun K hK => ?_)
                                refine goes_ Try.func17 (by kernel_rfl) rfl #[] (by rfl) rfl rfl (by (try simp only [List.map_toArray, List.map_cons, List.map_nil]); first | done | rfl | (simp only [List.length_drop, List.length_take]; rfl)) ?_
                                with_reducible refine (columbariumlaw4_known.calls k1  t10034 _ A32.out).mono ?_
                                rintro e w47 ⟨rfl, hb⟩
                                refine ⟨_, rfl, ?_⟩
                                have n0_ := Aside0.mk (Kd.R_below (by (with_reducible repeat (first | apply Kd.R_alloc | apply Kd.R_drewN | apply Kd.R_drew)); exact HO_5.out) hb)
                                have n1_ := Aside0.mk (Kd.R_below (by (with_reducible repeat (first | apply Kd.R_alloc | apply Kd.R_drewN | apply Kd.R_drew)); exact HO10009.out) hb)
                                have n2_ := Aside0.mk (Kd.R_below (by (with_reducible repeat (first | apply Kd.R_alloc | apply Kd.R_drewN | apply Kd.R_drew)); exact HO10012.out) hb)
                                have n3_ := Aside0.mk (Kd.R_below (by (with_reducible repeat (first | apply Kd.R_alloc | apply Kd.R_drewN | apply Kd.R_drew)); exact HO10018.out) hb)
                                have n4_ := Aside0.mk (Kd.R_below (by (with_reducible repeat (first | apply Kd.R_alloc | apply Kd.R_drewN | apply Kd.R_drew)); exact HO10025.out) hb)
                                have n5_ := Aside0.mk (Kd.C_below (by repeat (first | (with_reducible exact HR10022.out) | (with_reducible refine Kd.C_alloc ?_ _) | (with_reducible refine Kd.C_drewN ?_ _) | (with_reducible refine Kd.C_drew ?_) | exact HR10022.out)) hb)
                                have n6_ := Aside0.mk (Kd.C_below (by repeat (first | (with_reducible exact HR10029.out) | (with_reducible refine Kd.C_alloc ?_ _) | (with_reducible refine Kd.C_drewN ?_ _) | (with_reducible refine Kd.C_drew ?_) | exact HR10029.out)) hb)
                                have n7_ := Aside0.mk (Kd.C_below (by repeat (first | (with_reducible exact HR10033.out) | (with_reducible refine Kd.C_alloc ?_ _) | (with_reducible refine Kd.C_drewN ?_ _) | (with_reducible refine Kd.C_drew ?_) | exact HR10033.out)) hb)
                                have n8_ := Aside0.mk (below_step (by repeat (first | (with_reducible first | exact HB.out | apply below_alloc | apply pw_below_drewN | apply below_drew1) | exact HB.out)) hb)
                                clear HO_5
                                clear HO10009
                                clear HO10012
                                clear HO10018
                                clear HO10025
                                clear HR10022
                                clear HR10029
                                clear HR10033
                                clear HB
                                have HO_5 := n0_
                                have HO10009 := n1_
                                have HO10012 := n2_
                                have HO10018 := n3_
                                have HO10025 := n4_
                                have HR10022 := n5_
                                have HR10029 := n6_
                                have HR10033 := n7_
                                have HB := n8_
                                clear n0_ n1_ n2_ n3_ n4_ n5_ n6_ n7_ n8_
                                (try clear hb)
                                (try clear hb2)
                                (try clear hk)
                                (try clear hi)
                                refine hK.out _ _ ?_
                                clear hK K
                                refine norm_ (a' := ?_) ?_ ?_
                                rotate_left
                                · show Act.put _ (some 75) _ = _
                                  simp only [Act.put, List.setIfInBounds_toArray, List.set_cons_zero, List.set_cons_succ, i64_w, i32_w]
                                  rfl
                                refine pure_ (i := 27) (N := some 76) (v := ?_) (a' := ?_) #[true, true, true, true, true, true, true, true, true, true, true, true, true, true, true, true, true, true, true, true, true, true, true, true, true, true, true, true, false] rfl rfl (any_of HT_.out (by kernel_rfl)) (fun _ _ _ h => h) (Or.inl ⟨by rfl, ?_⟩) ?_ ?_
                                rotate_left
                                · intro w'
                                  go_simp
                                  with_reducible rfl
                                rotate_left
                                · simp only [Act.put, List.setIfInBounds_toArray, List.set_cons_zero, List.set_cons_succ, i64_w, i32_w]
                                  rfl
                                refine pure_ (i := 28) (N := some 4) (v := ?_) (a' := ?_) #[true, true, true, true, true, true, true, true, true, true, true, true, true, true, true, true, true, true, true, true, true, true, true, true, true, true, true, true, true] rfl rfl (any_of HT_.out (by kernel_rfl)) (fun _ _ _ h => h) (Or.inl ⟨by rfl, ?_⟩) ?_ ?_
                                rotate_left
                                · intro w'
                                  go_simp
                                  with_reducible rfl
                                rotate_left
                                · simp only [Act.put, List.setIfInBounds_toArray, List.set_cons_zero, List.set_cons_succ, i64_w, i32_w]
                                  rfl
                                refine done_ (done_of HT_.out (by kernel_rfl)) ?_
                                try go_wp2
                                go_ret
                                exact ⟨by first | rfl | (simp [errW_none, errW_some] <;> rfl) | (simp [*, errW_none, errW_some] <;> rfl), by repeat (first | (with_reducible first | exact HB.out | apply below_alloc | apply pw_below_drewN | apply below_drew1) | exact HB.out)⟩
                              · rw [if_neg c31] at H
                                have c31b0 : ((strOfNums y10026).toList == (strOfNums y10030).toList) = false := beq_eq_false_iff_ne.mpr c31
                                have c31b1 : ((strOfNums y10026).toList != (strOfNums y10030).toList) = true := bne_iff_ne.mpr c31
                                exact absurd ((Option.some.inj H).trans hr_.out) (by decide)
                            · rw [if_neg c30] at H
                              exact absurd H (by simp)
                          · rw [if_neg c29] at H
                            exact absurd H (by simp)
                        · rw [if_neg c28] at H
                          exact absurd H (by simp)
                      · rw [if_neg c27] at H
                        exact absurd H (by simp)
                    · rw [if_neg c26] at H
                      have c26b0 : decide ((t10023.length : Int) ≤ (t10010.length : Int)) = false := decide_eq_false c26
                      have c26b1 : decide (t10023.length ≤ t10010.length) = false := decide_eq_false (fun h => c26 (Int.ofNat_le.mpr h))
                      clear c26
                      exact absurd ((Option.some.inj H).trans hr_.out) (by decide)
                  · rw [if_neg c25] at H
                    have c25b0 : decide ((t10016.length : Int) ≤ (t10007.length : Int)) = false := decide_eq_false c25
                    have c25b1 : decide (t10016.length ≤ t10007.length) = false := decide_eq_false (fun h => c25 (Int.ofNat_le.mpr h))
                    clear c25
                    exact absurd ((Option.some.inj H).trans hr_.out) (by decide)
                · rw [if_neg c23] at H
                  exact absurd H (by simp)
              · rw [if_neg c21] at H
                exact absurd H (by simp)
    · rw [if_neg c4] at H
      exact absurd H (by simp)
  · rw [if_neg c3] at H
    have c3b0 : decide (60 < (l0.length : Int)) = false := decide_eq_false c3
    have c3b1 : decide (60 < l0.length) = false := decide_eq_false (by omega)
    clear c3
    have H' := Aside0.mk H
    clear H
    go_enter Try.func4, Try.ntmps4
    go_wp2_with (first | (go_at_call 18; go_in))
    go_loopg [5, 6] k (fun kq v5 v6 w' => ∃ (x5_1 : List Int) (x6_1 : Int), v6 = .int .i64 x6_1 ∧ Aside0 (columbariumlaw4_DeltaShifts.l1000 kq l0 a1 x5_1 x6_1 = some r) ∧ Aside0 (kq ≤ k) ∧ Aside0 (Kd.R (Kd.int .i64) 2 w' w.heap.size (fun _ => True) v5 x5_1) ∧ Aside0 (Below w.heap.size w w'))
    case atStart => exact ⟨(([] : List Int)), (0), (by first | rfl | (simp; done) | (simp [*]; done) | (refine congrArg (Value.int .i64) ?_; (try simp only [decide_eq_true_eq, decide_eq_false_iff_not] at *) <;> (unfold wrap64; omega))), H', ⟨Nat.le_refl _⟩, ⟨by first | exact Kd.R_nil _ _ _ _ _ | exact Kd.N_nil _ _ _ _ _ | exact Kd.V_nil _ _ _ _ _ | exact Kd.Q_nil _ _ _ _ _ | exact Kd.S_nil _ _ _ _ _⟩, ⟨by repeat (first | (with_reducible first | exact HB.out | apply below_alloc | apply pw_below_drewN | apply below_drew1) | exact HB.out)⟩⟩
    case round =>
      clear H'
      try clear c1
      try clear p1
      try clear q1
      try clear hx1
      try clear hcv1
      try clear c2
      try clear p2
      try clear c3
      try clear c3b0
      try clear c3b1
      try clear q3
      try clear c4
      try clear c4b0
      try clear c4b1
      try clear q4
      try clear c6
      try clear c6b0
      try clear p6
      try clear c7
      try clear c7b0
      try clear c8
      try clear p10
      try clear q10
      try clear hx10
      try clear c12
      try clear c12b0
      try clear c12b1
      try clear c12b2
      try clear c13
      try clear c13b0
      try clear c13b1
      try clear c16
      try clear c17
      try clear hcv18
      try clear hcv19
      try clear c21
      try clear c21b0
      try clear c21b1
      try clear c23
      try clear c23b0
      try clear c23b1
      try clear c25
      try clear c25b0
      try clear c25b1
      try clear c26
      try clear c26b0
      try clear c26b1
      try clear c27
      try clear c27b0
      try clear c27b1
      try clear c28
      try clear c28b0
      try clear c28b1
      try clear c29
      try clear c29b0
      try clear c29b1
      try clear c30
      try clear c30b0
      try clear c30b1
      try clear c31
      try clear c31b0
      try clear c31b1
      try clear q38
      try clear c45
      try clear q45
      try clear c46
      try clear q46
      try clear hx10003_0
      try clear p10003
      try clear p2
      try clear q045
      try clear q046
      try clear q10003
      try clear q38
      try clear q45
      try clear q46
      obtain ⟨x5_1, x6_1, rfl, HA, HK1, HO_5, HB⟩ := hrel
      cases gk with
      | zero => exact absurd HA.out (by simp [columbariumlaw4_DeltaShifts.l1000])
      | succ k1 =>
        have H := HA.out
        clear HA
        simp only [columbariumlaw4_DeltaShifts.l1000] at H
        by_cases c48 : x6_1 < (l0.length : Int)
        · rw [if_pos c48] at H
          have c48b0 : decide (x6_1 < (l0.length : Int)) = true := decide_eq_true c48
          clear c48
          by_cases c49 : 0 ≤ x6_1
          · rw [if_pos c49] at H
            have c49b0 : decide (0 ≤ x6_1) = true := decide_eq_true c49
            clear c49
            by_cases c50 : x5_1.length < 17592186044416
            · rw [if_pos c50] at H
              have LMc50 := Aside0.mk c50
              clear c50
              obtain ⟨y10036, hy10036⟩ : ∃ y_ : List Int, y_ = (x5_1 ++ [wrap64 ((rd l0 x6_1) + a1)]) := ⟨_, rfl⟩
              replace H : (columbariumlaw4_DeltaShifts.l1000 k1 l0 a1 y10036 (wrap64 (x6_1 + 1))) = some r := by first | (rw [hy10036]; with_reducible exact H) | (have H2_ := (Option.bind_some _ _).symm.trans H; rw [hy10036]; with_reducible exact H2_) | (have H2_ := (Option.bind_some _ _).symm.trans H; with_reducible exact H2_) | with_reducible exact H | (rw [hy10036]; exact H) | exact H
              have Ny10036 := Aside0.mk hy10036
              clear hy10036
              have H' := Aside0.mk H
              clear H
              have p10035 : 0 ≤ (x6_1 : Int) := of_decide_eq_true (by first | (with_reducible assumption) | assumption)
              have q10035 : x6_1 < (l0.length : Int) := of_decide_eq_true (by first | (with_reducible assumption) | assumption)
              obtain ⟨ad10035, e10035, hx10035_0⟩ := Kd.at_int HR0.out x6_1 p10035 q10035
              cases e10035
              replace hx10035_0 := (HB.out.cell (World.block_lt_of_cell? w _ hx10035_0)).trans hx10035_0
              replace p10035 := eq_true p10035
              replace q10035 := eq_true q10035
              go_wp2_with (first | ((with_reducible refine gate_builtin (b := .append) (xs := #[.tmp 19, .tmp 26]) rfl ?_); (try (refine gate_guard (by rfl) ?_; dsimp only)); at_builtin; refine Kd.R_append (Kd.int .i64) (w0 := w) w.heap.size rfl (.tmp 19) (.tmp 26) 23 2 (.int .i64 0) 8 rfl Try.underlying23 info2 rfl (by decide) (by omega) u5 x5_1 (wrap64 ((rd l0 x6_1) + a1)) [.int .i64 (wrap64 ((rd l0 x6_1) + a1))] (fun _ => True) (fun _ => False) rfl rfl ?aP (fun _ hk => hk.elim) ?aF ?aO ?aB ?aS ?aL ?_; (case aP => exact rfl); (case aB => exact (by repeat (first | (with_reducible first | exact HB.out | apply below_alloc | apply pw_below_drewN | apply below_drew1) | exact HB.out))); (case aF => exact (fun _ _ => trivial)); (case aO => exact (by (with_reducible repeat (first | apply Kd.R_alloc | apply Kd.R_drewN | apply Kd.R_drew)); exact HO_5.out)); (case aS => exact (below_size (by repeat (first | (with_reducible first | exact HB.out | apply below_alloc | apply pw_below_drewN | apply below_drew1) | exact HB.out)))); (case aL => have := LMc50.out; omega); intro v10037 w51 ho hb hg hat; rw [← Ny10036.out] at ho; have n0_ := Aside0.mk (hb); have n1_ := Aside0.mk (ho); clear HB; clear HO_5; have HB := n0_; have HO10038 := n1_; clear n0_ n1_; clear ho hb hg hat))
              go_roundg k1
              case measure => have := HK1.out; omega
              case rel => exact ⟨(y10036), (wrap64 (x6_1 + 1)), (by first | rfl | (simp; done) | (simp [*]; done) | (refine congrArg (Value.int .i64) ?_; (try simp only [decide_eq_true_eq, decide_eq_false_iff_not] at *) <;> (unfold wrap64; omega))), H', ⟨by have := HK1.out; omega⟩, ⟨by (with_reducible repeat (first | apply Kd.R_alloc | apply Kd.R_drewN | apply Kd.R_drew)); exact HO10038.out⟩, ⟨by repeat (first | (with_reducible first | exact HB.out | apply below_alloc | apply pw_below_drewN | apply below_drew1) | exact HB.out)⟩⟩
            · rw [if_neg c50] at H
              exact absurd H (by simp)
          · rw [if_neg c49] at H
            exact absurd H (by simp)
        · rw [if_neg c48] at H
          have c48b0 : decide (x6_1 < (l0.length : Int)) = false := decide_eq_false c48
          clear c48
          replace H := Option.bind_eq_some_iff.mp H
          obtain ⟨t10039, A520, H⟩ := H
          replace H : ((delta_Encode.f k1 x5_1).bind fun t10042 => (if (l0.length : Int) = 0 then (if (strOfNums t10039).toList = (strOfNums t10042).toList then ((columbariumlaw4_known.f k1).bind fun t10045 => (some t10045)) else (some false)) else (if 1 ≤ (l0.length : Int) then ((delta_Encode.f k1 (l0.take 1)).bind fun t10048 => (if 1 ≤ (x5_1.length : Int) then ((delta_Encode.f k1 (x5_1.take 1)).bind fun t10055 => (if (t10039.length : Int) ≥ (t10048.length : Int) then (if (t10042.length : Int) ≥ (t10055.length : Int) then (if 0 ≤ (t10048.length : Int) then (if (t10048.length : Int) ≤ (t10039.length : Int) then (if 0 ≤ (t10055.length : Int) then (if (t10055.length : Int) ≤ (t10042.length : Int) then (if (strOfNums (t10039.drop ((t10048.length : Int) : Int).toNat)).toList = (strOfNums (t10042.drop ((t10055.length : Int) : Int).toNat)).toList then ((columbariumlaw4_known.f k1).bind fun t10066 => (some t10066)) else (some false)) else (none)) else (none)) else (none)) else (none)) else (some false)) else (some false))) else (none))) else (none)))) = some r := H
          have A52 := Aside0.mk A520
          clear A520
          replace H := Option.bind_eq_some_iff.mp H
          obtain ⟨t10042, A530, H⟩ := H
          replace H : (if (l0.length : Int) = 0 then (if (strOfNums t10039).toList = (strOfNums t10042).toList then ((columbariumlaw4_known.f k1).bind fun t10045 => (some t10045)) else (some false)) else (if 1 ≤ (l0.length : Int) then ((delta_Encode.f k1 (l0.take 1)).bind fun t10048 => (if 1 ≤ (x5_1.length : Int) then ((delta_Encode.f k1 (x5_1.take 1)).bind fun t10055 => (if (t10039.length : Int) ≥ (t10048.length : Int) then (if (t10042.length : Int) ≥ (t10055.length : Int) then (if 0 ≤ (t10048.length : Int) then (if (t10048.length : Int) ≤ (t10039.length : Int) then (if 0 ≤ (t10055.length : Int) then (if (t10055.length : Int) ≤ (t10042.length : Int) then (if (strOfNums (t10039.drop ((t10048.length : Int) : Int).toNat)).toList = (strOfNums (t10042.drop ((t10055.length : Int) : Int).toNat)).toList then ((columbariumlaw4_known.f k1).bind fun t10066 => (some t10066)) else (some false)) else (none)) else (none)) else (none)) else (none)) else (some false)) else (some false))) else (none))) else (none))) = some r := H
          have A53 := Aside0.mk A530
          clear A530
          by_cases c54 : (l0.length : Int) = 0
          · rw [if_pos c54] at H
            have c54b0 : ((l0.length : Int) == 0) = true := beq_iff_eq.mpr c54
            have c54b1 : ((l0.length : Int) != 0) = false := bne_eq_false_iff_eq.mpr c54
            clear c54
            by_cases c55 : (strOfNums t10039).toList = (strOfNums t10042).toList
            · rw [if_pos c55] at H
              have c55b0 : ((strOfNums t10039).toList == (strOfNums t10042).toList) = true := beq_iff_eq.mpr c55
              have c55b1 : ((strOfNums t10039).toList != (strOfNums t10042).toList) = false := bne_eq_false_iff_eq.mpr c55
              clear c55
              replace H := Option.bind_eq_some_iff.mp H
              obtain ⟨t10045, A560, H⟩ := H
              replace H : (some t10045) = some r := H
              have A56 := Aside0.mk A560
              clear A560
              obtain rfl := Option.some.inj H
              go_wp2_with (first | ((with_reducible refine gate_callee (f := 16) rfl ?_); refine goesL_ (some 29) rfl rfl Try.func16 (by kernel_rfl) rfl #[.slice A0 l0.length c0] rfl (by (try simp only [List.map_toArray, List.map_cons, List.map_nil]); first | done | rfl | (simp only [List.length_drop, List.length_take]; rfl)) ?_; (with_reducible refine (delta_Encode.calls k1 _ _ l0 t10039 _ ?side1 ?side2 A52.out).mono ?_); (case side1 => repeat (first | exact (Kd.C_below HR0.out HB.out) | (with_reducible refine Kd.C_alloc ?_ _) | (with_reducible refine Kd.C_drewN ?_ _) | (with_reducible refine Kd.C_drew ?_))); (case side2 => exact HC0.out); rintro e w57 ⟨v10040, rfl, ho0, hb⟩; refine ⟨_, rfl, ?_⟩; have n0_ := Aside0.mk (Kd.R_below (by (with_reducible repeat (first | apply Kd.R_alloc | apply Kd.R_drewN | apply Kd.R_drew)); exact HO_5.out) hb); have n1_ := Aside0.mk (Kd.R_lower ho0 (below_size (by repeat (first | (with_reducible first | exact HB.out | apply below_alloc | apply pw_below_drewN | apply below_drew1) | exact HB.out)))); have n2_ := Aside0.mk (below_step (by repeat (first | (with_reducible first | exact HB.out | apply below_alloc | apply pw_below_drewN | apply below_drew1) | exact HB.out)) hb); clear HO_5; clear HB; have HO_5 := n0_; have HO10041 := n1_; have HB := n2_; clear n0_ n1_ n2_; (try clear hb); (try clear hb2); (try clear hk); (try clear hi); (try clear ho0); obtain ⟨Ao58, co58, eo58⟩ := Kd.R_slice HO_5.out; subst eo58) | ((with_reducible refine gate_callee (f := 16) rfl ?_); refine goesL_ (some 31) rfl rfl Try.func16 (by kernel_rfl) rfl #[.slice Ao58 x5_1.length co58] rfl (by (try simp only [List.map_toArray, List.map_cons, List.map_nil]); first | done | rfl | (simp only [List.length_drop, List.length_take]; rfl)) ?_; (with_reducible refine (delta_Encode.calls k1 _ _ x5_1 t10042 _ ?side1 ?side2 A53.out).mono ?_); (case side1 => repeat (first | exact (Kd.R_reads' HO_5.out).2.2 | (with_reducible refine Kd.C_alloc ?_ _) | (with_reducible refine Kd.C_drewN ?_ _) | (with_reducible refine Kd.C_drew ?_))); (case side2 => exact (Kd.R_reads' HO_5.out).2.1); rintro e w59 ⟨v10043, rfl, ho0, hb⟩; refine ⟨_, rfl, ?_⟩; have n0_ := Aside0.mk (Kd.R_below (by (with_reducible repeat (first | apply Kd.R_alloc | apply Kd.R_drewN | apply Kd.R_drew)); exact HO_5.out) hb); have n1_ := Aside0.mk (Kd.R_elder' (by (with_reducible repeat (first | apply Kd.R_alloc | apply Kd.R_drewN | apply Kd.R_drew)); exact HO10041.out) (Kd.R_base ho0) hb); have n2_ := Aside0.mk (Kd.R_lower (Kd.R_new' ho0 (Kd.R_lt (by (with_reducible repeat (first | apply Kd.R_alloc | apply Kd.R_drewN | apply Kd.R_drew)); exact HO10041.out))) (below_size (by repeat (first | (with_reducible first | exact HB.out | apply below_alloc | apply pw_below_drewN | apply below_drew1) | exact HB.out)))); have n3_ := Aside0.mk (below_step (by repeat (first | (with_reducible first | exact HB.out | apply below_alloc | apply pw_below_drewN | apply below_drew1) | exact HB.out)) hb); clear HO_5; clear HO10041; clear HB; have HO_5 := n0_; have HO10041 := n1_; have HO10044 := n2_; have HB := n3_; clear n0_ n1_ n2_ n3_; (try clear hb); (try clear hb2); (try clear hk); (try clear hi); (try clear ho0); have hcv60 := own_string (P := Try.prog) Try.underlying24 Try.underlying5 Try.underlying9 (Kd.own_of_R HO10041.out); have hcv61 := own_string (P := Try.prog) Try.underlying24 Try.underlying5 Try.underlying9 (Kd.own_of_R HO10044.out)) | (go_at_call 17; (with_reducible refine (columbariumlaw4_known.calls k1  t10045 _ A56.out).mono ?_); rintro e w62 ⟨rfl, hb⟩; have n0_ := Aside0.mk (Kd.R_below (by (with_reducible repeat (first | apply Kd.R_alloc | apply Kd.R_drewN | apply Kd.R_drew)); exact HO_5.out) hb); have n1_ := Aside0.mk (Kd.R_below (by (with_reducible repeat (first | apply Kd.R_alloc | apply Kd.R_drewN | apply Kd.R_drew)); exact HO10041.out) hb); have n2_ := Aside0.mk (Kd.R_below (by (with_reducible repeat (first | apply Kd.R_alloc | apply Kd.R_drewN | apply Kd.R_drew)); exact HO10044.out) hb); have n3_ := Aside0.mk (below_step (by repeat (first | (with_reducible first | exact HB.out | apply below_alloc | apply pw_below_drewN | apply below_drew1) | exact HB.out)) hb); clear HO_5; clear HO10041; clear HO10044; clear HB; have HO_5 := n0_; have HO10041 := n1_; have HO10044 := n2_; have HB := n3_; clear n0_ n1_ n2_ n3_; (try clear hb); (try clear hb2); (try clear hk); (try clear hi)))
              go_ret
              exact ⟨by first | rfl | (simp [errW_none, errW_some] <;> rfl) | (simp [*, errW_none, errW_some] <;> rfl), by repeat (first | (with_reducible first | exact HB.out | apply below_alloc | apply pw_below_drewN | apply below_drew1) | exact HB.out)⟩
            · rw [if_neg c55] at H
              have c55b0 : ((strOfNums t10039).toList == (strOfNums t10042).toList) = false := beq_eq_false_iff_ne.mpr c55
              have c55b1 : ((strOfNums t10039).toList != (strOfNums t10042).toList) = true := bne_iff_ne.mpr c55
              exact absurd ((Option.some.inj H).trans hr_.out) (by decide)
          · rw [if_neg c54] at H
            have c54b0 : ((l0.length : Int) == 0) = false := beq_eq_false_iff_ne.mpr c54
            have c54b1 : ((l0.length : Int) != 0) = true := bne_iff_ne.mpr c54
            have c54b2 : ¬ (l0 = []) := fun h_ => c54 (by rw [h_]; rfl)
            by_cases c63 : 1 ≤ (l0.length : Int)
            · rw [if_pos c63] at H
              have c63b0 := eq_true c63
              have c63b1 : decide (1 ≤ (l0.length : Int)) = true := decide_eq_true c63
              clear c63
              obtain ⟨y10046, hy10046⟩ : ∃ y_ : List Int, y_ = (l0.take 1) := ⟨_, rfl⟩
              replace H : ((delta_Encode.f k1 y10046).bind fun t10048 => (if 1 ≤ (x5_1.length : Int) then ((delta_Encode.f k1 (x5_1.take 1)).bind fun t10055 => (if (t10039.length : Int) ≥ (t10048.length : Int) then (if (t10042.length : Int) ≥ (t10055.length : Int) then (if 0 ≤ (t10048.length : Int) then (if (t10048.length : Int) ≤ (t10039.length : Int) then (if 0 ≤ (t10055.length : Int) then (if (t10055.length : Int) ≤ (t10042.length : Int) then (if (strOfNums (t10039.drop ((t10048.length : Int) : Int).toNat)).toList = (strOfNums (t10042.drop ((t10055.length : Int) : Int).toNat)).toList then ((columbariumlaw4_known.f k1).bind fun t10066 => (some t10066)) else (some false)) else (none)) else (none)) else (none)) else (none)) else (some false)) else (some false))) else (none))) = some r := by first | (rw [hy10046]; with_reducible exact H) | (have H2_ := (Option.bind_some _ _).symm.trans H; rw [hy10046]; with_reducible exact H2_) | (have H2_ := (Option.bind_some _ _).symm.trans H; with_reducible exact H2_) | with_reducible exact H | (rw [hy10046]; exact H) | exact H
              have Ny10046 := Aside0.mk hy10046
              clear hy10046
              replace H := Option.bind_eq_some_iff.mp H
              obtain ⟨t10048, A640, H⟩ := H
              replace H : (if 1 ≤ (x5_1.length : Int) then ((delta_Encode.f k1 (x5_1.take 1)).bind fun t10055 => (if (t10039.length : Int) ≥ (t10048.length : Int) then (if (t10042.length : Int) ≥ (t10055.length : Int) then (if 0 ≤ (t10048.length : Int) then (if (t10048.length : Int) ≤ (t10039.length : Int) then (if 0 ≤ (t10055.length : Int) then (if (t10055.length : Int) ≤ (t10042.length : Int) then (if (strOfNums (t10039.drop ((t10048.length : Int) : Int).toNat)).toList = (strOfNums (t10042.drop ((t10055.length : Int) : Int).toNat)).toList then ((columbariumlaw4_known.f k1).bind fun t10066 => (some t10066)) else (some false)) else (none)) else (none)) else (none)) else (none)) else (some false)) else (some false))) else (none)) = some r := H
              have A64 := Aside0.mk A640
              clear A640
              by_cases c65 : 1 ≤ (x5_1.length : Int)
              · rw [if_pos c65] at H
                have c65b0 := eq_true c65
                have c65b1 : decide (1 ≤ (x5_1.length : Int)) = true := decide_eq_true c65
                clear c65
                obtain ⟨y10051, hy10051⟩ : ∃ y_ : List Int, y_ = (x5_1.take 1) := ⟨_, rfl⟩
                replace H : ((delta_Encode.f k1 y10051).bind fun t10055 => (if (t10039.length : Int) ≥ (t10048.length : Int) then (if (t10042.length : Int) ≥ (t10055.length : Int) then (if 0 ≤ (t10048.length : Int) then (if (t10048.length : Int) ≤ (t10039.length : Int) then (if 0 ≤ (t10055.length : Int) then (if (t10055.length : Int) ≤ (t10042.length : Int) then (if (strOfNums (t10039.drop ((t10048.length : Int) : Int).toNat)).toList = (strOfNums (t10042.drop ((t10055.length : Int) : Int).toNat)).toList then ((columbariumlaw4_known.f k1).bind fun t10066 => (some t10066)) else (some false)) else (none)) else (none)) else (none)) else (none)) else (some false)) else (some false))) = some r := by first | (rw [hy10051]; with_reducible exact H) | (have H2_ := (Option.bind_some _ _).symm.trans H; rw [hy10051]; with_reducible exact H2_) | (have H2_ := (Option.bind_some _ _).symm.trans H; with_reducible exact H2_) | with_reducible exact H | (rw [hy10051]; exact H) | exact H
                have Ny10051 := Aside0.mk hy10051
                clear hy10051
                replace H := Option.bind_eq_some_iff.mp H
                obtain ⟨t10055, A660, H⟩ := H
                replace H : (if (t10039.length : Int) ≥ (t10048.length : Int) then (if (t10042.length : Int) ≥ (t10055.length : Int) then (if 0 ≤ (t10048.length : Int) then (if (t10048.length : Int) ≤ (t10039.length : Int) then (if 0 ≤ (t10055.length : Int) then (if (t10055.length : Int) ≤ (t10042.length : Int) then (if (strOfNums (t10039.drop ((t10048.length : Int) : Int).toNat)).toList = (strOfNums (t10042.drop ((t10055.length : Int) : Int).toNat)).toList then ((columbariumlaw4_known.f k1).bind fun t10066 => (some t10066)) else (some false)) else (none)) else (none)) else (none)) else (none)) else (some false)) else (some false)) = some r := H
                have A66 := Aside0.mk A660
                clear A660
                by_cases c67 : (t10039.length : Int) ≥ (t10048.length : Int)
                · rw [if_pos c67] at H
                  have c67b0 : decide ((t10048.length : Int) ≤ (t10039.length : Int)) = true := decide_eq_true c67
                  have c67b1 : decide (t10048.length ≤ t10039.length) = true := decide_eq_true (Int.ofNat_le.mp c67)
                  clear c67
                  by_cases c68 : (t10042.length : Int) ≥ (t10055.length : Int)
                  · rw [if_pos c68] at H
                    have c68b0 : decide ((t10055.length : Int) ≤ (t10042.length : Int)) = true := decide_eq_true c68
                    have c68b1 : decide (t10055.length ≤ t10042.length) = true := decide_eq_true (Int.ofNat_le.mp c68)
                    clear c68
                    by_cases c69 : 0 ≤ (t10048.length : Int)
                    · rw [if_pos c69] at H
                      have c69b0 := eq_true c69
                      have c69b1 : decide (0 ≤ (t10048.length : Int)) = true := decide_eq_true c69
                      clear c69
                      by_cases c70 : (t10048.length : Int) ≤ (t10039.length : Int)
                      · rw [if_pos c70] at H
                        have c70b0 := eq_true c70
                        have c70b1 : decide ((t10048.length : Int) ≤ (t10039.length : Int)) = true := decide_eq_true c70
                        clear c70
                        obtain ⟨y10058, hy10058⟩ : ∃ y_ : List Int, y_ = (t10039.drop ((t10048.length : Int) : Int).toNat) := ⟨_, rfl⟩
                        replace H : (if 0 ≤ (t10055.length : Int) then (if (t10055.length : Int) ≤ (t10042.length : Int) then (if (strOfNums y10058).toList = (strOfNums (t10042.drop ((t10055.length : Int) : Int).toNat)).toList then ((columbariumlaw4_known.f k1).bind fun t10066 => (some t10066)) else (some false)) else (none)) else (none)) = some r := by first | (rw [hy10058]; with_reducible exact H) | (have H2_ := (Option.bind_some _ _).symm.trans H; rw [hy10058]; with_reducible exact H2_) | (have H2_ := (Option.bind_some _ _).symm.trans H; with_reducible exact H2_) | with_reducible exact H | (rw [hy10058]; exact H) | exact H
                        have Ny10058 := Aside0.mk hy10058
                        clear hy10058
                        by_cases c71 : 0 ≤ (t10055.length : Int)
                        · rw [if_pos c71] at H
                          have c71b0 := eq_true c71
                          have c71b1 : decide (0 ≤ (t10055.length : Int)) = true := decide_eq_true c71
                          clear c71
                          by_cases c72 : (t10055.length : Int) ≤ (t10042.length : Int)
                          · rw [if_pos c72] at H
                            have c72b0 := eq_true c72
                            have c72b1 : decide ((t10055.length : Int) ≤ (t10042.length : Int)) = true := decide_eq_true c72
                            clear c72
                            obtain ⟨y10062, hy10062⟩ : ∃ y_ : List Int, y_ = (t10042.drop ((t10055.length : Int) : Int).toNat) := ⟨_, rfl⟩
                            replace H : (if (strOfNums y10058).toList = (strOfNums y10062).toList then ((columbariumlaw4_known.f k1).bind fun t10066 => (some t10066)) else (some false)) = some r := by first | (rw [hy10062]; with_reducible exact H) | (have H2_ := (Option.bind_some _ _).symm.trans H; rw [hy10062]; with_reducible exact H2_) | (have H2_ := (Option.bind_some _ _).symm.trans H; with_reducible exact H2_) | with_reducible exact H | (rw [hy10062]; exact H) | exact H
                            have Ny10062 := Aside0.mk hy10062
                            clear hy10062
                            by_cases c73 : (strOfNums y10058).toList = (strOfNums y10062).toList
                            · rw [if_pos c73] at H
                              have c73b0 : ((strOfNums y10058).toList == (strOfNums y10062).toList) = true := beq_iff_eq.mpr c73
                              have c73b1 : ((strOfNums y10058).toList != (strOfNums y10062).toList) = false := bne_eq_false_iff_eq.mpr c73
                              clear c73
                              replace H := Option.bind_eq_some_iff.mp H
                              obtain ⟨t10066, A740, H⟩ := H
                              replace H : (some t10066) = some r := H
                              have A74 := Aside0.mk A740
                              clear A740
                              obtain rfl := Option.some.inj H
                              try go_wp2_with (first | ((with_reducible refine gate_callee (f := 16) rfl ?_); refine goesL_ (some 29) rfl rfl Try.func16 (by kernel_rfl) rfl #[.slice A0 l0.length c0] rfl (by (try simp only [List.map_toArray, List.map_cons, List.map_nil]); first | done | rfl | (simp only [List.length_drop, List.length_take]; rfl)) ?_; (with_reducible refine (delta_Encode.calls k1 _ _ l0 t10039 _ ?side1 ?side2 A52.out).mono ?_); (case side1 => repeat (first | exact (Kd.C_below HR0.out HB.out) | (with_reducible refine Kd.C_alloc ?_ _) | (with_reducible refine Kd.C_drewN ?_ _) | (with_reducible refine Kd.C_drew ?_))); (case side2 => exact HC0.out); rintro e w75 ⟨v10040, rfl, ho0, hb⟩; refine ⟨_, rfl, ?_⟩; have n0_ := Aside0.mk (Kd.R_below (by (with_reducible repeat (first | apply Kd.R_alloc | apply Kd.R_drewN | apply Kd.R_drew)); exact HO_5.out) hb); have n1_ := Aside0.mk (Kd.R_lower ho0 (below_size (by repeat (first | (with_reducible first | exact HB.out | apply below_alloc | apply pw_below_drewN | apply below_drew1) | exact HB.out)))); have n2_ := Aside0.mk (below_step (by repeat (first | (with_reducible first | exact HB.out | apply below_alloc | apply pw_below_drewN | apply below_drew1) | exact HB.out)) hb); clear HO_5; clear HB; have HO_5 := n0_; have HO10041 := n1_; have HB := n2_; clear n0_ n1_ n2_; (try clear hb); (try clear hb2); (try clear hk); (try clear hi); (try clear ho0); obtain ⟨Ao76, co76, eo76⟩ := Kd.R_slice HO_5.out; subst eo76) | ((with_reducible refine gate_callee (f := 16) rfl ?_); refine goesL_ (some 31) rfl rfl Try.func16 (by kernel_rfl) rfl #[.slice Ao76 x5_1.length co76] rfl (by (try simp only [List.map_toArray, List.map_cons, List.map_nil]); first | done | rfl | (simp only [List.length_drop, List.length_take]; rfl)) ?_; (with_reducible refine (delta_Encode.calls k1 _ _ x5_1 t10042 _ ?side1 ?side2 A53.out).mono ?_); (case side1 => repeat (first | exact (Kd.R_reads' HO_5.out).2.2 | (with_reducible refine Kd.C_alloc ?_ _) | (with_reducible refine Kd.C_drewN ?_ _) | (with_reducible refine Kd.C_drew ?_))); (case side2 => exact (Kd.R_reads' HO_5.out).2.1); rintro e w77 ⟨v10043, rfl, ho0, hb⟩; refine ⟨_, rfl, ?_⟩; have n0_ := Aside0.mk (Kd.R_below (by (with_reducible repeat (first | apply Kd.R_alloc | apply Kd.R_drewN | apply Kd.R_drew)); exact HO_5.out) hb); have n1_ := Aside0.mk (Kd.R_elder' (by (with_reducible repeat (first | apply Kd.R_alloc | apply Kd.R_drewN | apply Kd.R_drew)); exact HO10041.out) (Kd.R_base ho0) hb); have n2_ := Aside0.mk (Kd.R_lower (Kd.R_new' ho0 (Kd.R_lt (by (with_reducible repeat (first | apply Kd.R_alloc | apply Kd.R_drewN | apply Kd.R_drew)); exact HO10041.out))) (below_size (by repeat (first | (with_reducible first | exact HB.out | apply below_alloc | apply pw_below_drewN | apply below_drew1) | exact HB.out)))); have n3_ := Aside0.mk (below_step (by repeat (first | (with_reducible first | exact HB.out | apply below_alloc | apply pw_below_drewN | apply below_drew1) | exact HB.out)) hb); clear HO_5; clear HO10041; clear HB; have HO_5 := n0_; have HO10041 := n1_; have HO10044 := n2_; have HB := n3_; clear n0_ n1_ n2_ n3_; (try clear hb); (try clear hb2); (try clear hk); (try clear hi); (try clear ho0); obtain ⟨i078, hi078, _, hsz78, _⟩ := info_parts info2; obtain ⟨hcut78, hA78, hC78⟩ := print_take_of (P := Try.prog) (Value.int .i64) 0 23 2 .i64 Try.underlying23 hi078 hsz78 A0 c0 l0 1 (by omega) (of_decide_eq_true (by first | (with_reducible assumption) | assumption)) HC0.out; have HR10047 := Aside0.mk (Kd.C_of_reads (h1 := fun _ => rfl) (hA78 _ (Kd.reads_of_C HR0.out))); have HC10047 := Aside0.mk hC78; clear hA78 hC78 hi078 hsz78; rw [show (l0.take (1 : Int).toNat) = y10046 from Ny10046.out.symm] at hcut78; rw [show (l0.take (1 : Int).toNat) = y10046 from Ny10046.out.symm] at HR10047; rw [show (l0.take (1 : Int).toNat) = y10046 from Ny10046.out.symm] at HC10047) | ((with_reducible refine gate_callee (f := 16) rfl ?_); refine goesL_ (some 45) rfl rfl Try.func16 (by kernel_rfl) rfl #[.slice A0 y10046.length c0] rfl (by (try simp only [List.map_toArray, List.map_cons, List.map_nil]); first | done | rfl | (simp only [List.length_drop, List.length_take]; rfl)) ?_; (with_reducible refine (delta_Encode.calls k1 _ _ y10046 t10048 _ ?side1 ?side2 A64.out).mono ?_); (case side1 => repeat (first | exact (Kd.C_below HR10047.out HB.out) | (with_reducible refine Kd.C_alloc ?_ _) | (with_reducible refine Kd.C_drewN ?_ _) | (with_reducible refine Kd.C_drew ?_))); (case side2 => exact HC10047.out); rintro e w79 ⟨v10049, rfl, ho0, hb⟩; refine ⟨_, rfl, ?_⟩; have n0_ := Aside0.mk (Kd.R_below (by (with_reducible repeat (first | apply Kd.R_alloc | apply Kd.R_drewN | apply Kd.R_drew)); exact HO_5.out) hb); have n1_ := Aside0.mk (Kd.R_elder' (by (with_reducible repeat (first | apply Kd.R_alloc | apply Kd.R_drewN | apply Kd.R_drew)); exact HO10041.out) (Kd.R_base ho0) hb); have n2_ := Aside0.mk (Kd.R_elder' (by (with_reducible repeat (first | apply Kd.R_alloc | apply Kd.R_drewN | apply Kd.R_drew)); exact HO10044.out) (Kd.R_base ho0) hb); have n3_ := Aside0.mk (Kd.R_lower (Kd.R_new' (Kd.R_new' ho0 (Kd.R_lt (by (with_reducible repeat (first | apply Kd.R_alloc | apply Kd.R_drewN | apply Kd.R_drew)); exact HO10041.out))) (Kd.R_lt (by (with_reducible repeat (first | apply Kd.R_alloc | apply Kd.R_drewN | apply Kd.R_drew)); exact HO10044.out))) (below_size (by repeat (first | (with_reducible first | exact HB.out | apply below_alloc | apply pw_below_drewN | apply below_drew1) | exact HB.out)))); have n4_ := Aside0.mk (below_step (by repeat (first | (with_reducible first | exact HB.out | apply below_alloc | apply pw_below_drewN | apply below_drew1) | exact HB.out)) hb); clear HO_5; clear HO10041; clear HO10044; clear HB; have HO_5 := n0_; have HO10041 := n1_; have HO10044 := n2_; have HO10050 := n3_; have HB := n4_; clear n0_ n1_ n2_ n3_ n4_; (try clear hb); (try clear hb2); (try clear hk); (try clear hi); (try clear ho0); have q80 : (1 : Int) ≤ ((x5_1.length : Int) : Int) := of_decide_eq_true (by first | (with_reducible assumption) | assumption); obtain ⟨i080, hi080, _, hsz80, _⟩ := info_parts info2; have hroom80 : x5_1.length ≤ co76 := (Kd.R_reads' HO_5.out).2.1; have hC80 : Kd.C (Kd.int .i64) _ Ao76 x5_1.length x5_1 := (Kd.R_reads' HO_5.out).2.2; have hcut80 := cut_to (P := Try.prog) 23 2 .i64 Try.underlying23 hi080 Ao76 x5_1.length co76 1 (by omega) q80 hroom80; have hr80 := Kd.C_take (m := 1) hC80 (by omega); have hy80 : y10051.length = (1 : Int).toNat := (by rw [Ny10051.out, List.length_take]; omega); rw [← Ny10051.out] at hr80; rw [← hy80] at hcut80; have HR10054 := Aside0.mk hr80; have HC10054 := Aside0.mk (show y10051.length ≤ co76 from by omega); clear hr80 hC80 hroom80 hi080 hsz80; have KY80 := Aside0.mk hy80; clear hy80; have KL80 := Aside0.mk (show 1 ≤ x5_1.length from by omega); replace q80 := eq_true q80) | ((with_reducible refine gate_callee (f := 16) rfl ?_); refine goesL_ (some 48) rfl rfl Try.func16 (by kernel_rfl) rfl #[.slice Ao76 y10051.length co76] rfl (by (try simp only [List.map_toArray, List.map_cons, List.map_nil]); first | done | rfl | (simp only [List.length_drop, List.length_take]; rfl)) ?_; (with_reducible refine (delta_Encode.calls k1 _ _ y10051 t10055 _ ?side1 ?side2 A66.out).mono ?_); (case side1 => repeat (first | exact (by repeat (first | (with_reducible exact HR10054.out) | (with_reducible refine Kd.C_alloc ?_ _) | (with_reducible refine Kd.C_drewN ?_ _) | (with_reducible refine Kd.C_drew ?_) | exact HR10054.out)) | (with_reducible refine Kd.C_alloc ?_ _) | (with_reducible refine Kd.C_drewN ?_ _) | (with_reducible refine Kd.C_drew ?_))); (case side2 => exact HC10054.out); rintro e w81 ⟨v10056, rfl, ho0, hb⟩; refine ⟨_, rfl, ?_⟩; have n0_ := Aside0.mk (Kd.R_below (by (with_reducible repeat (first | apply Kd.R_alloc | apply Kd.R_drewN | apply Kd.R_drew)); exact HO_5.out) hb); have n1_ := Aside0.mk (Kd.R_elder' (by (with_reducible repeat (first | apply Kd.R_alloc | apply Kd.R_drewN | apply Kd.R_drew)); exact HO10041.out) (Kd.R_base ho0) hb); have n2_ := Aside0.mk (Kd.R_elder' (by (with_reducible repeat (first | apply Kd.R_alloc | apply Kd.R_drewN | apply Kd.R_drew)); exact HO10044.out) (Kd.R_base ho0) hb); have n3_ := Aside0.mk (Kd.R_elder' (by (with_reducible repeat (first | apply Kd.R_alloc | apply Kd.R_drewN | apply Kd.R_drew)); exact HO10050.out) (Kd.R_base ho0) hb); have n4_ := Aside0.mk (Kd.R_lower (Kd.R_new' (Kd.R_new' (Kd.R_new' ho0 (Kd.R_lt (by (with_reducible repeat (first | apply Kd.R_alloc | apply Kd.R_drewN | apply Kd.R_drew)); exact HO10041.out))) (Kd.R_lt (by (with_reducible repeat (first | apply Kd.R_alloc | apply Kd.R_drewN | apply Kd.R_drew)); exact HO10044.out))) (Kd.R_lt (by (with_reducible repeat (first | apply Kd.R_alloc | apply Kd.R_drewN | apply Kd.R_drew)); exact HO10050.out))) (below_size (by repeat (first | (with_reducible first | exact HB.out | apply below_alloc | apply pw_below_drewN | apply below_drew1) | exact HB.out)))); have n5_ := Aside0.mk (Kd.C_below (by repeat (first | (with_reducible exact HR10054.out) | (with_reducible refine Kd.C_alloc ?_ _) | (with_reducible refine Kd.C_drewN ?_ _) | (with_reducible refine Kd.C_drew ?_) | exact HR10054.out)) hb); have n6_ := Aside0.mk (below_step (by repeat (first | (with_reducible first | exact HB.out | apply below_alloc | apply pw_below_drewN | apply below_drew1) | exact HB.out)) hb); clear HO_5; clear HO10041; clear HO10044; clear HO10050; clear HR10054; clear HB; have HO_5 := n0_; have HO10041 := n1_; have HO10044 := n2_; have HO10050 := n3_; have HO10057 := n4_; have HR10054 := n5_; have HB := n6_; clear n0_ n1_ n2_ n3_ n4_ n5_ n6_; (try clear hb); (try clear hb2); (try clear hk); (try clear hi); (try clear ho0)))
                              have n0_ := Aside0.mk (Kd.R_drew HO_5.out)
                              have n1_ := Aside0.mk (Kd.R_drew HO10041.out)
                              have n2_ := Aside0.mk (Kd.R_drew HO10044.out)
                              have n3_ := Aside0.mk (Kd.R_drew HO10050.out)
                              have n4_ := Aside0.mk (Kd.R_drew HO10057.out)
                              have n5_ := Aside0.mk (Kd.C_drew HR10054.out)
                              have n6_ := Aside0.mk (below_drew1 HB.out)
                              clear HO_5
                              clear HO10041
                              clear HO10044
                              clear HO10050
                              clear HO10057
                              clear HR10054
                              clear HB
                              have HO_5 := n0_
                              have HO10041 := n1_
                              have HO10044 := n2_
                              have HO10050 := n3_
                              have HO10057 := n4_
                              have HR10054 := n5_
                              have HB := n6_
                              clear n0_ n1_ n2_ n3_ n4_ n5_ n6_
                              obtain ⟨Ao83, co83, eo83⟩ := Kd.R_slice HO10041.out
                              (first | subst eo83 | (injection eo83 with f1_ f2_ f3_; have f4_ := f1_.symm; have f5_ := f3_.symm; clear f1_ f2_ f3_; subst f4_; subst f5_))
                              obtain ⟨Ao84, co84, eo84⟩ := Kd.R_slice HO10050.out
                              (first | subst eo84 | (injection eo84 with f1_ f2_ f3_; have f4_ := f1_.symm; have f5_ := f3_.symm; clear f1_ f2_ f3_; subst f4_; subst f5_))
                              obtain ⟨Ao85, co85, eo85⟩ := Kd.R_slice HO10044.out
                              (first | subst eo85 | (injection eo85 with f1_ f2_ f3_; have f4_ := f1_.symm; have f5_ := f3_.symm; clear f1_ f2_ f3_; subst f4_; subst f5_))
                              obtain ⟨Ao86, co86, eo86⟩ := Kd.R_slice HO10057.out
                              (first | subst eo86 | (injection eo86 with f1_ f2_ f3_; have f4_ := f1_.symm; have f5_ := f3_.symm; clear f1_ f2_ f3_; subst f4_; subst f5_))
                              have q87 : ((t10048.length : Int) : Int) ≤ ((t10039.length : Int) : Int) := of_decide_eq_true (by first | (with_reducible assumption) | assumption)
                              obtain ⟨i087, hi087, _, hsz87, _⟩ := info_parts info5
                              have hroom87 : t10039.length ≤ co83 := (Kd.R_reads' HO10041.out).2.1
                              have hC87 : Kd.C (Kd.int .u8) _ Ao83 t10039.length t10039 := (Kd.R_reads' HO10041.out).2.2
                              have q087 : (0 : Int) ≤ ((t10048.length : Int) : Int) := of_decide_eq_true (by first | (with_reducible assumption) | assumption)
                              have hcut87 := cut_from (P := Try.prog) 24 5 .i64 Try.underlying24 hi087 1 hsz87 Ao83 t10039.length co83 (t10048.length : Int) q087 q87
                              have hr87 := Kd.C_drop (m := ((t10048.length : Int) : Int).toNat) (c := co83) hC87 (by omega) hroom87
                              obtain ⟨A87, hA87⟩ : ∃ A1, A1 = (if co83 = ((t10048.length : Int) : Int).toNat then Ao83 else (Ao83 : Option Addr).map (·.add (((t10048.length : Int) : Int).toNat * 1))) := ⟨_, rfl⟩
                              obtain ⟨c87, hc87⟩ : ∃ c1, c1 = co83 - ((t10048.length : Int) : Int).toNat := ⟨_, rfl⟩
                              have hy87 : y10058.length = t10039.length - ((t10048.length : Int) : Int).toNat := (by rw [Ny10058.out, List.length_drop] <;> omega)
                              rw [show (t10039).drop ((t10048.length : Int) : Int).toNat = y10058 from Ny10058.out.symm] at hr87
                              replace hr87 : Kd.C (Kd.int .u8) _ A87 y10058.length y10058 := (by rw [hA87]; exact hr87)
                              rw [← hy87, ← hA87, ← hc87] at hcut87
                              have HR10061 := Aside0.mk hr87
                              have HC10061 := Aside0.mk (show y10058.length ≤ c87 from by rw [hy87, hc87]; exact Nat.sub_le_sub_right hroom87 _)
                              clear hr87 hC87 hroom87 hi087 hsz87 hc87
                              have KY87 := Aside0.mk hy87
                              have KA87 := Aside0.mk hA87
                              clear hy87 hA87
                              have KL87 := Aside0.mk (show ((t10048.length : Int) : Int).toNat ≤ t10039.length from by omega)
                              replace q87 := eq_true q87
                              have q88 : ((t10055.length : Int) : Int) ≤ ((t10042.length : Int) : Int) := of_decide_eq_true (by first | (with_reducible assumption) | assumption)
                              obtain ⟨i088, hi088, _, hsz88, _⟩ := info_parts info5
                              have hroom88 : t10042.length ≤ co85 := (Kd.R_reads' HO10044.out).2.1
                              have hC88 : Kd.C (Kd.int .u8) _ Ao85 t10042.length t10042 := (Kd.R_reads' HO10044.out).2.2
                              have q088 : (0 : Int) ≤ ((t10055.length : Int) : Int) := of_decide_eq_true (by first | (with_reducible assumption) | assumption)
                              have hcut88 := cut_from (P := Try.prog) 24 5 .i64 Try.underlying24 hi088 1 hsz88 Ao85 t10042.length co85 (t10055.length : Int) q088 q88
                              have hr88 := Kd.C_drop (m := ((t10055.length : Int) : Int).toNat) (c := co85) hC88 (by omega) hroom88
                              obtain ⟨A88, hA88⟩ : ∃ A1, A1 = (if co85 = ((t10055.length : Int) : Int).toNat then Ao85 else (Ao85 : Option Addr).map (·.add (((t10055.length : Int) : Int).toNat * 1))) := ⟨_, rfl⟩
                              obtain ⟨c88, hc88⟩ : ∃ c1, c1 = co85 - ((t10055.length : Int) : Int).toNat := ⟨_, rfl⟩
                              have hy88 : y10062.length = t10042.length - ((t10055.length : Int) : Int).toNat := (by rw [Ny10062.out, List.length_drop] <;> omega)
                              rw [show (t10042).drop ((t10055.length : Int) : Int).toNat = y10062 from Ny10062.out.symm] at hr88
                              replace hr88 : Kd.C (Kd.int .u8) _ A88 y10062.length y10062 := (by rw [hA88]; exact hr88)
                              rw [← hy88, ← hA88, ← hc88] at hcut88
                              have HR10065 := Aside0.mk hr88
                              have HC10065 := Aside0.mk (show y10062.length ≤ c88 from by rw [hy88, hc88]; exact Nat.sub_le_sub_right hroom88 _)
                              clear hr88 hC88 hroom88 hi088 hsz88 hc88
                              have KY88 := Aside0.mk hy88
                              have KA88 := Aside0.mk hA88
                              clear hy88 hA88
                              have KL88 := Aside0.mk (show ((t10055.length : Int) : Int).toNat ≤ t10042.length from by omega)
                              replace q88 := eq_true q88
                              refine start_ (n := 29) (S := fun w' => (∀ m_ : Nat, m_ = y10058.length → (convert 24 9 (.slice A87 m_ c87)).run Try.prog w' = .ok (.string (strOfNums y10058)) w') ∧ (∀ m_ : Nat, m_ = y10062.length → (convert 24 9 (.slice A88 m_ c88)).run Try.prog w' = .ok (.string (strOfNums y10062)) w')) (ds := [26]) #[false, false, false, false, false, false, false, false, false, false, false, false, false, false, false, false, false, false, false, false, false, false, false, false, false, false, false, false, false] (by kernel_rfl) rfl rfl ⟨(by first | exact (pw_C_string_len (A := A87) (c := c87) Try.underlying24 Try.underlying5 Try.underlying9 (by repeat (first | (with_reducible exact HR10061.out) | (with_reducible refine Kd.C_alloc ?_ _) | (with_reducible refine Kd.C_drewN ?_ _) | (with_reducible refine Kd.C_drew ?_) | exact HR10061.out))).1 | exact (pw_C_string_len (A := A87) (c := c87) Try.underlying24 Try.underlying5 Try.underlying9 (Kd.C_below HR10061.out HB.out)).1 | exact (pw_C_string_len (A := A87) (c := c87) Try.underlying24 Try.underlying5 Try.underlying9 (HR10061.out)).1 | exact (pw_C_string_len (A := A87) (c := c87) Try.underlying24 Try.underlying5 Try.underlying9 (Kd.C_drew HR10061.out)).1), (by first | exact (pw_C_string_len (A := A88) (c := c88) Try.underlying24 Try.underlying5 Try.underlying9 (by repeat (first | (with_reducible exact HR10065.out) | (with_reducible refine Kd.C_alloc ?_ _) | (with_reducible refine Kd.C_drewN ?_ _) | (with_reducible refine Kd.C_drew ?_) | exact HR10065.out))).1 | exact (pw_C_string_len (A := A88) (c := c88) Try.underlying24 Try.underlying5 Try.underlying9 (Kd.C_below HR10065.out HB.out)).1 | exact (pw_C_string_len (A := A88) (c := c88) Try.underlying24 Try.underlying5 Try.underlying9 (HR10065.out)).1 | exact (pw_C_string_len (A := A88) (c := c88) Try.underlying24 Try.underlying5 Try.underlying9 (Kd.C_drew HR10065.out)).1)⟩ (fun hHeld => ?_); refine with_tabW columbariumlaw4_DeltaShifts.tab13 columbariumlaw4_DeltaShifts.bits13 (fun HT_ HW_ => ?_)
                              generalize w81.drew = w82 at HO_5 HO10041 HO10044 HO10050 HO10057 HR10054 HB HR10061 HR10065 hHeld ⊢
                              refine pure_ (i := 0) (N := some 49) (v := ?_) (a' := ?_) #[true, false, false, false, false, false, false, false, false, false, false, false, false, false, false, false, false, false, false, false, false, false, false, false, false, false, false, false, false] rfl rfl (any_of HT_.out (by kernel_rfl)) (fun _ _ _ h => h) (Or.inl ⟨by rfl, ?_⟩) ?_ ?_
                              rotate_left
                              · intro w'
                                go_simp
                                with_reducible rfl
                              rotate_left
                              · simp only [Act.put, List.setIfInBounds_toArray, List.set_cons_zero, List.set_cons_succ, i64_w, i32_w]
                                rfl
                              refine pure_ (i := 1) (N := some 50) (v := ?_) (a' := ?_) #[true, true, false, false, false, false, false, false, false, false, false, false, false, false, false, false, false, false, false, false, false, false, false, false, false, false, false, false, false] rfl rfl (any_of HT_.out (by kernel_rfl)) (fun _ _ _ h => h) (Or.inl ⟨by rfl, ?_⟩) ?_ ?_
                              rotate_left
                              · intro w'
                                go_simp
                                with_reducible rfl
                              rotate_left
                              · simp only [Act.put, List.setIfInBounds_toArray, List.set_cons_zero, List.set_cons_succ, i64_w, i32_w]
                                rfl
                              refine pure_ (i := 2) (N := some 51) (v := ?_) (a' := ?_) #[true, true, true, false, false, false, false, false, false, false, false, false, false, false, false, false, false, false, false, false, false, false, false, false, false, false, false, false, false] rfl rfl (any_of HT_.out (by kernel_rfl)) (fun _ _ _ h => h) (Or.inl ⟨by rfl, ?_⟩) ?_ ?_
                              rotate_left
                              · intro w'
                                go_simp
                                with_reducible rfl
                              rotate_left
                              · simp only [Act.put, List.setIfInBounds_toArray, List.set_cons_zero, List.set_cons_succ, i64_w, i32_w]
                                rfl
                              refine pure_ (i := 3) (N := some 52) (v := ?_) (a' := ?_) #[true, true, true, true, false, false, false, false, false, false, false, false, false, false, false, false, false, false, false, false, false, false, false, false, false, false, false, false, false] rfl rfl (any_of HT_.out (by kernel_rfl)) (fun _ _ _ h => h) (Or.inl ⟨by rfl, ?_⟩) ?_ ?_
                              rotate_left
                              · intro w'
                                go_simp
                                with_reducible rfl
                              rotate_left
                              · simp only [Act.put, List.setIfInBounds_toArray, List.set_cons_zero, List.set_cons_succ, i64_w, i32_w]
                                rfl
                              refine pure_ (i := 4) (N := some 53) (v := ?_) (a' := ?_) #[true, true, true, true, true, false, false, false, false, false, false, false, false, false, false, false, false, false, false, false, false, false, false, false, false, false, false, false, false] rfl rfl (any_of HT_.out (by kernel_rfl)) (fun _ _ _ h => h) (Or.inl ⟨by rfl, ?_⟩) ?_ ?_
                              rotate_left
                              · intro w'
                                go_simp
                                with_reducible rfl
                              rotate_left
                              · simp only [Act.put, List.setIfInBounds_toArray, List.set_cons_zero, List.set_cons_succ, i64_w, i32_w]
                                rfl
                              refine pure_ (i := 5) (N := some 54) (v := ?_) (a' := ?_) #[true, true, true, true, true, true, false, false, false, false, false, false, false, false, false, false, false, false, false, false, false, false, false, false, false, false, false, false, false] rfl rfl (any_of HT_.out (by kernel_rfl)) (fun _ _ _ h => h) (Or.inl ⟨by rfl, ?_⟩) ?_ ?_
                              rotate_left
                              · intro w'
                                go_simp
                                with_reducible rfl
                              rotate_left
                              · simp only [Act.put, List.setIfInBounds_toArray, List.set_cons_zero, List.set_cons_succ, i64_w, i32_w]
                                rfl
                              refine pure_ (i := 6) (N := some 55) (v := ?_) (a' := ?_) #[true, true, true, true, true, true, true, false, false, false, false, false, false, false, false, false, false, false, false, false, false, false, false, false, false, false, false, false, false] rfl rfl (any_of HT_.out (by kernel_rfl)) (fun _ _ _ h => h) (Or.inl ⟨by rfl, ?_⟩) ?_ ?_
                              rotate_left
                              · intro w'
                                go_simp
                                with_reducible rfl
                              rotate_left
                              · simp only [Act.put, List.setIfInBounds_toArray, List.set_cons_zero, List.set_cons_succ, i64_w, i32_w]
                                rfl
                              refine pure_ (i := 7) (N := some 56) (v := ?_) (a' := ?_) #[true, true, true, true, true, true, true, true, false, false, false, false, false, false, false, false, false, false, false, false, false, false, false, false, false, false, false, false, false] rfl rfl (any_of HT_.out (by kernel_rfl)) (fun _ _ _ h => h) (Or.inl ⟨by rfl, ?_⟩) ?_ ?_
                              rotate_left
                              · intro w'
                                go_simp
                                with_reducible rfl
                              rotate_left
                              · simp only [Act.put, List.setIfInBounds_toArray, List.set_cons_zero, List.set_cons_succ, i64_w, i32_w]
                                rfl
                              refine pure_ (i := 8) (N := some 57) (v := ?_) (a' := ?_) #[true, true, true, true, true, true, true, true, true, false, false, false, false, false, false, false, false, false, false, false, false, false, false, false, false, false, false, false, false] rfl rfl (any_of HT_.out (by kernel_rfl)) (fun _ _ _ h => h) (Or.inl ⟨by rfl, ?_⟩) ?_ ?_
                              rotate_left
                              · intro w'
                                go_simp
                                with_reducible rfl
                              rotate_left
                              · simp only [Act.put, List.setIfInBounds_toArray, List.set_cons_zero, List.set_cons_succ, i64_w, i32_w]
                                rfl
                              refine pure_ (i := 9) (N := some 58) (v := ?_) (a' := ?_) #[true, true, true, true, true, true, true, true, true, true, false, false, false, false, false, false, false, false, false, false, false, false, false, false, false, false, false, false, false] rfl rfl (any_of HT_.out (by kernel_rfl)) (fun _ _ _ h => h) (Or.inl ⟨by rfl, ?_⟩) ?_ ?_
                              rotate_left
                              · intro w'
                                go_simp
                                with_reducible rfl
                              rotate_left
                              · simp only [Act.put, List.setIfInBounds_toArray, List.set_cons_zero, List.set_cons_succ, i64_w, i32_w]
                                rfl
                              refine pure_ (i := 10) (N := some 59) (v := ?_) (a' := ?_) #[true, true, true, true, true, true, true, true, true, true, true, false, false, false, false, false, false, false, false, false, false, false, false, false, false, false, false, false, false] rfl rfl (any_of HT_.out (by kernel_rfl)) (fun _ _ _ h => h) (Or.inl ⟨by rfl, ?_⟩) ?_ ?_
                              rotate_left
                              · intro w'
                                go_simp
                                with_reducible rfl
                              rotate_left
                              · simp only [Act.put, List.setIfInBounds_toArray, List.set_cons_zero, List.set_cons_succ, i64_w, i32_w]
                                rfl
                              refine pure_ (i := 11) (N := some 60) (v := ?_) (a' := ?_) #[true, true, true, true, true, true, true, true, true, true, true, true, false, false, false, false, false, false, false, false, false, false, false, false, false, false, false, false, false] rfl rfl (any_of HT_.out (by kernel_rfl)) (fun _ _ _ h => h) (Or.inl ⟨by rfl, ?_⟩) ?_ ?_
                              rotate_left
                              · intro w'
                                go_simp
                                with_reducible rfl
                              rotate_left
                              · simp only [Act.put, List.setIfInBounds_toArray, List.set_cons_zero, List.set_cons_succ, i64_w, i32_w]
                                rfl
                              refine pure_ (i := 12) (N := some 61) (v := ?_) (a' := ?_) #[true, true, true, true, true, true, true, true, true, true, true, true, true, false, false, false, false, false, false, false, false, false, false, false, false, false, false, false, false] rfl rfl (any_of HT_.out (by kernel_rfl)) (fun _ _ _ h => h) (Or.inl ⟨by rfl, ?_⟩) ?_ ?_
                              rotate_left
                              · intro w'
                                go_simp
                                with_reducible rfl
                              rotate_left
                              · simp only [Act.put, List.setIfInBounds_toArray, List.set_cons_zero, List.set_cons_succ, i64_w, i32_w]
                                rfl
                              refine pure_ (i := 13) (N := some 62) (v := ?_) (a' := ?_) #[true, true, true, true, true, true, true, true, true, true, true, true, true, true, false, false, false, false, false, false, false, false, false, false, false, false, false, false, false] rfl rfl (any_of HT_.out (by kernel_rfl)) (fun _ _ _ h => h) (Or.inl ⟨by rfl, ?_⟩) ?_ ?_
                              rotate_left
                              · intro w'
                                go_simp
                                with_reducible rfl
                              rotate_left
                              · simp only [Act.put, List.setIfInBounds_toArray, List.set_cons_zero, List.set_cons_succ, i64_w, i32_w]
                                rfl
                              refine pure_ (i := 14) (N := some 63) (v := ?_) (a' := ?_) #[true, true, true, true, true, true, true, true, true, true, true, true, true, true, true, false, false, false, false, false, false, false, false, false, false, false, false, false, false] rfl rfl (any_of HT_.out (by kernel_rfl)) (fun _ _ _ h => h) (Or.inl ⟨by rfl, ?_⟩) ?_ ?_
                              rotate_left
                              · intro w'
                                go_simp
                                with_reducible rfl
                              rotate_left
                              · simp only [Act.put, List.setIfInBounds_toArray, List.set_cons_zero, List.set_cons_succ, i64_w, i32_w]
                                rfl
                              refine pure_ (i := 15) (N := some 64) (v := ?_) (a' := ?_) #[true, true, true, true, true, true, true, true, true, true, true, true, true, true, true, true, false, false, false, false, false, false, false, false, false, false, false, false, false] rfl rfl (any_of HT_.out (by kernel_rfl)) (fun _ _ _ h => h) (Or.inl ⟨by rfl, ?_⟩) ?_ ?_
                              rotate_left
                              · intro w'
                                go_simp
                                with_reducible rfl
                              rotate_left
                              · simp only [Act.put, List.setIfInBounds_toArray, List.set_cons_zero, List.set_cons_succ, i64_w, i32_w]
                                rfl
                              refine pure_ (i := 16) (N := some 65) (v := ?_) (a' := ?_) #[true, true, true, true, true, true, true, true, true, true, true, true, true, true, true, true, true, false, false, false, false, false, false, false, false, false, false, false, false] rfl rfl (any_of HT_.out (by kernel_rfl)) (fun _ _ _ h => h) (Or.inl ⟨by rfl, ?_⟩) ?_ ?_
                              rotate_left
                              · intro w'
                                go_simp
                                with_reducible rfl
                              rotate_left
                              · simp only [Act.put, List.setIfInBounds_toArray, List.set_cons_zero, List.set_cons_succ, i64_w, i32_w]
                                rfl
                              refine pure_ (i := 18) (N := some 67) (v := ?_) (a' := ?_) #[true, true, true, true, true, true, true, true, true, true, true, true, true, true, true, true, true, false, true, false, false, false, false, false, false, false, false, false, false] rfl rfl (any_of HT_.out (by kernel_rfl)) (fun _ _ _ h => h) (Or.inl ⟨by rfl, ?_⟩) ?_ ?_
                              rotate_left
                              · intro w'
                                go_simp
                                with_reducible rfl
                              rotate_left
                              · simp only [Act.put, List.setIfInBounds_toArray, List.set_cons_zero, List.set_cons_succ, i64_w, i32_w]
                                rfl
                              refine pure_ (i := 19) (N := some 68) (v := ?_) (a' := ?_) #[true, true, true, true, true, true, true, true, true, true, true, true, true, true, true, true, true, false, true, true, false, false, false, false, false, false, false, false, false] rfl rfl (any_of HT_.out (by kernel_rfl)) (fun _ _ _ h => h) (Or.inl ⟨by rfl, ?_⟩) ?_ ?_
                              rotate_left
                              · intro w'
                                go_simp
                                with_reducible rfl
                              rotate_left
                              · simp only [Act.put, List.setIfInBounds_toArray, List.set_cons_zero, List.set_cons_succ, i64_w, i32_w]
                                rfl
                              refine pure_ (i := 20) (N := some 69) (v := ?_) (a' := ?_) #[true, true, true, true, true, true, true, true, true, true, true, true, true, true, true, true, true, false, true, true, true, false, false, false, false, false, false, false, false] rfl rfl (any_of HT_.out (by kernel_rfl)) (fun _ _ _ h => h) (Or.inl ⟨by rfl, ?_⟩) ?_ ?_
                              rotate_left
                              · intro w'
                                go_simp
                                with_reducible rfl
                              rotate_left
                              · simp only [Act.put, List.setIfInBounds_toArray, List.set_cons_zero, List.set_cons_succ, i64_w, i32_w]
                                rfl
                              refine pure_ (i := 21) (N := some 70) (v := ?_) (a' := ?_) #[true, true, true, true, true, true, true, true, true, true, true, true, true, true, true, true, true, false, true, true, true, true, false, false, false, false, false, false, false] rfl rfl (any_of HT_.out (by kernel_rfl)) (fun _ _ _ h => h) (Or.inl ⟨by rfl, ?_⟩) ?_ ?_
                              rotate_left
                              · intro w'
                                go_simp
                                with_reducible rfl
                              rotate_left
                              · simp only [Act.put, List.setIfInBounds_toArray, List.set_cons_zero, List.set_cons_succ, i64_w, i32_w]
                                rfl
                              refine take_ (i := 17) (N := some 66) (v := ?_) (a' := ?_) #[true, true, true, true, true, true, true, true, true, true, true, true, true, true, true, true, true, true, true, true, true, true, false, false, false, false, false, false, false] rfl rfl (take_ofW HT_.out HW_.out (by kernel_rfl)) (fun _ _ _ h => h) (Or.inl ⟨by rfl, ?_⟩) hHeld ?_ ?_
                              rotate_left
                              · rintro w' ⟨s0, s1⟩
                                go_simp
                                with_reducible rfl
                              rotate_left
                              · simp only [Act.put, List.setIfInBounds_toArray, List.set_cons_zero, List.set_cons_succ, i64_w, i32_w]
                                rfl
                              refine take_ (i := 22) (N := some 71) (v := ?_) (a' := ?_) #[true, true, true, true, true, true, true, true, true, true, true, true, true, true, true, true, true, true, true, true, true, true, true, false, false, false, false, false, false] rfl rfl (take_ofW HT_.out HW_.out (by kernel_rfl)) (fun _ _ _ h => h) (Or.inl ⟨by rfl, ?_⟩) hHeld ?_ ?_
                              rotate_left
                              · rintro w' ⟨s0, s1⟩
                                go_simp
                                with_reducible rfl
                              rotate_left
                              · simp only [Act.put, List.setIfInBounds_toArray, List.set_cons_zero, List.set_cons_succ, i64_w, i32_w]
                                rfl
                              refine pure_ (i := 23) (N := some 72) (v := ?_) (a' := ?_) #[true, true, true, true, true, true, true, true, true, true, true, true, true, true, true, true, true, true, true, true, true, true, true, true, false, false, false, false, false] rfl rfl (any_of HT_.out (by kernel_rfl)) (fun _ _ _ h => h) (Or.inl ⟨by rfl, ?_⟩) ?_ ?_
                              rotate_left
                              · intro w'
                                go_simp
                                with_reducible rfl
                              rotate_left
                              · simp only [Act.put, List.setIfInBounds_toArray, List.set_cons_zero, List.set_cons_succ, i64_w, i32_w]
                                rfl
                              refine pure_ (i := 24) (N := some 73) (v := ?_) (a' := ?_) #[true, true, true, true, true, true, true, true, true, true, true, true, true, true, true, true, true, true, true, true, true, true, true, true, true, false, false, false, false] rfl rfl (any_of HT_.out (by kernel_rfl)) (fun _ _ _ h => h) (Or.inl ⟨by rfl, ?_⟩) ?_ ?_
                              rotate_left
                              · intro w'
                                go_simp
                                with_reducible rfl
                              rotate_left
                              · simp only [Act.put, List.setIfInBounds_toArray, List.set_cons_zero, List.set_cons_succ, i64_w, i32_w]
                                rfl
                              refine pure_ (i := 25) (N := some 74) (v := ?_) (a' := ?_) #[true, true, true, true, true, true, true, true, true, true, true, true, true, true, true, true, true, true, true, true, true, true, true, true, true, true, false, false, false] rfl rfl (any_of HT_.out (by kernel_rfl)) (fun _ _ _ h => h) (Or.inl ⟨by rfl, ?_⟩) ?_ ?_
                              rotate_left
                              · intro w'
                                go_simp
                                with_reducible rfl
                              rotate_left
                              · simp only [Act.put, List.setIfInBounds_toArray, List.set_cons_zero, List.set_cons_succ, i64_w, i32_w]
                                rfl
                              refine last_ (i := 26) (N := some 75) #[true, true, true, true, true, true, true, true, true, true, true, true, true, true, true, true, true, true, true, true, true, true, true, true, true, true, true, false, false] rfl rfl (one_of HT_.out (by kernel_rfl)) (by decide) (fun K hK => ?_)
                              refine goes_ Try.func17 (by kernel_rfl) rfl #[] (by rfl) rfl rfl (by (try simp only [List.map_toArray, List.map_cons, List.map_nil]); first | done | rfl | (simp only [List.length_drop, List.length_take]; rfl)) ?_
                              with_reducible refine (columbariumlaw4_known.calls k1  t10066 _ A74.out).mono ?_
                              rintro e w89 ⟨rfl, hb⟩
                              refine ⟨_, rfl, ?_⟩
                              have n0_ := Aside0.mk (Kd.R_below (by (with_reducible repeat (first | apply Kd.R_alloc | apply Kd.R_drewN | apply Kd.R_drew)); exact HO_5.out) hb)
                              have n1_ := Aside0.mk (Kd.R_below (by (with_reducible repeat (first | apply Kd.R_alloc | apply Kd.R_drewN | apply Kd.R_drew)); exact HO10041.out) hb)
                              have n2_ := Aside0.mk (Kd.R_below (by (with_reducible repeat (first | apply Kd.R_alloc | apply Kd.R_drewN | apply Kd.R_drew)); exact HO10044.out) hb)
                              have n3_ := Aside0.mk (Kd.R_below (by (with_reducible repeat (first | apply Kd.R_alloc | apply Kd.R_drewN | apply Kd.R_drew)); exact HO10050.out) hb)
                              have n4_ := Aside0.mk (Kd.R_below (by (with_reducible repeat (first | apply Kd.R_alloc | apply Kd.R_drewN | apply Kd.R_drew)); exact HO10057.out) hb)
                              have n5_ := Aside0.mk (Kd.C_below (by repeat (first | (with_reducible exact HR10054.out) | (with_reducible refine Kd.C_alloc ?_ _) | (with_reducible refine Kd.C_drewN ?_ _) | (with_reducible refine Kd.C_drew ?_) | exact HR10054.out)) hb)
                              have n6_ := Aside0.mk (Kd.C_below (by repeat (first | (with_reducible exact HR10061.out) | (with_reducible refine Kd.C_alloc ?_ _) | (with_reducible refine Kd.C_drewN ?_ _) | (with_reducible refine Kd.C_drew ?_) | exact HR10061.out)) hb)
                              have n7_ := Aside0.mk (Kd.C_below (by repeat (first | (with_reducible exact HR10065.out) | (with_reducible refine Kd.C_alloc ?_ _) | (with_reducible refine Kd.C_drewN ?_ _) | (with_reducible refine Kd.C_drew ?_) | exact HR10065.out)) hb)
                              have n8_ := Aside0.mk (below_step (by repeat (first | (with_reducible first | exact HB.out | apply below_alloc | apply pw_below_drewN | apply below_drew1) | exact HB.out)) hb)
                              clear HO_5
                              clear HO10041
                              clear HO10044
                              clear HO10050
                              clear HO10057
                              clear HR10054
                              clear HR10061
                              clear HR10065
                              clear HB
                              have HO_5 := n0_
                              have HO10041 := n1_
                              have HO10044 := n2_
                              have HO10050 := n3_
                              have HO10057 := n4_
                              have HR10054 := n5_
                              have HR10061 := n6_
                              have HR10065 := n7_
                              have HB := n8_
                              clear n0_ n1_ n2_ n3_ n4_ n5_ n6_ n7_ n8_
                              (try clear hb)
                              (try clear hb2)
                              (try clear hk)
                              (try clear hi)
                              refine hK.out _ _ ?_
                              clear hK K
                              refine norm_ (a' := ?_) ?_ ?_
                              rotate_left
                              · show Act.put _ (some 75) _ = _
                                simp only [Act.put, List.setIfInBounds_toArray, List.set_cons_zero, List.set_cons_succ, i64_w, i32_w]
                                rfl
                              refine pure_ (i := 27) (N := some 76) (v := ?_) (a' := ?_) #[true, true, true, true, true, true, true, true, true, true, true, true, true, true, true, true, true, true, true, true, true, true, true, true, true, true, true, true, false] rfl rfl (any_of HT_.out (by kernel_rfl)) (fun _ _ _ h => h) (Or.inl ⟨by rfl, ?_⟩) ?_ ?_
                              rotate_left
                              · intro w'
                                go_simp
                                with_reducible rfl
                              rotate_left
                              · simp only [Act.put, List.setIfInBounds_toArray, List.set_cons_zero, List.set_cons_succ, i64_w, i32_w]
                                rfl
                              refine pure_ (i := 28) (N := some 4) (v := ?_) (a' := ?_) #[true, true, true, true, true, true, true, true, true, true, true, true, true, true, true, true, true, true, true, true, true, true, true, true, true, true, true, true, true] rfl rfl (any_of HT_.out (by kernel_rfl)) (fun _ _ _ h => h) (Or.inl ⟨by rfl, ?_⟩) ?_ ?_
                              rotate_left
                              · intro w'
                                go_simp
                                with_reducible rfl
                              rotate_left
                              · simp only [Act.put, List.setIfInBounds_toArray, List.set_cons_zero, List.set_cons_succ, i64_w, i32_w]
                                rfl
                              refine done_ (done_of HT_.out (by kernel_rfl)) ?_
                              try go_wp2
                              go_ret
                              exact ⟨by first | rfl | (simp [errW_none, errW_some] <;> rfl) | (simp [*, errW_none, errW_some] <;> rfl), by repeat (first | (with_reducible first | exact HB.out | apply below_alloc | apply pw_below_drewN | apply below_drew1) | exact HB.out)⟩
                            · rw [if_neg c73] at H
                              have c73b0 : ((strOfNums y10058).toList == (strOfNums y10062).toList) = false := beq_eq_false_iff_ne.mpr c73
                              have c73b1 : ((strOfNums y10058).toList != (strOfNums y10062).toList) = true := bne_iff_ne.mpr c73
                              exact absurd ((Option.some.inj H).trans hr_.out) (by decide)
                          · rw [if_neg c72] at H
                            exact absurd H (by simp)
                        · rw [if_neg c71] at H
                          exact absurd H (by simp)
                      · rw [if_neg c70] at H
                        exact absurd H (by simp)
                    · rw [if_neg c69] at H
                      exact absurd H (by simp)
                  · rw [if_neg c68] at H
                    have c68b0 : decide ((t10055.length : Int) ≤ (t10042.length : Int)) = false := decide_eq_false c68
                    have c68b1 : decide (t10055.length ≤ t10042.length) = false := decide_eq_false (fun h => c68 (Int.ofNat_le.mpr h))
                    clear c68
                    exact absurd ((Option.some.inj H).trans hr_.out) (by decide)
                · rw [if_neg c67] at H
                  have c67b0 : decide ((t10048.length : Int) ≤ (t10039.length : Int)) = false := decide_eq_false c67
                  have c67b1 : decide (t10048.length ≤ t10039.length) = false := decide_eq_false (fun h => c67 (Int.ofNat_le.mpr h))
                  clear c67
                  exact absurd ((Option.some.inj H).trans hr_.out) (by decide)
              · rw [if_neg c65] at H
                exact absurd H (by simp)
            · rw [if_neg c63] at H
              exact absurd H (by simp)

/-- THE ONE PURE STATEMENT of columbariumlaw4_DeltaShifts: yours. -/
def columbariumlaw4_DeltaShifts.Pure : Prop := ∀ (l0 : List Int) (a1 : Int), l0.length ≤ maxLen → l0.length * 8 ≤ 140737488351232 → (∀ x ∈ l0, (Lit.int .i64 x).wf = true) → (Lit.int .i64 a1).wf = true → ∃ k, columbariumlaw4_DeltaShifts.f k l0 a1 = some true
theorem columbariumlaw4_DeltaShifts.walk (P : columbariumlaw4_DeltaShifts.Pure) (a0 : Option Addr) (len0 cap0 : Nat) (z0 : List Int) (a1 : Int) (w : World) (w0 : (a0 = none ∧ len0 = 0 ∧ cap0 = 0 ∧ z0 = []) ∨ ∃ x, a0 = some x ∧ len0 ≤ cap0 ∧ cap0 ≤ maxLen ∧ z0.length = cap0 ∧ (∀ i, i < z0.length → w.cell? (x.add i) = some (.int .i64 (z0.getD i 0))) ∧ ∀ n ∈ z0, (Lit.int .i64 n).wf = true) (y0 : len0 * 8 ≤ 140737488351232) (w1 : (Lit.int .i64 a1).wf = true) :
    Calls Try.prog 4 #[.slice a0 len0 cap0, .int .i64 a1] w fun e w' => e = .returned (.bool true) ∧ Below w.heap.size w w' := by
  obtain ⟨l0, rfl, hr0, hm0, hw0, hc0⟩ := ReadsInt.ofRowC w0
  obtain ⟨k, h⟩ := P l0 a1 hm0 y0 hw0 w1
  refine (columbariumlaw4_DeltaShifts.calls k _ _ l0 a1 true w (Kd.C_of_reads (d := (0 : Int)) (h1 := fun _ => rfl) hr0) hc0 h ⟨rfl⟩).mono ?_
  rintro e w' ⟨rfl, hd⟩
  exact ⟨rfl, hd⟩

end Go.Proofs.Ytfgceanepgjfiaa.PS
