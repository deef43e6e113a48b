-- Written by a program of this session, out of the translation; Lean checks it.
import Derived.Test.YtfgceanepgjfiaaPSx0
import Derived.Test.YtfgceanepgjfiaaPScolumbariumbookWithin
import Derived.Test.YtfgceanepgjfiaaPSdeltaEncode
import Derived.Test.YtfgceanepgjfiaaPScolumbariumlaw4known
import Derived.Test.YtfgceanepgjfiaaPSdeltaDecode
import Derived.Test.YtfgceanepgjfiaaPScolumbariumbookSameint64
namespace Go.Proofs.Ytfgceanepgjfiaa.PS
open Go.RowKit Go.Proofs.YtfgceanepgjfiaaW.PrintWords Go.Proofs.YtfgceanepgjfiaaW.PrintLast Go.Proofs.YtfgceanepgjfiaaW.PrintMore
attribute [local go_sem] pw_us8 pw_us32 pw_us64 max2_int min2_int max_two min_two max_three min_three max_four min_four   -- for this text's walks alone
set_option linter.unusedVariables false
set_option linter.unusedSimpArgs false

/-! ### columbariumlaw4_DeltaCuts: function 8 -/
def columbariumlaw4_DeltaCuts.f (k : Nat) (l0 : List Int) (a1 : Int) (l2 : List Int) : Option (Bool) := if (l0.length : Int) > 60 then (if 60 ≤ (l0.length : Int) then ((some (l0.take 60 : List Int)).bind fun y454 => ((delta_Encode.f k y454).bind fun t456 => (if (t456.length : Int) = 0 then (some false) else ((columbariumbook_Within.f a1 0 (wrap64 ((t456.length : Int) - 1))).bind fun t459 => (if 0 ≤ t459 then (if t459 ≤ (t456.length : Int) then ((delta_Decode.f k (t456.take (t459 : Int).toNat) 0 (y454.length : Int)).bind fun bt464 => ((some (([] : List Int) : List Int)).bind fun y469 => (if y469.length + t456.length < 140737488355328 then ((some (y469 ++ t456 : List Int)).bind fun y472 => (if y472.length + l2.length < 140737488355328 then ((delta_Decode.f k (y472 ++ l2) 0 100).bind fun bt478 => (if bt464.2.2 = 10 then (if (bt464.1.length : Int) = 0 then (if bt478.2.2 = 0 then (if bt478.2.1 = (t456.length : Int) then ((columbariumbook_Same_int64.f k bt478.1 y454).bind fun t483 => (if t483 = true then ((columbariumlaw4_known.f k).bind fun t484 => (some t484)) else (some false))) else (some false)) else (some false)) else (some false)) else (some false))) else (none))) else (none)))) else (none)) else (none)))))) else (none)) else ((delta_Encode.f k l0).bind fun t485 => (if (t485.length : Int) = 0 then (some false) else ((columbariumbook_Within.f a1 0 (wrap64 ((t485.length : Int) - 1))).bind fun t488 => (if 0 ≤ t488 then (if t488 ≤ (t485.length : Int) then ((delta_Decode.f k (t485.take (t488 : Int).toNat) 0 (l0.length : Int)).bind fun bt493 => ((some (([] : List Int) : List Int)).bind fun y498 => (if y498.length + t485.length < 140737488355328 then ((some (y498 ++ t485 : List Int)).bind fun y501 => (if y501.length + l2.length < 140737488355328 then ((delta_Decode.f k (y501 ++ l2) 0 100).bind fun bt507 => (if bt493.2.2 = 10 then (if (bt493.1.length : Int) = 0 then (if bt507.2.2 = 0 then (if bt507.2.1 = (t485.length : Int) then ((columbariumbook_Same_int64.f k bt507.1 l0).bind fun t512 => (if t512 = true then ((columbariumlaw4_known.f k).bind fun t513 => (some t513)) else (some false))) else (some false)) else (some false)) else (some false)) else (some false))) else (none))) else (none)))) else (none)) else (none)))))
theorem columbariumlaw4_DeltaCuts.mono : ∀ a0 a1 a2 k, LeO (columbariumlaw4_DeltaCuts.f k a0 a1 a2) (columbariumlaw4_DeltaCuts.f (k + 1) a0 a1 a2) := by
  intro a0 a1 a2 k
  unfold columbariumlaw4_DeltaCuts.f
  repeat' first
      | (with_reducible exact columbariumbook_Same_int64.mono _ _ _)
      | (with_reducible exact columbariumlaw4_known.mono _)
      | (with_reducible exact delta_Decode.mono _ _ _ _)
      | (with_reducible exact delta_Encode.mono _ _)
      | (with_reducible exact LeO.refl _)
      | (with_reducible exact LeO.none _)
      | (with_reducible refine LeO.ite ?_ ?_)
      | (with_reducible refine LeO.bind ?_ (fun _ => ?_))
      | exact columbariumbook_Same_int64.mono _ _ _
      | exact columbariumlaw4_known.mono _
      | exact delta_Decode.mono _ _ _ _
      | exact delta_Encode.mono _ _
      | exact LeO.none _
      | refine LeO.ite ?_ ?_
      | refine LeO.bind ?_ (fun _ => ?_)
set_option maxHeartbeats 8000000 in
set_option maxRecDepth 100000 in
theorem columbariumlaw4_DeltaCuts.calls (k : Nat) (A0 : Option Addr) (c0 : Nat) (l0 : List Int) (a1 : Int) (A2 : Option Addr) (c2 : Nat) (l2 : List Int) (r : Bool) (w : World) (hr0 : Kd.C (Kd.int .i64) w A0 l0.length l0) (hc0 : l0.length ≤ c0) (hr2 : Kd.C (Kd.int .u8) w A2 l2.length l2) (hc2 : l2.length ≤ c2) (h : columbariumlaw4_DeltaCuts.f k l0 a1 l2 = some r) (hr_ : Aside0 (r = true)) :
    Calls Try.prog 8 #[.slice A0 l0.length c0, .int .i64 a1, .slice A2 l2.length c2] w fun e w' => e = .returned (.bool r) ∧ Below w.heap.size w w' := by
  have HR0 := Aside0.mk hr0
  have HC0 := Aside0.mk hc0
  clear hr0 hc0
  have HR2 := Aside0.mk hr2
  have HC2 := Aside0.mk hc2
  clear hr2 hc2
  have HB := Aside0.mk (Below.refl w.heap.size w)
  have H : (if (l0.length : Int) > 60 then (if 60 ≤ (l0.length : Int) then ((some (l0.take 60 : List Int)).bind fun y454 => ((delta_Encode.f k y454).bind fun t456 => (if (t456.length : Int) = 0 then (some false) else ((columbariumbook_Within.f a1 0 (wrap64 ((t456.length : Int) - 1))).bind fun t459 => (if 0 ≤ t459 then (if t459 ≤ (t456.length : Int) then ((delta_Decode.f k (t456.take (t459 : Int).toNat) 0 (y454.length : Int)).bind fun bt464 => ((some (([] : List Int) : List Int)).bind fun y469 => (if y469.length + t456.length < 140737488355328 then ((some (y469 ++ t456 : List Int)).bind fun y472 => (if y472.length + l2.length < 140737488355328 then ((delta_Decode.f k (y472 ++ l2) 0 100).bind fun bt478 => (if bt464.2.2 = 10 then (if (bt464.1.length : Int) = 0 then (if bt478.2.2 = 0 then (if bt478.2.1 = (t456.length : Int) then ((columbariumbook_Same_int64.f k bt478.1 y454).bind fun t483 => (if t483 = true then ((columbariumlaw4_known.f k).bind fun t484 => (some t484)) else (some false))) else (some false)) else (some false)) else (some false)) else (some false))) else (none))) else (none)))) else (none)) else (none)))))) else (none)) else ((delta_Encode.f k l0).bind fun t485 => (if (t485.length : Int) = 0 then (some false) else ((columbariumbook_Within.f a1 0 (wrap64 ((t485.length : Int) - 1))).bind fun t488 => (if 0 ≤ t488 then (if t488 ≤ (t485.length : Int) then ((delta_Decode.f k (t485.take (t488 : Int).toNat) 0 (l0.length : Int)).bind fun bt493 => ((some (([] : List Int) : List Int)).bind fun y498 => (if y498.length + t485.length < 140737488355328 then ((some (y498 ++ t485 : List Int)).bind fun y501 => (if y501.length + l2.length < 140737488355328 then ((delta_Decode.f k (y501 ++ l2) 0 100).bind fun bt507 => (if bt493.2.2 = 10 then (if (bt493.1.length : Int) = 0 then (if bt507.2.2 = 0 then (if bt507.2.1 = (t485.length : Int) then ((columbariumbook_Same_int64.f k bt507.1 l0).bind fun t512 => (if t512 = true then ((columbariumlaw4_known.f k).bind fun t513 => (some t513)) else (some false))) else (some false)) else (some false)) else (some false)) else (some false))) else (none))) else (none)))) else (none)) else (none)))))) = some r := h
  clear h
  by_cases c4 : (l0.length : Int) > 60
  · rw [if_pos c4] at H
    have c4b0 : decide (60 < (l0.length : Int)) = true := decide_eq_true c4
    have c4b1 : decide (60 < l0.length) = true := decide_eq_true (by omega)
    clear c4
    by_cases c5 : 60 ≤ (l0.length : Int)
    · rw [if_pos c5] at H
      have c5b0 := eq_true c5
      have c5b1 : decide (60 ≤ (l0.length : Int)) = true := decide_eq_true c5
      clear c5
      obtain ⟨y454, hy454⟩ : ∃ y_ : List Int, y_ = (l0.take 60) := ⟨_, rfl⟩
      replace H : ((delta_Encode.f k y454).bind fun t456 => (if (t456.length : Int) = 0 then (some false) else ((columbariumbook_Within.f a1 0 (wrap64 ((t456.length : Int) - 1))).bind fun t459 => (if 0 ≤ t459 then (if t459 ≤ (t456.length : Int) then ((delta_Decode.f k (t456.take (t459 : Int).toNat) 0 (y454.length : Int)).bind fun bt464 => ((some (([] : List Int) : List Int)).bind fun y469 => (if y469.length + t456.length < 140737488355328 then ((some (y469 ++ t456 : List Int)).bind fun y472 => (if y472.length + l2.length < 140737488355328 then ((delta_Decode.f k (y472 ++ l2) 0 100).bind fun bt478 => (if bt464.2.2 = 10 then (if (bt464.1.length : Int) = 0 then (if bt478.2.2 = 0 then (if bt478.2.1 = (t456.length : Int) then ((columbariumbook_Same_int64.f k bt478.1 y454).bind fun t483 => (if t483 = true then ((columbariumlaw4_known.f k).bind fun t484 => (some t484)) else (some false))) else (some false)) else (some false)) else (some false)) else (some false))) else (none))) else (none)))) else (none)) else (none))))) = some r := by first | (rw [hy454]; with_reducible exact H) | (have H2_ := (Option.bind_some _ _).symm.trans H; rw [hy454]; with_reducible exact H2_) | (have H2_ := (Option.bind_some _ _).symm.trans H; with_reducible exact H2_) | with_reducible exact H | (rw [hy454]; exact H) | exact H
      have Ny454 := Aside0.mk hy454
      clear hy454
      replace H := Option.bind_eq_some_iff.mp H
      obtain ⟨t456, A60, H⟩ := H
      replace H : (if (t456.length : Int) = 0 then (some false) else ((columbariumbook_Within.f a1 0 (wrap64 ((t456.length : Int) - 1))).bind fun t459 => (if 0 ≤ t459 then (if t459 ≤ (t456.length : Int) then ((delta_Decode.f k (t456.take (t459 : Int).toNat) 0 (y454.length : Int)).bind fun bt464 => ((some (([] : List Int) : List Int)).bind fun y469 => (if y469.length + t456.length < 140737488355328 then ((some (y469 ++ t456 : List Int)).bind fun y472 => (if y472.length + l2.length < 140737488355328 then ((delta_Decode.f k (y472 ++ l2) 0 100).bind fun bt478 => (if bt464.2.2 = 10 then (if (bt464.1.length : Int) = 0 then (if bt478.2.2 = 0 then (if bt478.2.1 = (t456.length : Int) then ((columbariumbook_Same_int64.f k bt478.1 y454).bind fun t483 => (if t483 = true then ((columbariumlaw4_known.f k).bind fun t484 => (some t484)) else (some false))) else (some false)) else (some false)) else (some false)) else (some false))) else (none))) else (none)))) else (none)) else (none)))) = some r := H
      have A6 := Aside0.mk A60
      clear A60
      by_cases c7 : (t456.length : Int) = 0
      · rw [if_pos c7] at H
        have c7b0 : ((t456.length : Int) == 0) = true := beq_iff_eq.mpr c7
        have c7b1 : ((t456.length : Int) != 0) = false := bne_eq_false_iff_eq.mpr c7
        clear c7
        exact absurd ((Option.some.inj H).trans hr_.out) (by decide)
      · rw [if_neg c7] at H
        have c7b0 : ((t456.length : Int) == 0) = false := beq_eq_false_iff_ne.mpr c7
        have c7b1 : ((t456.length : Int) != 0) = true := bne_iff_ne.mpr c7
        have c7b2 : ¬ (t456 = []) := fun h_ => c7 (by rw [h_]; rfl)
        replace H := Option.bind_eq_some_iff.mp H
        obtain ⟨t459, A80, H⟩ := H
        replace H : (if 0 ≤ t459 then (if t459 ≤ (t456.length : Int) then ((delta_Decode.f k (t456.take (t459 : Int).toNat) 0 (y454.length : Int)).bind fun bt464 => ((some (([] : List Int) : List Int)).bind fun y469 => (if y469.length + t456.length < 140737488355328 then ((some (y469 ++ t456 : List Int)).bind fun y472 => (if y472.length + l2.length < 140737488355328 then ((delta_Decode.f k (y472 ++ l2) 0 100).bind fun bt478 => (if bt464.2.2 = 10 then (if (bt464.1.length : Int) = 0 then (if bt478.2.2 = 0 then (if bt478.2.1 = (t456.length : Int) then ((columbariumbook_Same_int64.f k bt478.1 y454).bind fun t483 => (if t483 = true then ((columbariumlaw4_known.f k).bind fun t484 => (some t484)) else (some false))) else (some false)) else (some false)) else (some false)) else (some false))) else (none))) else (none)))) else (none)) else (none)) = some r := H
        have A8 := Aside0.mk A80
        clear A80
        by_cases c9 : 0 ≤ t459
        · rw [if_pos c9] at H
          have c9b0 := eq_true c9
          have c9b1 : decide (0 ≤ t459) = true := decide_eq_true c9
          clear c9
          by_cases c10 : t459 ≤ (t456.length : Int)
          · rw [if_pos c10] at H
            have c10b0 := eq_true c10
            have c10b1 : decide (t459 ≤ (t456.length : Int)) = true := decide_eq_true c10
            clear c10
            obtain ⟨y460, hy460⟩ : ∃ y_ : List Int, y_ = (t456.take (t459 : Int).toNat) := ⟨_, rfl⟩
            replace H : ((delta_Decode.f k y460 0 (y454.length : Int)).bind fun bt464 => ((some (([] : List Int) : List Int)).bind fun y469 => (if y469.length + t456.length < 140737488355328 then ((some (y469 ++ t456 : List Int)).bind fun y472 => (if y472.length + l2.length < 140737488355328 then ((delta_Decode.f k (y472 ++ l2) 0 100).bind fun bt478 => (if bt464.2.2 = 10 then (if (bt464.1.length : Int) = 0 then (if bt478.2.2 = 0 then (if bt478.2.1 = (t456.length : Int) then ((columbariumbook_Same_int64.f k bt478.1 y454).bind fun t483 => (if t483 = true then ((columbariumlaw4_known.f k).bind fun t484 => (some t484)) else (some false))) else (some false)) else (some false)) else (some false)) else (some false))) else (none))) else (none)))) = some r := by first | (rw [hy460]; with_reducible exact H) | (have H2_ := (Option.bind_some _ _).symm.trans H; rw [hy460]; with_reducible exact H2_) | (have H2_ := (Option.bind_some _ _).symm.trans H; with_reducible exact H2_) | with_reducible exact H | (rw [hy460]; exact H) | exact H
            have Ny460 := Aside0.mk hy460
            clear hy460
            replace H := Option.bind_eq_some_iff.mp H
            obtain ⟨⟨t464, t465, t466⟩, A110, H⟩ := H
            replace H : ((some (([] : List Int) : List Int)).bind fun y469 => (if y469.length + t456.length < 140737488355328 then ((some (y469 ++ t456 : List Int)).bind fun y472 => (if y472.length + l2.length < 140737488355328 then ((delta_Decode.f k (y472 ++ l2) 0 100).bind fun bt478 => (if t466 = 10 then (if (t464.length : Int) = 0 then (if bt478.2.2 = 0 then (if bt478.2.1 = (t456.length : Int) then ((columbariumbook_Same_int64.f k bt478.1 y454).bind fun t483 => (if t483 = true then ((columbariumlaw4_known.f k).bind fun t484 => (some t484)) else (some false))) else (some false)) else (some false)) else (some false)) else (some false))) else (none))) else (none))) = some r := H
            have A11 := Aside0.mk A110
            clear A110
            obtain ⟨y469, hy469⟩ : ∃ y_ : List Int, y_ = (([] : List Int)) := ⟨_, rfl⟩
            replace H : (if y469.length + t456.length < 140737488355328 then ((some (y469 ++ t456 : List Int)).bind fun y472 => (if y472.length + l2.length < 140737488355328 then ((delta_Decode.f k (y472 ++ l2) 0 100).bind fun bt478 => (if t466 = 10 then (if (t464.length : Int) = 0 then (if bt478.2.2 = 0 then (if bt478.2.1 = (t456.length : Int) then ((columbariumbook_Same_int64.f k bt478.1 y454).bind fun t483 => (if t483 = true then ((columbariumlaw4_known.f k).bind fun t484 => (some t484)) else (some false))) else (some false)) else (some false)) else (some false)) else (some false))) else (none))) else (none)) = some r := by first | (rw [hy469]; with_reducible exact H) | (have H2_ := (Option.bind_some _ _).symm.trans H; rw [hy469]; with_reducible exact H2_) | (have H2_ := (Option.bind_some _ _).symm.trans H; with_reducible exact H2_) | with_reducible exact H | (rw [hy469]; exact H) | exact H
            have Ny469 := Aside0.mk hy469
            clear hy469
            by_cases c12 : y469.length + t456.length < 140737488355328
            · rw [if_pos c12] at H
              have LMc12 := Aside0.mk c12
              clear c12
              obtain ⟨y472, hy472⟩ : ∃ y_ : List Int, y_ = (y469 ++ t456) := ⟨_, rfl⟩
              replace H : (if y472.length + l2.length < 140737488355328 then ((delta_Decode.f k (y472 ++ l2) 0 100).bind fun bt478 => (if t466 = 10 then (if (t464.length : Int) = 0 then (if bt478.2.2 = 0 then (if bt478.2.1 = (t456.length : Int) then ((columbariumbook_Same_int64.f k bt478.1 y454).bind fun t483 => (if t483 = true then ((columbariumlaw4_known.f k).bind fun t484 => (some t484)) else (some false))) else (some false)) else (some false)) else (some false)) else (some false))) else (none)) = some r := by first | (rw [hy472]; with_reducible exact H) | (have H2_ := (Option.bind_some _ _).symm.trans H; rw [hy472]; with_reducible exact H2_) | (have H2_ := (Option.bind_some _ _).symm.trans H; with_reducible exact H2_) | with_reducible exact H | (rw [hy472]; exact H) | exact H
              have Ny472 := Aside0.mk hy472
              clear hy472
              by_cases c13 : y472.length + l2.length < 140737488355328
              · rw [if_pos c13] at H
                have LMc13 := Aside0.mk c13
                clear c13
                obtain ⟨y475, hy475⟩ : ∃ y_ : List Int, y_ = (y472 ++ l2) := ⟨_, rfl⟩
                replace H : ((delta_Decode.f k y475 0 100).bind fun bt478 => (if t466 = 10 then (if (t464.length : Int) = 0 then (if bt478.2.2 = 0 then (if bt478.2.1 = (t456.length : Int) then ((columbariumbook_Same_int64.f k bt478.1 y454).bind fun t483 => (if t483 = true then ((columbariumlaw4_known.f k).bind fun t484 => (some t484)) else (some false))) else (some false)) else (some false)) else (some false)) else (some false))) = some r := by first | (rw [hy475]; with_reducible exact H) | (have H2_ := (Option.bind_some _ _).symm.trans H; rw [hy475]; with_reducible exact H2_) | (have H2_ := (Option.bind_some _ _).symm.trans H; with_reducible exact H2_) | with_reducible exact H | (rw [hy475]; exact H) | exact H
                have Ny475 := Aside0.mk hy475
                clear hy475
                replace H := Option.bind_eq_some_iff.mp H
                obtain ⟨⟨t478, t479, t480⟩, A140, H⟩ := H
                replace H : (if t466 = 10 then (if (t464.length : Int) = 0 then (if t480 = 0 then (if t479 = (t456.length : Int) then ((columbariumbook_Same_int64.f k t478 y454).bind fun t483 => (if t483 = true then ((columbariumlaw4_known.f k).bind fun t484 => (some t484)) else (some false))) else (some false)) else (some false)) else (some false)) else (some false)) = some r := H
                have A14 := Aside0.mk A140
                clear A140
                by_cases c15 : t466 = 10
                · rw [if_pos c15] at H
                  have c15b0 : (t466 == 10) = true := beq_iff_eq.mpr c15
                  have c15b1 : (t466 != 10) = false := bne_eq_false_iff_eq.mpr c15
                  clear c15
                  by_cases c16 : (t464.length : Int) = 0
                  · rw [if_pos c16] at H
                    have c16b0 : ((t464.length : Int) == 0) = true := beq_iff_eq.mpr c16
                    have c16b1 : ((t464.length : Int) != 0) = false := bne_eq_false_iff_eq.mpr c16
                    clear c16
                    by_cases c17 : t480 = 0
                    · rw [if_pos c17] at H
                      have c17b0 : (t480 == 0) = true := beq_iff_eq.mpr c17
                      have c17b1 : (t480 != 0) = false := bne_eq_false_iff_eq.mpr c17
                      clear c17
                      by_cases c18 : t479 = (t456.length : Int)
                      · rw [if_pos c18] at H
                        have c18b0 : (t479 == (t456.length : Int)) = true := beq_iff_eq.mpr c18
                        have c18b1 : (t479 != (t456.length : Int)) = false := bne_eq_false_iff_eq.mpr c18
                        clear c18
                        replace H := Option.bind_eq_some_iff.mp H
                        obtain ⟨t483, A190, H⟩ := H
                        replace H : (if t483 = true then ((columbariumlaw4_known.f k).bind fun t484 => (some t484)) else (some false)) = some r := H
                        have A19 := Aside0.mk A190
                        clear A190
                        by_cases c20 : t483 = true
                        · subst c20
                          have H1 : ((columbariumlaw4_known.f k).bind fun t484 => (some t484)) = some r := by rw [if_pos rfl] at H; exact H
                          clear H
                          have H := H1
                          clear H1
                          replace H := Option.bind_eq_some_iff.mp H
                          obtain ⟨t484, A210, H⟩ := H
                          replace H : (some t484) = some r := H
                          have A21 := Aside0.mk A210
                          clear A210
                          obtain rfl := Option.some.inj H
                          obtain ⟨i022, hi022, _, hsz22, _⟩ := info_parts info2
                          obtain ⟨hcut22, hA22, hC22⟩ := print_take_of (P := Try.prog) (Value.int .i64) 0 23 2 .i64 Try.underlying23 hi022 hsz22 A0 c0 l0 60 (by omega) (of_decide_eq_true (by first | (with_reducible assumption) | assumption)) HC0.out
                          have HR455 := Aside0.mk (Kd.C_of_reads (h1 := fun _ => rfl) (hA22 _ (Kd.reads_of_C HR0.out)))
                          have HC455 := Aside0.mk hC22
                          clear hA22 hC22 hi022 hsz22
                          rw [show (l0.take (60 : Int).toNat) = y454 from Ny454.out.symm] at hcut22
                          rw [show (l0.take (60 : Int).toNat) = y454 from Ny454.out.symm] at HR455
                          rw [show (l0.take (60 : Int).toNat) = y454 from Ny454.out.symm] at HC455
                          go_enter Try.func8, Try.ntmps8
                          go_wp2_with (first | (go_at_call 18; go_in) | ((with_reducible refine gate_callee (f := 16) rfl ?_); refine goesL_ (some 18) rfl rfl Try.func16 (by kernel_rfl) rfl #[.slice A0 y454.length c0] rfl (by (try simp only [List.map_toArray, List.map_cons, List.map_nil]); first | done | rfl | (simp only [List.length_drop, List.length_take]; rfl)) ?_; (with_reducible refine (delta_Encode.calls k _ _ y454 t456 _ ?side1 ?side2 A6.out).mono ?_); (case side1 => repeat (first | exact HR455.out | (with_reducible refine Kd.C_alloc ?_ _) | (with_reducible refine Kd.C_drewN ?_ _) | (with_reducible refine Kd.C_drew ?_))); (case side2 => exact HC455.out); rintro e w23 ⟨v457, rfl, ho0, hb⟩; refine ⟨_, rfl, ?_⟩; have n0_ := Aside0.mk (Kd.R_lower ho0 (below_size (by repeat (first | (with_reducible first | exact HB.out | apply below_alloc | apply pw_below_drewN | apply below_drew1) | exact HB.out)))); have n1_ := Aside0.mk (below_step (by repeat (first | (with_reducible first | exact HB.out | apply below_alloc | apply pw_below_drewN | apply below_drew1) | exact HB.out)) hb); clear HB; have HO458 := n0_; have HB := n1_; clear n0_ n1_; (try clear hb); (try clear hb2); (try clear hk); (try clear hi); (try clear ho0); obtain ⟨Ao24, co24, eo24⟩ := Kd.R_slice HO458.out; subst eo24) | ((with_reducible refine gate_callee (f := 15) rfl ?_); refine goesL_ (some 26) rfl rfl Try.func15 (by kernel_rfl) rfl #[.int .i64 a1, .int .i64 0, .int .i64 (wrap64 ((t456.length : Int) - 1))] rfl (by (try simp only [List.map_toArray, List.map_cons, List.map_nil]); first | done | rfl | (simp only [List.length_drop, List.length_take]; rfl)) ?_; (with_reducible refine (columbariumbook_Within.calls a1 0 (wrap64 ((t456.length : Int) - 1)) t459 _ A8.out).mono ?_); rintro e w' ⟨rfl, ⟨nd, rfl⟩⟩; refine ⟨_, rfl, ?_⟩; have q25 : (t459 : Int) ≤ ((t456.length : Int) : Int) := of_decide_eq_true (by first | (with_reducible assumption) | assumption); obtain ⟨i025, hi025, _, hsz25, _⟩ := info_parts info5; have hroom25 : t456.length ≤ co24 := (Kd.R_reads' HO458.out).2.1; have hC25 : Kd.C (Kd.int .u8) _ Ao24 t456.length t456 := (Kd.R_reads' HO458.out).2.2; have hcut25 := cut_to (P := Try.prog) 24 5 .i64 Try.underlying24 hi025 Ao24 t456.length co24 t459 (of_decide_eq_true (by first | (with_reducible assumption) | assumption)) q25 hroom25; have hr25 := Kd.C_take (m := (t459 : Int).toNat) hC25 (by omega); have hy25 : y460.length = (t459 : Int).toNat := (by rw [Ny460.out, List.length_take]; omega); rw [← Ny460.out] at hr25; rw [← hy25] at hcut25; have HR463 := Aside0.mk hr25; have HC463 := Aside0.mk (show y460.length ≤ co24 from by omega); clear hr25 hC25 hroom25 hi025 hsz25; have KY25 := Aside0.mk hy25; clear hy25; have KL25 := Aside0.mk (show (t459 : Int).toNat ≤ t456.length from by omega); replace q25 := eq_true q25) | ((with_reducible refine gate_callee (f := 19) rfl ?_); refine goesL_ (some 33) rfl rfl Try.func19 (by kernel_rfl) rfl #[.slice Ao24 y460.length co24, .int .i64 0, .int .i64 (y454.length : Int)] rfl (by (try simp only [List.map_toArray, List.map_cons, List.map_nil]); first | done | rfl | (simp only [List.length_drop, List.length_take]; rfl)) ?_; (with_reducible refine (delta_Decode.calls k _ _ y460 0 (y454.length : Int) t464 t465 t466 _ ?side1 ?side2 A11.out).mono ?_); (case side1 => repeat (first | exact (by repeat (first | (with_reducible exact HR463.out) | (with_reducible refine Kd.C_alloc ?_ _) | (with_reducible refine Kd.C_drewN ?_ _) | (with_reducible refine Kd.C_drew ?_) | exact HR463.out)) | (with_reducible refine Kd.C_alloc ?_ _) | (with_reducible refine Kd.C_drewN ?_ _) | (with_reducible refine Kd.C_drew ?_))); (case side2 => exact HC463.out); rintro e w26 ⟨v467, rfl, ho0, hb⟩; refine ⟨_, rfl, ?_⟩; have n0_ := Aside0.mk (Kd.R_below (by (with_reducible repeat (first | apply Kd.R_alloc | apply Kd.R_drewN | apply Kd.R_drew)); exact HO458.out) hb); have n1_ := Aside0.mk (Kd.R_lower ho0 (below_size (by repeat (first | (with_reducible first | exact HB.out | apply below_alloc | apply pw_below_drewN | apply below_drew1) | exact HB.out)))); have n2_ := Aside0.mk (Kd.C_below (by repeat (first | (with_reducible exact HR463.out) | (with_reducible refine Kd.C_alloc ?_ _) | (with_reducible refine Kd.C_drewN ?_ _) | (with_reducible refine Kd.C_drew ?_) | exact HR463.out)) hb); have n3_ := Aside0.mk (below_step (by repeat (first | (with_reducible first | exact HB.out | apply below_alloc | apply pw_below_drewN | apply below_drew1) | exact HB.out)) hb); clear HO458; clear HR463; clear HB; have HO458 := n0_; have HO468 := n1_; have HR463 := n2_; have HB := n3_; clear n0_ n1_ n2_ n3_; (try clear hb); (try clear hb2); (try clear hk); (try clear hi); (try clear ho0)) | ((with_reducible refine gate_dst (N := 38) rfl ?_); (try (refine gate_guard (by rfl) ?_; dsimp only)); refine Kd.R_lit (Kd.int .u8) _ 5 ?hg (N := 38) ?hd (xs := ([] : List Int)) (inner := []) (ok := fun _ => True) (okp := fun _ => True) ?hr ?hp (fun _ hk => hk) trivial (Below.refl _ _) (Nat.le_refl _) (by simp) ?_; (case hd => rfl); (case hg => rfl); (case hr => first | (go_simp; done) | (go_simp; rfl)); (case hp => exact (Reps.none _ _)); intro v470 w27 ho28 hb hg_ hnew_; clear hg_ hnew_; (first | rw [← Ny469.out] at ho28 | (simp only [Int.reduceToNat] at ho28; rw [← Ny469.out] at ho28)); have n0_ := Aside0.mk (Kd.R_elder' (by (with_reducible repeat (first | apply Kd.R_alloc | apply Kd.R_drewN | apply Kd.R_drew)); exact HO458.out) (Kd.R_base ho28) hb); have n1_ := Aside0.mk (Kd.R_below (by (with_reducible repeat (first | apply Kd.R_alloc | apply Kd.R_drewN | apply Kd.R_drew)); exact HO468.out) hb); have n2_ := Aside0.mk (Kd.R_lower (Kd.R_new' ho28 (Kd.R_lt (by (with_reducible repeat (first | apply Kd.R_alloc | apply Kd.R_drewN | apply Kd.R_drew)); exact HO458.out))) (below_size (by repeat (first | (with_reducible first | exact HB.out | apply below_alloc | apply pw_below_drewN | apply below_drew1) | exact HB.out)))); have n3_ := Aside0.mk (Kd.C_below (by repeat (first | (with_reducible exact HR463.out) | (with_reducible refine Kd.C_alloc ?_ _) | (with_reducible refine Kd.C_drewN ?_ _) | (with_reducible refine Kd.C_drew ?_) | exact HR463.out)) hb); have n4_ := Aside0.mk (below_step (by repeat (first | (with_reducible first | exact HB.out | apply below_alloc | apply pw_below_drewN | apply below_drew1) | exact HB.out)) hb); clear HO458; clear HO468; clear HR463; clear HB; have HO458 := n0_; have HO468 := n1_; have HO471 := n2_; have HR463 := n3_; have HB := n4_; clear n0_ n1_ n2_ n3_ n4_; clear hb ho28) | ((with_reducible refine gate_builtin (b := .append) (xs := #[.tmp 38, .tmp 39]) rfl ?_); (try (refine gate_guard (by rfl) ?_; dsimp only)); at_builtin; refine Kd.R_append_rows (Kd.int .u8) (w0 := w) w.heap.size rfl (.tmp 38) (.tmp 39) 24 5 (.int .u8 0) 1 rfl Try.underlying24 info5 rfl (by decide) (by omega) v470 y469 t456 _ _ _ (fun k_ => some k_ ≠ (.slice Ao24 t456.length co24 : Value).ownBlock) (fun _ => False) rfl rfl ?aO ?aR (fun _ _ h => h) (fun _ h => h.elim) ?aF ?aB ?aS ?aL ?_; (case aR => repeat (first | exact (Kd.R_reads' HO458.out).2.2 | (with_reducible refine Kd.C_alloc ?_ _) | (with_reducible refine Kd.C_drewN ?_ _) | (with_reducible refine Kd.C_drew ?_))); (case aB => exact (by repeat (first | (with_reducible first | exact HB.out | apply below_alloc | apply pw_below_drewN | apply below_drew1) | exact HB.out))); (case aF => exact (fun k_ hk => Kd.fresh' (Kd.R_lt (by (with_reducible repeat (first | apply Kd.R_alloc | apply Kd.R_drewN | apply Kd.R_drew)); exact HO458.out)) k_ hk)); (case aO => exact (by (with_reducible repeat (first | apply Kd.R_alloc | apply Kd.R_drewN | apply Kd.R_drew)); exact Kd.R_mono HO471.out (fun _ hk => hk.2))); (case aS => exact (below_size (by repeat (first | (with_reducible first | exact HB.out | apply below_alloc | apply pw_below_drewN | apply below_drew1) | exact HB.out)))); (case aL => have := LMc12.out; omega); intro v473 w29 ho hb hg hat; rw [← Ny472.out] at ho; have n0_ := Aside0.mk (Kd.R_after (ok := (fun _ => True)) (by (with_reducible repeat (first | apply Kd.R_alloc | apply Kd.R_drewN | apply Kd.R_drew)); exact HO458.out) hg hat); have n1_ := Aside0.mk (Kd.R_over' (by (with_reducible repeat (first | apply Kd.R_alloc | apply Kd.R_drewN | apply Kd.R_drew)); exact HO468.out) (Kd.R_typed (by (with_reducible repeat (first | apply Kd.R_alloc | apply Kd.R_drewN | apply Kd.R_drew)); exact HO471.out)) (by decide) hg); have n2_ := Aside0.mk (hb); have n3_ := Aside0.mk ((show Kd.C (Kd.int .u8) w29 Ao24 y460.length y460 from by rw [Ny460.out]; exact Kd.C_take (m := (t459 : Int).toNat) ((Kd.R_reads' (Kd.R_after (ok := (fun _ => True)) (by (with_reducible repeat (first | apply Kd.R_alloc | apply Kd.R_drewN | apply Kd.R_drew)); exact HO458.out) hg hat)).2.2) KL25.out)); have n4_ := Aside0.mk (ho); clear HO458; clear HO468; clear HB; clear HR463; clear HO471; have HO458 := n0_; have HO468 := n1_; have HB := n2_; have HR463 := n3_; have HO474 := n4_; clear n0_ n1_ n2_ n3_ n4_; clear ho hb hg hat) | ((with_reducible refine gate_builtin (b := .append) (xs := #[.tmp 40, .tmp 41]) rfl ?_); (try (refine gate_guard (by rfl) ?_; dsimp only)); at_builtin; refine Kd.R_append_rows (Kd.int .u8) (w0 := w) w.heap.size rfl (.tmp 40) (.tmp 41) 24 5 (.int .u8 0) 1 rfl Try.underlying24 info5 rfl (by decide) (by omega) v473 y472 l2 _ _ _ (fun k_ => some k_ ≠ (.slice Ao24 t456.length co24 : Value).ownBlock) (fun _ => False) rfl rfl ?aO ?aR (fun _ _ h => h) (fun _ h => h.elim) ?aF ?aB ?aS ?aL ?_; (case aR => repeat (first | exact (Kd.C_below HR2.out HB.out) | (with_reducible refine Kd.C_alloc ?_ _) | (with_reducible refine Kd.C_drewN ?_ _) | (with_reducible refine Kd.C_drew ?_))); (case aB => exact (by repeat (first | (with_reducible first | exact HB.out | apply below_alloc | apply pw_below_drewN | apply below_drew1) | exact HB.out))); (case aF => exact (fun k_ hk => Kd.fresh' (Kd.R_lt (by (with_reducible repeat (first | apply Kd.R_alloc | apply Kd.R_drewN | apply Kd.R_drew)); exact HO458.out)) k_ hk)); (case aO => exact (by (with_reducible repeat (first | apply Kd.R_alloc | apply Kd.R_drewN | apply Kd.R_drew)); exact HO474.out)); (case aS => exact (below_size (by repeat (first | (with_reducible first | exact HB.out | apply below_alloc | apply pw_below_drewN | apply below_drew1) | exact HB.out)))); (case aL => have := LMc13.out; omega); intro v476 w30 ho hb hg hat; rw [← Ny475.out] at ho; have n0_ := Aside0.mk (Kd.R_after (ok := (fun _ => True)) (by (with_reducible repeat (first | apply Kd.R_alloc | apply Kd.R_drewN | apply Kd.R_drew)); exact HO458.out) hg hat); have n1_ := Aside0.mk (Kd.R_over' (by (with_reducible repeat (first | apply Kd.R_alloc | apply Kd.R_drewN | apply Kd.R_drew)); exact HO468.out) (Kd.R_typed (by (with_reducible repeat (first | apply Kd.R_alloc | apply Kd.R_drewN | apply Kd.R_drew)); exact HO474.out)) (by decide) hg); have n2_ := Aside0.mk (hb); have n3_ := Aside0.mk ((show Kd.C (Kd.int .u8) w30 Ao24 y460.length y460 from by rw [Ny460.out]; exact Kd.C_take (m := (t459 : Int).toNat) ((Kd.R_reads' (Kd.R_after (ok := (fun _ => True)) (by (with_reducible repeat (first | apply Kd.R_alloc | apply Kd.R_drewN | apply Kd.R_drew)); exact HO458.out) hg hat)).2.2) KL25.out)); have n4_ := Aside0.mk (ho); clear HO458; clear HO468; clear HB; clear HR463; clear HO474; have HO458 := n0_; have HO468 := n1_; have HB := n2_; have HR463 := n3_; have HO477 := n4_; clear n0_ n1_ n2_ n3_ n4_; clear ho hb hg hat; obtain ⟨Ao31, co31, eo31⟩ := Kd.R_slice HO477.out; subst eo31) | ((with_reducible refine gate_callee (f := 19) rfl ?_); refine goesL_ (some 43) rfl rfl Try.func19 (by kernel_rfl) rfl #[.slice Ao31 y475.length co31, .int .i64 0, .int .i64 100] rfl (by (try simp only [List.map_toArray, List.map_cons, List.map_nil]); first | done | rfl | (simp only [List.length_drop, List.length_take]; rfl)) ?_; (with_reducible refine (delta_Decode.calls k _ _ y475 0 100 t478 t479 t480 _ ?side1 ?side2 A14.out).mono ?_); (case side1 => repeat (first | exact (Kd.R_reads' HO477.out).2.2 | (with_reducible refine Kd.C_alloc ?_ _) | (with_reducible refine Kd.C_drewN ?_ _) | (with_reducible refine Kd.C_drew ?_))); (case side2 => exact (Kd.R_reads' HO477.out).2.1); rintro e w32 ⟨v481, rfl, ho0, hb⟩; refine ⟨_, rfl, ?_⟩; have n0_ := Aside0.mk (Kd.R_below (by (with_reducible repeat (first | apply Kd.R_alloc | apply Kd.R_drewN | apply Kd.R_drew)); exact HO458.out) hb); have n1_ := Aside0.mk (Kd.R_elder' (by (with_reducible repeat (first | apply Kd.R_alloc | apply Kd.R_drewN | apply Kd.R_drew)); exact HO468.out) (Kd.R_base ho0) hb); have n2_ := Aside0.mk (Kd.R_below (by (with_reducible repeat (first | apply Kd.R_alloc | apply Kd.R_drewN | apply Kd.R_drew)); exact HO477.out) hb); have n3_ := Aside0.mk (Kd.R_lower (Kd.R_new' ho0 (Kd.R_lt (by (with_reducible repeat (first | apply Kd.R_alloc | apply Kd.R_drewN | apply Kd.R_drew)); exact HO468.out))) (below_size (by repeat (first | (with_reducible first | exact HB.out | apply below_alloc | apply pw_below_drewN | apply below_drew1) | exact HB.out)))); have n4_ := Aside0.mk (Kd.C_below (by repeat (first | (with_reducible exact HR463.out) | (with_reducible refine Kd.C_alloc ?_ _) | (with_reducible refine Kd.C_drewN ?_ _) | (with_reducible refine Kd.C_drew ?_) | exact HR463.out)) hb); have n5_ := Aside0.mk (below_step (by repeat (first | (with_reducible first | exact HB.out | apply below_alloc | apply pw_below_drewN | apply below_drew1) | exact HB.out)) hb); clear HO458; clear HO468; clear HO477; clear HR463; clear HB; have HO458 := n0_; have HO468 := n1_; have HO477 := n2_; have HO482 := n3_; have HR463 := n4_; have HB := n5_; clear n0_ n1_ n2_ n3_ n4_ n5_; (try clear hb); (try clear hb2); (try clear hk); (try clear hi); (try clear ho0); obtain ⟨Ao33, co33, eo33⟩ := Kd.R_slice HO468.out; subst eo33; obtain ⟨Ao34, co34, eo34⟩ := Kd.R_slice HO482.out; subst eo34) | (go_at_call 20; (with_reducible refine (columbariumbook_Same_int64.calls k _ _ t478 _ _ y454 true _ ?side1 ?side2 ?side3 ?side4 A19.out).mono ?_); (case side1 => repeat (first | exact (Kd.R_reads' HO482.out).2.2 | (with_reducible refine Kd.C_alloc ?_ _) | (with_reducible refine Kd.C_drewN ?_ _) | (with_reducible refine Kd.C_drew ?_))); (case side2 => exact (Kd.R_reads' HO482.out).2.1); (case side3 => repeat (first | exact (Kd.C_below HR455.out HB.out) | (with_reducible refine Kd.C_alloc ?_ _) | (with_reducible refine Kd.C_drewN ?_ _) | (with_reducible refine Kd.C_drew ?_))); (case side4 => exact HC455.out); rintro e w' ⟨rfl, ⟨nd, rfl⟩⟩) | (go_at_call 17; (with_reducible refine (columbariumlaw4_known.calls k  t484 _ A21.out).mono ?_); rintro e w35 ⟨rfl, hb⟩; have n0_ := Aside0.mk (Kd.R_below (by (with_reducible repeat (first | apply Kd.R_alloc | apply Kd.R_drewN | apply Kd.R_drew)); exact HO458.out) hb); have n1_ := Aside0.mk (Kd.R_below (by (with_reducible repeat (first | apply Kd.R_alloc | apply Kd.R_drewN | apply Kd.R_drew)); exact HO468.out) hb); have n2_ := Aside0.mk (Kd.R_below (by (with_reducible repeat (first | apply Kd.R_alloc | apply Kd.R_drewN | apply Kd.R_drew)); exact HO477.out) hb); have n3_ := Aside0.mk (Kd.R_below (by (with_reducible repeat (first | apply Kd.R_alloc | apply Kd.R_drewN | apply Kd.R_drew)); exact HO482.out) hb); have n4_ := Aside0.mk (Kd.C_below (by repeat (first | (with_reducible exact HR463.out) | (with_reducible refine Kd.C_alloc ?_ _) | (with_reducible refine Kd.C_drewN ?_ _) | (with_reducible refine Kd.C_drew ?_) | exact HR463.out)) hb); have n5_ := Aside0.mk (below_step (by repeat (first | (with_reducible first | exact HB.out | apply below_alloc | apply pw_below_drewN | apply below_drew1) | exact HB.out)) hb); clear HO458; clear HO468; clear HO477; clear HO482; clear HR463; clear HB; have HO458 := n0_; have HO468 := n1_; have HO477 := n2_; have HO482 := n3_; have HR463 := n4_; have HB := n5_; clear n0_ n1_ n2_ n3_ n4_ n5_; (try clear hb); (try clear hb2); (try clear hk); (try clear hi)))
                          go_ret
                          exact ⟨by first | rfl | (simp [errW_none, errW_some] <;> rfl) | (simp [*, errW_none, errW_some] <;> rfl), by repeat (first | (with_reducible first | exact HB.out | apply below_alloc | apply pw_below_drewN | apply below_drew1) | exact HB.out)⟩
                        · replace c20 := Bool.eq_false_iff.mpr c20
                          subst c20
                          have H1 : (some false) = some r := by rw [if_neg (show ¬ (false = true) by decide)] at H; exact H
                          clear H
                          have H := H1
                          clear H1
                          exact absurd ((Option.some.inj H).trans hr_.out) (by decide)
                      · rw [if_neg c18] at H
                        have c18b0 : (t479 == (t456.length : Int)) = false := beq_eq_false_iff_ne.mpr c18
                        have c18b1 : (t479 != (t456.length : Int)) = true := bne_iff_ne.mpr c18
                        exact absurd ((Option.some.inj H).trans hr_.out) (by decide)
                    · rw [if_neg c17] at H
                      have c17b0 : (t480 == 0) = false := beq_eq_false_iff_ne.mpr c17
                      have c17b1 : (t480 != 0) = true := bne_iff_ne.mpr c17
                      exact absurd ((Option.some.inj H).trans hr_.out) (by decide)
                  · rw [if_neg c16] at H
                    have c16b0 : ((t464.length : Int) == 0) = false := beq_eq_false_iff_ne.mpr c16
                    have c16b1 : ((t464.length : Int) != 0) = true := bne_iff_ne.mpr c16
                    have c16b2 : ¬ (t464 = []) := fun h_ => c16 (by rw [h_]; rfl)
                    exact absurd ((Option.some.inj H).trans hr_.out) (by decide)
                · rw [if_neg c15] at H
                  have c15b0 : (t466 == 10) = false := beq_eq_false_iff_ne.mpr c15
                  have c15b1 : (t466 != 10) = true := bne_iff_ne.mpr c15
                  exact absurd ((Option.some.inj H).trans hr_.out) (by decide)
              · rw [if_neg c13] at H
                exact absurd H (by simp)
            · rw [if_neg c12] at H
              exact absurd H (by simp)
          · rw [if_neg c10] at H
            exact absurd H (by simp)
        · rw [if_neg c9] at H
          exact absurd H (by simp)
    · rw [if_neg c5] at H
      exact absurd H (by simp)
  · rw [if_neg c4] at H
    have c4b0 : decide (60 < (l0.length : Int)) = false := decide_eq_false c4
    have c4b1 : decide (60 < l0.length) = false := decide_eq_false (by omega)
    clear c4
    replace H := Option.bind_eq_some_iff.mp H
    obtain ⟨t485, A360, H⟩ := H
    replace H : (if (t485.length : Int) = 0 then (some false) else ((columbariumbook_Within.f a1 0 (wrap64 ((t485.length : Int) - 1))).bind fun t488 => (if 0 ≤ t488 then (if t488 ≤ (t485.length : Int) then ((delta_Decode.f k (t485.take (t488 : Int).toNat) 0 (l0.length : Int)).bind fun bt493 => ((some (([] : List Int) : List Int)).bind fun y498 => (if y498.length + t485.length < 140737488355328 then ((some (y498 ++ t485 : List Int)).bind fun y501 => (if y501.length + l2.length < 140737488355328 then ((delta_Decode.f k (y501 ++ l2) 0 100).bind fun bt507 => (if bt493.2.2 = 10 then (if (bt493.1.length : Int) = 0 then (if bt507.2.2 = 0 then (if bt507.2.1 = (t485.length : Int) then ((columbariumbook_Same_int64.f k bt507.1 l0).bind fun t512 => (if t512 = true then ((columbariumlaw4_known.f k).bind fun t513 => (some t513)) else (some false))) else (some false)) else (some false)) else (some false)) else (some false))) else (none))) else (none)))) else (none)) else (none)))) = some r := H
    have A36 := Aside0.mk A360
    clear A360
    by_cases c37 : (t485.length : Int) = 0
    · rw [if_pos c37] at H
      have c37b0 : ((t485.length : Int) == 0) = true := beq_iff_eq.mpr c37
      have c37b1 : ((t485.length : Int) != 0) = false := bne_eq_false_iff_eq.mpr c37
      clear c37
      exact absurd ((Option.some.inj H).trans hr_.out) (by decide)
    · rw [if_neg c37] at H
      have c37b0 : ((t485.length : Int) == 0) = false := beq_eq_false_iff_ne.mpr c37
      have c37b1 : ((t485.length : Int) != 0) = true := bne_iff_ne.mpr c37
      have c37b2 : ¬ (t485 = []) := fun h_ => c37 (by rw [h_]; rfl)
      replace H := Option.bind_eq_some_iff.mp H
      obtain ⟨t488, A380, H⟩ := H
      replace H : (if 0 ≤ t488 then (if t488 ≤ (t485.length : Int) then ((delta_Decode.f k (t485.take (t488 : Int).toNat) 0 (l0.length : Int)).bind fun bt493 => ((some (([] : List Int) : List Int)).bind fun y498 => (if y498.length + t485.length < 140737488355328 then ((some (y498 ++ t485 : List Int)).bind fun y501 => (if y501.length + l2.length < 140737488355328 then ((delta_Decode.f k (y501 ++ l2) 0 100).bind fun bt507 => (if bt493.2.2 = 10 then (if (bt493.1.length : Int) = 0 then (if bt507.2.2 = 0 then (if bt507.2.1 = (t485.length : Int) then ((columbariumbook_Same_int64.f k bt507.1 l0).bind fun t512 => (if t512 = true then ((columbariumlaw4_known.f k).bind fun t513 => (some t513)) else (some false))) else (some false)) else (some false)) else (some false)) else (some false))) else (none))) else (none)))) else (none)) else (none)) = some r := H
      have A38 := Aside0.mk A380
      clear A380
      by_cases c39 : 0 ≤ t488
      · rw [if_pos c39] at H
        have c39b0 := eq_true c39
        have c39b1 : decide (0 ≤ t488) = true := decide_eq_true c39
        clear c39
        by_cases c40 : t488 ≤ (t485.length : Int)
        · rw [if_pos c40] at H
          have c40b0 := eq_true c40
          have c40b1 : decide (t488 ≤ (t485.length : Int)) = true := decide_eq_true c40
          clear c40
          obtain ⟨y489, hy489⟩ : ∃ y_ : List Int, y_ = (t485.take (t488 : Int).toNat) := ⟨_, rfl⟩
          replace H : ((delta_Decode.f k y489 0 (l0.length : Int)).bind fun bt493 => ((some (([] : List Int) : List Int)).bind fun y498 => (if y498.length + t485.length < 140737488355328 then ((some (y498 ++ t485 : List Int)).bind fun y501 => (if y501.length + l2.length < 140737488355328 then ((delta_Decode.f k (y501 ++ l2) 0 100).bind fun bt507 => (if bt493.2.2 = 10 then (if (bt493.1.length : Int) = 0 then (if bt507.2.2 = 0 then (if bt507.2.1 = (t485.length : Int) then ((columbariumbook_Same_int64.f k bt507.1 l0).bind fun t512 => (if t512 = true then ((columbariumlaw4_known.f k).bind fun t513 => (some t513)) else (some false))) else (some false)) else (some false)) else (some false)) else (some false))) else (none))) else (none)))) = some r := by first | (rw [hy489]; with_reducible exact H) | (have H2_ := (Option.bind_some _ _).symm.trans H; rw [hy489]; with_reducible exact H2_) | (have H2_ := (Option.bind_some _ _).symm.trans H; with_reducible exact H2_) | with_reducible exact H | (rw [hy489]; exact H) | exact H
          have Ny489 := Aside0.mk hy489
          clear hy489
          replace H := Option.bind_eq_some_iff.mp H
          obtain ⟨⟨t493, t494, t495⟩, A410, H⟩ := H
          replace H : ((some (([] : List Int) : List Int)).bind fun y498 => (if y498.length + t485.length < 140737488355328 then ((some (y498 ++ t485 : List Int)).bind fun y501 => (if y501.length + l2.length < 140737488355328 then ((delta_Decode.f k (y501 ++ l2) 0 100).bind fun bt507 => (if t495 = 10 then (if (t493.length : Int) = 0 then (if bt507.2.2 = 0 then (if bt507.2.1 = (t485.length : Int) then ((columbariumbook_Same_int64.f k bt507.1 l0).bind fun t512 => (if t512 = true then ((columbariumlaw4_known.f k).bind fun t513 => (some t513)) else (some false))) else (some false)) else (some false)) else (some false)) else (some false))) else (none))) else (none))) = some r := H
          have A41 := Aside0.mk A410
          clear A410
          obtain ⟨y498, hy498⟩ : ∃ y_ : List Int, y_ = (([] : List Int)) := ⟨_, rfl⟩
          replace H : (if y498.length + t485.length < 140737488355328 then ((some (y498 ++ t485 : List Int)).bind fun y501 => (if y501.length + l2.length < 140737488355328 then ((delta_Decode.f k (y501 ++ l2) 0 100).bind fun bt507 => (if t495 = 10 then (if (t493.length : Int) = 0 then (if bt507.2.2 = 0 then (if bt507.2.1 = (t485.length : Int) then ((columbariumbook_Same_int64.f k bt507.1 l0).bind fun t512 => (if t512 = true then ((columbariumlaw4_known.f k).bind fun t513 => (some t513)) else (some false))) else (some false)) else (some false)) else (some false)) else (some false))) else (none))) else (none)) = some r := by first | (rw [hy498]; with_reducible exact H) | (have H2_ := (Option.bind_some _ _).symm.trans H; rw [hy498]; with_reducible exact H2_) | (have H2_ := (Option.bind_some _ _).symm.trans H; with_reducible exact H2_) | with_reducible exact H | (rw [hy498]; exact H) | exact H
          have Ny498 := Aside0.mk hy498
          clear hy498
          by_cases c42 : y498.length + t485.length < 140737488355328
          · rw [if_pos c42] at H
            have LMc42 := Aside0.mk c42
            clear c42
            obtain ⟨y501, hy501⟩ : ∃ y_ : List Int, y_ = (y498 ++ t485) := ⟨_, rfl⟩
            replace H : (if y501.length + l2.length < 140737488355328 then ((delta_Decode.f k (y501 ++ l2) 0 100).bind fun bt507 => (if t495 = 10 then (if (t493.length : Int) = 0 then (if bt507.2.2 = 0 then (if bt507.2.1 = (t485.length : Int) then ((columbariumbook_Same_int64.f k bt507.1 l0).bind fun t512 => (if t512 = true then ((columbariumlaw4_known.f k).bind fun t513 => (some t513)) else (some false))) else (some false)) else (some false)) else (some false)) else (some false))) else (none)) = some r := by first | (rw [hy501]; with_reducible exact H) | (have H2_ := (Option.bind_some _ _).symm.trans H; rw [hy501]; with_reducible exact H2_) | (have H2_ := (Option.bind_some _ _).symm.trans H; with_reducible exact H2_) | with_reducible exact H | (rw [hy501]; exact H) | exact H
            have Ny501 := Aside0.mk hy501
            clear hy501
            by_cases c43 : y501.length + l2.length < 140737488355328
            · rw [if_pos c43] at H
              have LMc43 := Aside0.mk c43
              clear c43
              obtain ⟨y504, hy504⟩ : ∃ y_ : List Int, y_ = (y501 ++ l2) := ⟨_, rfl⟩
              replace H : ((delta_Decode.f k y504 0 100).bind fun bt507 => (if t495 = 10 then (if (t493.length : Int) = 0 then (if bt507.2.2 = 0 then (if bt507.2.1 = (t485.length : Int) then ((columbariumbook_Same_int64.f k bt507.1 l0).bind fun t512 => (if t512 = true then ((columbariumlaw4_known.f k).bind fun t513 => (some t513)) else (some false))) else (some false)) else (some false)) else (some false)) else (some false))) = some r := by first | (rw [hy504]; with_reducible exact H) | (have H2_ := (Option.bind_some _ _).symm.trans H; rw [hy504]; with_reducible exact H2_) | (have H2_ := (Option.bind_some _ _).symm.trans H; with_reducible exact H2_) | with_reducible exact H | (rw [hy504]; exact H) | exact H
              have Ny504 := Aside0.mk hy504
              clear hy504
              replace H := Option.bind_eq_some_iff.mp H
              obtain ⟨⟨t507, t508, t509⟩, A440, H⟩ := H
              replace H : (if t495 = 10 then (if (t493.length : Int) = 0 then (if t509 = 0 then (if t508 = (t485.length : Int) then ((columbariumbook_Same_int64.f k t507 l0).bind fun t512 => (if t512 = true then ((columbariumlaw4_known.f k).bind fun t513 => (some t513)) else (some false))) else (some false)) else (some false)) else (some false)) else (some false)) = some r := H
              have A44 := Aside0.mk A440
              clear A440
              by_cases c45 : t495 = 10
              · rw [if_pos c45] at H
                have c45b0 : (t495 == 10) = true := beq_iff_eq.mpr c45
                have c45b1 : (t495 != 10) = false := bne_eq_false_iff_eq.mpr c45
                clear c45
                by_cases c46 : (t493.length : Int) = 0
                · rw [if_pos c46] at H
                  have c46b0 : ((t493.length : Int) == 0) = true := beq_iff_eq.mpr c46
                  have c46b1 : ((t493.length : Int) != 0) = false := bne_eq_false_iff_eq.mpr c46
                  clear c46
                  by_cases c47 : t509 = 0
                  · rw [if_pos c47] at H
                    have c47b0 : (t509 == 0) = true := beq_iff_eq.mpr c47
                    have c47b1 : (t509 != 0) = false := bne_eq_false_iff_eq.mpr c47
                    clear c47
                    by_cases c48 : t508 = (t485.length : Int)
                    · rw [if_pos c48] at H
                      have c48b0 : (t508 == (t485.length : Int)) = true := beq_iff_eq.mpr c48
                      have c48b1 : (t508 != (t485.length : Int)) = false := bne_eq_false_iff_eq.mpr c48
                      clear c48
                      replace H := Option.bind_eq_some_iff.mp H
                      obtain ⟨t512, A490, H⟩ := H
                      replace H : (if t512 = true then ((columbariumlaw4_known.f k).bind fun t513 => (some t513)) else (some false)) = some r := H
                      have A49 := Aside0.mk A490
                      clear A490
                      by_cases c50 : t512 = true
                      · subst c50
                        have H1 : ((columbariumlaw4_known.f k).bind fun t513 => (some t513)) = some r := by rw [if_pos rfl] at H; exact H
                        clear H
                        have H := H1
                        clear H1
                        replace H := Option.bind_eq_some_iff.mp H
                        obtain ⟨t513, A510, H⟩ := H
                        replace H : (some t513) = some r := H
                        have A51 := Aside0.mk A510
                        clear A510
                        obtain rfl := Option.some.inj H
                        go_enter Try.func8, Try.ntmps8
                        go_wp2_with (first | (go_at_call 18; go_in) | ((with_reducible refine gate_callee (f := 16) rfl ?_); refine goesL_ (some 18) rfl rfl Try.func16 (by kernel_rfl) rfl #[.slice A0 l0.length c0] rfl (by (try simp only [List.map_toArray, List.map_cons, List.map_nil]); first | done | rfl | (simp only [List.length_drop, List.length_take]; rfl)) ?_; (with_reducible refine (delta_Encode.calls k _ _ l0 t485 _ ?side1 ?side2 A36.out).mono ?_); (case side1 => repeat (first | exact HR0.out | (with_reducible refine Kd.C_alloc ?_ _) | (with_reducible refine Kd.C_drewN ?_ _) | (with_reducible refine Kd.C_drew ?_))); (case side2 => exact HC0.out); rintro e w52 ⟨v486, rfl, ho0, hb⟩; refine ⟨_, rfl, ?_⟩; have n0_ := Aside0.mk (Kd.R_lower ho0 (below_size (by repeat (first | (with_reducible first | exact HB.out | apply below_alloc | apply pw_below_drewN | apply below_drew1) | exact HB.out)))); have n1_ := Aside0.mk (below_step (by repeat (first | (with_reducible first | exact HB.out | apply below_alloc | apply pw_below_drewN | apply below_drew1) | exact HB.out)) hb); clear HB; have HO487 := n0_; have HB := n1_; clear n0_ n1_; (try clear hb); (try clear hb2); (try clear hk); (try clear hi); (try clear ho0); obtain ⟨Ao53, co53, eo53⟩ := Kd.R_slice HO487.out; subst eo53) | ((with_reducible refine gate_callee (f := 15) rfl ?_); refine goesL_ (some 26) rfl rfl Try.func15 (by kernel_rfl) rfl #[.int .i64 a1, .int .i64 0, .int .i64 (wrap64 ((t485.length : Int) - 1))] rfl (by (try simp only [List.map_toArray, List.map_cons, List.map_nil]); first | done | rfl | (simp only [List.length_drop, List.length_take]; rfl)) ?_; (with_reducible refine (columbariumbook_Within.calls a1 0 (wrap64 ((t485.length : Int) - 1)) t488 _ A38.out).mono ?_); rintro e w' ⟨rfl, ⟨nd, rfl⟩⟩; refine ⟨_, rfl, ?_⟩; have q54 : (t488 : Int) ≤ ((t485.length : Int) : Int) := of_decide_eq_true (by first | (with_reducible assumption) | assumption); obtain ⟨i054, hi054, _, hsz54, _⟩ := info_parts info5; have hroom54 : t485.length ≤ co53 := (Kd.R_reads' HO487.out).2.1; have hC54 : Kd.C (Kd.int .u8) _ Ao53 t485.length t485 := (Kd.R_reads' HO487.out).2.2; have hcut54 := cut_to (P := Try.prog) 24 5 .i64 Try.underlying24 hi054 Ao53 t485.length co53 t488 (of_decide_eq_true (by first | (with_reducible assumption) | assumption)) q54 hroom54; have hr54 := Kd.C_take (m := (t488 : Int).toNat) hC54 (by omega); have hy54 : y489.length = (t488 : Int).toNat := (by rw [Ny489.out, List.length_take]; omega); rw [← Ny489.out] at hr54; rw [← hy54] at hcut54; have HR492 := Aside0.mk hr54; have HC492 := Aside0.mk (show y489.length ≤ co53 from by omega); clear hr54 hC54 hroom54 hi054 hsz54; have KY54 := Aside0.mk hy54; clear hy54; have KL54 := Aside0.mk (show (t488 : Int).toNat ≤ t485.length from by omega); replace q54 := eq_true q54) | ((with_reducible refine gate_callee (f := 19) rfl ?_); refine goesL_ (some 33) rfl rfl Try.func19 (by kernel_rfl) rfl #[.slice Ao53 y489.length co53, .int .i64 0, .int .i64 (l0.length : Int)] rfl (by (try simp only [List.map_toArray, List.map_cons, List.map_nil]); first | done | rfl | (simp only [List.length_drop, List.length_take]; rfl)) ?_; (with_reducible refine (delta_Decode.calls k _ _ y489 0 (l0.length : Int) t493 t494 t495 _ ?side1 ?side2 A41.out).mono ?_); (case side1 => repeat (first | exact (by repeat (first | (with_reducible exact HR492.out) | (with_reducible refine Kd.C_alloc ?_ _) | (with_reducible refine Kd.C_drewN ?_ _) | (with_reducible refine Kd.C_drew ?_) | exact HR492.out)) | (with_reducible refine Kd.C_alloc ?_ _) | (with_reducible refine Kd.C_drewN ?_ _) | (with_reducible refine Kd.C_drew ?_))); (case side2 => exact HC492.out); rintro e w55 ⟨v496, rfl, ho0, hb⟩; refine ⟨_, rfl, ?_⟩; have n0_ := Aside0.mk (Kd.R_below (by (with_reducible repeat (first | apply Kd.R_alloc | apply Kd.R_drewN | apply Kd.R_drew)); exact HO487.out) hb); have n1_ := Aside0.mk (Kd.R_lower ho0 (below_size (by repeat (first | (with_reducible first | exact HB.out | apply below_alloc | apply pw_below_drewN | apply below_drew1) | exact HB.out)))); have n2_ := Aside0.mk (Kd.C_below (by repeat (first | (with_reducible exact HR492.out) | (with_reducible refine Kd.C_alloc ?_ _) | (with_reducible refine Kd.C_drewN ?_ _) | (with_reducible refine Kd.C_drew ?_) | exact HR492.out)) hb); have n3_ := Aside0.mk (below_step (by repeat (first | (with_reducible first | exact HB.out | apply below_alloc | apply pw_below_drewN | apply below_drew1) | exact HB.out)) hb); clear HO487; clear HR492; clear HB; have HO487 := n0_; have HO497 := n1_; have HR492 := n2_; have HB := n3_; clear n0_ n1_ n2_ n3_; (try clear hb); (try clear hb2); (try clear hk); (try clear hi); (try clear ho0)) | ((with_reducible refine gate_dst (N := 38) rfl ?_); (try (refine gate_guard (by rfl) ?_; dsimp only)); refine Kd.R_lit (Kd.int .u8) _ 5 ?hg (N := 38) ?hd (xs := ([] : List Int)) (inner := []) (ok := fun _ => True) (okp := fun _ => True) ?hr ?hp (fun _ hk => hk) trivial (Below.refl _ _) (Nat.le_refl _) (by simp) ?_; (case hd => rfl); (case hg => rfl); (case hr => first | (go_simp; done) | (go_simp; rfl)); (case hp => exact (Reps.none _ _)); intro v499 w56 ho57 hb hg_ hnew_; clear hg_ hnew_; (first | rw [← Ny498.out] at ho57 | (simp only [Int.reduceToNat] at ho57; rw [← Ny498.out] at ho57)); have n0_ := Aside0.mk (Kd.R_elder' (by (with_reducible repeat (first | apply Kd.R_alloc | apply Kd.R_drewN | apply Kd.R_drew)); exact HO487.out) (Kd.R_base ho57) hb); have n1_ := Aside0.mk (Kd.R_below (by (with_reducible repeat (first | apply Kd.R_alloc | apply Kd.R_drewN | apply Kd.R_drew)); exact HO497.out) hb); have n2_ := Aside0.mk (Kd.R_lower (Kd.R_new' ho57 (Kd.R_lt (by (with_reducible repeat (first | apply Kd.R_alloc | apply Kd.R_drewN | apply Kd.R_drew)); exact HO487.out))) (below_size (by repeat (first | (with_reducible first | exact HB.out | apply below_alloc | apply pw_below_drewN | apply below_drew1) | exact HB.out)))); have n3_ := Aside0.mk (Kd.C_below (by repeat (first | (with_reducible exact HR492.out) | (with_reducible refine Kd.C_alloc ?_ _) | (with_reducible refine Kd.C_drewN ?_ _) | (with_reducible refine Kd.C_drew ?_) | exact HR492.out)) hb); have n4_ := Aside0.mk (below_step (by repeat (first | (with_reducible first | exact HB.out | apply below_alloc | apply pw_below_drewN | apply below_drew1) | exact HB.out)) hb); clear HO487; clear HO497; clear HR492; clear HB; have HO487 := n0_; have HO497 := n1_; have HO500 := n2_; have HR492 := n3_; have HB := n4_; clear n0_ n1_ n2_ n3_ n4_; clear hb ho57) | ((with_reducible refine gate_builtin (b := .append) (xs := #[.tmp 38, .tmp 39]) rfl ?_); (try (refine gate_guard (by rfl) ?_; dsimp only)); at_builtin; refine Kd.R_append_rows (Kd.int .u8) (w0 := w) w.heap.size rfl (.tmp 38) (.tmp 39) 24 5 (.int .u8 0) 1 rfl Try.underlying24 info5 rfl (by decide) (by omega) v499 y498 t485 _ _ _ (fun k_ => some k_ ≠ (.slice Ao53 t485.length co53 : Value).ownBlock) (fun _ => False) rfl rfl ?aO ?aR (fun _ _ h => h) (fun _ h => h.elim) ?aF ?aB ?aS ?aL ?_; (case aR => repeat (first | exact (Kd.R_reads' HO487.out).2.2 | (with_reducible refine Kd.C_alloc ?_ _) | (with_reducible refine Kd.C_drewN ?_ _) | (with_reducible refine Kd.C_drew ?_))); (case aB => exact (by repeat (first | (with_reducible first | exact HB.out | apply below_alloc | apply pw_below_drewN | apply below_drew1) | exact HB.out))); (case aF => exact (fun k_ hk => Kd.fresh' (Kd.R_lt (by (with_reducible repeat (first | apply Kd.R_alloc | apply Kd.R_drewN | apply Kd.R_drew)); exact HO487.out)) k_ hk)); (case aO => exact (by (with_reducible repeat (first | apply Kd.R_alloc | apply Kd.R_drewN | apply Kd.R_drew)); exact Kd.R_mono HO500.out (fun _ hk => hk.2))); (case aS => exact (below_size (by repeat (first | (with_reducible first | exact HB.out | apply below_alloc | apply pw_below_drewN | apply below_drew1) | exact HB.out)))); (case aL => have := LMc42.out; omega); intro v502 w58 ho hb hg hat; rw [← Ny501.out] at ho; have n0_ := Aside0.mk (Kd.R_after (ok := (fun _ => True)) (by (with_reducible repeat (first | apply Kd.R_alloc | apply Kd.R_drewN | apply Kd.R_drew)); exact HO487.out) hg hat); have n1_ := Aside0.mk (Kd.R_over' (by (with_reducible repeat (first | apply Kd.R_alloc | apply Kd.R_drewN | apply Kd.R_drew)); exact HO497.out) (Kd.R_typed (by (with_reducible repeat (first | apply Kd.R_alloc | apply Kd.R_drewN | apply Kd.R_drew)); exact HO500.out)) (by decide) hg); have n2_ := Aside0.mk (hb); have n3_ := Aside0.mk ((show Kd.C (Kd.int .u8) w58 Ao53 y489.length y489 from by rw [Ny489.out]; exact Kd.C_take (m := (t488 : Int).toNat) ((Kd.R_reads' (Kd.R_after (ok := (fun _ => True)) (by (with_reducible repeat (first | apply Kd.R_alloc | apply Kd.R_drewN | apply Kd.R_drew)); exact HO487.out) hg hat)).2.2) KL54.out)); have n4_ := Aside0.mk (ho); clear HO487; clear HO497; clear HB; clear HR492; clear HO500; have HO487 := n0_; have HO497 := n1_; have HB := n2_; have HR492 := n3_; have HO503 := n4_; clear n0_ n1_ n2_ n3_ n4_; clear ho hb hg hat) | ((with_reducible refine gate_builtin (b := .append) (xs := #[.tmp 40, .tmp 41]) rfl ?_); (try (refine gate_guard (by rfl) ?_; dsimp only)); at_builtin; refine Kd.R_append_rows (Kd.int .u8) (w0 := w) w.heap.size rfl (.tmp 40) (.tmp 41) 24 5 (.int .u8 0) 1 rfl Try.underlying24 info5 rfl (by decide) (by omega) v502 y501 l2 _ _ _ (fun k_ => some k_ ≠ (.slice Ao53 t485.length co53 : Value).ownBlock) (fun _ => False) rfl rfl ?aO ?aR (fun _ _ h => h) (fun _ h => h.elim) ?aF ?aB ?aS ?aL ?_; (case aR => repeat (first | exact (Kd.C_below HR2.out HB.out) | (with_reducible refine Kd.C_alloc ?_ _) | (with_reducible refine Kd.C_drewN ?_ _) | (with_reducible refine Kd.C_drew ?_))); (case aB => exact (by repeat (first | (with_reducible first | exact HB.out | apply below_alloc | apply pw_below_drewN | apply below_drew1) | exact HB.out))); (case aF => exact (fun k_ hk => Kd.fresh' (Kd.R_lt (by (with_reducible repeat (first | apply Kd.R_alloc | apply Kd.R_drewN | apply Kd.R_drew)); exact HO487.out)) k_ hk)); (case aO => exact (by (with_reducible repeat (first | apply Kd.R_alloc | apply Kd.R_drewN | apply Kd.R_drew)); exact HO503.out)); (case aS => exact (below_size (by repeat (first | (with_reducible first | exact HB.out | apply below_alloc | apply pw_below_drewN | apply below_drew1) | exact HB.out)))); (case aL => have := LMc43.out; omega); intro v505 w59 ho hb hg hat; rw [← Ny504.out] at ho; have n0_ := Aside0.mk (Kd.R_after (ok := (fun _ => True)) (by (with_reducible repeat (first | apply Kd.R_alloc | apply Kd.R_drewN | apply Kd.R_drew)); exact HO487.out) hg hat); have n1_ := Aside0.mk (Kd.R_over' (by (with_reducible repeat (first | apply Kd.R_alloc | apply Kd.R_drewN | apply Kd.R_drew)); exact HO497.out) (Kd.R_typed (by (with_reducible repeat (first | apply Kd.R_alloc | apply Kd.R_drewN | apply Kd.R_drew)); exact HO503.out)) (by decide) hg); have n2_ := Aside0.mk (hb); have n3_ := Aside0.mk ((show Kd.C (Kd.int .u8) w59 Ao53 y489.length y489 from by rw [Ny489.out]; exact Kd.C_take (m := (t488 : Int).toNat) ((Kd.R_reads' (Kd.R_after (ok := (fun _ => True)) (by (with_reducible repeat (first | apply Kd.R_alloc | apply Kd.R_drewN | apply Kd.R_drew)); exact HO487.out) hg hat)).2.2) KL54.out)); have n4_ := Aside0.mk (ho); clear HO487; clear HO497; clear HB; clear HR492; clear HO503; have HO487 := n0_; have HO497 := n1_; have HB := n2_; have HR492 := n3_; have HO506 := n4_; clear n0_ n1_ n2_ n3_ n4_; clear ho hb hg hat; obtain ⟨Ao60, co60, eo60⟩ := Kd.R_slice HO506.out; subst eo60) | ((with_reducible refine gate_callee (f := 19) rfl ?_); refine goesL_ (some 43) rfl rfl Try.func19 (by kernel_rfl) rfl #[.slice Ao60 y504.length co60, .int .i64 0, .int .i64 100] rfl (by (try simp only [List.map_toArray, List.map_cons, List.map_nil]); first | done | rfl | (simp only [List.length_drop, List.length_take]; rfl)) ?_; (with_reducible refine (delta_Decode.calls k _ _ y504 0 100 t507 t508 t509 _ ?side1 ?side2 A44.out).mono ?_); (case side1 => repeat (first | exact (Kd.R_reads' HO506.out).2.2 | (with_reducible refine Kd.C_alloc ?_ _) | (with_reducible refine Kd.C_drewN ?_ _) | (with_reducible refine Kd.C_drew ?_))); (case side2 => exact (Kd.R_reads' HO506.out).2.1); rintro e w61 ⟨v510, rfl, ho0, hb⟩; refine ⟨_, rfl, ?_⟩; have n0_ := Aside0.mk (Kd.R_below (by (with_reducible repeat (first | apply Kd.R_alloc | apply Kd.R_drewN | apply Kd.R_drew)); exact HO487.out) hb); have n1_ := Aside0.mk (Kd.R_elder' (by (with_reducible repeat (first | apply Kd.R_alloc | apply Kd.R_drewN | apply Kd.R_drew)); exact HO497.out) (Kd.R_base ho0) hb); have n2_ := Aside0.mk (Kd.R_below (by (with_reducible repeat (first | apply Kd.R_alloc | apply Kd.R_drewN | apply Kd.R_drew)); exact HO506.out) hb); have n3_ := Aside0.mk (Kd.R_lower (Kd.R_new' ho0 (Kd.R_lt (by (with_reducible repeat (first | apply Kd.R_alloc | apply Kd.R_drewN | apply Kd.R_drew)); exact HO497.out))) (below_size (by repeat (first | (with_reducible first | exact HB.out | apply below_alloc | apply pw_below_drewN | apply below_drew1) | exact HB.out)))); have n4_ := Aside0.mk (Kd.C_below (by repeat (first | (with_reducible exact HR492.out) | (with_reducible refine Kd.C_alloc ?_ _) | (with_reducible refine Kd.C_drewN ?_ _) | (with_reducible refine Kd.C_drew ?_) | exact HR492.out)) hb); have n5_ := Aside0.mk (below_step (by repeat (first | (with_reducible first | exact HB.out | apply below_alloc | apply pw_below_drewN | apply below_drew1) | exact HB.out)) hb); clear HO487; clear HO497; clear HO506; clear HR492; clear HB; have HO487 := n0_; have HO497 := n1_; have HO506 := n2_; have HO511 := n3_; have HR492 := n4_; have HB := n5_; clear n0_ n1_ n2_ n3_ n4_ n5_; (try clear hb); (try clear hb2); (try clear hk); (try clear hi); (try clear ho0); obtain ⟨Ao62, co62, eo62⟩ := Kd.R_slice HO497.out; subst eo62; obtain ⟨Ao63, co63, eo63⟩ := Kd.R_slice HO511.out; subst eo63) | (go_at_call 20; (with_reducible refine (columbariumbook_Same_int64.calls k _ _ t507 _ _ l0 true _ ?side1 ?side2 ?side3 ?side4 A49.out).mono ?_); (case side1 => repeat (first | exact (Kd.R_reads' HO511.out).2.2 | (with_reducible refine Kd.C_alloc ?_ _) | (with_reducible refine Kd.C_drewN ?_ _) | (with_reducible refine Kd.C_drew ?_))); (case side2 => exact (Kd.R_reads' HO511.out).2.1); (case side3 => repeat (first | exact (Kd.C_below HR0.out HB.out) | (with_reducible refine Kd.C_alloc ?_ _) | (with_reducible refine Kd.C_drewN ?_ _) | (with_reducible refine Kd.C_drew ?_))); (case side4 => exact HC0.out); rintro e w' ⟨rfl, ⟨nd, rfl⟩⟩) | (go_at_call 17; (with_reducible refine (columbariumlaw4_known.calls k  t513 _ A51.out).mono ?_); rintro e w64 ⟨rfl, hb⟩; have n0_ := Aside0.mk (Kd.R_below (by (with_reducible repeat (first | apply Kd.R_alloc | apply Kd.R_drewN | apply Kd.R_drew)); exact HO487.out) hb); have n1_ := Aside0.mk (Kd.R_below (by (with_reducible repeat (first | apply Kd.R_alloc | apply Kd.R_drewN | apply Kd.R_drew)); exact HO497.out) hb); have n2_ := Aside0.mk (Kd.R_below (by (with_reducible repeat (first | apply Kd.R_alloc | apply Kd.R_drewN | apply Kd.R_drew)); exact HO506.out) hb); have n3_ := Aside0.mk (Kd.R_below (by (with_reducible repeat (first | apply Kd.R_alloc | apply Kd.R_drewN | apply Kd.R_drew)); exact HO511.out) hb); have n4_ := Aside0.mk (Kd.C_below (by repeat (first | (with_reducible exact HR492.out) | (with_reducible refine Kd.C_alloc ?_ _) | (with_reducible refine Kd.C_drewN ?_ _) | (with_reducible refine Kd.C_drew ?_) | exact HR492.out)) hb); have n5_ := Aside0.mk (below_step (by repeat (first | (with_reducible first | exact HB.out | apply below_alloc | apply pw_below_drewN | apply below_drew1) | exact HB.out)) hb); clear HO487; clear HO497; clear HO506; clear HO511; clear HR492; clear HB; have HO487 := n0_; have HO497 := n1_; have HO506 := n2_; have HO511 := n3_; have HR492 := n4_; have HB := n5_; clear n0_ n1_ n2_ n3_ n4_ n5_; (try clear hb); (try clear hb2); (try clear hk); (try clear hi)))
                        go_ret
                        exact ⟨by first | rfl | (simp [errW_none, errW_some] <;> rfl) | (simp [*, errW_none, errW_some] <;> rfl), by repeat (first | (with_reducible first | exact HB.out | apply below_alloc | apply pw_below_drewN | apply below_drew1) | exact HB.out)⟩
                      · replace c50 := Bool.eq_false_iff.mpr c50
                        subst c50
                        have H1 : (some false) = some r := by rw [if_neg (show ¬ (false = true) by decide)] at H; exact H
                        clear H
                        have H := H1
                        clear H1
                        exact absurd ((Option.some.inj H).trans hr_.out) (by decide)
                    · rw [if_neg c48] at H
                      have c48b0 : (t508 == (t485.length : Int)) = false := beq_eq_false_iff_ne.mpr c48
                      have c48b1 : (t508 != (t485.length : Int)) = true := bne_iff_ne.mpr c48
                      exact absurd ((Option.some.inj H).trans hr_.out) (by decide)
                  · rw [if_neg c47] at H
                    have c47b0 : (t509 == 0) = false := beq_eq_false_iff_ne.mpr c47
                    have c47b1 : (t509 != 0) = true := bne_iff_ne.mpr c47
                    exact absurd ((Option.some.inj H).trans hr_.out) (by decide)
                · rw [if_neg c46] at H
                  have c46b0 : ((t493.length : Int) == 0) = false := beq_eq_false_iff_ne.mpr c46
                  have c46b1 : ((t493.length : Int) != 0) = true := bne_iff_ne.mpr c46
                  have c46b2 : ¬ (t493 = []) := fun h_ => c46 (by rw [h_]; rfl)
                  exact absurd ((Option.some.inj H).trans hr_.out) (by decide)
              · rw [if_neg c45] at H
                have c45b0 : (t495 == 10) = false := beq_eq_false_iff_ne.mpr c45
                have c45b1 : (t495 != 10) = true := bne_iff_ne.mpr c45
                exact absurd ((Option.some.inj H).trans hr_.out) (by decide)
            · rw [if_neg c43] at H
              exact absurd H (by simp)
          · rw [if_neg c42] at H
            exact absurd H (by simp)
        · rw [if_neg c40] at H
          exact absurd H (by simp)
      · rw [if_neg c39] at H
        exact absurd H (by simp)

/-- THE ONE PURE STATEMENT of columbariumlaw4_DeltaCuts: yours. -/
def columbariumlaw4_DeltaCuts.Pure : Prop := ∀ (l0 : List Int) (a1 : Int) (l2 : List Int), l0.length ≤ maxLen → l0.length * 8 ≤ 140737488351232 → (∀ x ∈ l0, (Lit.int .i64 x).wf = true) → (Lit.int .i64 a1).wf = true → l2.length ≤ maxLen → l2.length * 1 ≤ 140737488351232 → (∀ x ∈ l2, (Lit.int .u8 x).wf = true) → ∃ k, columbariumlaw4_DeltaCuts.f k l0 a1 l2 = some true
theorem columbariumlaw4_DeltaCuts.walk (P : columbariumlaw4_DeltaCuts.Pure) (a0 : Option Addr) (len0 cap0 : Nat) (z0 : List Int) (a1 : Int) (a2 : Option Addr) (len2 cap2 : Nat) (z2 : List Int) (w : World) (w0 : (a0 = none ∧ len0 = 0 ∧ cap0 = 0 ∧ z0 = []) ∨ ∃ x, a0 = some x ∧ len0 ≤ cap0 ∧ cap0 ≤ maxLen ∧ z0.length = cap0 ∧ (∀ i, i < z0.length → w.cell? (x.add i) = some (.int .i64 (z0.getD i 0))) ∧ ∀ n ∈ z0, (Lit.int .i64 n).wf = true) (y0 : len0 * 8 ≤ 140737488351232) (w1 : (Lit.int .i64 a1).wf = true) (w2 : (a2 = none ∧ len2 = 0 ∧ cap2 = 0 ∧ z2 = []) ∨ ∃ x, a2 = some x ∧ len2 ≤ cap2 ∧ cap2 ≤ maxLen ∧ z2.length = cap2 ∧ (∀ i, i < z2.length → w.cell? (x.add i) = some (.int .u8 (z2.getD i 0))) ∧ ∀ n ∈ z2, (Lit.int .u8 n).wf = true) (y2 : len2 * 1 ≤ 140737488351232) :
    Calls Try.prog 8 #[.slice a0 len0 cap0, .int .i64 a1, .slice a2 len2 cap2] w fun e w' => e = .returned (.bool true) ∧ Below w.heap.size w w' := by
  obtain ⟨l0, rfl, hr0, hm0, hw0, hc0⟩ := ReadsInt.ofRowC w0
  obtain ⟨l2, rfl, hr2, hm2, hw2, hc2⟩ := ReadsInt.ofRowC w2
  obtain ⟨k, h⟩ := P l0 a1 l2 hm0 y0 hw0 w1 hm2 y2 hw2
  refine (columbariumlaw4_DeltaCuts.calls k _ _ l0 a1 _ _ l2 true w (Kd.C_of_reads (d := (0 : Int)) (h1 := fun _ => rfl) hr0) hc0 (Kd.C_of_reads (d := (0 : Int)) (h1 := fun _ => rfl) hr2) hc2 h ⟨rfl⟩).mono ?_
  rintro e w' ⟨rfl, hd⟩
  exact ⟨rfl, hd⟩

end Go.Proofs.Ytfgceanepgjfiaa.PS
