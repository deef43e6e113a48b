-- Written by a program of this session, out of the translation; Lean checks it.
import Derived.Test.YtfgceanepgjfiaaPSx0
import Derived.Test.YtfgceanepgjfiaaPScolumbariumref2Crc
import Derived.Test.YtfgceanepgjfiaaPScolumbariumref6get
namespace Go.Proofs.Ytfgceanepgjfiaa.PS
open Go.RowKit Go.Proofs.YtfgceanepgjfiaaW.PrintWords Go.Proofs.YtfgceanepgjfiaaW.PrintLast Go.Proofs.YtfgceanepgjfiaaW.PrintMore
attribute [local go_sem high] pw_str_leq pw_str_gtr
attribute [local go_sem] pw_us8 pw_us32 pw_us64 pw_max2_str pw_min2_str max2_int min2_int max_two min_two max_three min_three max_four min_four   -- for this text's walks alone
set_option linter.unusedVariables false
set_option linter.unusedSimpArgs false

/-! ### columbariumref6_Open: function 32 -/
def columbariumref6_Open.j0 : Nat → List Int → Int → Bool → Option (List Int × Int × Int)
  | 0, _, _, _ => none
  | k + 1, x0, x1, x16 => if x16 = true then (some (([] : List Int), 0, 1)) else (if (wrap64 ((x0.length : Int) - x1)) < 8 then (some (([] : List Int), 0, 10)) else (if 0 ≤ x1 then (if x1 ≤ (x0.length : Int) then ((columbariumref6_get.f (x0.drop (x1 : Int).toNat)).bind fun t66003 => (if 0 ≤ (wrap64 (x1 + 4)) then (if (wrap64 (x1 + 4)) ≤ (x0.length : Int) then ((columbariumref6_get.f (x0.drop ((wrap64 (x1 + 4)) : Int).toNat)).bind fun t66006 => (if t66006 = (Go.bits .xor .u32 4294967295 t66003) then (if t66003 > 1048576 then (some (([] : List Int), 0, 3)) else (if (wrap64 ((wrap64 ((x0.length : Int) - x1)) - 8)) < (wrap64 ((wrap64 (t66003)) + 4)) then (some (([] : List Int), 0, 10)) else ((some (([] : List Int) : List Int)).bind fun y66007 => (if 0 ≤ (wrap64 (x1 + 8)) then (if (wrap64 (x1 + 8)) ≤ (wrap64 ((wrap64 (x1 + 8)) + (wrap64 (t66003)))) then (if (wrap64 ((wrap64 (x1 + 8)) + (wrap64 (t66003)))) ≤ (x0.length : Int) then ((some ((x0.take ((wrap64 ((wrap64 (x1 + 8)) + (wrap64 (t66003)))) : Int).toNat).drop ((wrap64 (x1 + 8)) : Int).toNat : List Int)).bind fun y66010 => (if y66007.length + y66010.length < 140737488355328 then ((some (y66007 ++ y66010 : List Int)).bind fun y66012 => (if 0 ≤ (wrap64 ((wrap64 (x1 + 8)) + (wrap64 (t66003)))) then ((columbariumref6_get.f (x0.drop ((wrap64 ((wrap64 (x1 + 8)) + (wrap64 (t66003)))) : Int).toNat)).bind fun t66017 => ((columbariumref2_Crc.f k y66012).bind fun t66018 => (if t66017 = t66018 then (some (y66012, wrap64 ((wrap64 (x1 + 12)) + (wrap64 (t66003))), 0)) else (some (([] : List Int), 0, 14))))) else (none))) else (none))) else (none)) else (none)) else (none))))) else (some (([] : List Int), 0, 14)))) else (none)) else (none))) else (none)) else (none)))
def columbariumref6_Open.f (k : Nat) (l0 : List Int) (a1 : Int) : Option (List Int × Int × Int) := if a1 < 0 then (columbariumref6_Open.j0 k l0 a1 true) else (columbariumref6_Open.j0 k l0 a1 (decide (a1 > (l0.length : Int))))
theorem columbariumref6_Open.mono_l : ∀ k, (∀ y0 y1 y2, LeO (columbariumref6_Open.j0 k y0 y1 y2) (columbariumref6_Open.j0 (k + 1) y0 y1 y2))
  | 0 => fun _ _ _ r h => by simp [columbariumref6_Open.j0] at h
  | k + 1 => by
    have ih0 := columbariumref6_Open.mono_l k
    · intro y0 y1 y2
      unfold columbariumref6_Open.j0
      repeat' first
      | (with_reducible exact ih0 _ _ _)
      | (with_reducible exact columbariumref2_Crc.mono _ _)
      | (with_reducible exact LeO.refl _)
      | (with_reducible exact LeO.none _)
      | (with_reducible refine LeO.ite ?_ ?_)
      | (with_reducible refine LeO.bind ?_ (fun _ => ?_))
      | exact ih0 _ _ _
      | exact columbariumref2_Crc.mono _ _
      | exact LeO.none _
      | refine LeO.ite ?_ ?_
      | refine LeO.bind ?_ (fun _ => ?_)
theorem columbariumref6_Open.mono : ∀ a0 a1 k, LeO (columbariumref6_Open.f k a0 a1) (columbariumref6_Open.f (k + 1) a0 a1) := by
  intro a0 a1 k
  have ih0 := columbariumref6_Open.mono_l k
  unfold columbariumref6_Open.f
  repeat' first
      | (with_reducible exact ih0 _ _ _)
      | (with_reducible exact columbariumref2_Crc.mono _ _)
      | (with_reducible exact LeO.refl _)
      | (with_reducible exact LeO.none _)
      | (with_reducible refine LeO.ite ?_ ?_)
      | (with_reducible refine LeO.bind ?_ (fun _ => ?_))
      | exact ih0 _ _ _
      | exact columbariumref2_Crc.mono _ _
      | exact LeO.none _
      | refine LeO.ite ?_ ?_
      | refine LeO.bind ?_ (fun _ => ?_)
set_option maxHeartbeats 8000000 in
set_option maxRecDepth 100000 in
theorem columbariumref6_Open.calls (k : Nat) (A0 : Option Addr) (c0 : Nat) (l0 : List Int) (a1 : Int) (r1 : List Int) (r2 : Int) (r3 : Int) (w : World) (hr0 : Kd.C (Kd.int .u8) w A0 l0.length l0) (hc0 : l0.length ≤ c0) (h : columbariumref6_Open.f k l0 a1 = some (r1, r2, r3)) :
    Calls Try.prog 32 #[.slice A0 l0.length c0, .int .i64 a1] w fun e w' => ∃ v0_ : Value, e = .returned (.tuple #[v0_, .int .i64 r2, .int .i64 r3]) ∧ Kd.R (Kd.int .u8) 5 w' w.heap.size (fun _ => True) v0_ r1 ∧ Below w.heap.size w w' := by
  have HR0 := Aside0.mk hr0
  have HC0 := Aside0.mk hc0
  clear hr0 hc0
  have HB := Aside0.mk (Below.refl w.heap.size w)
  have H : (if a1 < 0 then (columbariumref6_Open.j0 k l0 a1 true) else (columbariumref6_Open.j0 k l0 a1 (decide (a1 > (l0.length : Int))))) = some (r1, r2, r3) := h
  clear h
  have HC3 := Aside0.mk H
  clear H
  go_enter Try.func32, Try.ntmps32
  go_upto_region 1 with (fail)
  go_cut [16] (fun v16 wc => ∃ (kq : Nat) (x16_2 : Bool), v16 = .bool x16_2 ∧ Aside0 (columbariumref6_Open.j0 kq l0 a1 x16_2 = some (r1, r2, r3)) ∧ Aside0 (kq ≤ k) ∧ Aside0 (Below w.heap.size w wc))
  case first =>
    have H := HC3.out
    clear HC3
    by_cases c4 : a1 < 0
    · rw [if_pos c4] at H
      have c4b0 : decide (a1 < 0) = true := decide_eq_true c4
      clear c4
      (first | rw [c4b0] | (simp only [i64_w, i32_w]; rw [c4b0]) | rw [c4b1] | skip)
      have H' := Aside0.mk H
      clear H
      go_wp2
      go_meet
      case rel => exact ⟨_, (true), (by first | rfl | (simp; done) | (simp [*]; done) | (refine congrArg (Value.int .i64) ?_; (try simp only [decide_eq_true_eq, decide_eq_false_iff_not] at *) <;> (unfold wrap64; omega))), H', ⟨by first | omega | exact Nat.le_refl _⟩, ⟨by repeat (first | (with_reducible first | exact HB.out | apply below_alloc | apply pw_below_drewN | apply below_drew1) | exact HB.out)⟩⟩
    · rw [if_neg c4] at H
      have c4b0 : decide (a1 < 0) = false := decide_eq_false c4
      clear c4
      (first | rw [c4b0] | (simp only [i64_w, i32_w]; rw [c4b0]) | rw [c4b1] | skip)
      have H' := Aside0.mk H
      clear H
      go_wp2
      go_meet
      case rel => exact ⟨_, (decide (a1 > (l0.length : Int))), (by first | rfl | (simp; done) | (simp [*]; done) | (refine congrArg (Value.int .i64) ?_; (try simp only [decide_eq_true_eq, decide_eq_false_iff_not] at *) <;> (unfold wrap64; omega))), H', ⟨by first | omega | exact Nat.le_refl _⟩, ⟨by repeat (first | (with_reducible first | exact HB.out | apply below_alloc | apply pw_below_drewN | apply below_drew1) | exact HB.out)⟩⟩
  case rest =>
    clear HC3
    try clear p2
    try clear c3
    try clear c4
    try clear c4b0
    try clear c4b1
    obtain ⟨kq, x16_2, rfl, HA, HJ2, HB⟩ := hcut
    cases kq with
    | zero => exact absurd HA.out (by simp [columbariumref6_Open.j0])
    | succ kj2 =>
      have H := HA.out
      clear HA
      simp only [columbariumref6_Open.j0] at H
      by_cases c5 : x16_2 = true
      · subst c5
        have H1 : (some (([] : List Int), 0, 1)) = some (r1, r2, r3) := by rw [if_pos rfl] at H; exact H
        clear H
        have H := H1
        clear H1
        simp only [Option.some.injEq, Prod.mk.injEq] at H
        obtain ⟨rfl, rfl, rfl⟩ := H
        go_wp2
        go_ret3
        exact ⟨_, by first | rfl | (simp [errW_none, errW_some] <;> rfl) | (simp [*, errW_none, errW_some] <;> rfl), by first | exact Kd.R_nil _ _ _ _ _ | exact Kd.N_nil _ _ _ _ _ | exact Kd.V_nil _ _ _ _ _ | exact Kd.Q_nil _ _ _ _ _ | exact Kd.S_nil _ _ _ _ _, by repeat (first | (with_reducible first | exact HB.out | apply below_alloc | apply pw_below_drewN | apply below_drew1) | exact HB.out)⟩
      · replace c5 := Bool.eq_false_iff.mpr c5
        subst c5
        have H1 : (if (wrap64 ((l0.length : Int) - a1)) < 8 then (some (([] : List Int), 0, 10)) else (if 0 ≤ a1 then (if a1 ≤ (l0.length : Int) then ((columbariumref6_get.f (l0.drop (a1 : Int).toNat)).bind fun t66003 => (if 0 ≤ (wrap64 (a1 + 4)) then (if (wrap64 (a1 + 4)) ≤ (l0.length : Int) then ((columbariumref6_get.f (l0.drop ((wrap64 (a1 + 4)) : Int).toNat)).bind fun t66006 => (if t66006 = (Go.bits .xor .u32 4294967295 t66003) then (if t66003 > 1048576 then (some (([] : List Int), 0, 3)) else (if (wrap64 ((wrap64 ((l0.length : Int) - a1)) - 8)) < (wrap64 ((wrap64 (t66003)) + 4)) then (some (([] : List Int), 0, 10)) else ((some (([] : List Int) : List Int)).bind fun y66007 => (if 0 ≤ (wrap64 (a1 + 8)) then (if (wrap64 (a1 + 8)) ≤ (wrap64 ((wrap64 (a1 + 8)) + (wrap64 (t66003)))) then (if (wrap64 ((wrap64 (a1 + 8)) + (wrap64 (t66003)))) ≤ (l0.length : Int) then ((some ((l0.take ((wrap64 ((wrap64 (a1 + 8)) + (wrap64 (t66003)))) : Int).toNat).drop ((wrap64 (a1 + 8)) : Int).toNat : List Int)).bind fun y66010 => (if y66007.length + y66010.length < 140737488355328 then ((some (y66007 ++ y66010 : List Int)).bind fun y66012 => (if 0 ≤ (wrap64 ((wrap64 (a1 + 8)) + (wrap64 (t66003)))) then ((columbariumref6_get.f (l0.drop ((wrap64 ((wrap64 (a1 + 8)) + (wrap64 (t66003)))) : Int).toNat)).bind fun t66017 => ((columbariumref2_Crc.f kj2 y66012).bind fun t66018 => (if t66017 = t66018 then (some (y66012, wrap64 ((wrap64 (a1 + 12)) + (wrap64 (t66003))), 0)) else (some (([] : List Int), 0, 14))))) else (none))) else (none))) else (none)) else (none)) else (none))))) else (some (([] : List Int), 0, 14)))) else (none)) else (none))) else (none)) else (none))) = some (r1, r2, r3) := by rw [if_neg (show ¬ (false = true) by decide)] at H; exact H
        clear H
        have H := H1
        clear H1
        by_cases c6 : (wrap64 ((l0.length : Int) - a1)) < 8
        · rw [if_pos c6] at H
          have c6b0 : decide ((wrap64 ((l0.length : Int) - a1)) < 8) = true := decide_eq_true c6
          clear c6
          simp only [Option.some.injEq, Prod.mk.injEq] at H
          obtain ⟨rfl, rfl, rfl⟩ := H
          go_wp2
          go_ret3
          exact ⟨_, by first | rfl | (simp [errW_none, errW_some] <;> rfl) | (simp [*, errW_none, errW_some] <;> rfl), by first | exact Kd.R_nil _ _ _ _ _ | exact Kd.N_nil _ _ _ _ _ | exact Kd.V_nil _ _ _ _ _ | exact Kd.Q_nil _ _ _ _ _ | exact Kd.S_nil _ _ _ _ _, by repeat (first | (with_reducible first | exact HB.out | apply below_alloc | apply pw_below_drewN | apply below_drew1) | exact HB.out)⟩
        · rw [if_neg c6] at H
          have c6b0 : decide ((wrap64 ((l0.length : Int) - a1)) < 8) = false := decide_eq_false c6
          clear c6
          by_cases c7 : 0 ≤ a1
          · rw [if_pos c7] at H
            have c7b0 := eq_true c7
            have c7b1 : decide (0 ≤ a1) = true := decide_eq_true c7
            clear c7
            by_cases c8 : a1 ≤ (l0.length : Int)
            · rw [if_pos c8] at H
              have c8b0 := eq_true c8
              have c8b1 : decide (a1 ≤ (l0.length : Int)) = true := decide_eq_true c8
              clear c8
              obtain ⟨y66001, hy66001⟩ : ∃ y_ : List Int, y_ = (l0.drop (a1 : Int).toNat) := ⟨_, rfl⟩
              replace H : ((columbariumref6_get.f y66001).bind fun t66003 => (if 0 ≤ (wrap64 (a1 + 4)) then (if (wrap64 (a1 + 4)) ≤ (l0.length : Int) then ((columbariumref6_get.f (l0.drop ((wrap64 (a1 + 4)) : Int).toNat)).bind fun t66006 => (if t66006 = (Go.bits .xor .u32 4294967295 t66003) then (if t66003 > 1048576 then (some (([] : List Int), 0, 3)) else (if (wrap64 ((wrap64 ((l0.length : Int) - a1)) - 8)) < (wrap64 ((wrap64 (t66003)) + 4)) then (some (([] : List Int), 0, 10)) else ((some (([] : List Int) : List Int)).bind fun y66007 => (if 0 ≤ (wrap64 (a1 + 8)) then (if (wrap64 (a1 + 8)) ≤ (wrap64 ((wrap64 (a1 + 8)) + (wrap64 (t66003)))) then (if (wrap64 ((wrap64 (a1 + 8)) + (wrap64 (t66003)))) ≤ (l0.length : Int) then ((some ((l0.take ((wrap64 ((wrap64 (a1 + 8)) + (wrap64 (t66003)))) : Int).toNat).drop ((wrap64 (a1 + 8)) : Int).toNat : List Int)).bind fun y66010 => (if y66007.length + y66010.length < 140737488355328 then ((some (y66007 ++ y66010 : List Int)).bind fun y66012 => (if 0 ≤ (wrap64 ((wrap64 (a1 + 8)) + (wrap64 (t66003)))) then ((columbariumref6_get.f (l0.drop ((wrap64 ((wrap64 (a1 + 8)) + (wrap64 (t66003)))) : Int).toNat)).bind fun t66017 => ((columbariumref2_Crc.f kj2 y66012).bind fun t66018 => (if t66017 = t66018 then (some (y66012, wrap64 ((wrap64 (a1 + 12)) + (wrap64 (t66003))), 0)) else (some (([] : List Int), 0, 14))))) else (none))) else (none))) else (none)) else (none)) else (none))))) else (some (([] : List Int), 0, 14)))) else (none)) else (none))) = some (r1, r2, r3) := by first | (rw [hy66001]; with_reducible exact H) | (have H2_ := (Option.bind_some _ _).symm.trans H; rw [hy66001]; with_reducible exact H2_) | (have H2_ := (Option.bind_some _ _).symm.trans H; with_reducible exact H2_) | with_reducible exact H | (rw [hy66001]; exact H) | exact H
              have Ny66001 := Aside0.mk hy66001
              clear hy66001
              replace H := Option.bind_eq_some_iff.mp H
              obtain ⟨t66003, A90, H⟩ := H
              replace H : (if 0 ≤ (wrap64 (a1 + 4)) then (if (wrap64 (a1 + 4)) ≤ (l0.length : Int) then ((columbariumref6_get.f (l0.drop ((wrap64 (a1 + 4)) : Int).toNat)).bind fun t66006 => (if t66006 = (Go.bits .xor .u32 4294967295 t66003) then (if t66003 > 1048576 then (some (([] : List Int), 0, 3)) else (if (wrap64 ((wrap64 ((l0.length : Int) - a1)) - 8)) < (wrap64 ((wrap64 (t66003)) + 4)) then (some (([] : List Int), 0, 10)) else ((some (([] : List Int) : List Int)).bind fun y66007 => (if 0 ≤ (wrap64 (a1 + 8)) then (if (wrap64 (a1 + 8)) ≤ (wrap64 ((wrap64 (a1 + 8)) + (wrap64 (t66003)))) then (if (wrap64 ((wrap64 (a1 + 8)) + (wrap64 (t66003)))) ≤ (l0.length : Int) then ((some ((l0.take ((wrap64 ((wrap64 (a1 + 8)) + (wrap64 (t66003)))) : Int).toNat).drop ((wrap64 (a1 + 8)) : Int).toNat : List Int)).bind fun y66010 => (if y66007.length + y66010.length < 140737488355328 then ((some (y66007 ++ y66010 : List Int)).bind fun y66012 => (if 0 ≤ (wrap64 ((wrap64 (a1 + 8)) + (wrap64 (t66003)))) then ((columbariumref6_get.f (l0.drop ((wrap64 ((wrap64 (a1 + 8)) + (wrap64 (t66003)))) : Int).toNat)).bind fun t66017 => ((columbariumref2_Crc.f kj2 y66012).bind fun t66018 => (if t66017 = t66018 then (some (y66012, wrap64 ((wrap64 (a1 + 12)) + (wrap64 (t66003))), 0)) else (some (([] : List Int), 0, 14))))) else (none))) else (none))) else (none)) else (none)) else (none))))) else (some (([] : List Int), 0, 14)))) else (none)) else (none)) = some (r1, r2, r3) := H
              have A9 := Aside0.mk A90
              clear A90
              obtain ⟨ji10, hji10⟩ : ∃ j_ : Int, (wrap64 (a1 + 4)) = j_ := ⟨_, rfl⟩
              replace H : (if 0 ≤ (ji10) then (if (ji10) ≤ (l0.length : Int) then ((columbariumref6_get.f (l0.drop ((ji10) : Int).toNat)).bind fun t66006 => (if t66006 = (Go.bits .xor .u32 4294967295 t66003) then (if t66003 > 1048576 then (some (([] : List Int), 0, 3)) else (if (wrap64 ((wrap64 ((l0.length : Int) - a1)) - 8)) < (wrap64 ((wrap64 (t66003)) + 4)) then (some (([] : List Int), 0, 10)) else ((some (([] : List Int) : List Int)).bind fun y66007 => (if 0 ≤ (wrap64 (a1 + 8)) then (if (wrap64 (a1 + 8)) ≤ (wrap64 ((wrap64 (a1 + 8)) + (wrap64 (t66003)))) then (if (wrap64 ((wrap64 (a1 + 8)) + (wrap64 (t66003)))) ≤ (l0.length : Int) then ((some ((l0.take ((wrap64 ((wrap64 (a1 + 8)) + (wrap64 (t66003)))) : Int).toNat).drop ((wrap64 (a1 + 8)) : Int).toNat : List Int)).bind fun y66010 => (if y66007.length + y66010.length < 140737488355328 then ((some (y66007 ++ y66010 : List Int)).bind fun y66012 => (if 0 ≤ (wrap64 ((wrap64 (a1 + 8)) + (wrap64 (t66003)))) then ((columbariumref6_get.f (l0.drop ((wrap64 ((wrap64 (a1 + 8)) + (wrap64 (t66003)))) : Int).toNat)).bind fun t66017 => ((columbariumref2_Crc.f kj2 y66012).bind fun t66018 => (if t66017 = t66018 then (some (y66012, wrap64 ((wrap64 (a1 + 12)) + (wrap64 (t66003))), 0)) else (some (([] : List Int), 0, 14))))) else (none))) else (none))) else (none)) else (none)) else (none))))) else (some (([] : List Int), 0, 14)))) else (none)) else (none)) = some (r1, r2, r3) := by first | (rw [hji10] at H; exact H) | (simp only [hji10] at H ⊢; exact H)
              (try rw [hji10] at A9)
              have hji10w : (IntKind.i64.wrap (a1 + 4)) = ji10 := (i64_w _).trans hji10
              (try ((have hji10v : (a1 + 4) = ji10 := by ((have h_ := hji10); ((try simp only [decide_eq_true_eq] at *) <;> (unfold wrap64 at h_; omega)))); (have hji10l : 0 ≤ ji10 := by ((have h_ := hji10); ((try simp only [decide_eq_true_eq] at *) <;> (unfold wrap64 at h_; omega)))); (have hji10u : ji10 ≤ 64 := by ((have h_ := hji10); ((try simp only [decide_eq_true_eq] at *) <;> (unfold wrap64 at h_; omega))))))
              by_cases c11 : 0 ≤ (ji10)
              · rw [if_pos c11] at H
                have c11b0 := eq_true c11
                have c11b1 : decide (0 ≤ (ji10)) = true := decide_eq_true c11
                clear c11
                by_cases c12 : (ji10) ≤ (l0.length : Int)
                · rw [if_pos c12] at H
                  have c12b0 := eq_true c12
                  have c12b1 : decide ((ji10) ≤ (l0.length : Int)) = true := decide_eq_true c12
                  clear c12
                  obtain ⟨y66004, hy66004⟩ : ∃ y_ : List Int, y_ = (l0.drop ((ji10) : Int).toNat) := ⟨_, rfl⟩
                  replace H : ((columbariumref6_get.f y66004).bind fun t66006 => (if t66006 = (Go.bits .xor .u32 4294967295 t66003) then (if t66003 > 1048576 then (some (([] : List Int), 0, 3)) else (if (wrap64 ((wrap64 ((l0.length : Int) - a1)) - 8)) < (wrap64 ((wrap64 (t66003)) + 4)) then (some (([] : List Int), 0, 10)) else ((some (([] : List Int) : List Int)).bind fun y66007 => (if 0 ≤ (wrap64 (a1 + 8)) then (if (wrap64 (a1 + 8)) ≤ (wrap64 ((wrap64 (a1 + 8)) + (wrap64 (t66003)))) then (if (wrap64 ((wrap64 (a1 + 8)) + (wrap64 (t66003)))) ≤ (l0.length : Int) then ((some ((l0.take ((wrap64 ((wrap64 (a1 + 8)) + (wrap64 (t66003)))) : Int).toNat).drop ((wrap64 (a1 + 8)) : Int).toNat : List Int)).bind fun y66010 => (if y66007.length + y66010.length < 140737488355328 then ((some (y66007 ++ y66010 : List Int)).bind fun y66012 => (if 0 ≤ (wrap64 ((wrap64 (a1 + 8)) + (wrap64 (t66003)))) then ((columbariumref6_get.f (l0.drop ((wrap64 ((wrap64 (a1 + 8)) + (wrap64 (t66003)))) : Int).toNat)).bind fun t66017 => ((columbariumref2_Crc.f kj2 y66012).bind fun t66018 => (if t66017 = t66018 then (some (y66012, wrap64 ((wrap64 (a1 + 12)) + (wrap64 (t66003))), 0)) else (some (([] : List Int), 0, 14))))) else (none))) else (none))) else (none)) else (none)) else (none))))) else (some (([] : List Int), 0, 14)))) = some (r1, r2, r3) := by first | (rw [hy66004]; with_reducible exact H) | (have H2_ := (Option.bind_some _ _).symm.trans H; rw [hy66004]; with_reducible exact H2_) | (have H2_ := (Option.bind_some _ _).symm.trans H; with_reducible exact H2_) | with_reducible exact H | (rw [hy66004]; exact H) | exact H
                  have Ny66004 := Aside0.mk hy66004
                  clear hy66004
                  replace H := Option.bind_eq_some_iff.mp H
                  obtain ⟨t66006, A130, H⟩ := H
                  replace H : (if t66006 = (Go.bits .xor .u32 4294967295 t66003) then (if t66003 > 1048576 then (some (([] : List Int), 0, 3)) else (if (wrap64 ((wrap64 ((l0.length : Int) - a1)) - 8)) < (wrap64 ((wrap64 (t66003)) + 4)) then (some (([] : List Int), 0, 10)) else ((some (([] : List Int) : List Int)).bind fun y66007 => (if 0 ≤ (wrap64 (a1 + 8)) then (if (wrap64 (a1 + 8)) ≤ (wrap64 ((wrap64 (a1 + 8)) + (wrap64 (t66003)))) then (if (wrap64 ((wrap64 (a1 + 8)) + (wrap64 (t66003)))) ≤ (l0.length : Int) then ((some ((l0.take ((wrap64 ((wrap64 (a1 + 8)) + (wrap64 (t66003)))) : Int).toNat).drop ((wrap64 (a1 + 8)) : Int).toNat : List Int)).bind fun y66010 => (if y66007.length + y66010.length < 140737488355328 then ((some (y66007 ++ y66010 : List Int)).bind fun y66012 => (if 0 ≤ (wrap64 ((wrap64 (a1 + 8)) + (wrap64 (t66003)))) then ((columbariumref6_get.f (l0.drop ((wrap64 ((wrap64 (a1 + 8)) + (wrap64 (t66003)))) : Int).toNat)).bind fun t66017 => ((columbariumref2_Crc.f kj2 y66012).bind fun t66018 => (if t66017 = t66018 then (some (y66012, wrap64 ((wrap64 (a1 + 12)) + (wrap64 (t66003))), 0)) else (some (([] : List Int), 0, 14))))) else (none))) else (none))) else (none)) else (none)) else (none))))) else (some (([] : List Int), 0, 14))) = some (r1, r2, r3) := H
                  have A13 := Aside0.mk A130
                  clear A130
                  by_cases c14 : t66006 = (Go.bits .xor .u32 4294967295 t66003)
                  · rw [if_pos c14] at H
                    have c14b0 : (t66006 == (Go.bits .xor .u32 4294967295 t66003)) = true := beq_iff_eq.mpr c14
                    have c14b1 : (t66006 != (Go.bits .xor .u32 4294967295 t66003)) = false := bne_eq_false_iff_eq.mpr c14
                    clear c14
                    by_cases c15 : t66003 > 1048576
                    · rw [if_pos c15] at H
                      have c15b0 : decide (1048576 < t66003) = true := decide_eq_true c15
                      clear c15
                      simp only [Option.some.injEq, Prod.mk.injEq] at H
                      obtain ⟨rfl, rfl, rfl⟩ := H
                      obtain ⟨i016, hi016, _, hsz16, _⟩ := info_parts info5
                      obtain ⟨A16, hcut16, hA16, hC16⟩ := print_drop_of (P := Try.prog) (Value.int .u8) 0 24 5 .i64 Try.underlying24 hi016 hsz16 A0 c0 l0 a1 (of_decide_eq_true (by first | (with_reducible assumption) | assumption)) (of_decide_eq_true (by first | (with_reducible assumption) | assumption)) HC0.out
                      have HR66002 := Aside0.mk (Kd.C_of_reads (h1 := fun _ => rfl) (hA16 _ (Kd.reads_of_C HR0.out)))
                      have HC66002 := Aside0.mk hC16
                      clear hA16 hC16 hi016 hsz16
                      rw [show (l0.drop (a1 : Int).toNat) = y66001 from Ny66001.out.symm] at hcut16
                      rw [show (l0.drop (a1 : Int).toNat) = y66001 from Ny66001.out.symm] at HR66002
                      rw [show (l0.drop (a1 : Int).toNat) = y66001 from Ny66001.out.symm] at HC66002
                      go_wp2_with (first | ((with_reducible refine gate_callee (f := 49) rfl ?_); refine goesL_ (some 25) rfl rfl Try.func49 (by kernel_rfl) rfl #[.slice A16 y66001.length (c0 - a1.toNat)] rfl (by (try simp only [List.map_toArray, List.map_cons, List.map_nil]); first | done | rfl | (simp only [List.length_drop, List.length_take]; rfl)) ?_; (with_reducible refine (columbariumref6_get.calls _ _ y66001 t66003 _ ?side1 ?side2 A9.out).mono ?_); (case side1 => repeat (first | exact (Kd.C_below HR66002.out HB.out) | (with_reducible refine Kd.C_alloc ?_ _) | (with_reducible refine Kd.C_drewN ?_ _) | (with_reducible refine Kd.C_drew ?_))); (case side2 => exact HC66002.out); rintro e w' ⟨rfl, ⟨nd, rfl⟩⟩; refine ⟨_, rfl, ?_⟩; obtain ⟨i017, hi017, _, hsz17, _⟩ := info_parts info5; obtain ⟨A17, hcut17, hA17, hC17⟩ := print_drop_of (P := Try.prog) (Value.int .u8) 0 24 5 .i64 Try.underlying24 hi017 hsz17 A0 c0 l0 (ji10) (of_decide_eq_true (by first | (with_reducible assumption) | assumption)) (of_decide_eq_true (by first | (with_reducible assumption) | assumption)) HC0.out; have HR66005 := Aside0.mk (Kd.C_of_reads (h1 := fun _ => rfl) (hA17 _ (Kd.reads_of_C HR0.out))); have HC66005 := Aside0.mk hC17; clear hA17 hC17 hi017 hsz17; rw [show (l0.drop ((ji10) : Int).toNat) = y66004 from Ny66004.out.symm] at hcut17; rw [show (l0.drop ((ji10) : Int).toNat) = y66004 from Ny66004.out.symm] at HR66005; rw [show (l0.drop ((ji10) : Int).toNat) = y66004 from Ny66004.out.symm] at HC66005) | ((with_reducible refine gate_callee (f := 49) rfl ?_); refine goesL_ (some 30) rfl rfl Try.func49 (by kernel_rfl) rfl #[.slice A17 y66004.length (c0 - (ji10).toNat)] rfl (by (try simp only [List.map_toArray, List.map_cons, List.map_nil]); first | done | (simp only [hji10]; rfl) | rfl | (simp only [List.length_drop, List.length_take]; rfl)) ?_; (with_reducible refine (columbariumref6_get.calls _ _ y66004 t66006 _ ?side1 ?side2 A13.out).mono ?_); (case side1 => repeat (first | exact (Kd.C_below HR66005.out (by repeat (first | (with_reducible first | exact HB.out | apply below_alloc | apply pw_below_drewN | apply below_drew1) | exact HB.out))) | (with_reducible refine Kd.C_alloc ?_ _) | (with_reducible refine Kd.C_drewN ?_ _) | (with_reducible refine Kd.C_drew ?_))); (case side2 => exact HC66005.out); rintro e w' ⟨rfl, ⟨nd, rfl⟩⟩; refine ⟨_, rfl, ?_⟩))
                      go_ret3
                      exact ⟨_, by first | rfl | (simp [errW_none, errW_some] <;> rfl) | (simp only [← hji10]; first | rfl | (simp [errW_none, errW_some] <;> rfl)) | (simp [*, errW_none, errW_some] <;> rfl), by first | exact Kd.R_nil _ _ _ _ _ | exact Kd.N_nil _ _ _ _ _ | exact Kd.V_nil _ _ _ _ _ | exact Kd.Q_nil _ _ _ _ _ | exact Kd.S_nil _ _ _ _ _, by repeat (first | (with_reducible first | exact HB.out | apply below_alloc | apply pw_below_drewN | apply below_drew1) | exact HB.out)⟩
                    · rw [if_neg c15] at H
                      have c15b0 : decide (1048576 < t66003) = false := decide_eq_false c15
                      clear c15
                      by_cases c18 : (wrap64 ((wrap64 ((l0.length : Int) - a1)) - 8)) < (wrap64 ((wrap64 (t66003)) + 4))
                      · rw [if_pos c18] at H
                        have c18b0 : decide ((wrap64 ((wrap64 ((l0.length : Int) - a1)) - 8)) < (wrap64 ((wrap64 (t66003)) + 4))) = true := decide_eq_true c18
                        clear c18
                        simp only [Option.some.injEq, Prod.mk.injEq] at H
                        obtain ⟨rfl, rfl, rfl⟩ := H
                        obtain ⟨i019, hi019, _, hsz19, _⟩ := info_parts info5
                        obtain ⟨A19, hcut19, hA19, hC19⟩ := print_drop_of (P := Try.prog) (Value.int .u8) 0 24 5 .i64 Try.underlying24 hi019 hsz19 A0 c0 l0 a1 (of_decide_eq_true (by first | (with_reducible assumption) | assumption)) (of_decide_eq_true (by first | (with_reducible assumption) | assumption)) HC0.out
                        have HR66002 := Aside0.mk (Kd.C_of_reads (h1 := fun _ => rfl) (hA19 _ (Kd.reads_of_C HR0.out)))
                        have HC66002 := Aside0.mk hC19
                        clear hA19 hC19 hi019 hsz19
                        rw [show (l0.drop (a1 : Int).toNat) = y66001 from Ny66001.out.symm] at hcut19
                        rw [show (l0.drop (a1 : Int).toNat) = y66001 from Ny66001.out.symm] at HR66002
                        rw [show (l0.drop (a1 : Int).toNat) = y66001 from Ny66001.out.symm] at HC66002
                        go_wp2_with (first | ((with_reducible refine gate_callee (f := 49) rfl ?_); refine goesL_ (some 25) rfl rfl Try.func49 (by kernel_rfl) rfl #[.slice A19 y66001.length (c0 - a1.toNat)] rfl (by (try simp only [List.map_toArray, List.map_cons, List.map_nil]); first | done | rfl | (simp only [List.length_drop, List.length_take]; rfl)) ?_; (with_reducible refine (columbariumref6_get.calls _ _ y66001 t66003 _ ?side1 ?side2 A9.out).mono ?_); (case side1 => repeat (first | exact (Kd.C_below HR66002.out HB.out) | (with_reducible refine Kd.C_alloc ?_ _) | (with_reducible refine Kd.C_drewN ?_ _) | (with_reducible refine Kd.C_drew ?_))); (case side2 => exact HC66002.out); rintro e w' ⟨rfl, ⟨nd, rfl⟩⟩; refine ⟨_, rfl, ?_⟩; obtain ⟨i020, hi020, _, hsz20, _⟩ := info_parts info5; obtain ⟨A20, hcut20, hA20, hC20⟩ := print_drop_of (P := Try.prog) (Value.int .u8) 0 24 5 .i64 Try.underlying24 hi020 hsz20 A0 c0 l0 (ji10) (of_decide_eq_true (by first | (with_reducible assumption) | assumption)) (of_decide_eq_true (by first | (with_reducible assumption) | assumption)) HC0.out; have HR66005 := Aside0.mk (Kd.C_of_reads (h1 := fun _ => rfl) (hA20 _ (Kd.reads_of_C HR0.out))); have HC66005 := Aside0.mk hC20; clear hA20 hC20 hi020 hsz20; rw [show (l0.drop ((ji10) : Int).toNat) = y66004 from Ny66004.out.symm] at hcut20; rw [show (l0.drop ((ji10) : Int).toNat) = y66004 from Ny66004.out.symm] at HR66005; rw [show (l0.drop ((ji10) : Int).toNat) = y66004 from Ny66004.out.symm] at HC66005) | ((with_reducible refine gate_callee (f := 49) rfl ?_); refine goesL_ (some 30) rfl rfl Try.func49 (by kernel_rfl) rfl #[.slice A20 y66004.length (c0 - (ji10).toNat)] rfl (by (try simp only [List.map_toArray, List.map_cons, List.map_nil]); first | done | (simp only [hji10]; rfl) | rfl | (simp only [List.length_drop, List.length_take]; rfl)) ?_; (with_reducible refine (columbariumref6_get.calls _ _ y66004 t66006 _ ?side1 ?side2 A13.out).mono ?_); (case side1 => repeat (first | exact (Kd.C_below HR66005.out (by repeat (first | (with_reducible first | exact HB.out | apply below_alloc | apply pw_below_drewN | apply below_drew1) | exact HB.out))) | (with_reducible refine Kd.C_alloc ?_ _) | (with_reducible refine Kd.C_drewN ?_ _) | (with_reducible refine Kd.C_drew ?_))); (case side2 => exact HC66005.out); rintro e w' ⟨rfl, ⟨nd, rfl⟩⟩; refine ⟨_, rfl, ?_⟩))
                        go_ret3
                        exact ⟨_, by first | rfl | (simp [errW_none, errW_some] <;> rfl) | (simp only [← hji10]; first | rfl | (simp [errW_none, errW_some] <;> rfl)) | (simp [*, errW_none, errW_some] <;> rfl), by first | exact Kd.R_nil _ _ _ _ _ | exact Kd.N_nil _ _ _ _ _ | exact Kd.V_nil _ _ _ _ _ | exact Kd.Q_nil _ _ _ _ _ | exact Kd.S_nil _ _ _ _ _, by repeat (first | (with_reducible first | exact HB.out | apply below_alloc | apply pw_below_drewN | apply below_drew1) | exact HB.out)⟩
                      · rw [if_neg c18] at H
                        have c18b0 : decide ((wrap64 ((wrap64 ((l0.length : Int) - a1)) - 8)) < (wrap64 ((wrap64 (t66003)) + 4))) = false := decide_eq_false c18
                        clear c18
                        obtain ⟨y66007, hy66007⟩ : ∃ y_ : List Int, y_ = (([] : List Int)) := ⟨_, rfl⟩
                        replace H : (if 0 ≤ (wrap64 (a1 + 8)) then (if (wrap64 (a1 + 8)) ≤ (wrap64 ((wrap64 (a1 + 8)) + (wrap64 (t66003)))) then (if (wrap64 ((wrap64 (a1 + 8)) + (wrap64 (t66003)))) ≤ (l0.length : Int) then ((some ((l0.take ((wrap64 ((wrap64 (a1 + 8)) + (wrap64 (t66003)))) : Int).toNat).drop ((wrap64 (a1 + 8)) : Int).toNat : List Int)).bind fun y66010 => (if y66007.length + y66010.length < 140737488355328 then ((some (y66007 ++ y66010 : List Int)).bind fun y66012 => (if 0 ≤ (wrap64 ((wrap64 (a1 + 8)) + (wrap64 (t66003)))) then ((columbariumref6_get.f (l0.drop ((wrap64 ((wrap64 (a1 + 8)) + (wrap64 (t66003)))) : Int).toNat)).bind fun t66017 => ((columbariumref2_Crc.f kj2 y66012).bind fun t66018 => (if t66017 = t66018 then (some (y66012, wrap64 ((wrap64 (a1 + 12)) + (wrap64 (t66003))), 0)) else (some (([] : List Int), 0, 14))))) else (none))) else (none))) else (none)) else (none)) else (none)) = some (r1, r2, r3) := by first | (rw [hy66007]; with_reducible exact H) | (have H2_ := (Option.bind_some _ _).symm.trans H; rw [hy66007]; with_reducible exact H2_) | (have H2_ := (Option.bind_some _ _).symm.trans H; with_reducible exact H2_) | with_reducible exact H | (rw [hy66007]; exact H) | exact H
                        have Ny66007 := Aside0.mk hy66007
                        clear hy66007
                        obtain ⟨ji21, hji21⟩ : ∃ j_ : Int, (wrap64 (a1 + 8)) = j_ := ⟨_, rfl⟩
                        replace H : (if 0 ≤ (ji21) then (if (ji21) ≤ (wrap64 ((ji21) + (wrap64 (t66003)))) then (if (wrap64 ((ji21) + (wrap64 (t66003)))) ≤ (l0.length : Int) then ((some ((l0.take ((wrap64 ((ji21) + (wrap64 (t66003)))) : Int).toNat).drop ((ji21) : Int).toNat : List Int)).bind fun y66010 => (if y66007.length + y66010.length < 140737488355328 then ((some (y66007 ++ y66010 : List Int)).bind fun y66012 => (if 0 ≤ (wrap64 ((ji21) + (wrap64 (t66003)))) then ((columbariumref6_get.f (l0.drop ((wrap64 ((ji21) + (wrap64 (t66003)))) : Int).toNat)).bind fun t66017 => ((columbariumref2_Crc.f kj2 y66012).bind fun t66018 => (if t66017 = t66018 then (some (y66012, wrap64 ((wrap64 (a1 + 12)) + (wrap64 (t66003))), 0)) else (some (([] : List Int), 0, 14))))) else (none))) else (none))) else (none)) else (none)) else (none)) = some (r1, r2, r3) := by first | (rw [hji21] at H; exact H) | (simp only [hji21] at H ⊢; exact H)
                        (try rw [hji21] at A9)
                        (try rw [hji21] at A13)
                        have hji21w : (IntKind.i64.wrap (a1 + 8)) = ji21 := (i64_w _).trans hji21
                        (try ((have hji21v : (a1 + 8) = ji21 := by ((have h_ := hji21); ((try simp only [decide_eq_true_eq] at *) <;> (unfold wrap64 at h_; omega)))); (have hji21l : 0 ≤ ji21 := by ((have h_ := hji21); ((try simp only [decide_eq_true_eq] at *) <;> (unfold wrap64 at h_; omega)))); (have hji21u : ji21 ≤ 64 := by ((have h_ := hji21); ((try simp only [decide_eq_true_eq] at *) <;> (unfold wrap64 at h_; omega))))))
                        by_cases c22 : 0 ≤ (ji21)
                        · rw [if_pos c22] at H
                          have c22b0 := eq_true c22
                          have c22b1 : decide (0 ≤ (ji21)) = true := decide_eq_true c22
                          clear c22
                          by_cases c23 : (ji21) ≤ (wrap64 ((ji21) + (wrap64 (t66003))))
                          · rw [if_pos c23] at H
                            have c23b0 := eq_true c23
                            have c23b1 : decide ((ji21) ≤ (wrap64 ((ji21) + (wrap64 (t66003))))) = true := decide_eq_true c23
                            by_cases c24 : (wrap64 ((ji21) + (wrap64 (t66003)))) ≤ (l0.length : Int)
                            · rw [if_pos c24] at H
                              have c24b0 := eq_true c24
                              have c24b1 : decide ((wrap64 ((ji21) + (wrap64 (t66003)))) ≤ (l0.length : Int)) = true := decide_eq_true c24
                              obtain ⟨y66010, hy66010⟩ : ∃ y_ : List Int, y_ = ((l0.take ((wrap64 ((ji21) + (wrap64 (t66003)))) : Int).toNat).drop ((ji21) : Int).toNat) := ⟨_, rfl⟩
                              replace H : (if y66007.length + y66010.length < 140737488355328 then ((some (y66007 ++ y66010 : List Int)).bind fun y66012 => (if 0 ≤ (wrap64 ((ji21) + (wrap64 (t66003)))) then ((columbariumref6_get.f (l0.drop ((wrap64 ((ji21) + (wrap64 (t66003)))) : Int).toNat)).bind fun t66017 => ((columbariumref2_Crc.f kj2 y66012).bind fun t66018 => (if t66017 = t66018 then (some (y66012, wrap64 ((wrap64 (a1 + 12)) + (wrap64 (t66003))), 0)) else (some (([] : List Int), 0, 14))))) else (none))) else (none)) = some (r1, r2, r3) := by first | (rw [hy66010]; with_reducible exact H) | (have H2_ := (Option.bind_some _ _).symm.trans H; rw [hy66010]; with_reducible exact H2_) | (have H2_ := (Option.bind_some _ _).symm.trans H; with_reducible exact H2_) | with_reducible exact H | (rw [hy66010]; exact H) | exact H
                              have Ny66010 := Aside0.mk hy66010
                              clear hy66010
                              by_cases c25 : y66007.length + y66010.length < 140737488355328
                              · rw [if_pos c25] at H
                                have LMc25 := Aside0.mk c25
                                clear c25
                                obtain ⟨y66012, hy66012⟩ : ∃ y_ : List Int, y_ = (y66007 ++ y66010) := ⟨_, rfl⟩
                                replace H : (if 0 ≤ (wrap64 ((ji21) + (wrap64 (t66003)))) then ((columbariumref6_get.f (l0.drop ((wrap64 ((ji21) + (wrap64 (t66003)))) : Int).toNat)).bind fun t66017 => ((columbariumref2_Crc.f kj2 y66012).bind fun t66018 => (if t66017 = t66018 then (some (y66012, wrap64 ((wrap64 (a1 + 12)) + (wrap64 (t66003))), 0)) else (some (([] : List Int), 0, 14))))) else (none)) = some (r1, r2, r3) := by first | (rw [hy66012]; with_reducible exact H) | (have H2_ := (Option.bind_some _ _).symm.trans H; rw [hy66012]; with_reducible exact H2_) | (have H2_ := (Option.bind_some _ _).symm.trans H; with_reducible exact H2_) | with_reducible exact H | (rw [hy66012]; exact H) | exact H
                                have Ny66012 := Aside0.mk hy66012
                                clear hy66012
                                obtain ⟨ji26, hji26⟩ : ∃ j_ : Int, (wrap64 ((ji21) + (wrap64 (t66003)))) = j_ := ⟨_, rfl⟩
                                replace H : (if 0 ≤ (ji26) then ((columbariumref6_get.f (l0.drop ((ji26) : Int).toNat)).bind fun t66017 => ((columbariumref2_Crc.f kj2 y66012).bind fun t66018 => (if t66017 = t66018 then (some (y66012, wrap64 ((wrap64 (a1 + 12)) + (wrap64 (t66003))), 0)) else (some (([] : List Int), 0, 14))))) else (none)) = some (r1, r2, r3) := by first | (rw [hji26] at H; exact H) | (simp only [hji26] at H ⊢; exact H)
                                (try rw [hji26] at c23b0)
                                (try rw [hji26] at c23b1)
                                (try rw [hji26] at c23)
                                (try rw [hji26] at c24b0)
                                (try rw [hji26] at c24b1)
                                (try rw [hji26] at c24)
                                (try rw [hji26] at A9)
                                (try rw [hji26] at A13)
                                (try rw [hji26] at Ny66010)
                                (try rw [hji26] at Ny66010)
                                have hji26w : (IntKind.i64.wrap ((ji21) + (wrap64 (t66003)))) = ji26 := (i64_w _).trans hji26
                                (try ((have hji26v : ((ji21) + (wrap64 (t66003))) = ji26 := by ((have h_ := hji26); ((try simp only [decide_eq_true_eq] at *) <;> (unfold wrap64 at h_; omega)))); (have hji26l : 0 ≤ ji26 := by ((have h_ := hji26); ((try simp only [decide_eq_true_eq] at *) <;> (unfold wrap64 at h_; omega)))); (have hji26u : ji26 ≤ 64 := by ((have h_ := hji26); ((try simp only [decide_eq_true_eq] at *) <;> (unfold wrap64 at h_; omega))))))
                                by_cases c27 : 0 ≤ (ji26)
                                · rw [if_pos c27] at H
                                  have c27b0 := eq_true c27
                                  have c27b1 : decide (0 ≤ (ji26)) = true := decide_eq_true c27
                                  clear c27
                                  have c28b0 := eq_true (of_decide_eq_true (by first | (with_reducible assumption) | assumption) : (ji26) ≤ (l0.length : Int))
                                  obtain ⟨y66015, hy66015⟩ : ∃ y_ : List Int, y_ = (l0.drop ((ji26) : Int).toNat) := ⟨_, rfl⟩
                                  replace H : ((columbariumref6_get.f y66015).bind fun t66017 => ((columbariumref2_Crc.f kj2 y66012).bind fun t66018 => (if t66017 = t66018 then (some (y66012, wrap64 ((wrap64 (a1 + 12)) + (wrap64 (t66003))), 0)) else (some (([] : List Int), 0, 14))))) = some (r1, r2, r3) := by first | (rw [hy66015]; with_reducible exact H) | (have H2_ := (Option.bind_some _ _).symm.trans H; rw [hy66015]; with_reducible exact H2_) | (have H2_ := (Option.bind_some _ _).symm.trans H; with_reducible exact H2_) | with_reducible exact H | (rw [hy66015]; exact H) | exact H
                                  have Ny66015 := Aside0.mk hy66015
                                  clear hy66015
                                  replace H := Option.bind_eq_some_iff.mp H
                                  obtain ⟨t66017, A290, H⟩ := H
                                  replace H : ((columbariumref2_Crc.f kj2 y66012).bind fun t66018 => (if t66017 = t66018 then (some (y66012, wrap64 ((wrap64 (a1 + 12)) + (wrap64 (t66003))), 0)) else (some (([] : List Int), 0, 14)))) = some (r1, r2, r3) := H
                                  have A29 := Aside0.mk A290
                                  clear A290
                                  replace H := Option.bind_eq_some_iff.mp H
                                  obtain ⟨t66018, A300, H⟩ := H
                                  replace H : (if t66017 = t66018 then (some (y66012, wrap64 ((wrap64 (a1 + 12)) + (wrap64 (t66003))), 0)) else (some (([] : List Int), 0, 14))) = some (r1, r2, r3) := H
                                  have A30 := Aside0.mk A300
                                  clear A300
                                  by_cases c31 : t66017 = t66018
                                  · rw [if_pos c31] at H
                                    have c31b0 : (t66017 == t66018) = true := beq_iff_eq.mpr c31
                                    have c31b1 : (t66017 != t66018) = false := bne_eq_false_iff_eq.mpr c31
                                    clear c31
                                    simp only [Option.some.injEq, Prod.mk.injEq] at H
                                    obtain ⟨rfl, rfl, rfl⟩ := H
                                    obtain ⟨i032, hi032, _, hsz32, _⟩ := info_parts info5
                                    obtain ⟨A32, hcut32, hA32, hC32⟩ := print_drop_of (P := Try.prog) (Value.int .u8) 0 24 5 .i64 Try.underlying24 hi032 hsz32 A0 c0 l0 a1 (of_decide_eq_true (by first | (with_reducible assumption) | assumption)) (of_decide_eq_true (by first | (with_reducible assumption) | assumption)) HC0.out
                                    have HR66002 := Aside0.mk (Kd.C_of_reads (h1 := fun _ => rfl) (hA32 _ (Kd.reads_of_C HR0.out)))
                                    have HC66002 := Aside0.mk hC32
                                    clear hA32 hC32 hi032 hsz32
                                    rw [show (l0.drop (a1 : Int).toNat) = y66001 from Ny66001.out.symm] at hcut32
                                    rw [show (l0.drop (a1 : Int).toNat) = y66001 from Ny66001.out.symm] at HR66002
                                    rw [show (l0.drop (a1 : Int).toNat) = y66001 from Ny66001.out.symm] at HC66002
                                    go_wp2_with (first | ((with_reducible refine gate_callee (f := 49) rfl ?_); refine goesL_ (some 25) rfl rfl Try.func49 (by kernel_rfl) rfl #[.slice A32 y66001.length (c0 - a1.toNat)] rfl (by (try simp only [List.map_toArray, List.map_cons, List.map_nil]); first | done | rfl | (simp only [List.length_drop, List.length_take]; rfl)) ?_; (with_reducible refine (columbariumref6_get.calls _ _ y66001 t66003 _ ?side1 ?side2 A9.out).mono ?_); (case side1 => repeat (first | exact (Kd.C_below HR66002.out HB.out) | (with_reducible refine Kd.C_alloc ?_ _) | (with_reducible refine Kd.C_drewN ?_ _) | (with_reducible refine Kd.C_drew ?_))); (case side2 => exact HC66002.out); rintro e w' ⟨rfl, ⟨nd, rfl⟩⟩; refine ⟨_, rfl, ?_⟩; obtain ⟨i033, hi033, _, hsz33, _⟩ := info_parts info5; obtain ⟨A33, hcut33, hA33, hC33⟩ := print_drop_of (P := Try.prog) (Value.int .u8) 0 24 5 .i64 Try.underlying24 hi033 hsz33 A0 c0 l0 (ji10) (of_decide_eq_true (by first | (with_reducible assumption) | assumption)) (of_decide_eq_true (by first | (with_reducible assumption) | assumption)) HC0.out; have HR66005 := Aside0.mk (Kd.C_of_reads (h1 := fun _ => rfl) (hA33 _ (Kd.reads_of_C HR0.out))); have HC66005 := Aside0.mk hC33; clear hA33 hC33 hi033 hsz33; rw [show (l0.drop ((ji10) : Int).toNat) = y66004 from Ny66004.out.symm] at hcut33; rw [show (l0.drop ((ji10) : Int).toNat) = y66004 from Ny66004.out.symm] at HR66005; rw [show (l0.drop ((ji10) : Int).toNat) = y66004 from Ny66004.out.symm] at HC66005) | ((with_reducible refine gate_callee (f := 49) rfl ?_); refine goesL_ (some 30) rfl rfl Try.func49 (by kernel_rfl) rfl #[.slice A33 y66004.length (c0 - (ji10).toNat)] rfl (by (try simp only [List.map_toArray, List.map_cons, List.map_nil]); first | done | (simp only [hji10]; rfl) | rfl | (simp only [List.length_drop, List.length_take]; rfl)) ?_; (with_reducible refine (columbariumref6_get.calls _ _ y66004 t66006 _ ?side1 ?side2 A13.out).mono ?_); (case side1 => repeat (first | exact (Kd.C_below HR66005.out (by repeat (first | (with_reducible first | exact HB.out | apply below_alloc | apply pw_below_drewN | apply below_drew1) | exact HB.out))) | (with_reducible refine Kd.C_alloc ?_ _) | (with_reducible refine Kd.C_drewN ?_ _) | (with_reducible refine Kd.C_drew ?_))); (case side2 => exact HC66005.out); rintro e w' ⟨rfl, ⟨nd, rfl⟩⟩; refine ⟨_, rfl, ?_⟩) | ((with_reducible refine gate_dst (N := 45) rfl ?_); (try (refine gate_guard (by rfl) ?_; dsimp only)); refine Kd.R_lit (Kd.int .u8) _ 5 ?hg (N := 45) ?hd (xs := ([] : List Int)) (inner := []) (ok := fun _ => True) (okp := fun _ => True) ?hr ?hp (fun _ hk => hk) trivial (Below.refl _ _) (Nat.le_refl _) (by simp) ?_; (case hd => rfl); (case hg => rfl); (case hr => first | (go_simp; done) | (go_simp; rfl)); (case hp => exact (Reps.none _ _)); intro v66008 w34 ho35 hb hg_ hnew_; clear hg_ hnew_; (first | rw [← Ny66007.out] at ho35 | (simp only [Int.reduceToNat] at ho35; rw [← Ny66007.out] at ho35)); have n0_ := Aside0.mk (Kd.R_lower ho35 (below_size (by repeat (first | (with_reducible first | exact HB.out | apply below_alloc | apply pw_below_drewN | apply below_drew1) | exact HB.out)))); have n1_ := Aside0.mk (below_step (by repeat (first | (with_reducible first | exact HB.out | apply below_alloc | apply pw_below_drewN | apply below_drew1) | exact HB.out)) hb); clear HB; have HO66009 := n0_; have HB := n1_; clear n0_ n1_; clear hb ho35; obtain ⟨i036, hi036, _, hsz36, _⟩ := info_parts info5; obtain ⟨A36, hcut36, hA36, hC36⟩ := print_mid_of (P := Try.prog) (Value.int .u8) 0 24 5 .i64 .i64 Try.underlying24 hi036 hsz36 A0 c0 l0 (ji21) (ji26) (of_decide_eq_true (by first | (with_reducible assumption) | assumption)) (by first | omega | exact of_decide_eq_true (by first | (with_reducible assumption) | assumption)) (of_decide_eq_true (by first | (with_reducible assumption) | assumption)) HC0.out; have HR66011 := Aside0.mk (Kd.C_of_reads (h1 := fun _ => rfl) (hA36 _ (Kd.reads_of_C HR0.out))); have HC66011 := Aside0.mk hC36; clear hA36 hC36 hi036 hsz36; rw [show ((l0.take ((ji26) : Int).toNat).drop ((ji21) : Int).toNat) = y66010 from Ny66010.out.symm] at hcut36; rw [show ((l0.take ((ji26) : Int).toNat).drop ((ji21) : Int).toNat) = y66010 from Ny66010.out.symm] at HR66011; rw [show ((l0.take ((ji26) : Int).toNat).drop ((ji21) : Int).toNat) = y66010 from Ny66010.out.symm] at HC66011) | ((with_reducible refine gate_builtin (b := .append) (xs := #[.tmp 45, .tmp 54]) rfl ?_); (try (refine gate_guard (by rfl) ?_; dsimp only)); at_builtin; refine Kd.R_append_rows (Kd.int .u8) (w0 := w) w.heap.size rfl (.tmp 45) (.tmp 54) 24 5 (.int .u8 0) 1 rfl Try.underlying24 info5 rfl (by decide) (by omega) v66008 y66007 y66010 _ _ _ (fun _ => True) (fun _ => False) rfl rfl ?aO ?aR (fun _ _ h => h) (fun _ h => h.elim) ?aF ?aB ?aS ?aL ?_; (case aR => repeat (first | exact (Kd.C_below HR66011.out HB.out) | (with_reducible refine Kd.C_alloc ?_ _) | (with_reducible refine Kd.C_drewN ?_ _) | (with_reducible refine Kd.C_drew ?_))); (case aB => exact (by repeat (first | (with_reducible first | exact HB.out | apply below_alloc | apply pw_below_drewN | apply below_drew1) | exact HB.out))); (case aF => exact (fun _ _ => trivial)); (case aO => exact (by (with_reducible repeat (first | apply Kd.R_alloc | apply Kd.R_drewN | apply Kd.R_drew)); exact HO66009.out)); (case aS => exact (below_size (by repeat (first | (with_reducible first | exact HB.out | apply below_alloc | apply pw_below_drewN | apply below_drew1) | exact HB.out)))); (case aL => have := LMc25.out; omega); intro v66013 w37 ho hb hg hat; rw [← Ny66012.out] at ho; have n0_ := Aside0.mk (hb); have n1_ := Aside0.mk (ho); clear HB; clear HO66009; have HB := n0_; have HO66014 := n1_; clear n0_ n1_; clear ho hb hg hat; obtain ⟨i038, hi038, _, hsz38, _⟩ := info_parts info5; obtain ⟨A38, hcut38, hA38, hC38⟩ := print_drop_of (P := Try.prog) (Value.int .u8) 0 24 5 .i64 Try.underlying24 hi038 hsz38 A0 c0 l0 (ji26) (of_decide_eq_true (by first | (with_reducible assumption) | assumption)) (of_decide_eq_true (by first | (with_reducible assumption) | assumption)) HC0.out; have HR66016 := Aside0.mk (Kd.C_of_reads (h1 := fun _ => rfl) (hA38 _ (Kd.reads_of_C HR0.out))); have HC66016 := Aside0.mk hC38; clear hA38 hC38 hi038 hsz38; rw [show (l0.drop ((ji26) : Int).toNat) = y66015 from Ny66015.out.symm] at hcut38; rw [show (l0.drop ((ji26) : Int).toNat) = y66015 from Ny66015.out.symm] at HR66016; rw [show (l0.drop ((ji26) : Int).toNat) = y66015 from Ny66015.out.symm] at HC66016) | ((with_reducible refine gate_callee (f := 49) rfl ?_); refine goesL_ (some 63) rfl rfl Try.func49 (by kernel_rfl) rfl #[.slice A38 y66015.length (c0 - (ji26).toNat)] rfl (by (try simp only [List.map_toArray, List.map_cons, List.map_nil]); first | done | (simp only [hji26]; rfl) | rfl | (simp only [List.length_drop, List.length_take]; rfl)) ?_; (with_reducible refine (columbariumref6_get.calls _ _ y66015 t66017 _ ?side1 ?side2 A29.out).mono ?_); (case side1 => repeat (first | exact (Kd.C_below HR66016.out HB.out) | (with_reducible refine Kd.C_alloc ?_ _) | (with_reducible refine Kd.C_drewN ?_ _) | (with_reducible refine Kd.C_drew ?_))); (case side2 => exact HC66016.out); rintro e w' ⟨rfl, ⟨nd, rfl⟩⟩; refine ⟨_, rfl, ?_⟩; obtain ⟨Ao39, co39, eo39⟩ := Kd.R_slice HO66014.out; subst eo39) | ((with_reducible refine gate_callee (f := 48) rfl ?_); refine goesL_ (some 65) rfl rfl Try.func48 (by kernel_rfl) rfl #[.slice Ao39 y66012.length co39] rfl (by (try simp only [List.map_toArray, List.map_cons, List.map_nil]); first | done | rfl | (simp only [List.length_drop, List.length_take]; rfl)) ?_; (with_reducible refine (columbariumref2_Crc.calls kj2 _ _ y66012 t66018 _ ?side1 ?side2 A30.out).mono ?_); (case side1 => repeat (first | exact (Kd.R_reads' HO66014.out).2.2 | (with_reducible refine Kd.C_alloc ?_ _) | (with_reducible refine Kd.C_drewN ?_ _) | (with_reducible refine Kd.C_drew ?_))); (case side2 => exact (Kd.R_reads' HO66014.out).2.1); rintro e w' ⟨rfl, ⟨nd, rfl⟩⟩; refine ⟨_, rfl, ?_⟩))
                                    go_ret3
                                    exact ⟨_, by first | rfl | (simp [errW_none, errW_some] <;> rfl) | (simp only [← hji10, ← hji21, ← hji26]; first | rfl | (simp [errW_none, errW_some] <;> rfl)) | (simp [*, errW_none, errW_some] <;> rfl), by (with_reducible repeat (first | apply Kd.R_alloc | apply Kd.R_drewN | apply Kd.R_drew)); exact HO66014.out, by repeat (first | (with_reducible first | exact HB.out | apply below_alloc | apply pw_below_drewN | apply below_drew1) | exact HB.out)⟩
                                  · rw [if_neg c31] at H
                                    have c31b0 : (t66017 == t66018) = false := beq_eq_false_iff_ne.mpr c31
                                    have c31b1 : (t66017 != t66018) = true := bne_iff_ne.mpr c31
                                    simp only [Option.some.injEq, Prod.mk.injEq] at H
                                    obtain ⟨rfl, rfl, rfl⟩ := H
                                    obtain ⟨i040, hi040, _, hsz40, _⟩ := info_parts info5
                                    obtain ⟨A40, hcut40, hA40, hC40⟩ := print_drop_of (P := Try.prog) (Value.int .u8) 0 24 5 .i64 Try.underlying24 hi040 hsz40 A0 c0 l0 a1 (of_decide_eq_true (by first | (with_reducible assumption) | assumption)) (of_decide_eq_true (by first | (with_reducible assumption) | assumption)) HC0.out
                                    have HR66002 := Aside0.mk (Kd.C_of_reads (h1 := fun _ => rfl) (hA40 _ (Kd.reads_of_C HR0.out)))
                                    have HC66002 := Aside0.mk hC40
                                    clear hA40 hC40 hi040 hsz40
                                    rw [show (l0.drop (a1 : Int).toNat) = y66001 from Ny66001.out.symm] at hcut40
                                    rw [show (l0.drop (a1 : Int).toNat) = y66001 from Ny66001.out.symm] at HR66002
                                    rw [show (l0.drop (a1 : Int).toNat) = y66001 from Ny66001.out.symm] at HC66002
                                    go_wp2_with (first | ((with_reducible refine gate_callee (f := 49) rfl ?_); refine goesL_ (some 25) rfl rfl Try.func49 (by kernel_rfl) rfl #[.slice A40 y66001.length (c0 - a1.toNat)] rfl (by (try simp only [List.map_toArray, List.map_cons, List.map_nil]); first | done | rfl | (simp only [List.length_drop, List.length_take]; rfl)) ?_; (with_reducible refine (columbariumref6_get.calls _ _ y66001 t66003 _ ?side1 ?side2 A9.out).mono ?_); (case side1 => repeat (first | exact (Kd.C_below HR66002.out HB.out) | (with_reducible refine Kd.C_alloc ?_ _) | (with_reducible refine Kd.C_drewN ?_ _) | (with_reducible refine Kd.C_drew ?_))); (case side2 => exact HC66002.out); rintro e w' ⟨rfl, ⟨nd, rfl⟩⟩; refine ⟨_, rfl, ?_⟩; obtain ⟨i041, hi041, _, hsz41, _⟩ := info_parts info5; obtain ⟨A41, hcut41, hA41, hC41⟩ := print_drop_of (P := Try.prog) (Value.int .u8) 0 24 5 .i64 Try.underlying24 hi041 hsz41 A0 c0 l0 (ji10) (of_decide_eq_true (by first | (with_reducible assumption) | assumption)) (of_decide_eq_true (by first | (with_reducible assumption) | assumption)) HC0.out; have HR66005 := Aside0.mk (Kd.C_of_reads (h1 := fun _ => rfl) (hA41 _ (Kd.reads_of_C HR0.out))); have HC66005 := Aside0.mk hC41; clear hA41 hC41 hi041 hsz41; rw [show (l0.drop ((ji10) : Int).toNat) = y66004 from Ny66004.out.symm] at hcut41; rw [show (l0.drop ((ji10) : Int).toNat) = y66004 from Ny66004.out.symm] at HR66005; rw [show (l0.drop ((ji10) : Int).toNat) = y66004 from Ny66004.out.symm] at HC66005) | ((with_reducible refine gate_callee (f := 49) rfl ?_); refine goesL_ (some 30) rfl rfl Try.func49 (by kernel_rfl) rfl #[.slice A41 y66004.length (c0 - (ji10).toNat)] rfl (by (try simp only [List.map_toArray, List.map_cons, List.map_nil]); first | done | (simp only [hji10]; rfl) | rfl | (simp only [List.length_drop, List.length_take]; rfl)) ?_; (with_reducible refine (columbariumref6_get.calls _ _ y66004 t66006 _ ?side1 ?side2 A13.out).mono ?_); (case side1 => repeat (first | exact (Kd.C_below HR66005.out (by repeat (first | (with_reducible first | exact HB.out | apply below_alloc | apply pw_below_drewN | apply below_drew1) | exact HB.out))) | (with_reducible refine Kd.C_alloc ?_ _) | (with_reducible refine Kd.C_drewN ?_ _) | (with_reducible refine Kd.C_drew ?_))); (case side2 => exact HC66005.out); rintro e w' ⟨rfl, ⟨nd, rfl⟩⟩; refine ⟨_, rfl, ?_⟩) | ((with_reducible refine gate_dst (N := 45) rfl ?_); (try (refine gate_guard (by rfl) ?_; dsimp only)); refine Kd.R_lit (Kd.int .u8) _ 5 ?hg (N := 45) ?hd (xs := ([] : List Int)) (inner := []) (ok := fun _ => True) (okp := fun _ => True) ?hr ?hp (fun _ hk => hk) trivial (Below.refl _ _) (Nat.le_refl _) (by simp) ?_; (case hd => rfl); (case hg => rfl); (case hr => first | (go_simp; done) | (go_simp; rfl)); (case hp => exact (Reps.none _ _)); intro v66008 w42 ho43 hb hg_ hnew_; clear hg_ hnew_; (first | rw [← Ny66007.out] at ho43 | (simp only [Int.reduceToNat] at ho43; rw [← Ny66007.out] at ho43)); have n0_ := Aside0.mk (Kd.R_lower ho43 (below_size (by repeat (first | (with_reducible first | exact HB.out | apply below_alloc | apply pw_below_drewN | apply below_drew1) | exact HB.out)))); have n1_ := Aside0.mk (below_step (by repeat (first | (with_reducible first | exact HB.out | apply below_alloc | apply pw_below_drewN | apply below_drew1) | exact HB.out)) hb); clear HB; have HO66009 := n0_; have HB := n1_; clear n0_ n1_; clear hb ho43; obtain ⟨i044, hi044, _, hsz44, _⟩ := info_parts info5; obtain ⟨A44, hcut44, hA44, hC44⟩ := print_mid_of (P := Try.prog) (Value.int .u8) 0 24 5 .i64 .i64 Try.underlying24 hi044 hsz44 A0 c0 l0 (ji21) (ji26) (of_decide_eq_true (by first | (with_reducible assumption) | assumption)) (by first | omega | exact of_decide_eq_true (by first | (with_reducible assumption) | assumption)) (of_decide_eq_true (by first | (with_reducible assumption) | assumption)) HC0.out; have HR66011 := Aside0.mk (Kd.C_of_reads (h1 := fun _ => rfl) (hA44 _ (Kd.reads_of_C HR0.out))); have HC66011 := Aside0.mk hC44; clear hA44 hC44 hi044 hsz44; rw [show ((l0.take ((ji26) : Int).toNat).drop ((ji21) : Int).toNat) = y66010 from Ny66010.out.symm] at hcut44; rw [show ((l0.take ((ji26) : Int).toNat).drop ((ji21) : Int).toNat) = y66010 from Ny66010.out.symm] at HR66011; rw [show ((l0.take ((ji26) : Int).toNat).drop ((ji21) : Int).toNat) = y66010 from Ny66010.out.symm] at HC66011) | ((with_reducible refine gate_builtin (b := .append) (xs := #[.tmp 45, .tmp 54]) rfl ?_); (try (refine gate_guard (by rfl) ?_; dsimp only)); at_builtin; refine Kd.R_append_rows (Kd.int .u8) (w0 := w) w.heap.size rfl (.tmp 45) (.tmp 54) 24 5 (.int .u8 0) 1 rfl Try.underlying24 info5 rfl (by decide) (by omega) v66008 y66007 y66010 _ _ _ (fun _ => True) (fun _ => False) rfl rfl ?aO ?aR (fun _ _ h => h) (fun _ h => h.elim) ?aF ?aB ?aS ?aL ?_; (case aR => repeat (first | exact (Kd.C_below HR66011.out HB.out) | (with_reducible refine Kd.C_alloc ?_ _) | (with_reducible refine Kd.C_drewN ?_ _) | (with_reducible refine Kd.C_drew ?_))); (case aB => exact (by repeat (first | (with_reducible first | exact HB.out | apply below_alloc | apply pw_below_drewN | apply below_drew1) | exact HB.out))); (case aF => exact (fun _ _ => trivial)); (case aO => exact (by (with_reducible repeat (first | apply Kd.R_alloc | apply Kd.R_drewN | apply Kd.R_drew)); exact HO66009.out)); (case aS => exact (below_size (by repeat (first | (with_reducible first | exact HB.out | apply below_alloc | apply pw_below_drewN | apply below_drew1) | exact HB.out)))); (case aL => have := LMc25.out; omega); intro v66013 w45 ho hb hg hat; rw [← Ny66012.out] at ho; have n0_ := Aside0.mk (hb); have n1_ := Aside0.mk (ho); clear HB; clear HO66009; have HB := n0_; have HO66014 := n1_; clear n0_ n1_; clear ho hb hg hat; obtain ⟨i046, hi046, _, hsz46, _⟩ := info_parts info5; obtain ⟨A46, hcut46, hA46, hC46⟩ := print_drop_of (P := Try.prog) (Value.int .u8) 0 24 5 .i64 Try.underlying24 hi046 hsz46 A0 c0 l0 (ji26) (of_decide_eq_true (by first | (with_reducible assumption) | assumption)) (of_decide_eq_true (by first | (with_reducible assumption) | assumption)) HC0.out; have HR66016 := Aside0.mk (Kd.C_of_reads (h1 := fun _ => rfl) (hA46 _ (Kd.reads_of_C HR0.out))); have HC66016 := Aside0.mk hC46; clear hA46 hC46 hi046 hsz46; rw [show (l0.drop ((ji26) : Int).toNat) = y66015 from Ny66015.out.symm] at hcut46; rw [show (l0.drop ((ji26) : Int).toNat) = y66015 from Ny66015.out.symm] at HR66016; rw [show (l0.drop ((ji26) : Int).toNat) = y66015 from Ny66015.out.symm] at HC66016) | ((with_reducible refine gate_callee (f := 49) rfl ?_); refine goesL_ (some 63) rfl rfl Try.func49 (by kernel_rfl) rfl #[.slice A46 y66015.length (c0 - (ji26).toNat)] rfl (by (try simp only [List.map_toArray, List.map_cons, List.map_nil]); first | done | (simp only [hji26]; rfl) | rfl | (simp only [List.length_drop, List.length_take]; rfl)) ?_; (with_reducible refine (columbariumref6_get.calls _ _ y66015 t66017 _ ?side1 ?side2 A29.out).mono ?_); (case side1 => repeat (first | exact (Kd.C_below HR66016.out HB.out) | (with_reducible refine Kd.C_alloc ?_ _) | (with_reducible refine Kd.C_drewN ?_ _) | (with_reducible refine Kd.C_drew ?_))); (case side2 => exact HC66016.out); rintro e w' ⟨rfl, ⟨nd, rfl⟩⟩; refine ⟨_, rfl, ?_⟩; obtain ⟨Ao47, co47, eo47⟩ := Kd.R_slice HO66014.out; subst eo47) | ((with_reducible refine gate_callee (f := 48) rfl ?_); refine goesL_ (some 65) rfl rfl Try.func48 (by kernel_rfl) rfl #[.slice Ao47 y66012.length co47] rfl (by (try simp only [List.map_toArray, List.map_cons, List.map_nil]); first | done | rfl | (simp only [List.length_drop, List.length_take]; rfl)) ?_; (with_reducible refine (columbariumref2_Crc.calls kj2 _ _ y66012 t66018 _ ?side1 ?side2 A30.out).mono ?_); (case side1 => repeat (first | exact (Kd.R_reads' HO66014.out).2.2 | (with_reducible refine Kd.C_alloc ?_ _) | (with_reducible refine Kd.C_drewN ?_ _) | (with_reducible refine Kd.C_drew ?_))); (case side2 => exact (Kd.R_reads' HO66014.out).2.1); rintro e w' ⟨rfl, ⟨nd, rfl⟩⟩; refine ⟨_, rfl, ?_⟩))
                                    go_ret3
                                    exact ⟨_, by first | rfl | (simp [errW_none, errW_some] <;> rfl) | (simp only [← hji10, ← hji21, ← hji26]; first | rfl | (simp [errW_none, errW_some] <;> rfl)) | (simp [*, errW_none, errW_some] <;> rfl), by first | exact Kd.R_nil _ _ _ _ _ | exact Kd.N_nil _ _ _ _ _ | exact Kd.V_nil _ _ _ _ _ | exact Kd.Q_nil _ _ _ _ _ | exact Kd.S_nil _ _ _ _ _, by repeat (first | (with_reducible first | exact HB.out | apply below_alloc | apply pw_below_drewN | apply below_drew1) | exact HB.out)⟩
                                · rw [if_neg c27] at H
                                  exact absurd H (by simp)
                              · rw [if_neg c25] at H
                                exact absurd H (by simp)
                            · rw [if_neg c24] at H
                              exact absurd H (by simp)
                          · rw [if_neg c23] at H
                            exact absurd H (by simp)
                        · rw [if_neg c22] at H
                          exact absurd H (by simp)
                  · rw [if_neg c14] at H
                    have c14b0 : (t66006 == (Go.bits .xor .u32 4294967295 t66003)) = false := beq_eq_false_iff_ne.mpr c14
                    have c14b1 : (t66006 != (Go.bits .xor .u32 4294967295 t66003)) = true := bne_iff_ne.mpr c14
                    simp only [Option.some.injEq, Prod.mk.injEq] at H
                    obtain ⟨rfl, rfl, rfl⟩ := H
                    obtain ⟨i048, hi048, _, hsz48, _⟩ := info_parts info5
                    obtain ⟨A48, hcut48, hA48, hC48⟩ := print_drop_of (P := Try.prog) (Value.int .u8) 0 24 5 .i64 Try.underlying24 hi048 hsz48 A0 c0 l0 a1 (of_decide_eq_true (by first | (with_reducible assumption) | assumption)) (of_decide_eq_true (by first | (with_reducible assumption) | assumption)) HC0.out
                    have HR66002 := Aside0.mk (Kd.C_of_reads (h1 := fun _ => rfl) (hA48 _ (Kd.reads_of_C HR0.out)))
                    have HC66002 := Aside0.mk hC48
                    clear hA48 hC48 hi048 hsz48
                    rw [show (l0.drop (a1 : Int).toNat) = y66001 from Ny66001.out.symm] at hcut48
                    rw [show (l0.drop (a1 : Int).toNat) = y66001 from Ny66001.out.symm] at HR66002
                    rw [show (l0.drop (a1 : Int).toNat) = y66001 from Ny66001.out.symm] at HC66002
                    go_wp2_with (first | ((with_reducible refine gate_callee (f := 49) rfl ?_); refine goesL_ (some 25) rfl rfl Try.func49 (by kernel_rfl) rfl #[.slice A48 y66001.length (c0 - a1.toNat)] rfl (by (try simp only [List.map_toArray, List.map_cons, List.map_nil]); first | done | rfl | (simp only [List.length_drop, List.length_take]; rfl)) ?_; (with_reducible refine (columbariumref6_get.calls _ _ y66001 t66003 _ ?side1 ?side2 A9.out).mono ?_); (case side1 => repeat (first | exact (Kd.C_below HR66002.out HB.out) | (with_reducible refine Kd.C_alloc ?_ _) | (with_reducible refine Kd.C_drewN ?_ _) | (with_reducible refine Kd.C_drew ?_))); (case side2 => exact HC66002.out); rintro e w' ⟨rfl, ⟨nd, rfl⟩⟩; refine ⟨_, rfl, ?_⟩; obtain ⟨i049, hi049, _, hsz49, _⟩ := info_parts info5; obtain ⟨A49, hcut49, hA49, hC49⟩ := print_drop_of (P := Try.prog) (Value.int .u8) 0 24 5 .i64 Try.underlying24 hi049 hsz49 A0 c0 l0 (ji10) (of_decide_eq_true (by first | (with_reducible assumption) | assumption)) (of_decide_eq_true (by first | (with_reducible assumption) | assumption)) HC0.out; have HR66005 := Aside0.mk (Kd.C_of_reads (h1 := fun _ => rfl) (hA49 _ (Kd.reads_of_C HR0.out))); have HC66005 := Aside0.mk hC49; clear hA49 hC49 hi049 hsz49; rw [show (l0.drop ((ji10) : Int).toNat) = y66004 from Ny66004.out.symm] at hcut49; rw [show (l0.drop ((ji10) : Int).toNat) = y66004 from Ny66004.out.symm] at HR66005; rw [show (l0.drop ((ji10) : Int).toNat) = y66004 from Ny66004.out.symm] at HC66005) | ((with_reducible refine gate_callee (f := 49) rfl ?_); refine goesL_ (some 30) rfl rfl Try.func49 (by kernel_rfl) rfl #[.slice A49 y66004.length (c0 - (ji10).toNat)] rfl (by (try simp only [List.map_toArray, List.map_cons, List.map_nil]); first | done | (simp only [hji10]; rfl) | rfl | (simp only [List.length_drop, List.length_take]; rfl)) ?_; (with_reducible refine (columbariumref6_get.calls _ _ y66004 t66006 _ ?side1 ?side2 A13.out).mono ?_); (case side1 => repeat (first | exact (Kd.C_below HR66005.out (by repeat (first | (with_reducible first | exact HB.out | apply below_alloc | apply pw_below_drewN | apply below_drew1) | exact HB.out))) | (with_reducible refine Kd.C_alloc ?_ _) | (with_reducible refine Kd.C_drewN ?_ _) | (with_reducible refine Kd.C_drew ?_))); (case side2 => exact HC66005.out); rintro e w' ⟨rfl, ⟨nd, rfl⟩⟩; refine ⟨_, rfl, ?_⟩))
                    go_ret3
                    exact ⟨_, by first | rfl | (simp [errW_none, errW_some] <;> rfl) | (simp only [← hji10]; first | rfl | (simp [errW_none, errW_some] <;> rfl)) | (simp [*, errW_none, errW_some] <;> rfl), by first | exact Kd.R_nil _ _ _ _ _ | exact Kd.N_nil _ _ _ _ _ | exact Kd.V_nil _ _ _ _ _ | exact Kd.Q_nil _ _ _ _ _ | exact Kd.S_nil _ _ _ _ _, by repeat (first | (with_reducible first | exact HB.out | apply below_alloc | apply pw_below_drewN | apply below_drew1) | exact HB.out)⟩
                · rw [if_neg c12] at H
                  exact absurd H (by simp)
              · rw [if_neg c11] at H
                exact absurd H (by simp)
            · rw [if_neg c8] at H
              exact absurd H (by simp)
          · rw [if_neg c7] at H
            exact absurd H (by simp)

end Go.Proofs.Ytfgceanepgjfiaa.PS
