-- Written by a program of this session, out of the translation; Lean checks it.
import Derived.Test.YtjpeojohakhmdaaPSx0
import Derived.Test.YtjpeojohakhmdaaPScolumbariumref1Get
import Derived.Test.YtjpeojohakhmdaaPScolumbariumref1Zag
namespace Go.Proofs.Ytjpeojohakhmdaa.PS
open Go.RowKit Go.Proofs.YtjpeojohakhmdaaW.PrintWords Go.Proofs.YtjpeojohakhmdaaW.PrintLast Go.Proofs.YtjpeojohakhmdaaW.PrintMore
attribute [local go_sem high] pw_str_leq pw_str_gtr
attribute [local go_sem] pw_us8 pw_us32 pw_us64 pw_max2_str pw_min2_str max2_int min2_int max_two min_two max_three min_three max_four min_four   -- for this text's walks alone
set_option linter.unusedVariables false
set_option linter.unusedSimpArgs false

/-! ### columbariumref4_Decode: function 62 -/
mutual
def columbariumref4_Decode.j0 : Nat → List Int → Int → Int → Int → Option (List Int × Int × Int)
  | 0, _, _, _, _ => none
  | k + 1, x0, x2, x9, x10 => if x9 > (IntKind.u64.wrap (x2)) then (some (([] : List Int), 0, 4)) else (columbariumref4_Decode.l0 k x0 x9 x10 ([] : List Int) 0)
def columbariumref4_Decode.l0 : Nat → List Int → Int → Int → List Int → Int → Option (List Int × Int × Int)
  | 0, _, _, _, _, _ => none
  | k + 1, x0, x9, x10, x12, x13 => if (IntKind.u64.wrap (x13)) < x9 then ((columbariumref1_Get.f k x0 x10).bind fun bt126004 => (if bt126004.2.2 = 0 then ((columbariumref1_Zag.f bt126004.1).bind fun t126007 => (if x13 > 1 then (if 0 ≤ (wrap64 (x13 - 1)) then (if (wrap64 (x13 - 1)) < (x12.length : Int) then (if 0 ≤ (wrap64 (x13 - 2)) then (if (wrap64 (x13 - 2)) < (x12.length : Int) then (if x13 > 0 then (if x12.length < 17592186044416 then (columbariumref4_Decode.l0 k x0 x9 bt126004.2.1 (x12 ++ [wrap64 ((wrap64 (t126007 + (wrap64 ((rd x12 (wrap64 (x13 - 1))) - (rd x12 (wrap64 (x13 - 2))))))) + (rd x12 (wrap64 (x13 - 1))))]) (wrap64 (x13 + 1))) else (none)) else (if x12.length < 17592186044416 then (columbariumref4_Decode.l0 k x0 x9 bt126004.2.1 (x12 ++ [wrap64 (t126007 + (wrap64 ((rd x12 (wrap64 (x13 - 1))) - (rd x12 (wrap64 (x13 - 2))))))]) (wrap64 (x13 + 1))) else (none))) else (none)) else (none)) else (none)) else (none)) else (if x13 > 0 then (if 0 ≤ (wrap64 (x13 - 1)) then (if (wrap64 (x13 - 1)) < (x12.length : Int) then (if x12.length < 17592186044416 then (columbariumref4_Decode.l0 k x0 x9 bt126004.2.1 (x12 ++ [wrap64 (t126007 + (rd x12 (wrap64 (x13 - 1))))]) (wrap64 (x13 + 1))) else (none)) else (none)) else (none)) else (if x12.length < 17592186044416 then (columbariumref4_Decode.l0 k x0 x9 bt126004.2.1 (x12 ++ [t126007]) (wrap64 (x13 + 1))) else (none))))) else (some (([] : List Int), 0, bt126004.2.2)))) else (some (x12, x10, 0))
end
def columbariumref4_Decode.f (k : Nat) (l0 : List Int) (a1 : Int) (a2 : Int) : Option (List Int × Int × Int) := (columbariumref1_Get.f k l0 a1).bind fun bt126001 => (if bt126001.2.2 = 0 then (if a2 < 0 then (columbariumref4_Decode.j0 k l0 0 bt126001.1 bt126001.2.1) else (columbariumref4_Decode.j0 k l0 a2 bt126001.1 bt126001.2.1)) else (some (([] : List Int), 0, bt126001.2.2)))
theorem columbariumref4_Decode.mono_l : ∀ k, (∀ y0 y1 y2 y3, LeO (columbariumref4_Decode.j0 k y0 y1 y2 y3) (columbariumref4_Decode.j0 (k + 1) y0 y1 y2 y3)) ∧ (∀ y0 y1 y2 y3 y4, LeO (columbariumref4_Decode.l0 k y0 y1 y2 y3 y4) (columbariumref4_Decode.l0 (k + 1) y0 y1 y2 y3 y4))
  | 0 => ⟨fun _ _ _ _ r h => by simp [columbariumref4_Decode.j0] at h, fun _ _ _ _ _ r h => by simp [columbariumref4_Decode.l0] at h⟩
  | k + 1 => by
    obtain ⟨ih0, ih1⟩ := columbariumref4_Decode.mono_l k
    refine ⟨?_, ?_⟩
    · intro y0 y1 y2 y3
      unfold columbariumref4_Decode.j0
      repeat' first
      | (with_reducible exact ih0 _ _ _ _)
      | (with_reducible exact ih1 _ _ _ _ _)
      | (with_reducible exact columbariumref1_Get.mono _ _ _)
      | (with_reducible exact LeO.refl _)
      | (with_reducible exact LeO.none _)
      | (with_reducible refine LeO.ite ?_ ?_)
      | (with_reducible refine LeO.bind ?_ (fun _ => ?_))
      | exact ih0 _ _ _ _
      | exact ih1 _ _ _ _ _
      | exact columbariumref1_Get.mono _ _ _
      | exact LeO.none _
      | refine LeO.ite ?_ ?_
      | refine LeO.bind ?_ (fun _ => ?_)
    · intro y0 y1 y2 y3 y4
      unfold columbariumref4_Decode.l0
      repeat' first
      | (with_reducible exact ih0 _ _ _ _)
      | (with_reducible exact ih1 _ _ _ _ _)
      | (with_reducible exact columbariumref1_Get.mono _ _ _)
      | (with_reducible exact LeO.refl _)
      | (with_reducible exact LeO.none _)
      | (with_reducible refine LeO.ite ?_ ?_)
      | (with_reducible refine LeO.bind ?_ (fun _ => ?_))
      | exact ih0 _ _ _ _
      | exact ih1 _ _ _ _ _
      | exact columbariumref1_Get.mono _ _ _
      | exact LeO.none _
      | refine LeO.ite ?_ ?_
      | refine LeO.bind ?_ (fun _ => ?_)
theorem columbariumref4_Decode.mono : ∀ a0 a1 a2 k, LeO (columbariumref4_Decode.f k a0 a1 a2) (columbariumref4_Decode.f (k + 1) a0 a1 a2) := by
  intro a0 a1 a2 k
  obtain ⟨ih0, ih1⟩ := columbariumref4_Decode.mono_l k
  unfold columbariumref4_Decode.f
  repeat' first
      | (with_reducible exact ih0 _ _ _ _)
      | (with_reducible exact ih1 _ _ _ _ _)
      | (with_reducible exact columbariumref1_Get.mono _ _ _)
      | (with_reducible exact LeO.refl _)
      | (with_reducible exact LeO.none _)
      | (with_reducible refine LeO.ite ?_ ?_)
      | (with_reducible refine LeO.bind ?_ (fun _ => ?_))
      | exact ih0 _ _ _ _
      | exact ih1 _ _ _ _ _
      | exact columbariumref1_Get.mono _ _ _
      | exact LeO.none _
      | refine LeO.ite ?_ ?_
      | refine LeO.bind ?_ (fun _ => ?_)
set_option maxHeartbeats 8000000 in
set_option maxRecDepth 100000 in
theorem columbariumref4_Decode.calls (k : Nat) (A0 : Option Addr) (c0 : Nat) (l0 : List Int) (a1 : Int) (a2 : Int) (r1 : List Int) (r2 : Int) (r3 : Int) (w : World) (hr0 : Kd.C (Kd.int .u8) w A0 l0.length l0) (hc0 : l0.length ≤ c0) (h : columbariumref4_Decode.f k l0 a1 a2 = some (r1, r2, r3)) :
    Calls Try.prog 62 #[.slice A0 l0.length c0, .int .i64 a1, .int .i64 a2] w fun e w' => ∃ v0_ : Value, e = .returned (.tuple #[v0_, .int .i64 r2, .int .i64 r3]) ∧ Kd.R (Kd.int .i64) 2 w' w.heap.size (fun _ => True) v0_ r1 ∧ Below w.heap.size w w' := by
  have HR0 := Aside0.mk hr0
  have HC0 := Aside0.mk hc0
  clear hr0 hc0
  have HB := Aside0.mk (Below.refl w.heap.size w)
  have H : ((columbariumref1_Get.f k l0 a1).bind fun bt126001 => (if bt126001.2.2 = 0 then (if a2 < 0 then (columbariumref4_Decode.j0 k l0 0 bt126001.1 bt126001.2.1) else (columbariumref4_Decode.j0 k l0 a2 bt126001.1 bt126001.2.1)) else (some (([] : List Int), 0, bt126001.2.2)))) = some (r1, r2, r3) := h
  clear h
  replace H := Option.bind_eq_some_iff.mp H
  obtain ⟨⟨t126001, t126002, t126003⟩, A40, H⟩ := H
  replace H : (if t126003 = 0 then (if a2 < 0 then (columbariumref4_Decode.j0 k l0 0 t126001 t126002) else (columbariumref4_Decode.j0 k l0 a2 t126001 t126002)) else (some (([] : List Int), 0, t126003))) = some (r1, r2, r3) := H
  have A4 := Aside0.mk A40
  clear A40
  by_cases c5 : t126003 = 0
  · rw [if_pos c5] at H
    have c5b0 : (t126003 == 0) = true := beq_iff_eq.mpr c5
    have c5b1 : (t126003 != 0) = false := bne_eq_false_iff_eq.mpr c5
    clear c5
    have HC6 := Aside0.mk H
    clear H
    go_enter Try.func62, Try.ntmps62
    go_upto_if 29 with (first | (go_at_call 53; (with_reducible refine (columbariumref1_Get.calls k _ _ l0 a1 t126001 t126002 t126003 _ ?side1 ?side2 A4.out).mono ?_); (case side1 => repeat (first | exact HR0.out | (with_reducible refine Kd.C_alloc ?_ _) | (with_reducible refine Kd.C_drewN ?_ _) | (with_reducible refine Kd.C_drew ?_))); (case side2 => exact HC0.out); rintro e w' ⟨rfl, ⟨nd, rfl⟩⟩; (try first | exact ⟨rfl, _, World.drewN_drewN _ _ _⟩ | exact ⟨rfl, _, Eq.trans (World.drewN_drewN _ _ _) (congrArg (World.drewN _) (Nat.add_assoc _ _ _))⟩)))
    repeat (go_quiet (first | (go_at_call 53; (with_reducible refine (columbariumref1_Get.calls k _ _ l0 a1 t126001 t126002 t126003 _ ?side1 ?side2 A4.out).mono ?_); (case side1 => repeat (first | exact HR0.out | (with_reducible refine Kd.C_alloc ?_ _) | (with_reducible refine Kd.C_drewN ?_ _) | (with_reducible refine Kd.C_drew ?_))); (case side2 => exact HC0.out); rintro e w' ⟨rfl, ⟨nd, rfl⟩⟩; (try first | exact ⟨rfl, _, World.drewN_drewN _ _ _⟩ | exact ⟨rfl, _, Eq.trans (World.drewN_drewN _ _ _) (congrArg (World.drewN _) (Nat.add_assoc _ _ _))⟩))); go_upto_if 29 with (first | (go_at_call 53; (with_reducible refine (columbariumref1_Get.calls k _ _ l0 a1 t126001 t126002 t126003 _ ?side1 ?side2 A4.out).mono ?_); (case side1 => repeat (first | exact HR0.out | (with_reducible refine Kd.C_alloc ?_ _) | (with_reducible refine Kd.C_drewN ?_ _) | (with_reducible refine Kd.C_drew ?_))); (case side2 => exact HC0.out); rintro e w' ⟨rfl, ⟨nd, rfl⟩⟩; (try first | exact ⟨rfl, _, World.drewN_drewN _ _ _⟩ | exact ⟨rfl, _, Eq.trans (World.drewN_drewN _ _ _) (congrArg (World.drewN _) (Nat.add_assoc _ _ _))⟩))))
    (try simp only [Act.put, List.setIfInBounds_toArray, List.set_cons_zero, List.set_cons_succ])
    go_cut [2] (fun v2 wc => ∃ (kq : Nat) (x2_5 : Int), v2 = .int .i64 x2_5 ∧ Aside0 (columbariumref4_Decode.j0 kq l0 x2_5 t126001 t126002 = some (r1, r2, r3)) ∧ Aside0 (kq ≤ k) ∧ Aside0 (Below w.heap.size w wc))
    case first =>
      have H := HC6.out
      clear HC6
      by_cases c7 : a2 < 0
      · rw [if_pos c7] at H
        have c7b0 : decide (a2 < 0) = true := decide_eq_true c7
        clear c7
        (first | rw [c7b0] | (simp only [i64_w, i32_w]; rw [c7b0]) | rw [c7b1] | skip)
        have H' := Aside0.mk H
        clear H
        go_wp2
        repeat (go_quiet (fail); try go_wp2)
        go_meet
        case rel => exact ⟨_, (0), (by first | rfl | (simp; done) | (simp [*]; done) | (refine congrArg (Value.int .i64) ?_; (try simp only [decide_eq_true_eq, decide_eq_false_iff_not] at *) <;> (unfold wrap64; omega))), H', ⟨by first | omega | exact Nat.le_refl _⟩, ⟨by repeat (first | (with_reducible first | exact HB.out | apply below_alloc | apply pw_below_drewN | apply below_drew1) | exact HB.out)⟩⟩
      · rw [if_neg c7] at H
        have c7b0 : decide (a2 < 0) = false := decide_eq_false c7
        clear c7
        (first | rw [c7b0] | (simp only [i64_w, i32_w]; rw [c7b0]) | rw [c7b1] | skip)
        have H' := Aside0.mk H
        clear H
        go_wp2
        repeat (go_quiet (fail); try go_wp2)
        go_meet
        case rel => exact ⟨_, (a2), (by first | rfl | (simp; done) | (simp [*]; done) | (refine congrArg (Value.int .i64) ?_; (try simp only [decide_eq_true_eq, decide_eq_false_iff_not] at *) <;> (unfold wrap64; omega))), H', ⟨by first | omega | exact Nat.le_refl _⟩, ⟨by repeat (first | (with_reducible first | exact HB.out | apply below_alloc | apply pw_below_drewN | apply below_drew1) | exact HB.out)⟩⟩
    case rest =>
      clear HC6
      try clear p2
      try clear c5
      try clear c5b0
      try clear c5b1
      try clear c6
      try clear p6
      try clear c7
      try clear c7b0
      try clear c7b1
      obtain ⟨kq, x2_5, rfl, HA, HJ5, HB⟩ := hcut
      cases kq with
      | zero => exact absurd HA.out (by simp [columbariumref4_Decode.j0])
      | succ kj5 =>
        have H := HA.out
        clear HA
        simp only [columbariumref4_Decode.j0] at H
        by_cases c8 : t126001 > (IntKind.u64.wrap (x2_5))
        · rw [if_pos c8] at H
          have c8b0 : decide ((IntKind.u64.wrap (x2_5)) < t126001) = true := decide_eq_true c8
          clear c8
          simp only [Option.some.injEq, Prod.mk.injEq] at H
          obtain ⟨rfl, rfl, rfl⟩ := H
          go_wp2
          repeat (go_quiet (fail); try go_wp2)
          go_ret3
          exact ⟨_, by first | rfl | (simp [errW_none, errW_some] <;> rfl) | (simp [*, errW_none, errW_some] <;> rfl), by first | exact Kd.R_nil _ _ _ _ _ | exact Kd.N_nil _ _ _ _ _ | exact Kd.V_nil _ _ _ _ _ | exact Kd.Q_nil _ _ _ _ _ | exact Kd.S_nil _ _ _ _ _, by repeat (first | (with_reducible first | exact HB.out | apply below_alloc | apply pw_below_drewN | apply below_drew1) | exact HB.out)⟩
        · rw [if_neg c8] at H
          have c8b0 : decide ((IntKind.u64.wrap (x2_5)) < t126001) = false := decide_eq_false c8
          clear c8
          have H' := Aside0.mk H
          clear H
          go_wp2
          repeat (go_quiet (fail); try go_wp2)
          go_loopg [10, 12, 13] kj5 (fun kq v10 v12 v13 w' => ∃ (x10_2 : Int) (x12_2 : List Int) (x13_2 : Int), v10 = .int .i64 x10_2 ∧ v13 = .int .i64 x13_2 ∧ Aside0 (columbariumref4_Decode.l0 kq l0 t126001 x10_2 x12_2 x13_2 = some (r1, r2, r3)) ∧ Aside0 (kq ≤ kj5) ∧ Aside0 (Kd.R (Kd.int .i64) 2 w' w.heap.size (fun _ => True) v12 x12_2) ∧ Aside0 (Below w.heap.size w w'))
          case atStart => exact ⟨(t126002), (([] : List Int)), (0), (by first | rfl | (simp; done) | (simp [*]; done) | (refine congrArg (Value.int .i64) ?_; (try simp only [decide_eq_true_eq, decide_eq_false_iff_not] at *) <;> (unfold wrap64; omega))), (by first | rfl | (simp; done) | (simp [*]; done) | (refine congrArg (Value.int .i64) ?_; (try simp only [decide_eq_true_eq, decide_eq_false_iff_not] at *) <;> (unfold wrap64; omega))), H', ⟨Nat.le_refl _⟩, ⟨by first | exact Kd.R_nil _ _ _ _ _ | exact Kd.N_nil _ _ _ _ _ | exact Kd.V_nil _ _ _ _ _ | exact Kd.Q_nil _ _ _ _ _ | exact Kd.S_nil _ _ _ _ _⟩, ⟨by repeat (first | (with_reducible first | exact HB.out | apply below_alloc | apply pw_below_drewN | apply below_drew1) | exact HB.out)⟩⟩
          case round =>
            clear H'
            try clear p2
            try clear c5
            try clear c5b0
            try clear c5b1
            try clear c6
            try clear p6
            try clear c7
            try clear c7b0
            try clear c7b1
            try clear c8
            try clear c8b0
            try clear p2
            try clear p6
            obtain ⟨x10_2, x12_2, x13_2, rfl, rfl, HA, HK2, HO_12, HB⟩ := hrel
            cases gk with
            | zero => exact absurd HA.out (by simp [columbariumref4_Decode.l0])
            | succ k2 =>
              have H := HA.out
              clear HA
              simp only [columbariumref4_Decode.l0] at H
              by_cases c9 : (IntKind.u64.wrap (x13_2)) < t126001
              · rw [if_pos c9] at H
                have c9b0 : decide ((IntKind.u64.wrap (x13_2)) < t126001) = true := decide_eq_true c9
                clear c9
                replace H := Option.bind_eq_some_iff.mp H
                obtain ⟨⟨t126004, t126005, t126006⟩, A100, H⟩ := H
                replace H : (if t126006 = 0 then ((columbariumref1_Zag.f t126004).bind fun t126007 => (if x13_2 > 1 then (if 0 ≤ (wrap64 (x13_2 - 1)) then (if (wrap64 (x13_2 - 1)) < (x12_2.length : Int) then (if 0 ≤ (wrap64 (x13_2 - 2)) then (if (wrap64 (x13_2 - 2)) < (x12_2.length : Int) then (if x13_2 > 0 then (if x12_2.length < 17592186044416 then (columbariumref4_Decode.l0 k2 l0 t126001 t126005 (x12_2 ++ [wrap64 ((wrap64 (t126007 + (wrap64 ((rd x12_2 (wrap64 (x13_2 - 1))) - (rd x12_2 (wrap64 (x13_2 - 2))))))) + (rd x12_2 (wrap64 (x13_2 - 1))))]) (wrap64 (x13_2 + 1))) else (none)) else (if x12_2.length < 17592186044416 then (columbariumref4_Decode.l0 k2 l0 t126001 t126005 (x12_2 ++ [wrap64 (t126007 + (wrap64 ((rd x12_2 (wrap64 (x13_2 - 1))) - (rd x12_2 (wrap64 (x13_2 - 2))))))]) (wrap64 (x13_2 + 1))) else (none))) else (none)) else (none)) else (none)) else (none)) else (if x13_2 > 0 then (if 0 ≤ (wrap64 (x13_2 - 1)) then (if (wrap64 (x13_2 - 1)) < (x12_2.length : Int) then (if x12_2.length < 17592186044416 then (columbariumref4_Decode.l0 k2 l0 t126001 t126005 (x12_2 ++ [wrap64 (t126007 + (rd x12_2 (wrap64 (x13_2 - 1))))]) (wrap64 (x13_2 + 1))) else (none)) else (none)) else (none)) else (if x12_2.length < 17592186044416 then (columbariumref4_Decode.l0 k2 l0 t126001 t126005 (x12_2 ++ [t126007]) (wrap64 (x13_2 + 1))) else (none))))) else (some (([] : List Int), 0, t126006))) = some (r1, r2, r3) := H
                have A10 := Aside0.mk A100
                clear A100
                by_cases c11 : t126006 = 0
                · rw [if_pos c11] at H
                  have c11b0 : (t126006 == 0) = true := beq_iff_eq.mpr c11
                  have c11b1 : (t126006 != 0) = false := bne_eq_false_iff_eq.mpr c11
                  clear c11
                  replace H := Option.bind_eq_some_iff.mp H
                  obtain ⟨t126007, A120, H⟩ := H
                  replace H : (if x13_2 > 1 then (if 0 ≤ (wrap64 (x13_2 - 1)) then (if (wrap64 (x13_2 - 1)) < (x12_2.length : Int) then (if 0 ≤ (wrap64 (x13_2 - 2)) then (if (wrap64 (x13_2 - 2)) < (x12_2.length : Int) then (if x13_2 > 0 then (if x12_2.length < 17592186044416 then (columbariumref4_Decode.l0 k2 l0 t126001 t126005 (x12_2 ++ [wrap64 ((wrap64 (t126007 + (wrap64 ((rd x12_2 (wrap64 (x13_2 - 1))) - (rd x12_2 (wrap64 (x13_2 - 2))))))) + (rd x12_2 (wrap64 (x13_2 - 1))))]) (wrap64 (x13_2 + 1))) else (none)) else (if x12_2.length < 17592186044416 then (columbariumref4_Decode.l0 k2 l0 t126001 t126005 (x12_2 ++ [wrap64 (t126007 + (wrap64 ((rd x12_2 (wrap64 (x13_2 - 1))) - (rd x12_2 (wrap64 (x13_2 - 2))))))]) (wrap64 (x13_2 + 1))) else (none))) else (none)) else (none)) else (none)) else (none)) else (if x13_2 > 0 then (if 0 ≤ (wrap64 (x13_2 - 1)) then (if (wrap64 (x13_2 - 1)) < (x12_2.length : Int) then (if x12_2.length < 17592186044416 then (columbariumref4_Decode.l0 k2 l0 t126001 t126005 (x12_2 ++ [wrap64 (t126007 + (rd x12_2 (wrap64 (x13_2 - 1))))]) (wrap64 (x13_2 + 1))) else (none)) else (none)) else (none)) else (if x12_2.length < 17592186044416 then (columbariumref4_Decode.l0 k2 l0 t126001 t126005 (x12_2 ++ [t126007]) (wrap64 (x13_2 + 1))) else (none)))) = some (r1, r2, r3) := H
                  have A12 := Aside0.mk A120
                  clear A120
                  by_cases c13 : x13_2 > 1
                  · rw [if_pos c13] at H
                    have c13b0 : decide (1 < x13_2) = true := decide_eq_true c13
                    clear c13
                    obtain ⟨ji14, hji14⟩ : ∃ j_ : Int, (wrap64 (x13_2 - 1)) = j_ := ⟨_, rfl⟩
                    replace H : (if 0 ≤ (ji14) then (if (ji14) < (x12_2.length : Int) then (if 0 ≤ (wrap64 (x13_2 - 2)) then (if (wrap64 (x13_2 - 2)) < (x12_2.length : Int) then (if x13_2 > 0 then (if x12_2.length < 17592186044416 then (columbariumref4_Decode.l0 k2 l0 t126001 t126005 (x12_2 ++ [wrap64 ((wrap64 (t126007 + (wrap64 ((rd x12_2 (ji14)) - (rd x12_2 (wrap64 (x13_2 - 2))))))) + (rd x12_2 (ji14)))]) (wrap64 (x13_2 + 1))) else (none)) else (if x12_2.length < 17592186044416 then (columbariumref4_Decode.l0 k2 l0 t126001 t126005 (x12_2 ++ [wrap64 (t126007 + (wrap64 ((rd x12_2 (ji14)) - (rd x12_2 (wrap64 (x13_2 - 2))))))]) (wrap64 (x13_2 + 1))) else (none))) else (none)) else (none)) else (none)) else (none)) = some (r1, r2, r3) := by first | (rw [hji14] at H; exact H) | (simp only [hji14] at H ⊢; exact H)
                    (try rw [hji14] at A10)
                    (try rw [hji14] at A12)
                    have hji14w : (IntKind.i64.wrap (x13_2 - 1)) = ji14 := (i64_w _).trans hji14
                    (try ((have hji14v : (x13_2 - 1) = ji14 := by ((have h_ := hji14); ((try simp only [decide_eq_true_eq] at *) <;> (unfold wrap64 at h_; omega)))); (have hji14l : 0 ≤ ji14 := by ((have h_ := hji14); ((try simp only [decide_eq_true_eq] at *) <;> (unfold wrap64 at h_; omega)))); (have hji14u : ji14 ≤ 64 := by ((have h_ := hji14); ((try simp only [decide_eq_true_eq] at *) <;> (unfold wrap64 at h_; omega))))))
                    by_cases c15 : 0 ≤ (ji14)
                    · rw [if_pos c15] at H
                      have c15b0 : decide (0 ≤ (ji14)) = true := decide_eq_true c15
                      clear c15
                      by_cases c16 : (ji14) < (x12_2.length : Int)
                      · rw [if_pos c16] at H
                        have c16b0 : decide ((ji14) < (x12_2.length : Int)) = true := decide_eq_true c16
                        clear c16
                        obtain ⟨ji17, hji17⟩ : ∃ j_ : Int, (wrap64 (x13_2 - 2)) = j_ := ⟨_, rfl⟩
                        replace H : (if 0 ≤ (ji17) then (if (ji17) < (x12_2.length : Int) then (if x13_2 > 0 then (if x12_2.length < 17592186044416 then (columbariumref4_Decode.l0 k2 l0 t126001 t126005 (x12_2 ++ [wrap64 ((wrap64 (t126007 + (wrap64 ((rd x12_2 (ji14)) - (rd x12_2 (ji17)))))) + (rd x12_2 (ji14)))]) (wrap64 (x13_2 + 1))) else (none)) else (if x12_2.length < 17592186044416 then (columbariumref4_Decode.l0 k2 l0 t126001 t126005 (x12_2 ++ [wrap64 (t126007 + (wrap64 ((rd x12_2 (ji14)) - (rd x12_2 (ji17)))))]) (wrap64 (x13_2 + 1))) else (none))) else (none)) else (none)) = some (r1, r2, r3) := by first | (rw [hji17] at H; exact H) | (simp only [hji17] at H ⊢; exact H)
                        (try rw [hji17] at A10)
                        (try rw [hji17] at A12)
                        have hji17w : (IntKind.i64.wrap (x13_2 - 2)) = ji17 := (i64_w _).trans hji17
                        (try ((have hji17v : (x13_2 - 2) = ji17 := by ((have h_ := hji17); ((try simp only [decide_eq_true_eq] at *) <;> (unfold wrap64 at h_; omega)))); (have hji17l : 0 ≤ ji17 := by ((have h_ := hji17); ((try simp only [decide_eq_true_eq] at *) <;> (unfold wrap64 at h_; omega)))); (have hji17u : ji17 ≤ 64 := by ((have h_ := hji17); ((try simp only [decide_eq_true_eq] at *) <;> (unfold wrap64 at h_; omega))))))
                        by_cases c18 : 0 ≤ (ji17)
                        · rw [if_pos c18] at H
                          have c18b0 : decide (0 ≤ (ji17)) = true := decide_eq_true c18
                          clear c18
                          by_cases c19 : (ji17) < (x12_2.length : Int)
                          · rw [if_pos c19] at H
                            have c19b0 : decide ((ji17) < (x12_2.length : Int)) = true := decide_eq_true c19
                            clear c19
                            by_cases c20 : x13_2 > 0
                            · rw [if_pos c20] at H
                              have c20b0 : decide (0 < x13_2) = true := decide_eq_true c20
                              clear c20
                              by_cases c21 : x12_2.length < 17592186044416
                              · rw [if_pos c21] at H
                                have LMc21 := Aside0.mk c21
                                clear c21
                                obtain ⟨y126011, hy126011⟩ : ∃ y_ : List Int, y_ = (x12_2 ++ [wrap64 ((wrap64 (t126007 + (wrap64 ((rd x12_2 (ji14)) - (rd x12_2 (ji17)))))) + (rd x12_2 (ji14)))]) := ⟨_, rfl⟩
                                replace H : (columbariumref4_Decode.l0 k2 l0 t126001 t126005 y126011 (wrap64 (x13_2 + 1))) = some (r1, r2, r3) := by first | (rw [hy126011]; with_reducible exact H) | (have H2_ := (Option.bind_some _ _).symm.trans H; rw [hy126011]; with_reducible exact H2_) | (have H2_ := (Option.bind_some _ _).symm.trans H; with_reducible exact H2_) | with_reducible exact H | (rw [hy126011]; exact H) | exact H
                                have Ny126011 := Aside0.mk hy126011
                                clear hy126011
                                have H' := Aside0.mk H
                                clear H
                                go_wp2_with (first | (go_at_call 53; (with_reducible refine (columbariumref1_Get.calls k2 _ _ l0 x10_2 t126004 t126005 t126006 _ ?side1 ?side2 A10.out).mono ?_); (case side1 => repeat (first | exact (Kd.C_below HR0.out HB.out) | (with_reducible refine Kd.C_alloc ?_ _) | (with_reducible refine Kd.C_drewN ?_ _) | (with_reducible refine Kd.C_drew ?_))); (case side2 => exact HC0.out); rintro e w' ⟨rfl, ⟨nd, rfl⟩⟩; (try first | exact ⟨rfl, _, World.drewN_drewN _ _ _⟩ | exact ⟨rfl, _, Eq.trans (World.drewN_drewN _ _ _) (congrArg (World.drewN _) (Nat.add_assoc _ _ _))⟩)) | (go_at_call 55; (with_reducible refine (columbariumref1_Zag.calls t126004 t126007 _ A12.out).mono ?_); rintro e w' ⟨rfl, ⟨nd, rfl⟩⟩; (try first | exact ⟨rfl, _, World.drewN_drewN _ _ _⟩ | exact ⟨rfl, _, Eq.trans (World.drewN_drewN _ _ _) (congrArg (World.drewN _) (Nat.add_assoc _ _ _))⟩); obtain ⟨Ao22, co22, eo22⟩ := Kd.R_slice HO_12.out; subst eo22; have p126008 : 0 ≤ ((ji14) : Int) := of_decide_eq_true (by first | (with_reducible assumption) | assumption); have q126008 : (ji14) < (x12_2.length : Int) := of_decide_eq_true (by first | (with_reducible assumption) | assumption); obtain ⟨ad126008, e126008, hx126008_0⟩ := Kd.at_int (Kd.R_reads' HO_12.out).2.2 (ji14) p126008 q126008; cases e126008; replace p126008 := eq_true p126008; replace q126008 := eq_true q126008; have p126009 : 0 ≤ ((ji17) : Int) := of_decide_eq_true (by first | (with_reducible assumption) | assumption); have q126009 : (ji17) < (x12_2.length : Int) := of_decide_eq_true (by first | (with_reducible assumption) | assumption); obtain ⟨ad126009, e126009, hx126009_0⟩ := Kd.at_int (Kd.R_reads' HO_12.out).2.2 (ji17) p126009 q126009; obtain rfl : ad126008 = ad126009 := (by injection e126009); replace p126009 := eq_true p126009; replace q126009 := eq_true q126009; have p126010 : 0 ≤ ((ji14) : Int) := of_decide_eq_true (by first | (with_reducible assumption) | assumption); have q126010 : (ji14) < (x12_2.length : Int) := of_decide_eq_true (by first | (with_reducible assumption) | assumption); obtain ⟨ad126010, e126010, hx126010_0⟩ := Kd.at_int (Kd.R_reads' HO_12.out).2.2 (ji14) p126010 q126010; obtain rfl : ad126008 = ad126010 := (by injection e126010); replace p126010 := eq_true p126010; replace q126010 := eq_true q126010) | ((with_reducible refine gate_builtin (b := .append) (xs := #[.tmp 77, .tmp 79]) rfl ?_); at_builtin; refine Kd.R_append (Kd.int .i64) (w0 := w) w.heap.size rfl (.tmp 77) (.tmp 79) 58 2 (.int .i64 0) 8 rfl Try.underlying58 info2 rfl (by decide) (by omega) (.slice (some ad126008) x12_2.length co22) x12_2 (wrap64 ((wrap64 (t126007 + (wrap64 ((rd x12_2 (ji14)) - (rd x12_2 (ji17)))))) + (rd x12_2 (ji14)))) [.int .i64 (wrap64 ((wrap64 (t126007 + (wrap64 ((rd x12_2 (ji14)) - (rd x12_2 (ji17)))))) + (rd x12_2 (ji14))))] (fun _ => True) (fun _ => False) rfl rfl ?aP (fun _ hk => hk.elim) ?aF ?aO ?aB ?aS ?aL ?_; (case aP => exact rfl); (case aB => exact (by repeat (first | (with_reducible first | exact HB.out | apply below_alloc | apply pw_below_drewN | apply below_drew1) | exact HB.out))); (case aF => exact (fun _ _ => trivial)); (case aO => exact (by (with_reducible repeat (first | apply Kd.R_alloc | apply Kd.R_drewN | apply Kd.R_drew)); exact HO_12.out)); (case aS => exact (below_size (by repeat (first | (with_reducible first | exact HB.out | apply below_alloc | apply pw_below_drewN | apply below_drew1) | exact HB.out)))); (case aL => have := LMc21.out; omega); intro v126012 w23 ho hb hg hat; rw [← Ny126011.out] at ho; have n0_ := Aside0.mk (hb); have n1_ := Aside0.mk (ho); clear HB; clear HO_12; have HB := n0_; have HO126013 := n1_; clear n0_ n1_; clear ho hb hg hat))
                                repeat (go_quiet (first | (go_at_call 53; (with_reducible refine (columbariumref1_Get.calls k2 _ _ l0 x10_2 t126004 t126005 t126006 _ ?side1 ?side2 A10.out).mono ?_); (case side1 => repeat (first | exact (Kd.C_below HR0.out HB.out) | (with_reducible refine Kd.C_alloc ?_ _) | (with_reducible refine Kd.C_drewN ?_ _) | (with_reducible refine Kd.C_drew ?_))); (case side2 => exact HC0.out); rintro e w' ⟨rfl, ⟨nd, rfl⟩⟩; (try first | exact ⟨rfl, _, World.drewN_drewN _ _ _⟩ | exact ⟨rfl, _, Eq.trans (World.drewN_drewN _ _ _) (congrArg (World.drewN _) (Nat.add_assoc _ _ _))⟩)) | (go_at_call 55; (with_reducible refine (columbariumref1_Zag.calls t126004 t126007 _ A12.out).mono ?_); rintro e w' ⟨rfl, ⟨nd, rfl⟩⟩; (try first | exact ⟨rfl, _, World.drewN_drewN _ _ _⟩ | exact ⟨rfl, _, Eq.trans (World.drewN_drewN _ _ _) (congrArg (World.drewN _) (Nat.add_assoc _ _ _))⟩); obtain ⟨Ao22, co22, eo22⟩ := Kd.R_slice HO_12.out; subst eo22; have p126008 : 0 ≤ ((ji14) : Int) := of_decide_eq_true (by first | (with_reducible assumption) | assumption); have q126008 : (ji14) < (x12_2.length : Int) := of_decide_eq_true (by first | (with_reducible assumption) | assumption); obtain ⟨ad126008, e126008, hx126008_0⟩ := Kd.at_int (Kd.R_reads' HO_12.out).2.2 (ji14) p126008 q126008; cases e126008; replace p126008 := eq_true p126008; replace q126008 := eq_true q126008; have p126009 : 0 ≤ ((ji17) : Int) := of_decide_eq_true (by first | (with_reducible assumption) | assumption); have q126009 : (ji17) < (x12_2.length : Int) := of_decide_eq_true (by first | (with_reducible assumption) | assumption); obtain ⟨ad126009, e126009, hx126009_0⟩ := Kd.at_int (Kd.R_reads' HO_12.out).2.2 (ji17) p126009 q126009; obtain rfl : ad126008 = ad126009 := (by injection e126009); replace p126009 := eq_true p126009; replace q126009 := eq_true q126009; have p126010 : 0 ≤ ((ji14) : Int) := of_decide_eq_true (by first | (with_reducible assumption) | assumption); have q126010 : (ji14) < (x12_2.length : Int) := of_decide_eq_true (by first | (with_reducible assumption) | assumption); obtain ⟨ad126010, e126010, hx126010_0⟩ := Kd.at_int (Kd.R_reads' HO_12.out).2.2 (ji14) p126010 q126010; obtain rfl : ad126008 = ad126010 := (by injection e126010); replace p126010 := eq_true p126010; replace q126010 := eq_true q126010) | ((with_reducible refine gate_builtin (b := .append) (xs := #[.tmp 77, .tmp 79]) rfl ?_); at_builtin; refine Kd.R_append (Kd.int .i64) (w0 := w) w.heap.size rfl (.tmp 77) (.tmp 79) 58 2 (.int .i64 0) 8 rfl Try.underlying58 info2 rfl (by decide) (by omega) (.slice (some ad126008) x12_2.length co22) x12_2 (wrap64 ((wrap64 (t126007 + (wrap64 ((rd x12_2 (ji14)) - (rd x12_2 (ji17)))))) + (rd x12_2 (ji14)))) [.int .i64 (wrap64 ((wrap64 (t126007 + (wrap64 ((rd x12_2 (ji14)) - (rd x12_2 (ji17)))))) + (rd x12_2 (ji14))))] (fun _ => True) (fun _ => False) rfl rfl ?aP (fun _ hk => hk.elim) ?aF ?aO ?aB ?aS ?aL ?_; (case aP => exact rfl); (case aB => exact (by repeat (first | (with_reducible first | exact HB.out | apply below_alloc | apply pw_below_drewN | apply below_drew1) | exact HB.out))); (case aF => exact (fun _ _ => trivial)); (case aO => exact (by (with_reducible repeat (first | apply Kd.R_alloc | apply Kd.R_drewN | apply Kd.R_drew)); exact HO_12.out)); (case aS => exact (below_size (by repeat (first | (with_reducible first | exact HB.out | apply below_alloc | apply pw_below_drewN | apply below_drew1) | exact HB.out)))); (case aL => have := LMc21.out; omega); intro v126012 w23 ho hb hg hat; rw [← Ny126011.out] at ho; have n0_ := Aside0.mk (hb); have n1_ := Aside0.mk (ho); clear HB; clear HO_12; have HB := n0_; have HO126013 := n1_; clear n0_ n1_; clear ho hb hg hat)); try go_wp2_with (first | (go_at_call 53; (with_reducible refine (columbariumref1_Get.calls k2 _ _ l0 x10_2 t126004 t126005 t126006 _ ?side1 ?side2 A10.out).mono ?_); (case side1 => repeat (first | exact (Kd.C_below HR0.out HB.out) | (with_reducible refine Kd.C_alloc ?_ _) | (with_reducible refine Kd.C_drewN ?_ _) | (with_reducible refine Kd.C_drew ?_))); (case side2 => exact HC0.out); rintro e w' ⟨rfl, ⟨nd, rfl⟩⟩; (try first | exact ⟨rfl, _, World.drewN_drewN _ _ _⟩ | exact ⟨rfl, _, Eq.trans (World.drewN_drewN _ _ _) (congrArg (World.drewN _) (Nat.add_assoc _ _ _))⟩)) | (go_at_call 55; (with_reducible refine (columbariumref1_Zag.calls t126004 t126007 _ A12.out).mono ?_); rintro e w' ⟨rfl, ⟨nd, rfl⟩⟩; (try first | exact ⟨rfl, _, World.drewN_drewN _ _ _⟩ | exact ⟨rfl, _, Eq.trans (World.drewN_drewN _ _ _) (congrArg (World.drewN _) (Nat.add_assoc _ _ _))⟩); obtain ⟨Ao22, co22, eo22⟩ := Kd.R_slice HO_12.out; subst eo22; have p126008 : 0 ≤ ((ji14) : Int) := of_decide_eq_true (by first | (with_reducible assumption) | assumption); have q126008 : (ji14) < (x12_2.length : Int) := of_decide_eq_true (by first | (with_reducible assumption) | assumption); obtain ⟨ad126008, e126008, hx126008_0⟩ := Kd.at_int (Kd.R_reads' HO_12.out).2.2 (ji14) p126008 q126008; cases e126008; replace p126008 := eq_true p126008; replace q126008 := eq_true q126008; have p126009 : 0 ≤ ((ji17) : Int) := of_decide_eq_true (by first | (with_reducible assumption) | assumption); have q126009 : (ji17) < (x12_2.length : Int) := of_decide_eq_true (by first | (with_reducible assumption) | assumption); obtain ⟨ad126009, e126009, hx126009_0⟩ := Kd.at_int (Kd.R_reads' HO_12.out).2.2 (ji17) p126009 q126009; obtain rfl : ad126008 = ad126009 := (by injection e126009); replace p126009 := eq_true p126009; replace q126009 := eq_true q126009; have p126010 : 0 ≤ ((ji14) : Int) := of_decide_eq_true (by first | (with_reducible assumption) | assumption); have q126010 : (ji14) < (x12_2.length : Int) := of_decide_eq_true (by first | (with_reducible assumption) | assumption); obtain ⟨ad126010, e126010, hx126010_0⟩ := Kd.at_int (Kd.R_reads' HO_12.out).2.2 (ji14) p126010 q126010; obtain rfl : ad126008 = ad126010 := (by injection e126010); replace p126010 := eq_true p126010; replace q126010 := eq_true q126010) | ((with_reducible refine gate_builtin (b := .append) (xs := #[.tmp 77, .tmp 79]) rfl ?_); at_builtin; refine Kd.R_append (Kd.int .i64) (w0 := w) w.heap.size rfl (.tmp 77) (.tmp 79) 58 2 (.int .i64 0) 8 rfl Try.underlying58 info2 rfl (by decide) (by omega) (.slice (some ad126008) x12_2.length co22) x12_2 (wrap64 ((wrap64 (t126007 + (wrap64 ((rd x12_2 (ji14)) - (rd x12_2 (ji17)))))) + (rd x12_2 (ji14)))) [.int .i64 (wrap64 ((wrap64 (t126007 + (wrap64 ((rd x12_2 (ji14)) - (rd x12_2 (ji17)))))) + (rd x12_2 (ji14))))] (fun _ => True) (fun _ => False) rfl rfl ?aP (fun _ hk => hk.elim) ?aF ?aO ?aB ?aS ?aL ?_; (case aP => exact rfl); (case aB => exact (by repeat (first | (with_reducible first | exact HB.out | apply below_alloc | apply pw_below_drewN | apply below_drew1) | exact HB.out))); (case aF => exact (fun _ _ => trivial)); (case aO => exact (by (with_reducible repeat (first | apply Kd.R_alloc | apply Kd.R_drewN | apply Kd.R_drew)); exact HO_12.out)); (case aS => exact (below_size (by repeat (first | (with_reducible first | exact HB.out | apply below_alloc | apply pw_below_drewN | apply below_drew1) | exact HB.out)))); (case aL => have := LMc21.out; omega); intro v126012 w23 ho hb hg hat; rw [← Ny126011.out] at ho; have n0_ := Aside0.mk (hb); have n1_ := Aside0.mk (ho); clear HB; clear HO_12; have HB := n0_; have HO126013 := n1_; clear n0_ n1_; clear ho hb hg hat)))
                                go_roundg k2
                                case measure => have := HJ5.out; have := HK2.out; omega
                                case rel => exact ⟨(t126005), (y126011), (wrap64 (x13_2 + 1)), (by first | rfl | (simp; done) | (simp [*]; done) | (refine congrArg (Value.int .i64) ?_; (try simp only [decide_eq_true_eq, decide_eq_false_iff_not] at *) <;> (unfold wrap64; omega))), (by first | rfl | (simp; done) | (simp [*]; done) | (refine congrArg (Value.int .i64) ?_; (try simp only [decide_eq_true_eq, decide_eq_false_iff_not] at *) <;> (unfold wrap64; omega))), H', ⟨by have := HJ5.out; have := HK2.out; omega⟩, ⟨by (with_reducible repeat (first | apply Kd.R_alloc | apply Kd.R_drewN | apply Kd.R_drew)); exact HO126013.out⟩, ⟨by repeat (first | (with_reducible first | exact HB.out | apply below_alloc | apply pw_below_drewN | apply below_drew1) | exact HB.out)⟩⟩
                              · rw [if_neg c21] at H
                                exact absurd H (by simp)
                            · rw [if_neg c20] at H
                              have c20b0 : decide (0 < x13_2) = false := decide_eq_false c20
                              clear c20
                              by_cases c24 : x12_2.length < 17592186044416
                              · rw [if_pos c24] at H
                                have LMc24 := Aside0.mk c24
                                clear c24
                                obtain ⟨y126014, hy126014⟩ : ∃ y_ : List Int, y_ = (x12_2 ++ [wrap64 (t126007 + (wrap64 ((rd x12_2 (ji14)) - (rd x12_2 (ji17)))))]) := ⟨_, rfl⟩
                                replace H : (columbariumref4_Decode.l0 k2 l0 t126001 t126005 y126014 (wrap64 (x13_2 + 1))) = some (r1, r2, r3) := by first | (rw [hy126014]; with_reducible exact H) | (have H2_ := (Option.bind_some _ _).symm.trans H; rw [hy126014]; with_reducible exact H2_) | (have H2_ := (Option.bind_some _ _).symm.trans H; with_reducible exact H2_) | with_reducible exact H | (rw [hy126014]; exact H) | exact H
                                have Ny126014 := Aside0.mk hy126014
                                clear hy126014
                                have H' := Aside0.mk H
                                clear H
                                go_wp2_with (first | (go_at_call 53; (with_reducible refine (columbariumref1_Get.calls k2 _ _ l0 x10_2 t126004 t126005 t126006 _ ?side1 ?side2 A10.out).mono ?_); (case side1 => repeat (first | exact (Kd.C_below HR0.out HB.out) | (with_reducible refine Kd.C_alloc ?_ _) | (with_reducible refine Kd.C_drewN ?_ _) | (with_reducible refine Kd.C_drew ?_))); (case side2 => exact HC0.out); rintro e w' ⟨rfl, ⟨nd, rfl⟩⟩; (try first | exact ⟨rfl, _, World.drewN_drewN _ _ _⟩ | exact ⟨rfl, _, Eq.trans (World.drewN_drewN _ _ _) (congrArg (World.drewN _) (Nat.add_assoc _ _ _))⟩)) | (go_at_call 55; (with_reducible refine (columbariumref1_Zag.calls t126004 t126007 _ A12.out).mono ?_); rintro e w' ⟨rfl, ⟨nd, rfl⟩⟩; (try first | exact ⟨rfl, _, World.drewN_drewN _ _ _⟩ | exact ⟨rfl, _, Eq.trans (World.drewN_drewN _ _ _) (congrArg (World.drewN _) (Nat.add_assoc _ _ _))⟩); obtain ⟨Ao25, co25, eo25⟩ := Kd.R_slice HO_12.out; subst eo25; have p126008 : 0 ≤ ((ji14) : Int) := of_decide_eq_true (by first | (with_reducible assumption) | assumption); have q126008 : (ji14) < (x12_2.length : Int) := of_decide_eq_true (by first | (with_reducible assumption) | assumption); obtain ⟨ad126008, e126008, hx126008_0⟩ := Kd.at_int (Kd.R_reads' HO_12.out).2.2 (ji14) p126008 q126008; cases e126008; replace p126008 := eq_true p126008; replace q126008 := eq_true q126008; have p126009 : 0 ≤ ((ji17) : Int) := of_decide_eq_true (by first | (with_reducible assumption) | assumption); have q126009 : (ji17) < (x12_2.length : Int) := of_decide_eq_true (by first | (with_reducible assumption) | assumption); obtain ⟨ad126009, e126009, hx126009_0⟩ := Kd.at_int (Kd.R_reads' HO_12.out).2.2 (ji17) p126009 q126009; obtain rfl : ad126008 = ad126009 := (by injection e126009); replace p126009 := eq_true p126009; replace q126009 := eq_true q126009) | ((with_reducible refine gate_builtin (b := .append) (xs := #[.tmp 77, .tmp 79]) rfl ?_); at_builtin; refine Kd.R_append (Kd.int .i64) (w0 := w) w.heap.size rfl (.tmp 77) (.tmp 79) 58 2 (.int .i64 0) 8 rfl Try.underlying58 info2 rfl (by decide) (by omega) (.slice (some ad126008) x12_2.length co25) x12_2 (wrap64 (t126007 + (wrap64 ((rd x12_2 (ji14)) - (rd x12_2 (ji17)))))) [.int .i64 (wrap64 (t126007 + (wrap64 ((rd x12_2 (ji14)) - (rd x12_2 (ji17))))))] (fun _ => True) (fun _ => False) rfl rfl ?aP (fun _ hk => hk.elim) ?aF ?aO ?aB ?aS ?aL ?_; (case aP => exact rfl); (case aB => exact (by repeat (first | (with_reducible first | exact HB.out | apply below_alloc | apply pw_below_drewN | apply below_drew1) | exact HB.out))); (case aF => exact (fun _ _ => trivial)); (case aO => exact (by (with_reducible repeat (first | apply Kd.R_alloc | apply Kd.R_drewN | apply Kd.R_drew)); exact HO_12.out)); (case aS => exact (below_size (by repeat (first | (with_reducible first | exact HB.out | apply below_alloc | apply pw_below_drewN | apply below_drew1) | exact HB.out)))); (case aL => have := LMc24.out; omega); intro v126015 w26 ho hb hg hat; rw [← Ny126014.out] at ho; have n0_ := Aside0.mk (hb); have n1_ := Aside0.mk (ho); clear HB; clear HO_12; have HB := n0_; have HO126016 := n1_; clear n0_ n1_; clear ho hb hg hat))
                                repeat (go_quiet (first | (go_at_call 53; (with_reducible refine (columbariumref1_Get.calls k2 _ _ l0 x10_2 t126004 t126005 t126006 _ ?side1 ?side2 A10.out).mono ?_); (case side1 => repeat (first | exact (Kd.C_below HR0.out HB.out) | (with_reducible refine Kd.C_alloc ?_ _) | (with_reducible refine Kd.C_drewN ?_ _) | (with_reducible refine Kd.C_drew ?_))); (case side2 => exact HC0.out); rintro e w' ⟨rfl, ⟨nd, rfl⟩⟩; (try first | exact ⟨rfl, _, World.drewN_drewN _ _ _⟩ | exact ⟨rfl, _, Eq.trans (World.drewN_drewN _ _ _) (congrArg (World.drewN _) (Nat.add_assoc _ _ _))⟩)) | (go_at_call 55; (with_reducible refine (columbariumref1_Zag.calls t126004 t126007 _ A12.out).mono ?_); rintro e w' ⟨rfl, ⟨nd, rfl⟩⟩; (try first | exact ⟨rfl, _, World.drewN_drewN _ _ _⟩ | exact ⟨rfl, _, Eq.trans (World.drewN_drewN _ _ _) (congrArg (World.drewN _) (Nat.add_assoc _ _ _))⟩); obtain ⟨Ao25, co25, eo25⟩ := Kd.R_slice HO_12.out; subst eo25; have p126008 : 0 ≤ ((ji14) : Int) := of_decide_eq_true (by first | (with_reducible assumption) | assumption); have q126008 : (ji14) < (x12_2.length : Int) := of_decide_eq_true (by first | (with_reducible assumption) | assumption); obtain ⟨ad126008, e126008, hx126008_0⟩ := Kd.at_int (Kd.R_reads' HO_12.out).2.2 (ji14) p126008 q126008; cases e126008; replace p126008 := eq_true p126008; replace q126008 := eq_true q126008; have p126009 : 0 ≤ ((ji17) : Int) := of_decide_eq_true (by first | (with_reducible assumption) | assumption); have q126009 : (ji17) < (x12_2.length : Int) := of_decide_eq_true (by first | (with_reducible assumption) | assumption); obtain ⟨ad126009, e126009, hx126009_0⟩ := Kd.at_int (Kd.R_reads' HO_12.out).2.2 (ji17) p126009 q126009; obtain rfl : ad126008 = ad126009 := (by injection e126009); replace p126009 := eq_true p126009; replace q126009 := eq_true q126009) | ((with_reducible refine gate_builtin (b := .append) (xs := #[.tmp 77, .tmp 79]) rfl ?_); at_builtin; refine Kd.R_append (Kd.int .i64) (w0 := w) w.heap.size rfl (.tmp 77) (.tmp 79) 58 2 (.int .i64 0) 8 rfl Try.underlying58 info2 rfl (by decide) (by omega) (.slice (some ad126008) x12_2.length co25) x12_2 (wrap64 (t126007 + (wrap64 ((rd x12_2 (ji14)) - (rd x12_2 (ji17)))))) [.int .i64 (wrap64 (t126007 + (wrap64 ((rd x12_2 (ji14)) - (rd x12_2 (ji17))))))] (fun _ => True) (fun _ => False) rfl rfl ?aP (fun _ hk => hk.elim) ?aF ?aO ?aB ?aS ?aL ?_; (case aP => exact rfl); (case aB => exact (by repeat (first | (with_reducible first | exact HB.out | apply below_alloc | apply pw_below_drewN | apply below_drew1) | exact HB.out))); (case aF => exact (fun _ _ => trivial)); (case aO => exact (by (with_reducible repeat (first | apply Kd.R_alloc | apply Kd.R_drewN | apply Kd.R_drew)); exact HO_12.out)); (case aS => exact (below_size (by repeat (first | (with_reducible first | exact HB.out | apply below_alloc | apply pw_below_drewN | apply below_drew1) | exact HB.out)))); (case aL => have := LMc24.out; omega); intro v126015 w26 ho hb hg hat; rw [← Ny126014.out] at ho; have n0_ := Aside0.mk (hb); have n1_ := Aside0.mk (ho); clear HB; clear HO_12; have HB := n0_; have HO126016 := n1_; clear n0_ n1_; clear ho hb hg hat)); try go_wp2_with (first | (go_at_call 53; (with_reducible refine (columbariumref1_Get.calls k2 _ _ l0 x10_2 t126004 t126005 t126006 _ ?side1 ?side2 A10.out).mono ?_); (case side1 => repeat (first | exact (Kd.C_below HR0.out HB.out) | (with_reducible refine Kd.C_alloc ?_ _) | (with_reducible refine Kd.C_drewN ?_ _) | (with_reducible refine Kd.C_drew ?_))); (case side2 => exact HC0.out); rintro e w' ⟨rfl, ⟨nd, rfl⟩⟩; (try first | exact ⟨rfl, _, World.drewN_drewN _ _ _⟩ | exact ⟨rfl, _, Eq.trans (World.drewN_drewN _ _ _) (congrArg (World.drewN _) (Nat.add_assoc _ _ _))⟩)) | (go_at_call 55; (with_reducible refine (columbariumref1_Zag.calls t126004 t126007 _ A12.out).mono ?_); rintro e w' ⟨rfl, ⟨nd, rfl⟩⟩; (try first | exact ⟨rfl, _, World.drewN_drewN _ _ _⟩ | exact ⟨rfl, _, Eq.trans (World.drewN_drewN _ _ _) (congrArg (World.drewN _) (Nat.add_assoc _ _ _))⟩); obtain ⟨Ao25, co25, eo25⟩ := Kd.R_slice HO_12.out; subst eo25; have p126008 : 0 ≤ ((ji14) : Int) := of_decide_eq_true (by first | (with_reducible assumption) | assumption); have q126008 : (ji14) < (x12_2.length : Int) := of_decide_eq_true (by first | (with_reducible assumption) | assumption); obtain ⟨ad126008, e126008, hx126008_0⟩ := Kd.at_int (Kd.R_reads' HO_12.out).2.2 (ji14) p126008 q126008; cases e126008; replace p126008 := eq_true p126008; replace q126008 := eq_true q126008; have p126009 : 0 ≤ ((ji17) : Int) := of_decide_eq_true (by first | (with_reducible assumption) | assumption); have q126009 : (ji17) < (x12_2.length : Int) := of_decide_eq_true (by first | (with_reducible assumption) | assumption); obtain ⟨ad126009, e126009, hx126009_0⟩ := Kd.at_int (Kd.R_reads' HO_12.out).2.2 (ji17) p126009 q126009; obtain rfl : ad126008 = ad126009 := (by injection e126009); replace p126009 := eq_true p126009; replace q126009 := eq_true q126009) | ((with_reducible refine gate_builtin (b := .append) (xs := #[.tmp 77, .tmp 79]) rfl ?_); at_builtin; refine Kd.R_append (Kd.int .i64) (w0 := w) w.heap.size rfl (.tmp 77) (.tmp 79) 58 2 (.int .i64 0) 8 rfl Try.underlying58 info2 rfl (by decide) (by omega) (.slice (some ad126008) x12_2.length co25) x12_2 (wrap64 (t126007 + (wrap64 ((rd x12_2 (ji14)) - (rd x12_2 (ji17)))))) [.int .i64 (wrap64 (t126007 + (wrap64 ((rd x12_2 (ji14)) - (rd x12_2 (ji17))))))] (fun _ => True) (fun _ => False) rfl rfl ?aP (fun _ hk => hk.elim) ?aF ?aO ?aB ?aS ?aL ?_; (case aP => exact rfl); (case aB => exact (by repeat (first | (with_reducible first | exact HB.out | apply below_alloc | apply pw_below_drewN | apply below_drew1) | exact HB.out))); (case aF => exact (fun _ _ => trivial)); (case aO => exact (by (with_reducible repeat (first | apply Kd.R_alloc | apply Kd.R_drewN | apply Kd.R_drew)); exact HO_12.out)); (case aS => exact (below_size (by repeat (first | (with_reducible first | exact HB.out | apply below_alloc | apply pw_below_drewN | apply below_drew1) | exact HB.out)))); (case aL => have := LMc24.out; omega); intro v126015 w26 ho hb hg hat; rw [← Ny126014.out] at ho; have n0_ := Aside0.mk (hb); have n1_ := Aside0.mk (ho); clear HB; clear HO_12; have HB := n0_; have HO126016 := n1_; clear n0_ n1_; clear ho hb hg hat)))
                                go_roundg k2
                                case measure => have := HJ5.out; have := HK2.out; omega
                                case rel => exact ⟨(t126005), (y126014), (wrap64 (x13_2 + 1)), (by first | rfl | (simp; done) | (simp [*]; done) | (refine congrArg (Value.int .i64) ?_; (try simp only [decide_eq_true_eq, decide_eq_false_iff_not] at *) <;> (unfold wrap64; omega))), (by first | rfl | (simp; done) | (simp [*]; done) | (refine congrArg (Value.int .i64) ?_; (try simp only [decide_eq_true_eq, decide_eq_false_iff_not] at *) <;> (unfold wrap64; omega))), H', ⟨by have := HJ5.out; have := HK2.out; omega⟩, ⟨by (with_reducible repeat (first | apply Kd.R_alloc | apply Kd.R_drewN | apply Kd.R_drew)); exact HO126016.out⟩, ⟨by repeat (first | (with_reducible first | exact HB.out | apply below_alloc | apply pw_below_drewN | apply below_drew1) | exact HB.out)⟩⟩
                              · rw [if_neg c24] at H
                                exact absurd H (by simp)
                          · rw [if_neg c19] at H
                            exact absurd H (by simp)
                        · rw [if_neg c18] at H
                          exact absurd H (by simp)
                      · rw [if_neg c16] at H
                        exact absurd H (by simp)
                    · rw [if_neg c15] at H
                      exact absurd H (by simp)
                  · rw [if_neg c13] at H
                    have c13b0 : decide (1 < x13_2) = false := decide_eq_false c13
                    clear c13
                    by_cases c27 : x13_2 > 0
                    · rw [if_pos c27] at H
                      have c27b0 : decide (0 < x13_2) = true := decide_eq_true c27
                      clear c27
                      obtain ⟨ji28, hji28⟩ : ∃ j_ : Int, (wrap64 (x13_2 - 1)) = j_ := ⟨_, rfl⟩
                      replace H : (if 0 ≤ (ji28) then (if (ji28) < (x12_2.length : Int) then (if x12_2.length < 17592186044416 then (columbariumref4_Decode.l0 k2 l0 t126001 t126005 (x12_2 ++ [wrap64 (t126007 + (rd x12_2 (ji28)))]) (wrap64 (x13_2 + 1))) else (none)) else (none)) else (none)) = some (r1, r2, r3) := by first | (rw [hji28] at H; exact H) | (simp only [hji28] at H ⊢; exact H)
                      (try rw [hji28] at A10)
                      (try rw [hji28] at A12)
                      have hji28w : (IntKind.i64.wrap (x13_2 - 1)) = ji28 := (i64_w _).trans hji28
                      (try ((have hji28v : (x13_2 - 1) = ji28 := by ((have h_ := hji28); ((try simp only [decide_eq_true_eq] at *) <;> (unfold wrap64 at h_; omega)))); (have hji28l : 0 ≤ ji28 := by ((have h_ := hji28); ((try simp only [decide_eq_true_eq] at *) <;> (unfold wrap64 at h_; omega)))); (have hji28u : ji28 ≤ 64 := by ((have h_ := hji28); ((try simp only [decide_eq_true_eq] at *) <;> (unfold wrap64 at h_; omega))))))
                      by_cases c29 : 0 ≤ (ji28)
                      · rw [if_pos c29] at H
                        have c29b0 : decide (0 ≤ (ji28)) = true := decide_eq_true c29
                        clear c29
                        by_cases c30 : (ji28) < (x12_2.length : Int)
                        · rw [if_pos c30] at H
                          have c30b0 : decide ((ji28) < (x12_2.length : Int)) = true := decide_eq_true c30
                          clear c30
                          by_cases c31 : x12_2.length < 17592186044416
                          · rw [if_pos c31] at H
                            have LMc31 := Aside0.mk c31
                            clear c31
                            obtain ⟨y126018, hy126018⟩ : ∃ y_ : List Int, y_ = (x12_2 ++ [wrap64 (t126007 + (rd x12_2 (ji28)))]) := ⟨_, rfl⟩
                            replace H : (columbariumref4_Decode.l0 k2 l0 t126001 t126005 y126018 (wrap64 (x13_2 + 1))) = some (r1, r2, r3) := by first | (rw [hy126018]; with_reducible exact H) | (have H2_ := (Option.bind_some _ _).symm.trans H; rw [hy126018]; with_reducible exact H2_) | (have H2_ := (Option.bind_some _ _).symm.trans H; with_reducible exact H2_) | with_reducible exact H | (rw [hy126018]; exact H) | exact H
                            have Ny126018 := Aside0.mk hy126018
                            clear hy126018
                            have H' := Aside0.mk H
                            clear H
                            go_wp2_with (first | (go_at_call 53; (with_reducible refine (columbariumref1_Get.calls k2 _ _ l0 x10_2 t126004 t126005 t126006 _ ?side1 ?side2 A10.out).mono ?_); (case side1 => repeat (first | exact (Kd.C_below HR0.out HB.out) | (with_reducible refine Kd.C_alloc ?_ _) | (with_reducible refine Kd.C_drewN ?_ _) | (with_reducible refine Kd.C_drew ?_))); (case side2 => exact HC0.out); rintro e w' ⟨rfl, ⟨nd, rfl⟩⟩; (try first | exact ⟨rfl, _, World.drewN_drewN _ _ _⟩ | exact ⟨rfl, _, Eq.trans (World.drewN_drewN _ _ _) (congrArg (World.drewN _) (Nat.add_assoc _ _ _))⟩)) | (go_at_call 55; (with_reducible refine (columbariumref1_Zag.calls t126004 t126007 _ A12.out).mono ?_); rintro e w' ⟨rfl, ⟨nd, rfl⟩⟩; (try first | exact ⟨rfl, _, World.drewN_drewN _ _ _⟩ | exact ⟨rfl, _, Eq.trans (World.drewN_drewN _ _ _) (congrArg (World.drewN _) (Nat.add_assoc _ _ _))⟩); obtain ⟨Ao32, co32, eo32⟩ := Kd.R_slice HO_12.out; subst eo32; have p126017 : 0 ≤ ((ji28) : Int) := of_decide_eq_true (by first | (with_reducible assumption) | assumption); have q126017 : (ji28) < (x12_2.length : Int) := of_decide_eq_true (by first | (with_reducible assumption) | assumption); obtain ⟨ad126017, e126017, hx126017_0⟩ := Kd.at_int (Kd.R_reads' HO_12.out).2.2 (ji28) p126017 q126017; cases e126017; replace p126017 := eq_true p126017; replace q126017 := eq_true q126017) | ((with_reducible refine gate_builtin (b := .append) (xs := #[.tmp 77, .tmp 79]) rfl ?_); at_builtin; refine Kd.R_append (Kd.int .i64) (w0 := w) w.heap.size rfl (.tmp 77) (.tmp 79) 58 2 (.int .i64 0) 8 rfl Try.underlying58 info2 rfl (by decide) (by omega) (.slice (some ad126017) x12_2.length co32) x12_2 (wrap64 (t126007 + (rd x12_2 (ji28)))) [.int .i64 (wrap64 (t126007 + (rd x12_2 (ji28))))] (fun _ => True) (fun _ => False) rfl rfl ?aP (fun _ hk => hk.elim) ?aF ?aO ?aB ?aS ?aL ?_; (case aP => exact rfl); (case aB => exact (by repeat (first | (with_reducible first | exact HB.out | apply below_alloc | apply pw_below_drewN | apply below_drew1) | exact HB.out))); (case aF => exact (fun _ _ => trivial)); (case aO => exact (by (with_reducible repeat (first | apply Kd.R_alloc | apply Kd.R_drewN | apply Kd.R_drew)); exact HO_12.out)); (case aS => exact (below_size (by repeat (first | (with_reducible first | exact HB.out | apply below_alloc | apply pw_below_drewN | apply below_drew1) | exact HB.out)))); (case aL => have := LMc31.out; omega); intro v126019 w33 ho hb hg hat; rw [← Ny126018.out] at ho; have n0_ := Aside0.mk (hb); have n1_ := Aside0.mk (ho); clear HB; clear HO_12; have HB := n0_; have HO126020 := n1_; clear n0_ n1_; clear ho hb hg hat))
                            repeat (go_quiet (first | (go_at_call 53; (with_reducible refine (columbariumref1_Get.calls k2 _ _ l0 x10_2 t126004 t126005 t126006 _ ?side1 ?side2 A10.out).mono ?_); (case side1 => repeat (first | exact (Kd.C_below HR0.out HB.out) | (with_reducible refine Kd.C_alloc ?_ _) | (with_reducible refine Kd.C_drewN ?_ _) | (with_reducible refine Kd.C_drew ?_))); (case side2 => exact HC0.out); rintro e w' ⟨rfl, ⟨nd, rfl⟩⟩; (try first | exact ⟨rfl, _, World.drewN_drewN _ _ _⟩ | exact ⟨rfl, _, Eq.trans (World.drewN_drewN _ _ _) (congrArg (World.drewN _) (Nat.add_assoc _ _ _))⟩)) | (go_at_call 55; (with_reducible refine (columbariumref1_Zag.calls t126004 t126007 _ A12.out).mono ?_); rintro e w' ⟨rfl, ⟨nd, rfl⟩⟩; (try first | exact ⟨rfl, _, World.drewN_drewN _ _ _⟩ | exact ⟨rfl, _, Eq.trans (World.drewN_drewN _ _ _) (congrArg (World.drewN _) (Nat.add_assoc _ _ _))⟩); obtain ⟨Ao32, co32, eo32⟩ := Kd.R_slice HO_12.out; subst eo32; have p126017 : 0 ≤ ((ji28) : Int) := of_decide_eq_true (by first | (with_reducible assumption) | assumption); have q126017 : (ji28) < (x12_2.length : Int) := of_decide_eq_true (by first | (with_reducible assumption) | assumption); obtain ⟨ad126017, e126017, hx126017_0⟩ := Kd.at_int (Kd.R_reads' HO_12.out).2.2 (ji28) p126017 q126017; cases e126017; replace p126017 := eq_true p126017; replace q126017 := eq_true q126017) | ((with_reducible refine gate_builtin (b := .append) (xs := #[.tmp 77, .tmp 79]) rfl ?_); at_builtin; refine Kd.R_append (Kd.int .i64) (w0 := w) w.heap.size rfl (.tmp 77) (.tmp 79) 58 2 (.int .i64 0) 8 rfl Try.underlying58 info2 rfl (by decide) (by omega) (.slice (some ad126017) x12_2.length co32) x12_2 (wrap64 (t126007 + (rd x12_2 (ji28)))) [.int .i64 (wrap64 (t126007 + (rd x12_2 (ji28))))] (fun _ => True) (fun _ => False) rfl rfl ?aP (fun _ hk => hk.elim) ?aF ?aO ?aB ?aS ?aL ?_; (case aP => exact rfl); (case aB => exact (by repeat (first | (with_reducible first | exact HB.out | apply below_alloc | apply pw_below_drewN | apply below_drew1) | exact HB.out))); (case aF => exact (fun _ _ => trivial)); (case aO => exact (by (with_reducible repeat (first | apply Kd.R_alloc | apply Kd.R_drewN | apply Kd.R_drew)); exact HO_12.out)); (case aS => exact (below_size (by repeat (first | (with_reducible first | exact HB.out | apply below_alloc | apply pw_below_drewN | apply below_drew1) | exact HB.out)))); (case aL => have := LMc31.out; omega); intro v126019 w33 ho hb hg hat; rw [← Ny126018.out] at ho; have n0_ := Aside0.mk (hb); have n1_ := Aside0.mk (ho); clear HB; clear HO_12; have HB := n0_; have HO126020 := n1_; clear n0_ n1_; clear ho hb hg hat)); try go_wp2_with (first | (go_at_call 53; (with_reducible refine (columbariumref1_Get.calls k2 _ _ l0 x10_2 t126004 t126005 t126006 _ ?side1 ?side2 A10.out).mono ?_); (case side1 => repeat (first | exact (Kd.C_below HR0.out HB.out) | (with_reducible refine Kd.C_alloc ?_ _) | (with_reducible refine Kd.C_drewN ?_ _) | (with_reducible refine Kd.C_drew ?_))); (case side2 => exact HC0.out); rintro e w' ⟨rfl, ⟨nd, rfl⟩⟩; (try first | exact ⟨rfl, _, World.drewN_drewN _ _ _⟩ | exact ⟨rfl, _, Eq.trans (World.drewN_drewN _ _ _) (congrArg (World.drewN _) (Nat.add_assoc _ _ _))⟩)) | (go_at_call 55; (with_reducible refine (columbariumref1_Zag.calls t126004 t126007 _ A12.out).mono ?_); rintro e w' ⟨rfl, ⟨nd, rfl⟩⟩; (try first | exact ⟨rfl, _, World.drewN_drewN _ _ _⟩ | exact ⟨rfl, _, Eq.trans (World.drewN_drewN _ _ _) (congrArg (World.drewN _) (Nat.add_assoc _ _ _))⟩); obtain ⟨Ao32, co32, eo32⟩ := Kd.R_slice HO_12.out; subst eo32; have p126017 : 0 ≤ ((ji28) : Int) := of_decide_eq_true (by first | (with_reducible assumption) | assumption); have q126017 : (ji28) < (x12_2.length : Int) := of_decide_eq_true (by first | (with_reducible assumption) | assumption); obtain ⟨ad126017, e126017, hx126017_0⟩ := Kd.at_int (Kd.R_reads' HO_12.out).2.2 (ji28) p126017 q126017; cases e126017; replace p126017 := eq_true p126017; replace q126017 := eq_true q126017) | ((with_reducible refine gate_builtin (b := .append) (xs := #[.tmp 77, .tmp 79]) rfl ?_); at_builtin; refine Kd.R_append (Kd.int .i64) (w0 := w) w.heap.size rfl (.tmp 77) (.tmp 79) 58 2 (.int .i64 0) 8 rfl Try.underlying58 info2 rfl (by decide) (by omega) (.slice (some ad126017) x12_2.length co32) x12_2 (wrap64 (t126007 + (rd x12_2 (ji28)))) [.int .i64 (wrap64 (t126007 + (rd x12_2 (ji28))))] (fun _ => True) (fun _ => False) rfl rfl ?aP (fun _ hk => hk.elim) ?aF ?aO ?aB ?aS ?aL ?_; (case aP => exact rfl); (case aB => exact (by repeat (first | (with_reducible first | exact HB.out | apply below_alloc | apply pw_below_drewN | apply below_drew1) | exact HB.out))); (case aF => exact (fun _ _ => trivial)); (case aO => exact (by (with_reducible repeat (first | apply Kd.R_alloc | apply Kd.R_drewN | apply Kd.R_drew)); exact HO_12.out)); (case aS => exact (below_size (by repeat (first | (with_reducible first | exact HB.out | apply below_alloc | apply pw_below_drewN | apply below_drew1) | exact HB.out)))); (case aL => have := LMc31.out; omega); intro v126019 w33 ho hb hg hat; rw [← Ny126018.out] at ho; have n0_ := Aside0.mk (hb); have n1_ := Aside0.mk (ho); clear HB; clear HO_12; have HB := n0_; have HO126020 := n1_; clear n0_ n1_; clear ho hb hg hat)))
                            go_roundg k2
                            case measure => have := HJ5.out; have := HK2.out; omega
                            case rel => exact ⟨(t126005), (y126018), (wrap64 (x13_2 + 1)), (by first | rfl | (simp; done) | (simp [*]; done) | (refine congrArg (Value.int .i64) ?_; (try simp only [decide_eq_true_eq, decide_eq_false_iff_not] at *) <;> (unfold wrap64; omega))), (by first | rfl | (simp; done) | (simp [*]; done) | (refine congrArg (Value.int .i64) ?_; (try simp only [decide_eq_true_eq, decide_eq_false_iff_not] at *) <;> (unfold wrap64; omega))), H', ⟨by have := HJ5.out; have := HK2.out; omega⟩, ⟨by (with_reducible repeat (first | apply Kd.R_alloc | apply Kd.R_drewN | apply Kd.R_drew)); exact HO126020.out⟩, ⟨by repeat (first | (with_reducible first | exact HB.out | apply below_alloc | apply pw_below_drewN | apply below_drew1) | exact HB.out)⟩⟩
                          · rw [if_neg c31] at H
                            exact absurd H (by simp)
                        · rw [if_neg c30] at H
                          exact absurd H (by simp)
                      · rw [if_neg c29] at H
                        exact absurd H (by simp)
                    · rw [if_neg c27] at H
                      have c27b0 : decide (0 < x13_2) = false := decide_eq_false c27
                      clear c27
                      by_cases c34 : x12_2.length < 17592186044416
                      · rw [if_pos c34] at H
                        have LMc34 := Aside0.mk c34
                        clear c34
                        obtain ⟨y126021, hy126021⟩ : ∃ y_ : List Int, y_ = (x12_2 ++ [t126007]) := ⟨_, rfl⟩
                        replace H : (columbariumref4_Decode.l0 k2 l0 t126001 t126005 y126021 (wrap64 (x13_2 + 1))) = some (r1, r2, r3) := by first | (rw [hy126021]; with_reducible exact H) | (have H2_ := (Option.bind_some _ _).symm.trans H; rw [hy126021]; with_reducible exact H2_) | (have H2_ := (Option.bind_some _ _).symm.trans H; with_reducible exact H2_) | with_reducible exact H | (rw [hy126021]; exact H) | exact H
                        have Ny126021 := Aside0.mk hy126021
                        clear hy126021
                        have H' := Aside0.mk H
                        clear H
                        go_wp2_with (first | (go_at_call 53; (with_reducible refine (columbariumref1_Get.calls k2 _ _ l0 x10_2 t126004 t126005 t126006 _ ?side1 ?side2 A10.out).mono ?_); (case side1 => repeat (first | exact (Kd.C_below HR0.out HB.out) | (with_reducible refine Kd.C_alloc ?_ _) | (with_reducible refine Kd.C_drewN ?_ _) | (with_reducible refine Kd.C_drew ?_))); (case side2 => exact HC0.out); rintro e w' ⟨rfl, ⟨nd, rfl⟩⟩; (try first | exact ⟨rfl, _, World.drewN_drewN _ _ _⟩ | exact ⟨rfl, _, Eq.trans (World.drewN_drewN _ _ _) (congrArg (World.drewN _) (Nat.add_assoc _ _ _))⟩)) | (go_at_call 55; (with_reducible refine (columbariumref1_Zag.calls t126004 t126007 _ A12.out).mono ?_); rintro e w' ⟨rfl, ⟨nd, rfl⟩⟩; (try first | exact ⟨rfl, _, World.drewN_drewN _ _ _⟩ | exact ⟨rfl, _, Eq.trans (World.drewN_drewN _ _ _) (congrArg (World.drewN _) (Nat.add_assoc _ _ _))⟩)) | ((with_reducible refine gate_builtin (b := .append) (xs := #[.tmp 77, .tmp 79]) rfl ?_); at_builtin; refine Kd.R_append (Kd.int .i64) (w0 := w) w.heap.size rfl (.tmp 77) (.tmp 79) 58 2 (.int .i64 0) 8 rfl Try.underlying58 info2 rfl (by decide) (by omega) u12 x12_2 t126007 [.int .i64 t126007] (fun _ => True) (fun _ => False) rfl rfl ?aP (fun _ hk => hk.elim) ?aF ?aO ?aB ?aS ?aL ?_; (case aP => exact rfl); (case aB => exact (by repeat (first | (with_reducible first | exact HB.out | apply below_alloc | apply pw_below_drewN | apply below_drew1) | exact HB.out))); (case aF => exact (fun _ _ => trivial)); (case aO => exact (by (with_reducible repeat (first | apply Kd.R_alloc | apply Kd.R_drewN | apply Kd.R_drew)); exact HO_12.out)); (case aS => exact (below_size (by repeat (first | (with_reducible first | exact HB.out | apply below_alloc | apply pw_below_drewN | apply below_drew1) | exact HB.out)))); (case aL => have := LMc34.out; omega); intro v126022 w35 ho hb hg hat; rw [← Ny126021.out] at ho; have n0_ := Aside0.mk (hb); have n1_ := Aside0.mk (ho); clear HB; clear HO_12; have HB := n0_; have HO126023 := n1_; clear n0_ n1_; clear ho hb hg hat))
                        repeat (go_quiet (first | (go_at_call 53; (with_reducible refine (columbariumref1_Get.calls k2 _ _ l0 x10_2 t126004 t126005 t126006 _ ?side1 ?side2 A10.out).mono ?_); (case side1 => repeat (first | exact (Kd.C_below HR0.out HB.out) | (with_reducible refine Kd.C_alloc ?_ _) | (with_reducible refine Kd.C_drewN ?_ _) | (with_reducible refine Kd.C_drew ?_))); (case side2 => exact HC0.out); rintro e w' ⟨rfl, ⟨nd, rfl⟩⟩; (try first | exact ⟨rfl, _, World.drewN_drewN _ _ _⟩ | exact ⟨rfl, _, Eq.trans (World.drewN_drewN _ _ _) (congrArg (World.drewN _) (Nat.add_assoc _ _ _))⟩)) | (go_at_call 55; (with_reducible refine (columbariumref1_Zag.calls t126004 t126007 _ A12.out).mono ?_); rintro e w' ⟨rfl, ⟨nd, rfl⟩⟩; (try first | exact ⟨rfl, _, World.drewN_drewN _ _ _⟩ | exact ⟨rfl, _, Eq.trans (World.drewN_drewN _ _ _) (congrArg (World.drewN _) (Nat.add_assoc _ _ _))⟩)) | ((with_reducible refine gate_builtin (b := .append) (xs := #[.tmp 77, .tmp 79]) rfl ?_); at_builtin; refine Kd.R_append (Kd.int .i64) (w0 := w) w.heap.size rfl (.tmp 77) (.tmp 79) 58 2 (.int .i64 0) 8 rfl Try.underlying58 info2 rfl (by decide) (by omega) u12 x12_2 t126007 [.int .i64 t126007] (fun _ => True) (fun _ => False) rfl rfl ?aP (fun _ hk => hk.elim) ?aF ?aO ?aB ?aS ?aL ?_; (case aP => exact rfl); (case aB => exact (by repeat (first | (with_reducible first | exact HB.out | apply below_alloc | apply pw_below_drewN | apply below_drew1) | exact HB.out))); (case aF => exact (fun _ _ => trivial)); (case aO => exact (by (with_reducible repeat (first | apply Kd.R_alloc | apply Kd.R_drewN | apply Kd.R_drew)); exact HO_12.out)); (case aS => exact (below_size (by repeat (first | (with_reducible first | exact HB.out | apply below_alloc | apply pw_below_drewN | apply below_drew1) | exact HB.out)))); (case aL => have := LMc34.out; omega); intro v126022 w35 ho hb hg hat; rw [← Ny126021.out] at ho; have n0_ := Aside0.mk (hb); have n1_ := Aside0.mk (ho); clear HB; clear HO_12; have HB := n0_; have HO126023 := n1_; clear n0_ n1_; clear ho hb hg hat)); try go_wp2_with (first | (go_at_call 53; (with_reducible refine (columbariumref1_Get.calls k2 _ _ l0 x10_2 t126004 t126005 t126006 _ ?side1 ?side2 A10.out).mono ?_); (case side1 => repeat (first | exact (Kd.C_below HR0.out HB.out) | (with_reducible refine Kd.C_alloc ?_ _) | (with_reducible refine Kd.C_drewN ?_ _) | (with_reducible refine Kd.C_drew ?_))); (case side2 => exact HC0.out); rintro e w' ⟨rfl, ⟨nd, rfl⟩⟩; (try first | exact ⟨rfl, _, World.drewN_drewN _ _ _⟩ | exact ⟨rfl, _, Eq.trans (World.drewN_drewN _ _ _) (congrArg (World.drewN _) (Nat.add_assoc _ _ _))⟩)) | (go_at_call 55; (with_reducible refine (columbariumref1_Zag.calls t126004 t126007 _ A12.out).mono ?_); rintro e w' ⟨rfl, ⟨nd, rfl⟩⟩; (try first | exact ⟨rfl, _, World.drewN_drewN _ _ _⟩ | exact ⟨rfl, _, Eq.trans (World.drewN_drewN _ _ _) (congrArg (World.drewN _) (Nat.add_assoc _ _ _))⟩)) | ((with_reducible refine gate_builtin (b := .append) (xs := #[.tmp 77, .tmp 79]) rfl ?_); at_builtin; refine Kd.R_append (Kd.int .i64) (w0 := w) w.heap.size rfl (.tmp 77) (.tmp 79) 58 2 (.int .i64 0) 8 rfl Try.underlying58 info2 rfl (by decide) (by omega) u12 x12_2 t126007 [.int .i64 t126007] (fun _ => True) (fun _ => False) rfl rfl ?aP (fun _ hk => hk.elim) ?aF ?aO ?aB ?aS ?aL ?_; (case aP => exact rfl); (case aB => exact (by repeat (first | (with_reducible first | exact HB.out | apply below_alloc | apply pw_below_drewN | apply below_drew1) | exact HB.out))); (case aF => exact (fun _ _ => trivial)); (case aO => exact (by (with_reducible repeat (first | apply Kd.R_alloc | apply Kd.R_drewN | apply Kd.R_drew)); exact HO_12.out)); (case aS => exact (below_size (by repeat (first | (with_reducible first | exact HB.out | apply below_alloc | apply pw_below_drewN | apply below_drew1) | exact HB.out)))); (case aL => have := LMc34.out; omega); intro v126022 w35 ho hb hg hat; rw [← Ny126021.out] at ho; have n0_ := Aside0.mk (hb); have n1_ := Aside0.mk (ho); clear HB; clear HO_12; have HB := n0_; have HO126023 := n1_; clear n0_ n1_; clear ho hb hg hat)))
                        go_roundg k2
                        case measure => have := HJ5.out; have := HK2.out; omega
                        case rel => exact ⟨(t126005), (y126021), (wrap64 (x13_2 + 1)), (by first | rfl | (simp; done) | (simp [*]; done) | (refine congrArg (Value.int .i64) ?_; (try simp only [decide_eq_true_eq, decide_eq_false_iff_not] at *) <;> (unfold wrap64; omega))), (by first | rfl | (simp; done) | (simp [*]; done) | (refine congrArg (Value.int .i64) ?_; (try simp only [decide_eq_true_eq, decide_eq_false_iff_not] at *) <;> (unfold wrap64; omega))), H', ⟨by have := HJ5.out; have := HK2.out; omega⟩, ⟨by (with_reducible repeat (first | apply Kd.R_alloc | apply Kd.R_drewN | apply Kd.R_drew)); exact HO126023.out⟩, ⟨by repeat (first | (with_reducible first | exact HB.out | apply below_alloc | apply pw_below_drewN | apply below_drew1) | exact HB.out)⟩⟩
                      · rw [if_neg c34] at H
                        exact absurd H (by simp)
                · rw [if_neg c11] at H
                  have c11b0 : (t126006 == 0) = false := beq_eq_false_iff_ne.mpr c11
                  have c11b1 : (t126006 != 0) = true := bne_iff_ne.mpr c11
                  simp only [Option.some.injEq, Prod.mk.injEq] at H
                  obtain ⟨rfl, rfl, rfl⟩ := H
                  go_wp2_with (first | (go_at_call 53; (with_reducible refine (columbariumref1_Get.calls k2 _ _ l0 x10_2 t126004 t126005 t126006 _ ?side1 ?side2 A10.out).mono ?_); (case side1 => repeat (first | exact (Kd.C_below HR0.out HB.out) | (with_reducible refine Kd.C_alloc ?_ _) | (with_reducible refine Kd.C_drewN ?_ _) | (with_reducible refine Kd.C_drew ?_))); (case side2 => exact HC0.out); rintro e w' ⟨rfl, ⟨nd, rfl⟩⟩; (try first | exact ⟨rfl, _, World.drewN_drewN _ _ _⟩ | exact ⟨rfl, _, Eq.trans (World.drewN_drewN _ _ _) (congrArg (World.drewN _) (Nat.add_assoc _ _ _))⟩)))
                  repeat (go_quiet (first | (go_at_call 53; (with_reducible refine (columbariumref1_Get.calls k2 _ _ l0 x10_2 t126004 t126005 t126006 _ ?side1 ?side2 A10.out).mono ?_); (case side1 => repeat (first | exact (Kd.C_below HR0.out HB.out) | (with_reducible refine Kd.C_alloc ?_ _) | (with_reducible refine Kd.C_drewN ?_ _) | (with_reducible refine Kd.C_drew ?_))); (case side2 => exact HC0.out); rintro e w' ⟨rfl, ⟨nd, rfl⟩⟩; (try first | exact ⟨rfl, _, World.drewN_drewN _ _ _⟩ | exact ⟨rfl, _, Eq.trans (World.drewN_drewN _ _ _) (congrArg (World.drewN _) (Nat.add_assoc _ _ _))⟩))); try go_wp2_with (first | (go_at_call 53; (with_reducible refine (columbariumref1_Get.calls k2 _ _ l0 x10_2 t126004 t126005 t126006 _ ?side1 ?side2 A10.out).mono ?_); (case side1 => repeat (first | exact (Kd.C_below HR0.out HB.out) | (with_reducible refine Kd.C_alloc ?_ _) | (with_reducible refine Kd.C_drewN ?_ _) | (with_reducible refine Kd.C_drew ?_))); (case side2 => exact HC0.out); rintro e w' ⟨rfl, ⟨nd, rfl⟩⟩; (try first | exact ⟨rfl, _, World.drewN_drewN _ _ _⟩ | exact ⟨rfl, _, Eq.trans (World.drewN_drewN _ _ _) (congrArg (World.drewN _) (Nat.add_assoc _ _ _))⟩))))
                  go_ret3
                  exact ⟨_, by first | rfl | (simp [errW_none, errW_some] <;> rfl) | (simp [*, errW_none, errW_some] <;> rfl), by first | exact Kd.R_nil _ _ _ _ _ | exact Kd.N_nil _ _ _ _ _ | exact Kd.V_nil _ _ _ _ _ | exact Kd.Q_nil _ _ _ _ _ | exact Kd.S_nil _ _ _ _ _, by repeat (first | (with_reducible first | exact HB.out | apply below_alloc | apply pw_below_drewN | apply below_drew1) | exact HB.out)⟩
              · rw [if_neg c9] at H
                have c9b0 : decide ((IntKind.u64.wrap (x13_2)) < t126001) = false := decide_eq_false c9
                clear c9
                simp only [Option.some.injEq, Prod.mk.injEq] at H
                obtain ⟨rfl, rfl, rfl⟩ := H
                go_wp2
                repeat (go_quiet (fail); try go_wp2)
                go_ret3
                exact ⟨_, by first | rfl | (simp [errW_none, errW_some] <;> rfl) | (simp [*, errW_none, errW_some] <;> rfl), by (with_reducible repeat (first | apply Kd.R_alloc | apply Kd.R_drewN | apply Kd.R_drew)); exact HO_12.out, by repeat (first | (with_reducible first | exact HB.out | apply below_alloc | apply pw_below_drewN | apply below_drew1) | exact HB.out)⟩
  · rw [if_neg c5] at H
    have c5b0 : (t126003 == 0) = false := beq_eq_false_iff_ne.mpr c5
    have c5b1 : (t126003 != 0) = true := bne_iff_ne.mpr c5
    simp only [Option.some.injEq, Prod.mk.injEq] at H
    obtain ⟨rfl, rfl, rfl⟩ := H
    go_enter Try.func62, Try.ntmps62
    go_wp2_with (first | (go_at_call 53; (with_reducible refine (columbariumref1_Get.calls k _ _ l0 a1 t126001 t126002 t126003 _ ?side1 ?side2 A4.out).mono ?_); (case side1 => repeat (first | exact HR0.out | (with_reducible refine Kd.C_alloc ?_ _) | (with_reducible refine Kd.C_drewN ?_ _) | (with_reducible refine Kd.C_drew ?_))); (case side2 => exact HC0.out); rintro e w' ⟨rfl, ⟨nd, rfl⟩⟩; (try first | exact ⟨rfl, _, World.drewN_drewN _ _ _⟩ | exact ⟨rfl, _, Eq.trans (World.drewN_drewN _ _ _) (congrArg (World.drewN _) (Nat.add_assoc _ _ _))⟩)))
    repeat (go_quiet (first | (go_at_call 53; (with_reducible refine (columbariumref1_Get.calls k _ _ l0 a1 t126001 t126002 t126003 _ ?side1 ?side2 A4.out).mono ?_); (case side1 => repeat (first | exact HR0.out | (with_reducible refine Kd.C_alloc ?_ _) | (with_reducible refine Kd.C_drewN ?_ _) | (with_reducible refine Kd.C_drew ?_))); (case side2 => exact HC0.out); rintro e w' ⟨rfl, ⟨nd, rfl⟩⟩; (try first | exact ⟨rfl, _, World.drewN_drewN _ _ _⟩ | exact ⟨rfl, _, Eq.trans (World.drewN_drewN _ _ _) (congrArg (World.drewN _) (Nat.add_assoc _ _ _))⟩))); try go_wp2_with (first | (go_at_call 53; (with_reducible refine (columbariumref1_Get.calls k _ _ l0 a1 t126001 t126002 t126003 _ ?side1 ?side2 A4.out).mono ?_); (case side1 => repeat (first | exact HR0.out | (with_reducible refine Kd.C_alloc ?_ _) | (with_reducible refine Kd.C_drewN ?_ _) | (with_reducible refine Kd.C_drew ?_))); (case side2 => exact HC0.out); rintro e w' ⟨rfl, ⟨nd, rfl⟩⟩; (try first | exact ⟨rfl, _, World.drewN_drewN _ _ _⟩ | exact ⟨rfl, _, Eq.trans (World.drewN_drewN _ _ _) (congrArg (World.drewN _) (Nat.add_assoc _ _ _))⟩))))
    go_ret3
    exact ⟨_, by first | rfl | (simp [errW_none, errW_some] <;> rfl) | (simp [*, errW_none, errW_some] <;> rfl), by first | exact Kd.R_nil _ _ _ _ _ | exact Kd.N_nil _ _ _ _ _ | exact Kd.V_nil _ _ _ _ _ | exact Kd.Q_nil _ _ _ _ _ | exact Kd.S_nil _ _ _ _ _, by repeat (first | (with_reducible first | exact HB.out | apply below_alloc | apply pw_below_drewN | apply below_drew1) | exact HB.out)⟩

end Go.Proofs.Ytjpeojohakhmdaa.PS
