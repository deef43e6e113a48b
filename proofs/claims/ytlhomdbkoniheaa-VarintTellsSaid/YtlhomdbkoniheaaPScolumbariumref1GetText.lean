-- Written by a program of this session, out of the translation; Lean checks it.
import Derived.Test.YtlhomdbkoniheaaPSx0
import Derived.Test.YtlhomdbkoniheaaPScolumbariumref1Get
namespace Go.Proofs.Ytlhomdbkoniheaa.PS
open Go.RowKit Go.Proofs.YtlhomdbkoniheaaW.PrintWords Go.Proofs.YtlhomdbkoniheaaW.PrintLast Go.Proofs.YtlhomdbkoniheaaW.PrintMore
attribute [local go_sem high] pw_str_leq pw_str_gtr
attribute [local go_sem] pw_us8 pw_us32 pw_us64 pw_max2_str pw_min2_str max2_int min2_int max_two min_two max_three min_three max_four min_four   -- for this text's walks alone
set_option linter.unusedVariables false
set_option linter.unusedSimpArgs false

/-! ### columbariumref1_GetText: function 14 -/
def columbariumref1_GetText.j0 : Nat → List Int → Int → Int → Int → Option (ByteArray × Int × Int)
  | 0, _, _, _, _ => none
  | k + 1, x0, x2, x9, x10 => if x9 > (IntKind.u64.wrap (x2)) then (some ((⟨#[]⟩ : ByteArray), 0, 3)) else (if (IntKind.u64.wrap (wrap64 ((x0.length : Int) - x10))) < x9 then (some ((⟨#[]⟩ : ByteArray), 0, 10)) else (if 0 ≤ x10 then (if x10 ≤ (wrap64 (x10 + (wrap64 (x9)))) then (if (wrap64 (x10 + (wrap64 (x9)))) ≤ (x0.length : Int) then (some (strOfNums ((x0.take ((wrap64 (x10 + (wrap64 (x9)))) : Int).toNat).drop (x10 : Int).toNat), wrap64 (x10 + (wrap64 (x9))), 0)) else (none)) else (none)) else (none)))
def columbariumref1_GetText.f (k : Nat) (l0 : List Int) (a1 : Int) (a2 : Int) : Option (ByteArray × Int × Int) := (columbariumref1_Get.f k l0 a1).bind fun bt30001 => (if bt30001.2.2 = 0 then (if a2 < 0 then (columbariumref1_GetText.j0 k l0 0 bt30001.1 bt30001.2.1) else (columbariumref1_GetText.j0 k l0 a2 bt30001.1 bt30001.2.1)) else (some ((⟨#[]⟩ : ByteArray), 0, bt30001.2.2)))
theorem columbariumref1_GetText.mono_l : ∀ k, (∀ y0 y1 y2 y3, LeO (columbariumref1_GetText.j0 k y0 y1 y2 y3) (columbariumref1_GetText.j0 (k + 1) y0 y1 y2 y3))
  | 0 => fun _ _ _ _ r h => by simp [columbariumref1_GetText.j0] at h
  | k + 1 => by
    have ih0 := columbariumref1_GetText.mono_l k
    · intro y0 y1 y2 y3
      unfold columbariumref1_GetText.j0
      repeat' first
      | (with_reducible exact ih0 _ _ _ _)
      | (with_reducible exact columbariumref1_Get.mono _ _ _)
      | (with_reducible exact LeO.refl _)
      | (with_reducible exact LeO.none _)
      | (with_reducible refine LeO.ite ?_ ?_)
      | (with_reducible refine LeO.bind ?_ (fun _ => ?_))
      | exact ih0 _ _ _ _
      | exact columbariumref1_Get.mono _ _ _
      | exact LeO.none _
      | refine LeO.ite ?_ ?_
      | refine LeO.bind ?_ (fun _ => ?_)
theorem columbariumref1_GetText.mono : ∀ a0 a1 a2 k, LeO (columbariumref1_GetText.f k a0 a1 a2) (columbariumref1_GetText.f (k + 1) a0 a1 a2) := by
  intro a0 a1 a2 k
  have ih0 := columbariumref1_GetText.mono_l k
  unfold columbariumref1_GetText.f
  repeat' first
      | (with_reducible exact ih0 _ _ _ _)
      | (with_reducible exact columbariumref1_Get.mono _ _ _)
      | (with_reducible exact LeO.refl _)
      | (with_reducible exact LeO.none _)
      | (with_reducible refine LeO.ite ?_ ?_)
      | (with_reducible refine LeO.bind ?_ (fun _ => ?_))
      | exact ih0 _ _ _ _
      | exact columbariumref1_Get.mono _ _ _
      | exact LeO.none _
      | refine LeO.ite ?_ ?_
      | refine LeO.bind ?_ (fun _ => ?_)
set_option maxHeartbeats 8000000 in
set_option maxRecDepth 100000 in
theorem columbariumref1_GetText.calls (k : Nat) (A0 : Option Addr) (c0 : Nat) (l0 : List Int) (a1 : Int) (a2 : Int) (r1 : ByteArray) (r2 : Int) (r3 : Int) (w : World) (hr0 : Kd.C (Kd.int .u8) w A0 l0.length l0) (hc0 : l0.length ≤ c0) (h : columbariumref1_GetText.f k l0 a1 a2 = some (r1, r2, r3)) :
    Calls Try.prog 14 #[.slice A0 l0.length c0, .int .i64 a1, .int .i64 a2] w fun e w' => e = .returned (.tuple #[.string r1, .int .i64 r2, .int .i64 r3]) ∧ Drawn0 w w' := by
  have HR0 := Aside0.mk hr0
  have HC0 := Aside0.mk hc0
  clear hr0 hc0
  have H : ((columbariumref1_Get.f k l0 a1).bind fun bt30001 => (if bt30001.2.2 = 0 then (if a2 < 0 then (columbariumref1_GetText.j0 k l0 0 bt30001.1 bt30001.2.1) else (columbariumref1_GetText.j0 k l0 a2 bt30001.1 bt30001.2.1)) else (some ((⟨#[]⟩ : ByteArray), 0, bt30001.2.2)))) = some (r1, r2, r3) := h
  clear h
  replace H := Option.bind_eq_some_iff.mp H
  obtain ⟨⟨t30001, t30002, t30003⟩, A40, H⟩ := H
  replace H : (if t30003 = 0 then (if a2 < 0 then (columbariumref1_GetText.j0 k l0 0 t30001 t30002) else (columbariumref1_GetText.j0 k l0 a2 t30001 t30002)) else (some ((⟨#[]⟩ : ByteArray), 0, t30003))) = some (r1, r2, r3) := H
  have A4 := Aside0.mk A40
  clear A40
  by_cases c5 : t30003 = 0
  · rw [if_pos c5] at H
    have c5b0 : (t30003 == 0) = true := beq_iff_eq.mpr c5
    have c5b1 : (t30003 != 0) = false := bne_eq_false_iff_eq.mpr c5
    clear c5
    have HC6 := Aside0.mk H
    clear H
    go_enter Try.func14, Try.ntmps14
    go_upto_if 23 with (first | ((with_reducible refine gate_callee (f := 9) rfl ?_); refine goesL_ (some 15) rfl rfl Try.func9 (by kernel_rfl) rfl #[.slice A0 l0.length c0, .int .i64 a1] rfl (by (try simp only [List.map_toArray, List.map_cons, List.map_nil]); first | done | rfl | (simp only [List.length_drop, List.length_take]; rfl)) ?_; (with_reducible refine (columbariumref1_Get.calls k _ _ l0 a1 t30001 t30002 t30003 _ ?side1 ?side2 A4.out).mono ?_); (case side1 => repeat (first | exact HR0.out | (with_reducible refine Kd.C_alloc ?_ _) | (with_reducible refine Kd.C_drewN ?_ _) | (with_reducible refine Kd.C_drew ?_))); (case side2 => exact HC0.out); rintro e w' ⟨rfl, ⟨nd, rfl⟩⟩; refine ⟨_, rfl, ?_⟩))
    (try simp only [Act.put, List.setIfInBounds_toArray, List.set_cons_zero, List.set_cons_succ])
    go_cut [2] (fun v2 wc => ∃ (kq : Nat) (x2_5 : Int), v2 = .int .i64 x2_5 ∧ Aside0 (columbariumref1_GetText.j0 kq l0 x2_5 t30001 t30002 = some (r1, r2, r3)) ∧ Aside0 (kq ≤ k) ∧ Drawn0 w wc)
    case first =>
      have H := HC6.out
      clear HC6
      by_cases c7 : a2 < 0
      · rw [if_pos c7] at H
        have c7b0 : decide (a2 < 0) = true := decide_eq_true c7
        clear c7
        (first | rw [c7b0] | (simp only [i64_w, i32_w]; rw [c7b0]) | rw [c7b1] | skip)
        have H' := Aside0.mk H
        clear H
        go_wp2
        go_meet
        case rel => exact ⟨_, (0), (by first | rfl | (simp; done) | (simp [*]; done) | (refine congrArg (Value.int .i64) ?_; (try simp only [decide_eq_true_eq, decide_eq_false_iff_not] at *) <;> (unfold wrap64; omega))), H', ⟨by first | omega | exact Nat.le_refl _⟩, by repeat (first | exact Drawn0.refl _ | apply Drawn0.step)⟩
      · rw [if_neg c7] at H
        have c7b0 : decide (a2 < 0) = false := decide_eq_false c7
        clear c7
        (first | rw [c7b0] | (simp only [i64_w, i32_w]; rw [c7b0]) | rw [c7b1] | skip)
        have H' := Aside0.mk H
        clear H
        go_wp2
        go_meet
        case rel => exact ⟨_, (a2), (by first | rfl | (simp; done) | (simp [*]; done) | (refine congrArg (Value.int .i64) ?_; (try simp only [decide_eq_true_eq, decide_eq_false_iff_not] at *) <;> (unfold wrap64; omega))), H', ⟨by first | omega | exact Nat.le_refl _⟩, by repeat (first | exact Drawn0.refl _ | apply Drawn0.step)⟩
    case rest =>
      clear HC6
      try clear c1
      try clear p2
      try clear c5
      try clear c5b0
      try clear c5b1
      try clear p6
      try clear c7
      try clear c7b0
      try clear c7b1
      obtain ⟨kq, x2_5, rfl, HA, HJ5, ⟨mc5, rfl⟩⟩ := hcut
      cases kq with
      | zero => exact absurd HA.out (by simp [columbariumref1_GetText.j0])
      | succ kj5 =>
        have H := HA.out
        clear HA
        simp only [columbariumref1_GetText.j0] at H
        by_cases c8 : t30001 > (IntKind.u64.wrap (x2_5))
        · rw [if_pos c8] at H
          have c8b0 : decide ((IntKind.u64.wrap (x2_5)) < t30001) = true := decide_eq_true c8
          clear c8
          simp only [Option.some.injEq, Prod.mk.injEq] at H
          obtain ⟨rfl, rfl, rfl⟩ := H
          go_wp2
          go_ret3
          exact ⟨by first | rfl | (simp; done) | (simp [*]; done) | (refine congrArg (Value.int .i64) ?_; (try simp only [decide_eq_true_eq, decide_eq_false_iff_not] at *) <;> (unfold wrap64; omega)), by repeat (first | exact Drawn0.refl _ | apply Drawn0.step)⟩
        · rw [if_neg c8] at H
          have c8b0 : decide ((IntKind.u64.wrap (x2_5)) < t30001) = false := decide_eq_false c8
          clear c8
          by_cases c9 : (IntKind.u64.wrap (wrap64 ((l0.length : Int) - t30002))) < t30001
          · rw [if_pos c9] at H
            have c9b0 : decide ((IntKind.u64.wrap (wrap64 ((l0.length : Int) - t30002))) < t30001) = true := decide_eq_true c9
            clear c9
            simp only [Option.some.injEq, Prod.mk.injEq] at H
            obtain ⟨rfl, rfl, rfl⟩ := H
            go_wp2
            go_ret3
            exact ⟨by first | rfl | (simp; done) | (simp [*]; done) | (refine congrArg (Value.int .i64) ?_; (try simp only [decide_eq_true_eq, decide_eq_false_iff_not] at *) <;> (unfold wrap64; omega)), by repeat (first | exact Drawn0.refl _ | apply Drawn0.step)⟩
          · rw [if_neg c9] at H
            have c9b0 : decide ((IntKind.u64.wrap (wrap64 ((l0.length : Int) - t30002))) < t30001) = false := decide_eq_false c9
            clear c9
            by_cases c10 : 0 ≤ t30002
            · rw [if_pos c10] at H
              have c10b0 := eq_true c10
              have c10b1 : decide (0 ≤ t30002) = true := decide_eq_true c10
              clear c10
              by_cases c11 : t30002 ≤ (wrap64 (t30002 + (wrap64 (t30001))))
              · rw [if_pos c11] at H
                have c11b0 := eq_true c11
                have c11b1 : decide (t30002 ≤ (wrap64 (t30002 + (wrap64 (t30001))))) = true := decide_eq_true c11
                by_cases c12 : (wrap64 (t30002 + (wrap64 (t30001)))) ≤ (l0.length : Int)
                · rw [if_pos c12] at H
                  have c12b0 := eq_true c12
                  have c12b1 : decide ((wrap64 (t30002 + (wrap64 (t30001)))) ≤ (l0.length : Int)) = true := decide_eq_true c12
                  obtain ⟨y30004, hy30004⟩ : ∃ y_ : List Int, y_ = ((l0.take ((wrap64 (t30002 + (wrap64 (t30001)))) : Int).toNat).drop (t30002 : Int).toNat) := ⟨_, rfl⟩
                  replace H : (some (strOfNums y30004, wrap64 (t30002 + (wrap64 (t30001))), 0)) = some (r1, r2, r3) := by first | (rw [hy30004]; with_reducible exact H) | (have H2_ := (Option.bind_some _ _).symm.trans H; rw [hy30004]; with_reducible exact H2_) | (have H2_ := (Option.bind_some _ _).symm.trans H; with_reducible exact H2_) | with_reducible exact H | (rw [hy30004]; exact H) | exact H
                  have Ny30004 := Aside0.mk hy30004
                  clear hy30004
                  simp only [Option.some.injEq, Prod.mk.injEq] at H
                  obtain ⟨rfl, rfl, rfl⟩ := H
                  obtain ⟨i013, hi013, _, hsz13, _⟩ := info_parts info5
                  obtain ⟨A13, hcut13, hA13, hC13⟩ := print_mid_of (P := Try.prog) (Value.int .u8) 0 22 5 .i64 .i64 Try.underlying22 hi013 hsz13 A0 c0 l0 t30002 (wrap64 (t30002 + (wrap64 (t30001)))) (of_decide_eq_true (by first | (with_reducible assumption) | assumption)) (by first | omega | exact of_decide_eq_true (by first | (with_reducible assumption) | assumption)) (of_decide_eq_true (by first | (with_reducible assumption) | assumption)) HC0.out
                  have HR30005 := Aside0.mk (Kd.C_of_reads (h1 := fun _ => rfl) (hA13 _ (Kd.reads_of_C HR0.out)))
                  have HC30005 := Aside0.mk hC13
                  clear hA13 hC13 hi013 hsz13
                  rw [show ((l0.take ((wrap64 (t30002 + (wrap64 (t30001)))) : Int).toNat).drop (t30002 : Int).toNat) = y30004 from Ny30004.out.symm] at hcut13
                  rw [show ((l0.take ((wrap64 (t30002 + (wrap64 (t30001)))) : Int).toNat).drop (t30002 : Int).toNat) = y30004 from Ny30004.out.symm] at HR30005
                  rw [show ((l0.take ((wrap64 (t30002 + (wrap64 (t30001)))) : Int).toNat).drop (t30002 : Int).toNat) = y30004 from Ny30004.out.symm] at HC30005
                  have hcv14 := pw_C_string_len (P := Try.prog) (A := A13) (c := (c0 - t30002.toNat)) Try.underlying22 Try.underlying5 Try.underlying9 HR30005.out
                  go_wp2
                  go_ret3
                  exact ⟨by first | rfl | (simp; done) | (simp [*]; done) | (refine congrArg (Value.int .i64) ?_; (try simp only [decide_eq_true_eq, decide_eq_false_iff_not] at *) <;> (unfold wrap64; omega)), by repeat (first | exact Drawn0.refl _ | apply Drawn0.step)⟩
                · rw [if_neg c12] at H
                  exact absurd H (by simp)
              · rw [if_neg c11] at H
                exact absurd H (by simp)
            · rw [if_neg c10] at H
              exact absurd H (by simp)
  · rw [if_neg c5] at H
    have c5b0 : (t30003 == 0) = false := beq_eq_false_iff_ne.mpr c5
    have c5b1 : (t30003 != 0) = true := bne_iff_ne.mpr c5
    simp only [Option.some.injEq, Prod.mk.injEq] at H
    obtain ⟨rfl, rfl, rfl⟩ := H
    go_enter Try.func14, Try.ntmps14
    go_wp2_with (first | ((with_reducible refine gate_callee (f := 9) rfl ?_); refine goesL_ (some 15) rfl rfl Try.func9 (by kernel_rfl) rfl #[.slice A0 l0.length c0, .int .i64 a1] rfl (by (try simp only [List.map_toArray, List.map_cons, List.map_nil]); first | done | rfl | (simp only [List.length_drop, List.length_take]; rfl)) ?_; (with_reducible refine (columbariumref1_Get.calls k _ _ l0 a1 t30001 t30002 t30003 _ ?side1 ?side2 A4.out).mono ?_); (case side1 => repeat (first | exact HR0.out | (with_reducible refine Kd.C_alloc ?_ _) | (with_reducible refine Kd.C_drewN ?_ _) | (with_reducible refine Kd.C_drew ?_))); (case side2 => exact HC0.out); rintro e w' ⟨rfl, ⟨nd, rfl⟩⟩; refine ⟨_, rfl, ?_⟩))
    go_ret3
    exact ⟨by first | rfl | (simp; done) | (simp [*]; done) | (refine congrArg (Value.int .i64) ?_; (try simp only [decide_eq_true_eq, decide_eq_false_iff_not] at *) <;> (unfold wrap64; omega)), by repeat (first | exact Drawn0.refl _ | apply Drawn0.step)⟩

end Go.Proofs.Ytlhomdbkoniheaa.PS
