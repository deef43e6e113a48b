-- Written by a program of this session, out of the translation; Lean checks it.
import Derived.Test.YtlhomdbkoniheaaPSx0
import Derived.Test.YtlhomdbkoniheaaPSvarintGet
namespace Go.Proofs.Ytlhomdbkoniheaa.PS
open Go.RowKit Go.Proofs.YtlhomdbkoniheaaW.PrintWords Go.Proofs.YtlhomdbkoniheaaW.PrintLast Go.Proofs.YtlhomdbkoniheaaW.PrintMore
attribute [local go_sem high] pw_str_leq pw_str_gtr
attribute [local go_sem] pw_us8 pw_us32 pw_us64 pw_max2_str pw_min2_str max2_int min2_int max_two min_two max_three min_three max_four min_four   -- for this text's walks alone
set_option linter.unusedVariables false
set_option linter.unusedSimpArgs false

/-! ### varint_GetText: function 10 -/
def varint_GetText.f (k : Nat) (l0 : List Int) (a1 : Int) (a2 : Int) : Option (ByteArray × Int × Int) := (varint_Get.f k l0 a1).bind fun bt22001 => (if bt22001.2.2 = 0 then (if bt22001.1 > (IntKind.u64.wrap (mx a2 0)) then (some ((⟨#[]⟩ : ByteArray), 0, 3)) else (if bt22001.1 > (IntKind.u64.wrap (wrap64 ((l0.length : Int) - bt22001.2.1))) then (some ((⟨#[]⟩ : ByteArray), 0, 10)) else (if 0 ≤ bt22001.2.1 then (if bt22001.2.1 ≤ (wrap64 (bt22001.2.1 + (wrap64 (bt22001.1)))) then (if (wrap64 (bt22001.2.1 + (wrap64 (bt22001.1)))) ≤ (l0.length : Int) then (some (strOfNums ((l0.take ((wrap64 (bt22001.2.1 + (wrap64 (bt22001.1)))) : Int).toNat).drop (bt22001.2.1 : Int).toNat), wrap64 (bt22001.2.1 + (wrap64 (bt22001.1))), 0)) else (none)) else (none)) else (none)))) else (some ((⟨#[]⟩ : ByteArray), 0, bt22001.2.2)))
theorem varint_GetText.mono : ∀ a0 a1 a2 k, LeO (varint_GetText.f k a0 a1 a2) (varint_GetText.f (k + 1) a0 a1 a2) := by
  intro a0 a1 a2 k
  unfold varint_GetText.f
  repeat' first
      | (with_reducible exact varint_Get.mono _ _ _)
      | (with_reducible exact LeO.refl _)
      | (with_reducible exact LeO.none _)
      | (with_reducible refine LeO.ite ?_ ?_)
      | (with_reducible refine LeO.bind ?_ (fun _ => ?_))
      | exact varint_Get.mono _ _ _
      | exact LeO.none _
      | refine LeO.ite ?_ ?_
      | refine LeO.bind ?_ (fun _ => ?_)
set_option maxHeartbeats 8000000 in
set_option maxRecDepth 100000 in
theorem varint_GetText.calls (k : Nat) (A0 : Option Addr) (c0 : Nat) (l0 : List Int) (a1 : Int) (a2 : Int) (r1 : ByteArray) (r2 : Int) (r3 : Int) (w : World) (hr0 : Kd.C (Kd.int .u8) w A0 l0.length l0) (hc0 : l0.length ≤ c0) (h : varint_GetText.f k l0 a1 a2 = some (r1, r2, r3)) :
    Calls Try.prog 10 #[.slice A0 l0.length c0, .int .i64 a1, .int .i64 a2] w fun e w' => e = .returned (.tuple #[.string r1, .int .i64 r2, .int .i64 r3]) ∧ Below w.heap.size w w' := by
  have HR0 := Aside0.mk hr0
  have HC0 := Aside0.mk hc0
  clear hr0 hc0
  have HB := Aside0.mk (Below.refl w.heap.size w)
  have H : ((varint_Get.f k l0 a1).bind fun bt22001 => (if bt22001.2.2 = 0 then (if bt22001.1 > (IntKind.u64.wrap (mx a2 0)) then (some ((⟨#[]⟩ : ByteArray), 0, 3)) else (if bt22001.1 > (IntKind.u64.wrap (wrap64 ((l0.length : Int) - bt22001.2.1))) then (some ((⟨#[]⟩ : ByteArray), 0, 10)) else (if 0 ≤ bt22001.2.1 then (if bt22001.2.1 ≤ (wrap64 (bt22001.2.1 + (wrap64 (bt22001.1)))) then (if (wrap64 (bt22001.2.1 + (wrap64 (bt22001.1)))) ≤ (l0.length : Int) then (some (strOfNums ((l0.take ((wrap64 (bt22001.2.1 + (wrap64 (bt22001.1)))) : Int).toNat).drop (bt22001.2.1 : Int).toNat), wrap64 (bt22001.2.1 + (wrap64 (bt22001.1))), 0)) else (none)) else (none)) else (none)))) else (some ((⟨#[]⟩ : ByteArray), 0, bt22001.2.2)))) = some (r1, r2, r3) := h
  clear h
  replace H := Option.bind_eq_some_iff.mp H
  obtain ⟨⟨t22001, t22002, t22003⟩, A40, H⟩ := H
  replace H : (if t22003 = 0 then (if t22001 > (IntKind.u64.wrap (mx a2 0)) then (some ((⟨#[]⟩ : ByteArray), 0, 3)) else (if t22001 > (IntKind.u64.wrap (wrap64 ((l0.length : Int) - t22002))) then (some ((⟨#[]⟩ : ByteArray), 0, 10)) else (if 0 ≤ t22002 then (if t22002 ≤ (wrap64 (t22002 + (wrap64 (t22001)))) then (if (wrap64 (t22002 + (wrap64 (t22001)))) ≤ (l0.length : Int) then (some (strOfNums ((l0.take ((wrap64 (t22002 + (wrap64 (t22001)))) : Int).toNat).drop (t22002 : Int).toNat), wrap64 (t22002 + (wrap64 (t22001))), 0)) else (none)) else (none)) else (none)))) else (some ((⟨#[]⟩ : ByteArray), 0, t22003))) = some (r1, r2, r3) := H
  have A4 := Aside0.mk A40
  clear A40
  by_cases c5 : t22003 = 0
  · rw [if_pos c5] at H
    have c5b0 : (t22003 == 0) = true := beq_iff_eq.mpr c5
    have c5b1 : (t22003 != 0) = false := bne_eq_false_iff_eq.mpr c5
    clear c5
    obtain ⟨ji6, hji6⟩ : ∃ j_ : Int, (mx a2 0) = j_ := ⟨_, rfl⟩
    replace H : (if t22001 > (IntKind.u64.wrap (ji6)) then (some ((⟨#[]⟩ : ByteArray), 0, 3)) else (if t22001 > (IntKind.u64.wrap (wrap64 ((l0.length : Int) - t22002))) then (some ((⟨#[]⟩ : ByteArray), 0, 10)) else (if 0 ≤ t22002 then (if t22002 ≤ (wrap64 (t22002 + (wrap64 (t22001)))) then (if (wrap64 (t22002 + (wrap64 (t22001)))) ≤ (l0.length : Int) then (some (strOfNums ((l0.take ((wrap64 (t22002 + (wrap64 (t22001)))) : Int).toNat).drop (t22002 : Int).toNat), wrap64 (t22002 + (wrap64 (t22001))), 0)) else (none)) else (none)) else (none)))) = some (r1, r2, r3) := by first | (rw [hji6] at H; exact H) | (simp only [hji6] at H ⊢; exact H)
    (try rw [hji6] at A4)
    (try (have hji6l : 0 ≤ ji6 := by (rw [← hji6]; unfold mx; (repeat' split) <;> omega)))
    (try (have hji6m : 0 ≤ ji6 := by omega))
    have hji6_ : (if a2 < 0 then 0 else a2) = ji6 := hji6
    by_cases c7 : t22001 > (IntKind.u64.wrap (ji6))
    · rw [if_pos c7] at H
      have c7b0 : decide ((IntKind.u64.wrap (ji6)) < t22001) = true := decide_eq_true c7
      clear c7
      simp only [Option.some.injEq, Prod.mk.injEq] at H
      obtain ⟨rfl, rfl, rfl⟩ := H
      go_enter Try.func10, Try.ntmps10
      go_wp2_with (first | ((with_reducible refine gate_callee (f := 6) rfl ?_); refine goesL_ (some 15) rfl rfl Try.func6 (by kernel_rfl) rfl #[.slice A0 l0.length c0, .int .i64 a1] rfl (by (try simp only [List.map_toArray, List.map_cons, List.map_nil]); first | done | rfl | (simp only [List.length_drop, List.length_take]; rfl)) ?_; (with_reducible refine (varint_Get.calls k _ _ l0 a1 t22001 t22002 t22003 _ ?side1 ?side2 A4.out).mono ?_); (case side1 => repeat (first | exact HR0.out | (with_reducible refine Kd.C_alloc ?_ _) | (with_reducible refine Kd.C_drewN ?_ _) | (with_reducible refine Kd.C_drew ?_))); (case side2 => exact HC0.out); rintro e w' ⟨rfl, ⟨nd, rfl⟩⟩; refine ⟨_, rfl, ?_⟩))
      go_ret3
      exact ⟨by first | rfl | (simp [errW_none, errW_some] <;> rfl) | (simp only [← hji6]; first | rfl | (simp [errW_none, errW_some] <;> rfl)) | (simp [*, errW_none, errW_some] <;> rfl), by repeat (first | (with_reducible first | exact HB.out | apply below_alloc | apply pw_below_drewN | apply below_drew1) | exact HB.out)⟩
    · rw [if_neg c7] at H
      have c7b0 : decide ((IntKind.u64.wrap (ji6)) < t22001) = false := decide_eq_false c7
      clear c7
      by_cases c8 : t22001 > (IntKind.u64.wrap (wrap64 ((l0.length : Int) - t22002)))
      · rw [if_pos c8] at H
        have c8b0 : decide ((IntKind.u64.wrap (wrap64 ((l0.length : Int) - t22002))) < t22001) = true := decide_eq_true c8
        clear c8
        simp only [Option.some.injEq, Prod.mk.injEq] at H
        obtain ⟨rfl, rfl, rfl⟩ := H
        go_enter Try.func10, Try.ntmps10
        go_wp2_with (first | ((with_reducible refine gate_callee (f := 6) rfl ?_); refine goesL_ (some 15) rfl rfl Try.func6 (by kernel_rfl) rfl #[.slice A0 l0.length c0, .int .i64 a1] rfl (by (try simp only [List.map_toArray, List.map_cons, List.map_nil]); first | done | rfl | (simp only [List.length_drop, List.length_take]; rfl)) ?_; (with_reducible refine (varint_Get.calls k _ _ l0 a1 t22001 t22002 t22003 _ ?side1 ?side2 A4.out).mono ?_); (case side1 => repeat (first | exact HR0.out | (with_reducible refine Kd.C_alloc ?_ _) | (with_reducible refine Kd.C_drewN ?_ _) | (with_reducible refine Kd.C_drew ?_))); (case side2 => exact HC0.out); rintro e w' ⟨rfl, ⟨nd, rfl⟩⟩; refine ⟨_, rfl, ?_⟩))
        go_ret3
        exact ⟨by first | rfl | (simp [errW_none, errW_some] <;> rfl) | (simp only [← hji6]; first | rfl | (simp [errW_none, errW_some] <;> rfl)) | (simp [*, errW_none, errW_some] <;> rfl), by repeat (first | (with_reducible first | exact HB.out | apply below_alloc | apply pw_below_drewN | apply below_drew1) | exact HB.out)⟩
      · rw [if_neg c8] at H
        have c8b0 : decide ((IntKind.u64.wrap (wrap64 ((l0.length : Int) - t22002))) < t22001) = false := decide_eq_false c8
        clear c8
        by_cases c9 : 0 ≤ t22002
        · rw [if_pos c9] at H
          have c9b0 := eq_true c9
          have c9b1 : decide (0 ≤ t22002) = true := decide_eq_true c9
          clear c9
          by_cases c10 : t22002 ≤ (wrap64 (t22002 + (wrap64 (t22001))))
          · rw [if_pos c10] at H
            have c10b0 := eq_true c10
            have c10b1 : decide (t22002 ≤ (wrap64 (t22002 + (wrap64 (t22001))))) = true := decide_eq_true c10
            by_cases c11 : (wrap64 (t22002 + (wrap64 (t22001)))) ≤ (l0.length : Int)
            · rw [if_pos c11] at H
              have c11b0 := eq_true c11
              have c11b1 : decide ((wrap64 (t22002 + (wrap64 (t22001)))) ≤ (l0.length : Int)) = true := decide_eq_true c11
              simp only [Option.some.injEq, Prod.mk.injEq] at H
              obtain ⟨rfl, rfl, rfl⟩ := H
              go_enter Try.func10, Try.ntmps10
              go_wp2_with (first | ((with_reducible refine gate_callee (f := 6) rfl ?_); refine goesL_ (some 15) rfl rfl Try.func6 (by kernel_rfl) rfl #[.slice A0 l0.length c0, .int .i64 a1] rfl (by (try simp only [List.map_toArray, List.map_cons, List.map_nil]); first | done | rfl | (simp only [List.length_drop, List.length_take]; rfl)) ?_; (with_reducible refine (varint_Get.calls k _ _ l0 a1 t22001 t22002 t22003 _ ?side1 ?side2 A4.out).mono ?_); (case side1 => repeat (first | exact HR0.out | (with_reducible refine Kd.C_alloc ?_ _) | (with_reducible refine Kd.C_drewN ?_ _) | (with_reducible refine Kd.C_drew ?_))); (case side2 => exact HC0.out); rintro e w' ⟨rfl, ⟨nd, rfl⟩⟩; refine ⟨_, rfl, ?_⟩; obtain ⟨i012, hi012, _, hsz12, _⟩ := info_parts info5; obtain ⟨A12, hcut12, hA12, hC12⟩ := print_mid_of (P := Try.prog) (Value.int .u8) 0 22 5 .i64 .i64 Try.underlying22 hi012 hsz12 A0 c0 l0 t22002 (wrap64 (t22002 + (wrap64 (t22001)))) (of_decide_eq_true (by first | (with_reducible assumption) | assumption)) (by first | omega | exact of_decide_eq_true (by first | (with_reducible assumption) | assumption)) (of_decide_eq_true (by first | (with_reducible assumption) | assumption)) HC0.out; have HR22004 := Aside0.mk (Kd.C_of_reads (h1 := fun _ => rfl) (hA12 _ (Kd.reads_of_C HR0.out))); have HC22004 := Aside0.mk hC12; clear hA12 hC12 hi012 hsz12; have hcv13 := pw_C_string_len (P := Try.prog) (A := A12) (c := (c0 - t22002.toNat)) Try.underlying22 Try.underlying5 Try.underlying9 HR22004.out))
              go_ret3
              exact ⟨by first | rfl | (simp [errW_none, errW_some] <;> rfl) | (simp only [← hji6]; first | rfl | (simp [errW_none, errW_some] <;> rfl)) | (simp [*, errW_none, errW_some] <;> rfl), by repeat (first | (with_reducible first | exact HB.out | apply below_alloc | apply pw_below_drewN | apply below_drew1) | exact HB.out)⟩
            · rw [if_neg c11] at H
              exact absurd H (by simp)
          · rw [if_neg c10] at H
            exact absurd H (by simp)
        · rw [if_neg c9] at H
          exact absurd H (by simp)
  · rw [if_neg c5] at H
    have c5b0 : (t22003 == 0) = false := beq_eq_false_iff_ne.mpr c5
    have c5b1 : (t22003 != 0) = true := bne_iff_ne.mpr c5
    simp only [Option.some.injEq, Prod.mk.injEq] at H
    obtain ⟨rfl, rfl, rfl⟩ := H
    go_enter Try.func10, Try.ntmps10
    go_wp2_with (first | ((with_reducible refine gate_callee (f := 6) rfl ?_); refine goesL_ (some 15) rfl rfl Try.func6 (by kernel_rfl) rfl #[.slice A0 l0.length c0, .int .i64 a1] rfl (by (try simp only [List.map_toArray, List.map_cons, List.map_nil]); first | done | rfl | (simp only [List.length_drop, List.length_take]; rfl)) ?_; (with_reducible refine (varint_Get.calls k _ _ l0 a1 t22001 t22002 t22003 _ ?side1 ?side2 A4.out).mono ?_); (case side1 => repeat (first | exact HR0.out | (with_reducible refine Kd.C_alloc ?_ _) | (with_reducible refine Kd.C_drewN ?_ _) | (with_reducible refine Kd.C_drew ?_))); (case side2 => exact HC0.out); rintro e w' ⟨rfl, ⟨nd, rfl⟩⟩; refine ⟨_, rfl, ?_⟩))
    go_ret3
    exact ⟨by first | rfl | (simp [errW_none, errW_some] <;> rfl) | (simp [*, errW_none, errW_some] <;> rfl), by repeat (first | (with_reducible first | exact HB.out | apply below_alloc | apply pw_below_drewN | apply below_drew1) | exact HB.out)⟩

end Go.Proofs.Ytlhomdbkoniheaa.PS
