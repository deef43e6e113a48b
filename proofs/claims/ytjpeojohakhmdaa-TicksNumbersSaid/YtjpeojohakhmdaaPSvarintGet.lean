-- Written by a program of this session, out of the translation; Lean checks it.
import Derived.Test.YtjpeojohakhmdaaPSx0
namespace Go.Proofs.Ytjpeojohakhmdaa.PS
open Go.RowKit Go.Proofs.YtjpeojohakhmdaaW.PrintWords Go.Proofs.YtjpeojohakhmdaaW.PrintLast Go.Proofs.YtjpeojohakhmdaaW.PrintMore
attribute [local go_sem high] pw_str_leq pw_str_gtr
attribute [local go_sem] pw_us8 pw_us32 pw_us64 pw_max2_str pw_min2_str max2_int min2_int max_two min_two max_three min_three max_four min_four   -- for this text's walks alone
set_option linter.unusedVariables false
set_option linter.unusedSimpArgs false

/-! ### varint_Get: function 63 -/
def varint_Get.l0 : Nat → Int → Int → Bool → List Int → Int → Int → Option (Int × Int × Int)
  | 0, _, _, _, _, _, _ => none
  | k + 1, x1, x7, x8, x21, x22, x23 => if x23 < x22 then (if 0 ≤ x23 then (if x23 < (x21.length : Int) then (if x23 < 10 then (if 0 ≤ (wrap64 (7 * x23)) then (if x8 = true then (if x23 < 9 then (if (rd x21 x23) > 127 then (varint_Get.l0 k x1 (Go.bits .or .u64 x7 (shl .u64 (IntKind.u64.wrap (Go.bits .and .u8 (rd x21 x23) 127)) (wrap64 (7 * x23)))) true x21 x22 (wrap64 (x23 + 1))) else (if x23 > 0 then (if (rd x21 x23) = 0 then (some (0, 0, 12)) else (some (Go.bits .or .u64 x7 (shl .u64 (IntKind.u64.wrap (Go.bits .and .u8 (rd x21 x23) 127)) (wrap64 (7 * x23))), wrap64 ((wrap64 (x1 + x23)) + 1), 0))) else (some (Go.bits .or .u64 x7 (shl .u64 (IntKind.u64.wrap (Go.bits .and .u8 (rd x21 x23) 127)) (wrap64 (7 * x23))), wrap64 ((wrap64 (x1 + x23)) + 1), 0)))) else (if x23 = 9 then (if (rd x21 x23) > 127 then (varint_Get.l0 k x1 (Go.bits .or .u64 x7 (shl .u64 (IntKind.u64.wrap (Go.bits .and .u8 (rd x21 x23) 127)) (wrap64 (7 * x23)))) (decide ((Go.bits .and .u8 (rd x21 x23) 127) < 2)) x21 x22 (wrap64 (x23 + 1))) else (if (Go.bits .and .u8 (rd x21 x23) 127) < 2 then (if x23 > 0 then (if (rd x21 x23) = 0 then (some (0, 0, 12)) else (some (Go.bits .or .u64 x7 (shl .u64 (IntKind.u64.wrap (Go.bits .and .u8 (rd x21 x23) 127)) (wrap64 (7 * x23))), wrap64 ((wrap64 (x1 + x23)) + 1), 0))) else (some (Go.bits .or .u64 x7 (shl .u64 (IntKind.u64.wrap (Go.bits .and .u8 (rd x21 x23) 127)) (wrap64 (7 * x23))), wrap64 ((wrap64 (x1 + x23)) + 1), 0))) else (some (0, 0, 12)))) else (if (rd x21 x23) > 127 then (varint_Get.l0 k x1 (Go.bits .or .u64 x7 (shl .u64 (IntKind.u64.wrap (Go.bits .and .u8 (rd x21 x23) 127)) (wrap64 (7 * x23)))) false x21 x22 (wrap64 (x23 + 1))) else (some (0, 0, 12))))) else (if (rd x21 x23) > 127 then (varint_Get.l0 k x1 (Go.bits .or .u64 x7 (shl .u64 (IntKind.u64.wrap (Go.bits .and .u8 (rd x21 x23) 127)) (wrap64 (7 * x23)))) false x21 x22 (wrap64 (x23 + 1))) else (some (0, 0, 12)))) else (none)) else (if x8 = true then (if x23 < 9 then (if (rd x21 x23) > 127 then (varint_Get.l0 k x1 x7 true x21 x22 (wrap64 (x23 + 1))) else (if x23 > 0 then (if (rd x21 x23) = 0 then (some (0, 0, 12)) else (some (x7, wrap64 ((wrap64 (x1 + x23)) + 1), 0))) else (some (x7, wrap64 ((wrap64 (x1 + x23)) + 1), 0)))) else (if x23 = 9 then (if (rd x21 x23) > 127 then (varint_Get.l0 k x1 x7 (decide ((Go.bits .and .u8 (rd x21 x23) 127) < 2)) x21 x22 (wrap64 (x23 + 1))) else (if (Go.bits .and .u8 (rd x21 x23) 127) < 2 then (if x23 > 0 then (if (rd x21 x23) = 0 then (some (0, 0, 12)) else (some (x7, wrap64 ((wrap64 (x1 + x23)) + 1), 0))) else (some (x7, wrap64 ((wrap64 (x1 + x23)) + 1), 0))) else (some (0, 0, 12)))) else (if (rd x21 x23) > 127 then (varint_Get.l0 k x1 x7 false x21 x22 (wrap64 (x23 + 1))) else (some (0, 0, 12))))) else (if (rd x21 x23) > 127 then (varint_Get.l0 k x1 x7 false x21 x22 (wrap64 (x23 + 1))) else (some (0, 0, 12))))) else (none)) else (none)) else (some (0, 0, 10))
def varint_Get.f (k : Nat) (l0 : List Int) (a1 : Int) : Option (Int × Int × Int) := if a1 < 0 then (some (0, 0, 1)) else (if a1 > (l0.length : Int) then (some (0, 0, 1)) else (if 0 ≤ a1 then (if a1 ≤ (l0.length : Int) then (varint_Get.l0 k a1 0 true (l0.drop (a1 : Int).toNat) ((l0.drop (a1 : Int).toNat).length : Int) 0) else (none)) else (none)))
theorem varint_Get.mono_l : ∀ k, (∀ y0 y1 y2 y3 y4 y5, LeO (varint_Get.l0 k y0 y1 y2 y3 y4 y5) (varint_Get.l0 (k + 1) y0 y1 y2 y3 y4 y5))
  | 0 => fun _ _ _ _ _ _ r h => by simp [varint_Get.l0] at h
  | k + 1 => by
    have ih0 := varint_Get.mono_l k
    · intro y0 y1 y2 y3 y4 y5
      unfold varint_Get.l0
      repeat' first
      | (with_reducible exact ih0 _ _ _ _ _ _)
      | (with_reducible exact LeO.refl _)
      | (with_reducible exact LeO.none _)
      | (with_reducible refine LeO.ite ?_ ?_)
      | (with_reducible refine LeO.bind ?_ (fun _ => ?_))
      | exact ih0 _ _ _ _ _ _
      | exact LeO.none _
      | refine LeO.ite ?_ ?_
      | refine LeO.bind ?_ (fun _ => ?_)
theorem varint_Get.mono : ∀ a0 a1 k, LeO (varint_Get.f k a0 a1) (varint_Get.f (k + 1) a0 a1) := by
  intro a0 a1 k
  have ih0 := varint_Get.mono_l k
  unfold varint_Get.f
  repeat' first
      | (with_reducible exact ih0 _ _ _ _ _ _)
      | (with_reducible exact LeO.refl _)
      | (with_reducible exact LeO.none _)
      | (with_reducible refine LeO.ite ?_ ?_)
      | (with_reducible refine LeO.bind ?_ (fun _ => ?_))
      | exact ih0 _ _ _ _ _ _
      | exact LeO.none _
      | refine LeO.ite ?_ ?_
      | refine LeO.bind ?_ (fun _ => ?_)
set_option maxHeartbeats 8000000 in
set_option maxRecDepth 100000 in
theorem varint_Get.calls (k : Nat) (A0 : Option Addr) (c0 : Nat) (l0 : List Int) (a1 : Int) (r1 : Int) (r2 : Int) (r3 : Int) (w : World) (hr0 : Kd.C (Kd.int .u8) w A0 l0.length l0) (hc0 : l0.length ≤ c0) (h : varint_Get.f k l0 a1 = some (r1, r2, r3)) :
    Calls Try.prog 63 #[.slice A0 l0.length c0, .int .i64 a1] w fun e w' => e = .returned (.tuple #[.int .u64 r1, .int .i64 r2, .int .i64 r3]) ∧ Drawn0 w w' := by
  have HR0 := Aside0.mk hr0
  have HC0 := Aside0.mk hc0
  clear hr0 hc0
  have H : (if a1 < 0 then (some (0, 0, 1)) else (if a1 > (l0.length : Int) then (some (0, 0, 1)) else (if 0 ≤ a1 then (if a1 ≤ (l0.length : Int) then (varint_Get.l0 k a1 0 true (l0.drop (a1 : Int).toNat) ((l0.drop (a1 : Int).toNat).length : Int) 0) else (none)) else (none)))) = some (r1, r2, r3) := h
  clear h
  by_cases c3 : a1 < 0
  · rw [if_pos c3] at H
    have c3b0 : decide (a1 < 0) = true := decide_eq_true c3
    clear c3
    simp only [Option.some.injEq, Prod.mk.injEq] at H
    obtain ⟨rfl, rfl, rfl⟩ := H
    go_enter Try.func63, Try.ntmps63
    go_wp2
    go_ret3
    exact ⟨by first | rfl | (simp; done) | (simp [*]; done) | (refine congrArg (Value.int .i64) ?_; (try simp only [decide_eq_true_eq, decide_eq_false_iff_not] at *) <;> (unfold wrap64; omega)), by repeat (first | exact Drawn0.refl _ | apply Drawn0.step)⟩
  · rw [if_neg c3] at H
    have c3b0 : decide (a1 < 0) = false := decide_eq_false c3
    clear c3
    by_cases c4 : a1 > (l0.length : Int)
    · rw [if_pos c4] at H
      have c4b0 : decide ((l0.length : Int) < a1) = true := decide_eq_true c4
      clear c4
      simp only [Option.some.injEq, Prod.mk.injEq] at H
      obtain ⟨rfl, rfl, rfl⟩ := H
      go_enter Try.func63, Try.ntmps63
      go_wp2
      go_ret3
      exact ⟨by first | rfl | (simp; done) | (simp [*]; done) | (refine congrArg (Value.int .i64) ?_; (try simp only [decide_eq_true_eq, decide_eq_false_iff_not] at *) <;> (unfold wrap64; omega)), by repeat (first | exact Drawn0.refl _ | apply Drawn0.step)⟩
    · rw [if_neg c4] at H
      have c4b0 : decide ((l0.length : Int) < a1) = false := decide_eq_false c4
      clear c4
      by_cases c5 : 0 ≤ a1
      · rw [if_pos c5] at H
        have c5b0 := eq_true c5
        have c5b1 : decide (0 ≤ a1) = true := decide_eq_true c5
        clear c5
        by_cases c6 : a1 ≤ (l0.length : Int)
        · rw [if_pos c6] at H
          have c6b0 := eq_true c6
          have c6b1 : decide (a1 ≤ (l0.length : Int)) = true := decide_eq_true c6
          clear c6
          have H' := Aside0.mk H
          clear H
          obtain ⟨i07, hi07, _, hsz7, _⟩ := info_parts info5
          obtain ⟨A7, hcut7, hA7, hC7⟩ := print_drop_of (P := Try.prog) (Value.int .u8) 0 40 5 .i64 Try.underlying40 hi07 hsz7 A0 c0 l0 a1 (of_decide_eq_true (by first | (with_reducible assumption) | assumption)) (of_decide_eq_true (by first | (with_reducible assumption) | assumption)) HC0.out
          have HR128001 := Aside0.mk (Kd.C_of_reads (h1 := fun _ => rfl) (hA7 _ (Kd.reads_of_C HR0.out)))
          have HC128001 := Aside0.mk hC7
          clear hA7 hC7 hi07 hsz7
          go_enter Try.func63, Try.ntmps63
          go_wp2
          go_loopg [7, 8, 23] k (fun kq v7 v8 v23 w' => ∃ (x7_1 : Int) (x8_1 : Bool) (x23_1 : Int), v7 = .int .u64 x7_1 ∧ v8 = .bool x8_1 ∧ v23 = .int .i64 x23_1 ∧ Aside0 (varint_Get.l0 kq a1 x7_1 x8_1 (l0.drop (a1 : Int).toNat) ((l0.drop (a1 : Int).toNat).length : Int) x23_1 = some (r1, r2, r3)) ∧ Aside0 (kq ≤ k) ∧ Drawn0 w w')
          case atStart => exact ⟨(0), (true), (0), (by first | rfl | (simp; done) | (simp [*]; done) | (refine congrArg (Value.int .i64) ?_; (try simp only [decide_eq_true_eq, decide_eq_false_iff_not] at *) <;> (unfold wrap64; omega))), (by first | rfl | (simp; done) | (simp [*]; done) | (refine congrArg (Value.int .i64) ?_; (try simp only [decide_eq_true_eq, decide_eq_false_iff_not] at *) <;> (unfold wrap64; omega))), (by first | rfl | (simp; done) | (simp [*]; done) | (refine congrArg (Value.int .i64) ?_; (try simp only [decide_eq_true_eq, decide_eq_false_iff_not] at *) <;> (unfold wrap64; omega))), H', ⟨Nat.le_refl _⟩, by repeat (first | exact Drawn0.refl _ | apply Drawn0.step)⟩
          case round =>
            clear H'
            try clear p2
            try clear c3
            try clear c3b0
            try clear c4
            try clear c4b0
            try clear c5
            try clear c5b0
            try clear c5b1
            try clear c6
            try clear c6b0
            try clear c6b1
            try clear p6
            obtain ⟨x7_1, x8_1, x23_1, rfl, rfl, rfl, HA, HK1, ⟨m1, rfl⟩⟩ := hrel
            cases gk with
            | zero => exact absurd HA.out (by simp [varint_Get.l0])
            | succ k1 =>
              have H := HA.out
              clear HA
              simp only [varint_Get.l0] at H
              by_cases c8 : x23_1 < ((l0.drop (a1 : Int).toNat).length : Int)
              · rw [if_pos c8] at H
                have c8b0 : decide (x23_1 < ((l0.drop (a1 : Int).toNat).length : Int)) = true := decide_eq_true c8
                clear c8
                (try (have c8bn := c8b0; simp only [List.length_drop, List.length_take] at c8bn))
                by_cases c9 : 0 ≤ x23_1
                · rw [if_pos c9] at H
                  have c9b0 : decide (0 ≤ x23_1) = true := decide_eq_true c9
                  clear c9
                  by_cases c10 : x23_1 < ((l0.drop (a1 : Int).toNat).length : Int)
                  · rw [if_pos c10] at H
                    have c10b0 : decide (x23_1 < ((l0.drop (a1 : Int).toNat).length : Int)) = true := decide_eq_true c10
                    clear c10
                    (try (have c10bn := c10b0; simp only [List.length_drop, List.length_take] at c10bn))
                    by_cases c11 : x23_1 < 10
                    · rw [if_pos c11] at H
                      have c11b0 : decide (x23_1 < 10) = true := decide_eq_true c11
                      clear c11
                      obtain ⟨ji12, hji12⟩ : ∃ j_ : Int, (wrap64 (7 * x23_1)) = j_ := ⟨_, rfl⟩
                      replace H : (if 0 ≤ (ji12) then (if x8_1 = true then (if x23_1 < 9 then (if (rd (l0.drop (a1 : Int).toNat) x23_1) > 127 then (varint_Get.l0 k1 a1 (Go.bits .or .u64 x7_1 (shl .u64 (IntKind.u64.wrap (Go.bits .and .u8 (rd (l0.drop (a1 : Int).toNat) x23_1) 127)) (ji12))) true (l0.drop (a1 : Int).toNat) ((l0.drop (a1 : Int).toNat).length : Int) (wrap64 (x23_1 + 1))) else (if x23_1 > 0 then (if (rd (l0.drop (a1 : Int).toNat) x23_1) = 0 then (some (0, 0, 12)) else (some (Go.bits .or .u64 x7_1 (shl .u64 (IntKind.u64.wrap (Go.bits .and .u8 (rd (l0.drop (a1 : Int).toNat) x23_1) 127)) (ji12)), wrap64 ((wrap64 (a1 + x23_1)) + 1), 0))) else (some (Go.bits .or .u64 x7_1 (shl .u64 (IntKind.u64.wrap (Go.bits .and .u8 (rd (l0.drop (a1 : Int).toNat) x23_1) 127)) (ji12)), wrap64 ((wrap64 (a1 + x23_1)) + 1), 0)))) else (if x23_1 = 9 then (if (rd (l0.drop (a1 : Int).toNat) x23_1) > 127 then (varint_Get.l0 k1 a1 (Go.bits .or .u64 x7_1 (shl .u64 (IntKind.u64.wrap (Go.bits .and .u8 (rd (l0.drop (a1 : Int).toNat) x23_1) 127)) (ji12))) (decide ((Go.bits .and .u8 (rd (l0.drop (a1 : Int).toNat) x23_1) 127) < 2)) (l0.drop (a1 : Int).toNat) ((l0.drop (a1 : Int).toNat).length : Int) (wrap64 (x23_1 + 1))) else (if (Go.bits .and .u8 (rd (l0.drop (a1 : Int).toNat) x23_1) 127) < 2 then (if x23_1 > 0 then (if (rd (l0.drop (a1 : Int).toNat) x23_1) = 0 then (some (0, 0, 12)) else (some (Go.bits .or .u64 x7_1 (shl .u64 (IntKind.u64.wrap (Go.bits .and .u8 (rd (l0.drop (a1 : Int).toNat) x23_1) 127)) (ji12)), wrap64 ((wrap64 (a1 + x23_1)) + 1), 0))) else (some (Go.bits .or .u64 x7_1 (shl .u64 (IntKind.u64.wrap (Go.bits .and .u8 (rd (l0.drop (a1 : Int).toNat) x23_1) 127)) (ji12)), wrap64 ((wrap64 (a1 + x23_1)) + 1), 0))) else (some (0, 0, 12)))) else (if (rd (l0.drop (a1 : Int).toNat) x23_1) > 127 then (varint_Get.l0 k1 a1 (Go.bits .or .u64 x7_1 (shl .u64 (IntKind.u64.wrap (Go.bits .and .u8 (rd (l0.drop (a1 : Int).toNat) x23_1) 127)) (ji12))) false (l0.drop (a1 : Int).toNat) ((l0.drop (a1 : Int).toNat).length : Int) (wrap64 (x23_1 + 1))) else (some (0, 0, 12))))) else (if (rd (l0.drop (a1 : Int).toNat) x23_1) > 127 then (varint_Get.l0 k1 a1 (Go.bits .or .u64 x7_1 (shl .u64 (IntKind.u64.wrap (Go.bits .and .u8 (rd (l0.drop (a1 : Int).toNat) x23_1) 127)) (ji12))) false (l0.drop (a1 : Int).toNat) ((l0.drop (a1 : Int).toNat).length : Int) (wrap64 (x23_1 + 1))) else (some (0, 0, 12)))) else (none)) = some (r1, r2, r3) := by first | (rw [hji12] at H; exact H) | (simp only [hji12] at H ⊢; exact H)
                      have hji12w : (IntKind.i64.wrap (7 * x23_1)) = ji12 := (i64_w _).trans hji12
                      (try ((have hji12v : (7 * x23_1) = ji12 := by ((have h_ := hji12); ((try simp only [decide_eq_true_eq] at *) <;> (unfold wrap64 at h_; omega)))); (have hji12l : 0 ≤ ji12 := by ((have h_ := hji12); ((try simp only [decide_eq_true_eq] at *) <;> (unfold wrap64 at h_; omega)))); (have hji12u : ji12 ≤ 64 := by ((have h_ := hji12); ((try simp only [decide_eq_true_eq] at *) <;> (unfold wrap64 at h_; omega))))))
                      by_cases c13 : 0 ≤ (ji12)
                      · rw [if_pos c13] at H
                        have c13b0 := eq_true c13
                        have c13b1 : decide (0 ≤ (ji12)) = true := decide_eq_true c13
                        clear c13
                        obtain ⟨ji14, hji14⟩ : ∃ j_ : Int, (shl .u64 (IntKind.u64.wrap (Go.bits .and .u8 (rd (l0.drop (a1 : Int).toNat) x23_1) 127)) (ji12)) = j_ := ⟨_, rfl⟩
                        replace H : (if x8_1 = true then (if x23_1 < 9 then (if (rd (l0.drop (a1 : Int).toNat) x23_1) > 127 then (varint_Get.l0 k1 a1 (Go.bits .or .u64 x7_1 (ji14)) true (l0.drop (a1 : Int).toNat) ((l0.drop (a1 : Int).toNat).length : Int) (wrap64 (x23_1 + 1))) else (if x23_1 > 0 then (if (rd (l0.drop (a1 : Int).toNat) x23_1) = 0 then (some (0, 0, 12)) else (some (Go.bits .or .u64 x7_1 (ji14), wrap64 ((wrap64 (a1 + x23_1)) + 1), 0))) else (some (Go.bits .or .u64 x7_1 (ji14), wrap64 ((wrap64 (a1 + x23_1)) + 1), 0)))) else (if x23_1 = 9 then (if (rd (l0.drop (a1 : Int).toNat) x23_1) > 127 then (varint_Get.l0 k1 a1 (Go.bits .or .u64 x7_1 (ji14)) (decide ((Go.bits .and .u8 (rd (l0.drop (a1 : Int).toNat) x23_1) 127) < 2)) (l0.drop (a1 : Int).toNat) ((l0.drop (a1 : Int).toNat).length : Int) (wrap64 (x23_1 + 1))) else (if (Go.bits .and .u8 (rd (l0.drop (a1 : Int).toNat) x23_1) 127) < 2 then (if x23_1 > 0 then (if (rd (l0.drop (a1 : Int).toNat) x23_1) = 0 then (some (0, 0, 12)) else (some (Go.bits .or .u64 x7_1 (ji14), wrap64 ((wrap64 (a1 + x23_1)) + 1), 0))) else (some (Go.bits .or .u64 x7_1 (ji14), wrap64 ((wrap64 (a1 + x23_1)) + 1), 0))) else (some (0, 0, 12)))) else (if (rd (l0.drop (a1 : Int).toNat) x23_1) > 127 then (varint_Get.l0 k1 a1 (Go.bits .or .u64 x7_1 (ji14)) false (l0.drop (a1 : Int).toNat) ((l0.drop (a1 : Int).toNat).length : Int) (wrap64 (x23_1 + 1))) else (some (0, 0, 12))))) else (if (rd (l0.drop (a1 : Int).toNat) x23_1) > 127 then (varint_Get.l0 k1 a1 (Go.bits .or .u64 x7_1 (ji14)) false (l0.drop (a1 : Int).toNat) ((l0.drop (a1 : Int).toNat).length : Int) (wrap64 (x23_1 + 1))) else (some (0, 0, 12)))) = some (r1, r2, r3) := by first | (rw [hji14] at H; exact H) | (simp only [hji14] at H ⊢; exact H)
                        have hji14_ : (IntKind.u64.wrap ((IntKind.u64.wrap (Go.bits .and .u8 (rd (l0.drop (a1 : Int).toNat) x23_1) 127)) * 2 ^ min (ji12).toNat 64)) = ji14 := hji14
                        have hji14z : (ji12) ≤ 64 → (IntKind.u64.wrap ((IntKind.u64.wrap (Go.bits .and .u8 (rd (l0.drop (a1 : Int).toNat) x23_1) 127)) * 2 ^ (ji12).toNat)) = ji14 := shl_small hji14
                        by_cases c15 : x8_1 = true
                        · subst c15
                          have H1 : (if x23_1 < 9 then (if (rd (l0.drop (a1 : Int).toNat) x23_1) > 127 then (varint_Get.l0 k1 a1 (Go.bits .or .u64 x7_1 (ji14)) true (l0.drop (a1 : Int).toNat) ((l0.drop (a1 : Int).toNat).length : Int) (wrap64 (x23_1 + 1))) else (if x23_1 > 0 then (if (rd (l0.drop (a1 : Int).toNat) x23_1) = 0 then (some (0, 0, 12)) else (some (Go.bits .or .u64 x7_1 (ji14), wrap64 ((wrap64 (a1 + x23_1)) + 1), 0))) else (some (Go.bits .or .u64 x7_1 (ji14), wrap64 ((wrap64 (a1 + x23_1)) + 1), 0)))) else (if x23_1 = 9 then (if (rd (l0.drop (a1 : Int).toNat) x23_1) > 127 then (varint_Get.l0 k1 a1 (Go.bits .or .u64 x7_1 (ji14)) (decide ((Go.bits .and .u8 (rd (l0.drop (a1 : Int).toNat) x23_1) 127) < 2)) (l0.drop (a1 : Int).toNat) ((l0.drop (a1 : Int).toNat).length : Int) (wrap64 (x23_1 + 1))) else (if (Go.bits .and .u8 (rd (l0.drop (a1 : Int).toNat) x23_1) 127) < 2 then (if x23_1 > 0 then (if (rd (l0.drop (a1 : Int).toNat) x23_1) = 0 then (some (0, 0, 12)) else (some (Go.bits .or .u64 x7_1 (ji14), wrap64 ((wrap64 (a1 + x23_1)) + 1), 0))) else (some (Go.bits .or .u64 x7_1 (ji14), wrap64 ((wrap64 (a1 + x23_1)) + 1), 0))) else (some (0, 0, 12)))) else (if (rd (l0.drop (a1 : Int).toNat) x23_1) > 127 then (varint_Get.l0 k1 a1 (Go.bits .or .u64 x7_1 (ji14)) false (l0.drop (a1 : Int).toNat) ((l0.drop (a1 : Int).toNat).length : Int) (wrap64 (x23_1 + 1))) else (some (0, 0, 12))))) = some (r1, r2, r3) := by rw [if_pos rfl] at H; exact H
                          clear H
                          have H := H1
                          clear H1
                          by_cases c16 : x23_1 < 9
                          · rw [if_pos c16] at H
                            have c16b0 : decide (x23_1 < 9) = true := decide_eq_true c16
                            clear c16
                            by_cases c17 : (rd (l0.drop (a1 : Int).toNat) x23_1) > 127
                            · rw [if_pos c17] at H
                              have c17b0 : decide (127 < (rd (l0.drop (a1 : Int).toNat) x23_1)) = true := decide_eq_true c17
                              clear c17
                              have H' := Aside0.mk H
                              clear H
                              have p128002 : 0 ≤ (x23_1 : Int) := of_decide_eq_true (by first | (with_reducible assumption) | assumption)
                              have q128002 : x23_1 < ((l0.drop (a1 : Int).toNat).length : Int) := of_decide_eq_true (by first | (with_reducible assumption) | assumption)
                              obtain ⟨ad128002, e128002, hx128002_0⟩ := Kd.at_int HR128001.out x23_1 p128002 q128002
                              cases e128002
                              replace p128002 := eq_true p128002
                              replace q128002 := eq_true q128002
                              (try (have q128002n := q128002; simp only [List.length_drop, List.length_take] at q128002n))
                              go_wp2
                              go_roundg k1
                              case measure => have := HK1.out; omega
                              case rel => exact ⟨(Go.bits .or .u64 x7_1 (ji14)), (true), (wrap64 (x23_1 + 1)), (by first | rfl | (simp; done) | (simp only [← hji14] <;> (first | rfl | simp)) | (simp [*]; done) | (refine congrArg (Value.int .i64) ?_; (try simp only [decide_eq_true_eq, decide_eq_false_iff_not] at *) <;> (unfold wrap64; omega))), (by first | rfl | (simp; done) | (simp [*]; done) | (refine congrArg (Value.int .i64) ?_; (try simp only [decide_eq_true_eq, decide_eq_false_iff_not] at *) <;> (unfold wrap64; omega))), (by first | rfl | (simp; done) | (simp [*]; done) | (refine congrArg (Value.int .i64) ?_; (try simp only [decide_eq_true_eq, decide_eq_false_iff_not] at *) <;> (unfold wrap64; omega))), H', ⟨by have := HK1.out; omega⟩, by repeat (first | exact Drawn0.refl _ | apply Drawn0.step)⟩
                            · rw [if_neg c17] at H
                              have c17b0 : decide (127 < (rd (l0.drop (a1 : Int).toNat) x23_1)) = false := decide_eq_false c17
                              clear c17
                              by_cases c18 : x23_1 > 0
                              · rw [if_pos c18] at H
                                have c18b0 : decide (0 < x23_1) = true := decide_eq_true c18
                                clear c18
                                by_cases c19 : (rd (l0.drop (a1 : Int).toNat) x23_1) = 0
                                · rw [if_pos c19] at H
                                  have c19b0 : ((rd (l0.drop (a1 : Int).toNat) x23_1) == 0) = true := beq_iff_eq.mpr c19
                                  have c19b1 : ((rd (l0.drop (a1 : Int).toNat) x23_1) != 0) = false := bne_eq_false_iff_eq.mpr c19
                                  clear c19
                                  simp only [Option.some.injEq, Prod.mk.injEq] at H
                                  obtain ⟨rfl, rfl, rfl⟩ := H
                                  have p128002 : 0 ≤ (x23_1 : Int) := of_decide_eq_true (by first | (with_reducible assumption) | assumption)
                                  have q128002 : x23_1 < ((l0.drop (a1 : Int).toNat).length : Int) := of_decide_eq_true (by first | (with_reducible assumption) | assumption)
                                  obtain ⟨ad128002, e128002, hx128002_0⟩ := Kd.at_int HR128001.out x23_1 p128002 q128002
                                  cases e128002
                                  replace p128002 := eq_true p128002
                                  replace q128002 := eq_true q128002
                                  (try (have q128002n := q128002; simp only [List.length_drop, List.length_take] at q128002n))
                                  go_wp2
                                  go_ret3
                                  exact ⟨by first | rfl | (simp; done) | (simp only [← hji12, ← hji14] <;> (first | rfl | simp)) | (simp [*]; done) | (refine congrArg (Value.int .i64) ?_; (try simp only [decide_eq_true_eq, decide_eq_false_iff_not] at *) <;> (unfold wrap64; omega)), by repeat (first | exact Drawn0.refl _ | apply Drawn0.step)⟩
                                · rw [if_neg c19] at H
                                  have c19b0 : ((rd (l0.drop (a1 : Int).toNat) x23_1) == 0) = false := beq_eq_false_iff_ne.mpr c19
                                  have c19b1 : ((rd (l0.drop (a1 : Int).toNat) x23_1) != 0) = true := bne_iff_ne.mpr c19
                                  simp only [Option.some.injEq, Prod.mk.injEq] at H
                                  obtain ⟨rfl, rfl, rfl⟩ := H
                                  have p128002 : 0 ≤ (x23_1 : Int) := of_decide_eq_true (by first | (with_reducible assumption) | assumption)
                                  have q128002 : x23_1 < ((l0.drop (a1 : Int).toNat).length : Int) := of_decide_eq_true (by first | (with_reducible assumption) | assumption)
                                  obtain ⟨ad128002, e128002, hx128002_0⟩ := Kd.at_int HR128001.out x23_1 p128002 q128002
                                  cases e128002
                                  replace p128002 := eq_true p128002
                                  replace q128002 := eq_true q128002
                                  (try (have q128002n := q128002; simp only [List.length_drop, List.length_take] at q128002n))
                                  go_wp2
                                  go_ret3
                                  exact ⟨by first | rfl | (simp; done) | (simp only [← hji12, ← hji14] <;> (first | rfl | simp)) | (simp [*]; done) | (refine congrArg (Value.int .i64) ?_; (try simp only [decide_eq_true_eq, decide_eq_false_iff_not] at *) <;> (unfold wrap64; omega)), by repeat (first | exact Drawn0.refl _ | apply Drawn0.step)⟩
                              · rw [if_neg c18] at H
                                have c18b0 : decide (0 < x23_1) = false := decide_eq_false c18
                                clear c18
                                simp only [Option.some.injEq, Prod.mk.injEq] at H
                                obtain ⟨rfl, rfl, rfl⟩ := H
                                have p128002 : 0 ≤ (x23_1 : Int) := of_decide_eq_true (by first | (with_reducible assumption) | assumption)
                                have q128002 : x23_1 < ((l0.drop (a1 : Int).toNat).length : Int) := of_decide_eq_true (by first | (with_reducible assumption) | assumption)
                                obtain ⟨ad128002, e128002, hx128002_0⟩ := Kd.at_int HR128001.out x23_1 p128002 q128002
                                cases e128002
                                replace p128002 := eq_true p128002
                                replace q128002 := eq_true q128002
                                (try (have q128002n := q128002; simp only [List.length_drop, List.length_take] at q128002n))
                                go_wp2
                                go_ret3
                                exact ⟨by first | rfl | (simp; done) | (simp only [← hji12, ← hji14] <;> (first | rfl | simp)) | (simp [*]; done) | (refine congrArg (Value.int .i64) ?_; (try simp only [decide_eq_true_eq, decide_eq_false_iff_not] at *) <;> (unfold wrap64; omega)), by repeat (first | exact Drawn0.refl _ | apply Drawn0.step)⟩
                          · rw [if_neg c16] at H
                            have c16b0 : decide (x23_1 < 9) = false := decide_eq_false c16
                            clear c16
                            by_cases c20 : x23_1 = 9
                            · rw [if_pos c20] at H
                              have c20b0 : (x23_1 == 9) = true := beq_iff_eq.mpr c20
                              have c20b1 : (x23_1 != 9) = false := bne_eq_false_iff_eq.mpr c20
                              clear c20
                              by_cases c21 : (rd (l0.drop (a1 : Int).toNat) x23_1) > 127
                              · rw [if_pos c21] at H
                                have c21b0 : decide (127 < (rd (l0.drop (a1 : Int).toNat) x23_1)) = true := decide_eq_true c21
                                clear c21
                                have H' := Aside0.mk H
                                clear H
                                have p128002 : 0 ≤ (x23_1 : Int) := of_decide_eq_true (by first | (with_reducible assumption) | assumption)
                                have q128002 : x23_1 < ((l0.drop (a1 : Int).toNat).length : Int) := of_decide_eq_true (by first | (with_reducible assumption) | assumption)
                                obtain ⟨ad128002, e128002, hx128002_0⟩ := Kd.at_int HR128001.out x23_1 p128002 q128002
                                cases e128002
                                replace p128002 := eq_true p128002
                                replace q128002 := eq_true q128002
                                (try (have q128002n := q128002; simp only [List.length_drop, List.length_take] at q128002n))
                                go_wp2
                                go_roundg k1
                                case measure => have := HK1.out; omega
                                case rel => exact ⟨(Go.bits .or .u64 x7_1 (ji14)), (decide ((Go.bits .and .u8 (rd (l0.drop (a1 : Int).toNat) x23_1) 127) < 2)), (wrap64 (x23_1 + 1)), (by first | rfl | (simp; done) | (simp only [← hji14] <;> (first | rfl | simp)) | (simp [*]; done) | (refine congrArg (Value.int .i64) ?_; (try simp only [decide_eq_true_eq, decide_eq_false_iff_not] at *) <;> (unfold wrap64; omega))), (by first | rfl | (simp; done) | (simp [*]; done) | (refine congrArg (Value.int .i64) ?_; (try simp only [decide_eq_true_eq, decide_eq_false_iff_not] at *) <;> (unfold wrap64; omega))), (by first | rfl | (simp; done) | (simp [*]; done) | (refine congrArg (Value.int .i64) ?_; (try simp only [decide_eq_true_eq, decide_eq_false_iff_not] at *) <;> (unfold wrap64; omega))), H', ⟨by have := HK1.out; omega⟩, by repeat (first | exact Drawn0.refl _ | apply Drawn0.step)⟩
                              · rw [if_neg c21] at H
                                have c21b0 : decide (127 < (rd (l0.drop (a1 : Int).toNat) x23_1)) = false := decide_eq_false c21
                                clear c21
                                by_cases c22 : (Go.bits .and .u8 (rd (l0.drop (a1 : Int).toNat) x23_1) 127) < 2
                                · rw [if_pos c22] at H
                                  have c22b0 : decide ((Go.bits .and .u8 (rd (l0.drop (a1 : Int).toNat) x23_1) 127) < 2) = true := decide_eq_true c22
                                  clear c22
                                  by_cases c23 : x23_1 > 0
                                  · rw [if_pos c23] at H
                                    have c23b0 : decide (0 < x23_1) = true := decide_eq_true c23
                                    clear c23
                                    by_cases c24 : (rd (l0.drop (a1 : Int).toNat) x23_1) = 0
                                    · rw [if_pos c24] at H
                                      have c24b0 : ((rd (l0.drop (a1 : Int).toNat) x23_1) == 0) = true := beq_iff_eq.mpr c24
                                      have c24b1 : ((rd (l0.drop (a1 : Int).toNat) x23_1) != 0) = false := bne_eq_false_iff_eq.mpr c24
                                      clear c24
                                      simp only [Option.some.injEq, Prod.mk.injEq] at H
                                      obtain ⟨rfl, rfl, rfl⟩ := H
                                      have p128002 : 0 ≤ (x23_1 : Int) := of_decide_eq_true (by first | (with_reducible assumption) | assumption)
                                      have q128002 : x23_1 < ((l0.drop (a1 : Int).toNat).length : Int) := of_decide_eq_true (by first | (with_reducible assumption) | assumption)
                                      obtain ⟨ad128002, e128002, hx128002_0⟩ := Kd.at_int HR128001.out x23_1 p128002 q128002
                                      cases e128002
                                      replace p128002 := eq_true p128002
                                      replace q128002 := eq_true q128002
                                      (try (have q128002n := q128002; simp only [List.length_drop, List.length_take] at q128002n))
                                      go_wp2
                                      go_ret3
                                      exact ⟨by first | rfl | (simp; done) | (simp only [← hji12, ← hji14] <;> (first | rfl | simp)) | (simp [*]; done) | (refine congrArg (Value.int .i64) ?_; (try simp only [decide_eq_true_eq, decide_eq_false_iff_not] at *) <;> (unfold wrap64; omega)), by repeat (first | exact Drawn0.refl _ | apply Drawn0.step)⟩
                                    · rw [if_neg c24] at H
                                      have c24b0 : ((rd (l0.drop (a1 : Int).toNat) x23_1) == 0) = false := beq_eq_false_iff_ne.mpr c24
                                      have c24b1 : ((rd (l0.drop (a1 : Int).toNat) x23_1) != 0) = true := bne_iff_ne.mpr c24
                                      simp only [Option.some.injEq, Prod.mk.injEq] at H
                                      obtain ⟨rfl, rfl, rfl⟩ := H
                                      have p128002 : 0 ≤ (x23_1 : Int) := of_decide_eq_true (by first | (with_reducible assumption) | assumption)
                                      have q128002 : x23_1 < ((l0.drop (a1 : Int).toNat).length : Int) := of_decide_eq_true (by first | (with_reducible assumption) | assumption)
                                      obtain ⟨ad128002, e128002, hx128002_0⟩ := Kd.at_int HR128001.out x23_1 p128002 q128002
                                      cases e128002
                                      replace p128002 := eq_true p128002
                                      replace q128002 := eq_true q128002
                                      (try (have q128002n := q128002; simp only [List.length_drop, List.length_take] at q128002n))
                                      go_wp2
                                      go_ret3
                                      exact ⟨by first | rfl | (simp; done) | (simp only [← hji12, ← hji14] <;> (first | rfl | simp)) | (simp [*]; done) | (refine congrArg (Value.int .i64) ?_; (try simp only [decide_eq_true_eq, decide_eq_false_iff_not] at *) <;> (unfold wrap64; omega)), by repeat (first | exact Drawn0.refl _ | apply Drawn0.step)⟩
                                  · rw [if_neg c23] at H
                                    have c23b0 : decide (0 < x23_1) = false := decide_eq_false c23
                                    clear c23
                                    simp only [Option.some.injEq, Prod.mk.injEq] at H
                                    obtain ⟨rfl, rfl, rfl⟩ := H
                                    have p128002 : 0 ≤ (x23_1 : Int) := of_decide_eq_true (by first | (with_reducible assumption) | assumption)
                                    have q128002 : x23_1 < ((l0.drop (a1 : Int).toNat).length : Int) := of_decide_eq_true (by first | (with_reducible assumption) | assumption)
                                    obtain ⟨ad128002, e128002, hx128002_0⟩ := Kd.at_int HR128001.out x23_1 p128002 q128002
                                    cases e128002
                                    replace p128002 := eq_true p128002
                                    replace q128002 := eq_true q128002
                                    (try (have q128002n := q128002; simp only [List.length_drop, List.length_take] at q128002n))
                                    go_wp2
                                    go_ret3
                                    exact ⟨by first | rfl | (simp; done) | (simp only [← hji12, ← hji14] <;> (first | rfl | simp)) | (simp [*]; done) | (refine congrArg (Value.int .i64) ?_; (try simp only [decide_eq_true_eq, decide_eq_false_iff_not] at *) <;> (unfold wrap64; omega)), by repeat (first | exact Drawn0.refl _ | apply Drawn0.step)⟩
                                · rw [if_neg c22] at H
                                  have c22b0 : decide ((Go.bits .and .u8 (rd (l0.drop (a1 : Int).toNat) x23_1) 127) < 2) = false := decide_eq_false c22
                                  clear c22
                                  simp only [Option.some.injEq, Prod.mk.injEq] at H
                                  obtain ⟨rfl, rfl, rfl⟩ := H
                                  have p128002 : 0 ≤ (x23_1 : Int) := of_decide_eq_true (by first | (with_reducible assumption) | assumption)
                                  have q128002 : x23_1 < ((l0.drop (a1 : Int).toNat).length : Int) := of_decide_eq_true (by first | (with_reducible assumption) | assumption)
                                  obtain ⟨ad128002, e128002, hx128002_0⟩ := Kd.at_int HR128001.out x23_1 p128002 q128002
                                  cases e128002
                                  replace p128002 := eq_true p128002
                                  replace q128002 := eq_true q128002
                                  (try (have q128002n := q128002; simp only [List.length_drop, List.length_take] at q128002n))
                                  go_wp2
                                  go_ret3
                                  exact ⟨by first | rfl | (simp; done) | (simp only [← hji12, ← hji14] <;> (first | rfl | simp)) | (simp [*]; done) | (refine congrArg (Value.int .i64) ?_; (try simp only [decide_eq_true_eq, decide_eq_false_iff_not] at *) <;> (unfold wrap64; omega)), by repeat (first | exact Drawn0.refl _ | apply Drawn0.step)⟩
                            · rw [if_neg c20] at H
                              have c20b0 : (x23_1 == 9) = false := beq_eq_false_iff_ne.mpr c20
                              have c20b1 : (x23_1 != 9) = true := bne_iff_ne.mpr c20
                              by_cases c25 : (rd (l0.drop (a1 : Int).toNat) x23_1) > 127
                              · rw [if_pos c25] at H
                                have c25b0 : decide (127 < (rd (l0.drop (a1 : Int).toNat) x23_1)) = true := decide_eq_true c25
                                clear c25
                                have H' := Aside0.mk H
                                clear H
                                have p128002 : 0 ≤ (x23_1 : Int) := of_decide_eq_true (by first | (with_reducible assumption) | assumption)
                                have q128002 : x23_1 < ((l0.drop (a1 : Int).toNat).length : Int) := of_decide_eq_true (by first | (with_reducible assumption) | assumption)
                                obtain ⟨ad128002, e128002, hx128002_0⟩ := Kd.at_int HR128001.out x23_1 p128002 q128002
                                cases e128002
                                replace p128002 := eq_true p128002
                                replace q128002 := eq_true q128002
                                (try (have q128002n := q128002; simp only [List.length_drop, List.length_take] at q128002n))
                                go_wp2
                                go_roundg k1
                                case measure => have := HK1.out; omega
                                case rel => exact ⟨(Go.bits .or .u64 x7_1 (ji14)), (false), (wrap64 (x23_1 + 1)), (by first | rfl | (simp; done) | (simp only [← hji14] <;> (first | rfl | simp)) | (simp [*]; done) | (refine congrArg (Value.int .i64) ?_; (try simp only [decide_eq_true_eq, decide_eq_false_iff_not] at *) <;> (unfold wrap64; omega))), (by first | rfl | (simp; done) | (simp [*]; done) | (refine congrArg (Value.int .i64) ?_; (try simp only [decide_eq_true_eq, decide_eq_false_iff_not] at *) <;> (unfold wrap64; omega))), (by first | rfl | (simp; done) | (simp [*]; done) | (refine congrArg (Value.int .i64) ?_; (try simp only [decide_eq_true_eq, decide_eq_false_iff_not] at *) <;> (unfold wrap64; omega))), H', ⟨by have := HK1.out; omega⟩, by repeat (first | exact Drawn0.refl _ | apply Drawn0.step)⟩
                              · rw [if_neg c25] at H
                                have c25b0 : decide (127 < (rd (l0.drop (a1 : Int).toNat) x23_1)) = false := decide_eq_false c25
                                clear c25
                                simp only [Option.some.injEq, Prod.mk.injEq] at H
                                obtain ⟨rfl, rfl, rfl⟩ := H
                                have p128002 : 0 ≤ (x23_1 : Int) := of_decide_eq_true (by first | (with_reducible assumption) | assumption)
                                have q128002 : x23_1 < ((l0.drop (a1 : Int).toNat).length : Int) := of_decide_eq_true (by first | (with_reducible assumption) | assumption)
                                obtain ⟨ad128002, e128002, hx128002_0⟩ := Kd.at_int HR128001.out x23_1 p128002 q128002
                                cases e128002
                                replace p128002 := eq_true p128002
                                replace q128002 := eq_true q128002
                                (try (have q128002n := q128002; simp only [List.length_drop, List.length_take] at q128002n))
                                go_wp2
                                go_ret3
                                exact ⟨by first | rfl | (simp; done) | (simp only [← hji12, ← hji14] <;> (first | rfl | simp)) | (simp [*]; done) | (refine congrArg (Value.int .i64) ?_; (try simp only [decide_eq_true_eq, decide_eq_false_iff_not] at *) <;> (unfold wrap64; omega)), by repeat (first | exact Drawn0.refl _ | apply Drawn0.step)⟩
                        · replace c15 := Bool.eq_false_iff.mpr c15
                          subst c15
                          have H1 : (if (rd (l0.drop (a1 : Int).toNat) x23_1) > 127 then (varint_Get.l0 k1 a1 (Go.bits .or .u64 x7_1 (ji14)) false (l0.drop (a1 : Int).toNat) ((l0.drop (a1 : Int).toNat).length : Int) (wrap64 (x23_1 + 1))) else (some (0, 0, 12))) = some (r1, r2, r3) := by rw [if_neg (show ¬ (false = true) by decide)] at H; exact H
                          clear H
                          have H := H1
                          clear H1
                          by_cases c26 : (rd (l0.drop (a1 : Int).toNat) x23_1) > 127
                          · rw [if_pos c26] at H
                            have c26b0 : decide (127 < (rd (l0.drop (a1 : Int).toNat) x23_1)) = true := decide_eq_true c26
                            clear c26
                            have H' := Aside0.mk H
                            clear H
                            have p128002 : 0 ≤ (x23_1 : Int) := of_decide_eq_true (by first | (with_reducible assumption) | assumption)
                            have q128002 : x23_1 < ((l0.drop (a1 : Int).toNat).length : Int) := of_decide_eq_true (by first | (with_reducible assumption) | assumption)
                            obtain ⟨ad128002, e128002, hx128002_0⟩ := Kd.at_int HR128001.out x23_1 p128002 q128002
                            cases e128002
                            replace p128002 := eq_true p128002
                            replace q128002 := eq_true q128002
                            (try (have q128002n := q128002; simp only [List.length_drop, List.length_take] at q128002n))
                            go_wp2
                            go_roundg k1
                            case measure => have := HK1.out; omega
                            case rel => exact ⟨(Go.bits .or .u64 x7_1 (ji14)), (false), (wrap64 (x23_1 + 1)), (by first | rfl | (simp; done) | (simp only [← hji14] <;> (first | rfl | simp)) | (simp [*]; done) | (refine congrArg (Value.int .i64) ?_; (try simp only [decide_eq_true_eq, decide_eq_false_iff_not] at *) <;> (unfold wrap64; omega))), (by first | rfl | (simp; done) | (simp [*]; done) | (refine congrArg (Value.int .i64) ?_; (try simp only [decide_eq_true_eq, decide_eq_false_iff_not] at *) <;> (unfold wrap64; omega))), (by first | rfl | (simp; done) | (simp [*]; done) | (refine congrArg (Value.int .i64) ?_; (try simp only [decide_eq_true_eq, decide_eq_false_iff_not] at *) <;> (unfold wrap64; omega))), H', ⟨by have := HK1.out; omega⟩, by repeat (first | exact Drawn0.refl _ | apply Drawn0.step)⟩
                          · rw [if_neg c26] at H
                            have c26b0 : decide (127 < (rd (l0.drop (a1 : Int).toNat) x23_1)) = false := decide_eq_false c26
                            clear c26
                            simp only [Option.some.injEq, Prod.mk.injEq] at H
                            obtain ⟨rfl, rfl, rfl⟩ := H
                            have p128002 : 0 ≤ (x23_1 : Int) := of_decide_eq_true (by first | (with_reducible assumption) | assumption)
                            have q128002 : x23_1 < ((l0.drop (a1 : Int).toNat).length : Int) := of_decide_eq_true (by first | (with_reducible assumption) | assumption)
                            obtain ⟨ad128002, e128002, hx128002_0⟩ := Kd.at_int HR128001.out x23_1 p128002 q128002
                            cases e128002
                            replace p128002 := eq_true p128002
                            replace q128002 := eq_true q128002
                            (try (have q128002n := q128002; simp only [List.length_drop, List.length_take] at q128002n))
                            go_wp2
                            go_ret3
                            exact ⟨by first | rfl | (simp; done) | (simp only [← hji12, ← hji14] <;> (first | rfl | simp)) | (simp [*]; done) | (refine congrArg (Value.int .i64) ?_; (try simp only [decide_eq_true_eq, decide_eq_false_iff_not] at *) <;> (unfold wrap64; omega)), by repeat (first | exact Drawn0.refl _ | apply Drawn0.step)⟩
                      · rw [if_neg c13] at H
                        exact absurd H (by simp)
                    · rw [if_neg c11] at H
                      have c11b0 : decide (x23_1 < 10) = false := decide_eq_false c11
                      clear c11
                      by_cases c27 : x8_1 = true
                      · subst c27
                        have H1 : (if x23_1 < 9 then (if (rd (l0.drop (a1 : Int).toNat) x23_1) > 127 then (varint_Get.l0 k1 a1 x7_1 true (l0.drop (a1 : Int).toNat) ((l0.drop (a1 : Int).toNat).length : Int) (wrap64 (x23_1 + 1))) else (if x23_1 > 0 then (if (rd (l0.drop (a1 : Int).toNat) x23_1) = 0 then (some (0, 0, 12)) else (some (x7_1, wrap64 ((wrap64 (a1 + x23_1)) + 1), 0))) else (some (x7_1, wrap64 ((wrap64 (a1 + x23_1)) + 1), 0)))) else (if x23_1 = 9 then (if (rd (l0.drop (a1 : Int).toNat) x23_1) > 127 then (varint_Get.l0 k1 a1 x7_1 (decide ((Go.bits .and .u8 (rd (l0.drop (a1 : Int).toNat) x23_1) 127) < 2)) (l0.drop (a1 : Int).toNat) ((l0.drop (a1 : Int).toNat).length : Int) (wrap64 (x23_1 + 1))) else (if (Go.bits .and .u8 (rd (l0.drop (a1 : Int).toNat) x23_1) 127) < 2 then (if x23_1 > 0 then (if (rd (l0.drop (a1 : Int).toNat) x23_1) = 0 then (some (0, 0, 12)) else (some (x7_1, wrap64 ((wrap64 (a1 + x23_1)) + 1), 0))) else (some (x7_1, wrap64 ((wrap64 (a1 + x23_1)) + 1), 0))) else (some (0, 0, 12)))) else (if (rd (l0.drop (a1 : Int).toNat) x23_1) > 127 then (varint_Get.l0 k1 a1 x7_1 false (l0.drop (a1 : Int).toNat) ((l0.drop (a1 : Int).toNat).length : Int) (wrap64 (x23_1 + 1))) else (some (0, 0, 12))))) = some (r1, r2, r3) := by rw [if_pos rfl] at H; exact H
                        clear H
                        have H := H1
                        clear H1
                        by_cases c28 : x23_1 < 9
                        · rw [if_pos c28] at H
                          have c28b0 : decide (x23_1 < 9) = true := decide_eq_true c28
                          clear c28
                          by_cases c29 : (rd (l0.drop (a1 : Int).toNat) x23_1) > 127
                          · rw [if_pos c29] at H
                            have c29b0 : decide (127 < (rd (l0.drop (a1 : Int).toNat) x23_1)) = true := decide_eq_true c29
                            clear c29
                            have H' := Aside0.mk H
                            clear H
                            have p128002 : 0 ≤ (x23_1 : Int) := of_decide_eq_true (by first | (with_reducible assumption) | assumption)
                            have q128002 : x23_1 < ((l0.drop (a1 : Int).toNat).length : Int) := of_decide_eq_true (by first | (with_reducible assumption) | assumption)
                            obtain ⟨ad128002, e128002, hx128002_0⟩ := Kd.at_int HR128001.out x23_1 p128002 q128002
                            cases e128002
                            replace p128002 := eq_true p128002
                            replace q128002 := eq_true q128002
                            (try (have q128002n := q128002; simp only [List.length_drop, List.length_take] at q128002n))
                            go_wp2
                            go_roundg k1
                            case measure => have := HK1.out; omega
                            case rel => exact ⟨(x7_1), (true), (wrap64 (x23_1 + 1)), (by first | rfl | (simp; done) | (simp [*]; done) | (refine congrArg (Value.int .i64) ?_; (try simp only [decide_eq_true_eq, decide_eq_false_iff_not] at *) <;> (unfold wrap64; omega))), (by first | rfl | (simp; done) | (simp [*]; done) | (refine congrArg (Value.int .i64) ?_; (try simp only [decide_eq_true_eq, decide_eq_false_iff_not] at *) <;> (unfold wrap64; omega))), (by first | rfl | (simp; done) | (simp [*]; done) | (refine congrArg (Value.int .i64) ?_; (try simp only [decide_eq_true_eq, decide_eq_false_iff_not] at *) <;> (unfold wrap64; omega))), H', ⟨by have := HK1.out; omega⟩, by repeat (first | exact Drawn0.refl _ | apply Drawn0.step)⟩
                          · rw [if_neg c29] at H
                            have c29b0 : decide (127 < (rd (l0.drop (a1 : Int).toNat) x23_1)) = false := decide_eq_false c29
                            clear c29
                            by_cases c30 : x23_1 > 0
                            · rw [if_pos c30] at H
                              have c30b0 : decide (0 < x23_1) = true := decide_eq_true c30
                              clear c30
                              by_cases c31 : (rd (l0.drop (a1 : Int).toNat) x23_1) = 0
                              · rw [if_pos c31] at H
                                have c31b0 : ((rd (l0.drop (a1 : Int).toNat) x23_1) == 0) = true := beq_iff_eq.mpr c31
                                have c31b1 : ((rd (l0.drop (a1 : Int).toNat) x23_1) != 0) = false := bne_eq_false_iff_eq.mpr c31
                                clear c31
                                simp only [Option.some.injEq, Prod.mk.injEq] at H
                                obtain ⟨rfl, rfl, rfl⟩ := H
                                have p128002 : 0 ≤ (x23_1 : Int) := of_decide_eq_true (by first | (with_reducible assumption) | assumption)
                                have q128002 : x23_1 < ((l0.drop (a1 : Int).toNat).length : Int) := of_decide_eq_true (by first | (with_reducible assumption) | assumption)
                                obtain ⟨ad128002, e128002, hx128002_0⟩ := Kd.at_int HR128001.out x23_1 p128002 q128002
                                cases e128002
                                replace p128002 := eq_true p128002
                                replace q128002 := eq_true q128002
                                (try (have q128002n := q128002; simp only [List.length_drop, List.length_take] at q128002n))
                                go_wp2
                                go_ret3
                                exact ⟨by first | rfl | (simp; done) | (simp [*]; done) | (refine congrArg (Value.int .i64) ?_; (try simp only [decide_eq_true_eq, decide_eq_false_iff_not] at *) <;> (unfold wrap64; omega)), by repeat (first | exact Drawn0.refl _ | apply Drawn0.step)⟩
                              · rw [if_neg c31] at H
                                have c31b0 : ((rd (l0.drop (a1 : Int).toNat) x23_1) == 0) = false := beq_eq_false_iff_ne.mpr c31
                                have c31b1 : ((rd (l0.drop (a1 : Int).toNat) x23_1) != 0) = true := bne_iff_ne.mpr c31
                                simp only [Option.some.injEq, Prod.mk.injEq] at H
                                obtain ⟨rfl, rfl, rfl⟩ := H
                                have p128002 : 0 ≤ (x23_1 : Int) := of_decide_eq_true (by first | (with_reducible assumption) | assumption)
                                have q128002 : x23_1 < ((l0.drop (a1 : Int).toNat).length : Int) := of_decide_eq_true (by first | (with_reducible assumption) | assumption)
                                obtain ⟨ad128002, e128002, hx128002_0⟩ := Kd.at_int HR128001.out x23_1 p128002 q128002
                                cases e128002
                                replace p128002 := eq_true p128002
                                replace q128002 := eq_true q128002
                                (try (have q128002n := q128002; simp only [List.length_drop, List.length_take] at q128002n))
                                go_wp2
                                go_ret3
                                exact ⟨by first | rfl | (simp; done) | (simp [*]; done) | (refine congrArg (Value.int .i64) ?_; (try simp only [decide_eq_true_eq, decide_eq_false_iff_not] at *) <;> (unfold wrap64; omega)), by repeat (first | exact Drawn0.refl _ | apply Drawn0.step)⟩
                            · rw [if_neg c30] at H
                              have c30b0 : decide (0 < x23_1) = false := decide_eq_false c30
                              clear c30
                              simp only [Option.some.injEq, Prod.mk.injEq] at H
                              obtain ⟨rfl, rfl, rfl⟩ := H
                              have p128002 : 0 ≤ (x23_1 : Int) := of_decide_eq_true (by first | (with_reducible assumption) | assumption)
                              have q128002 : x23_1 < ((l0.drop (a1 : Int).toNat).length : Int) := of_decide_eq_true (by first | (with_reducible assumption) | assumption)
                              obtain ⟨ad128002, e128002, hx128002_0⟩ := Kd.at_int HR128001.out x23_1 p128002 q128002
                              cases e128002
                              replace p128002 := eq_true p128002
                              replace q128002 := eq_true q128002
                              (try (have q128002n := q128002; simp only [List.length_drop, List.length_take] at q128002n))
                              go_wp2
                              go_ret3
                              exact ⟨by first | rfl | (simp; done) | (simp [*]; done) | (refine congrArg (Value.int .i64) ?_; (try simp only [decide_eq_true_eq, decide_eq_false_iff_not] at *) <;> (unfold wrap64; omega)), by repeat (first | exact Drawn0.refl _ | apply Drawn0.step)⟩
                        · rw [if_neg c28] at H
                          have c28b0 : decide (x23_1 < 9) = false := decide_eq_false c28
                          clear c28
                          by_cases c32 : x23_1 = 9
                          · rw [if_pos c32] at H
                            have c32b0 : (x23_1 == 9) = true := beq_iff_eq.mpr c32
                            have c32b1 : (x23_1 != 9) = false := bne_eq_false_iff_eq.mpr c32
                            clear c32
                            by_cases c33 : (rd (l0.drop (a1 : Int).toNat) x23_1) > 127
                            · rw [if_pos c33] at H
                              have c33b0 : decide (127 < (rd (l0.drop (a1 : Int).toNat) x23_1)) = true := decide_eq_true c33
                              clear c33
                              have H' := Aside0.mk H
                              clear H
                              have p128002 : 0 ≤ (x23_1 : Int) := of_decide_eq_true (by first | (with_reducible assumption) | assumption)
                              have q128002 : x23_1 < ((l0.drop (a1 : Int).toNat).length : Int) := of_decide_eq_true (by first | (with_reducible assumption) | assumption)
                              obtain ⟨ad128002, e128002, hx128002_0⟩ := Kd.at_int HR128001.out x23_1 p128002 q128002
                              cases e128002
                              replace p128002 := eq_true p128002
                              replace q128002 := eq_true q128002
                              (try (have q128002n := q128002; simp only [List.length_drop, List.length_take] at q128002n))
                              go_wp2
                              go_roundg k1
                              case measure => have := HK1.out; omega
                              case rel => exact ⟨(x7_1), (decide ((Go.bits .and .u8 (rd (l0.drop (a1 : Int).toNat) x23_1) 127) < 2)), (wrap64 (x23_1 + 1)), (by first | rfl | (simp; done) | (simp [*]; done) | (refine congrArg (Value.int .i64) ?_; (try simp only [decide_eq_true_eq, decide_eq_false_iff_not] at *) <;> (unfold wrap64; omega))), (by first | rfl | (simp; done) | (simp [*]; done) | (refine congrArg (Value.int .i64) ?_; (try simp only [decide_eq_true_eq, decide_eq_false_iff_not] at *) <;> (unfold wrap64; omega))), (by first | rfl | (simp; done) | (simp [*]; done) | (refine congrArg (Value.int .i64) ?_; (try simp only [decide_eq_true_eq, decide_eq_false_iff_not] at *) <;> (unfold wrap64; omega))), H', ⟨by have := HK1.out; omega⟩, by repeat (first | exact Drawn0.refl _ | apply Drawn0.step)⟩
                            · rw [if_neg c33] at H
                              have c33b0 : decide (127 < (rd (l0.drop (a1 : Int).toNat) x23_1)) = false := decide_eq_false c33
                              clear c33
                              by_cases c34 : (Go.bits .and .u8 (rd (l0.drop (a1 : Int).toNat) x23_1) 127) < 2
                              · rw [if_pos c34] at H
                                have c34b0 : decide ((Go.bits .and .u8 (rd (l0.drop (a1 : Int).toNat) x23_1) 127) < 2) = true := decide_eq_true c34
                                clear c34
                                by_cases c35 : x23_1 > 0
                                · rw [if_pos c35] at H
                                  have c35b0 : decide (0 < x23_1) = true := decide_eq_true c35
                                  clear c35
                                  by_cases c36 : (rd (l0.drop (a1 : Int).toNat) x23_1) = 0
                                  · rw [if_pos c36] at H
                                    have c36b0 : ((rd (l0.drop (a1 : Int).toNat) x23_1) == 0) = true := beq_iff_eq.mpr c36
                                    have c36b1 : ((rd (l0.drop (a1 : Int).toNat) x23_1) != 0) = false := bne_eq_false_iff_eq.mpr c36
                                    clear c36
                                    simp only [Option.some.injEq, Prod.mk.injEq] at H
                                    obtain ⟨rfl, rfl, rfl⟩ := H
                                    have p128002 : 0 ≤ (x23_1 : Int) := of_decide_eq_true (by first | (with_reducible assumption) | assumption)
                                    have q128002 : x23_1 < ((l0.drop (a1 : Int).toNat).length : Int) := of_decide_eq_true (by first | (with_reducible assumption) | assumption)
                                    obtain ⟨ad128002, e128002, hx128002_0⟩ := Kd.at_int HR128001.out x23_1 p128002 q128002
                                    cases e128002
                                    replace p128002 := eq_true p128002
                                    replace q128002 := eq_true q128002
                                    (try (have q128002n := q128002; simp only [List.length_drop, List.length_take] at q128002n))
                                    go_wp2
                                    go_ret3
                                    exact ⟨by first | rfl | (simp; done) | (simp [*]; done) | (refine congrArg (Value.int .i64) ?_; (try simp only [decide_eq_true_eq, decide_eq_false_iff_not] at *) <;> (unfold wrap64; omega)), by repeat (first | exact Drawn0.refl _ | apply Drawn0.step)⟩
                                  · rw [if_neg c36] at H
                                    have c36b0 : ((rd (l0.drop (a1 : Int).toNat) x23_1) == 0) = false := beq_eq_false_iff_ne.mpr c36
                                    have c36b1 : ((rd (l0.drop (a1 : Int).toNat) x23_1) != 0) = true := bne_iff_ne.mpr c36
                                    simp only [Option.some.injEq, Prod.mk.injEq] at H
                                    obtain ⟨rfl, rfl, rfl⟩ := H
                                    have p128002 : 0 ≤ (x23_1 : Int) := of_decide_eq_true (by first | (with_reducible assumption) | assumption)
                                    have q128002 : x23_1 < ((l0.drop (a1 : Int).toNat).length : Int) := of_decide_eq_true (by first | (with_reducible assumption) | assumption)
                                    obtain ⟨ad128002, e128002, hx128002_0⟩ := Kd.at_int HR128001.out x23_1 p128002 q128002
                                    cases e128002
                                    replace p128002 := eq_true p128002
                                    replace q128002 := eq_true q128002
                                    (try (have q128002n := q128002; simp only [List.length_drop, List.length_take] at q128002n))
                                    go_wp2
                                    go_ret3
                                    exact ⟨by first | rfl | (simp; done) | (simp [*]; done) | (refine congrArg (Value.int .i64) ?_; (try simp only [decide_eq_true_eq, decide_eq_false_iff_not] at *) <;> (unfold wrap64; omega)), by repeat (first | exact Drawn0.refl _ | apply Drawn0.step)⟩
                                · rw [if_neg c35] at H
                                  have c35b0 : decide (0 < x23_1) = false := decide_eq_false c35
                                  clear c35
                                  simp only [Option.some.injEq, Prod.mk.injEq] at H
                                  obtain ⟨rfl, rfl, rfl⟩ := H
                                  have p128002 : 0 ≤ (x23_1 : Int) := of_decide_eq_true (by first | (with_reducible assumption) | assumption)
                                  have q128002 : x23_1 < ((l0.drop (a1 : Int).toNat).length : Int) := of_decide_eq_true (by first | (with_reducible assumption) | assumption)
                                  obtain ⟨ad128002, e128002, hx128002_0⟩ := Kd.at_int HR128001.out x23_1 p128002 q128002
                                  cases e128002
                                  replace p128002 := eq_true p128002
                                  replace q128002 := eq_true q128002
                                  (try (have q128002n := q128002; simp only [List.length_drop, List.length_take] at q128002n))
                                  go_wp2
                                  go_ret3
                                  exact ⟨by first | rfl | (simp; done) | (simp [*]; done) | (refine congrArg (Value.int .i64) ?_; (try simp only [decide_eq_true_eq, decide_eq_false_iff_not] at *) <;> (unfold wrap64; omega)), by repeat (first | exact Drawn0.refl _ | apply Drawn0.step)⟩
                              · rw [if_neg c34] at H
                                have c34b0 : decide ((Go.bits .and .u8 (rd (l0.drop (a1 : Int).toNat) x23_1) 127) < 2) = false := decide_eq_false c34
                                clear c34
                                simp only [Option.some.injEq, Prod.mk.injEq] at H
                                obtain ⟨rfl, rfl, rfl⟩ := H
                                have p128002 : 0 ≤ (x23_1 : Int) := of_decide_eq_true (by first | (with_reducible assumption) | assumption)
                                have q128002 : x23_1 < ((l0.drop (a1 : Int).toNat).length : Int) := of_decide_eq_true (by first | (with_reducible assumption) | assumption)
                                obtain ⟨ad128002, e128002, hx128002_0⟩ := Kd.at_int HR128001.out x23_1 p128002 q128002
                                cases e128002
                                replace p128002 := eq_true p128002
                                replace q128002 := eq_true q128002
                                (try (have q128002n := q128002; simp only [List.length_drop, List.length_take] at q128002n))
                                go_wp2
                                go_ret3
                                exact ⟨by first | rfl | (simp; done) | (simp [*]; done) | (refine congrArg (Value.int .i64) ?_; (try simp only [decide_eq_true_eq, decide_eq_false_iff_not] at *) <;> (unfold wrap64; omega)), by repeat (first | exact Drawn0.refl _ | apply Drawn0.step)⟩
                          · rw [if_neg c32] at H
                            have c32b0 : (x23_1 == 9) = false := beq_eq_false_iff_ne.mpr c32
                            have c32b1 : (x23_1 != 9) = true := bne_iff_ne.mpr c32
                            by_cases c37 : (rd (l0.drop (a1 : Int).toNat) x23_1) > 127
                            · rw [if_pos c37] at H
                              have c37b0 : decide (127 < (rd (l0.drop (a1 : Int).toNat) x23_1)) = true := decide_eq_true c37
                              clear c37
                              have H' := Aside0.mk H
                              clear H
                              have p128002 : 0 ≤ (x23_1 : Int) := of_decide_eq_true (by first | (with_reducible assumption) | assumption)
                              have q128002 : x23_1 < ((l0.drop (a1 : Int).toNat).length : Int) := of_decide_eq_true (by first | (with_reducible assumption) | assumption)
                              obtain ⟨ad128002, e128002, hx128002_0⟩ := Kd.at_int HR128001.out x23_1 p128002 q128002
                              cases e128002
                              replace p128002 := eq_true p128002
                              replace q128002 := eq_true q128002
                              (try (have q128002n := q128002; simp only [List.length_drop, List.length_take] at q128002n))
                              go_wp2
                              go_roundg k1
                              case measure => have := HK1.out; omega
                              case rel => exact ⟨(x7_1), (false), (wrap64 (x23_1 + 1)), (by first | rfl | (simp; done) | (simp [*]; done) | (refine congrArg (Value.int .i64) ?_; (try simp only [decide_eq_true_eq, decide_eq_false_iff_not] at *) <;> (unfold wrap64; omega))), (by first | rfl | (simp; done) | (simp [*]; done) | (refine congrArg (Value.int .i64) ?_; (try simp only [decide_eq_true_eq, decide_eq_false_iff_not] at *) <;> (unfold wrap64; omega))), (by first | rfl | (simp; done) | (simp [*]; done) | (refine congrArg (Value.int .i64) ?_; (try simp only [decide_eq_true_eq, decide_eq_false_iff_not] at *) <;> (unfold wrap64; omega))), H', ⟨by have := HK1.out; omega⟩, by repeat (first | exact Drawn0.refl _ | apply Drawn0.step)⟩
                            · rw [if_neg c37] at H
                              have c37b0 : decide (127 < (rd (l0.drop (a1 : Int).toNat) x23_1)) = false := decide_eq_false c37
                              clear c37
                              simp only [Option.some.injEq, Prod.mk.injEq] at H
                              obtain ⟨rfl, rfl, rfl⟩ := H
                              have p128002 : 0 ≤ (x23_1 : Int) := of_decide_eq_true (by first | (with_reducible assumption) | assumption)
                              have q128002 : x23_1 < ((l0.drop (a1 : Int).toNat).length : Int) := of_decide_eq_true (by first | (with_reducible assumption) | assumption)
                              obtain ⟨ad128002, e128002, hx128002_0⟩ := Kd.at_int HR128001.out x23_1 p128002 q128002
                              cases e128002
                              replace p128002 := eq_true p128002
                              replace q128002 := eq_true q128002
                              (try (have q128002n := q128002; simp only [List.length_drop, List.length_take] at q128002n))
                              go_wp2
                              go_ret3
                              exact ⟨by first | rfl | (simp; done) | (simp [*]; done) | (refine congrArg (Value.int .i64) ?_; (try simp only [decide_eq_true_eq, decide_eq_false_iff_not] at *) <;> (unfold wrap64; omega)), by repeat (first | exact Drawn0.refl _ | apply Drawn0.step)⟩
                      · replace c27 := Bool.eq_false_iff.mpr c27
                        subst c27
                        have H1 : (if (rd (l0.drop (a1 : Int).toNat) x23_1) > 127 then (varint_Get.l0 k1 a1 x7_1 false (l0.drop (a1 : Int).toNat) ((l0.drop (a1 : Int).toNat).length : Int) (wrap64 (x23_1 + 1))) else (some (0, 0, 12))) = some (r1, r2, r3) := by rw [if_neg (show ¬ (false = true) by decide)] at H; exact H
                        clear H
                        have H := H1
                        clear H1
                        by_cases c38 : (rd (l0.drop (a1 : Int).toNat) x23_1) > 127
                        · rw [if_pos c38] at H
                          have c38b0 : decide (127 < (rd (l0.drop (a1 : Int).toNat) x23_1)) = true := decide_eq_true c38
                          clear c38
                          have H' := Aside0.mk H
                          clear H
                          have p128002 : 0 ≤ (x23_1 : Int) := of_decide_eq_true (by first | (with_reducible assumption) | assumption)
                          have q128002 : x23_1 < ((l0.drop (a1 : Int).toNat).length : Int) := of_decide_eq_true (by first | (with_reducible assumption) | assumption)
                          obtain ⟨ad128002, e128002, hx128002_0⟩ := Kd.at_int HR128001.out x23_1 p128002 q128002
                          cases e128002
                          replace p128002 := eq_true p128002
                          replace q128002 := eq_true q128002
                          (try (have q128002n := q128002; simp only [List.length_drop, List.length_take] at q128002n))
                          go_wp2
                          go_roundg k1
                          case measure => have := HK1.out; omega
                          case rel => exact ⟨(x7_1), (false), (wrap64 (x23_1 + 1)), (by first | rfl | (simp; done) | (simp [*]; done) | (refine congrArg (Value.int .i64) ?_; (try simp only [decide_eq_true_eq, decide_eq_false_iff_not] at *) <;> (unfold wrap64; omega))), (by first | rfl | (simp; done) | (simp [*]; done) | (refine congrArg (Value.int .i64) ?_; (try simp only [decide_eq_true_eq, decide_eq_false_iff_not] at *) <;> (unfold wrap64; omega))), (by first | rfl | (simp; done) | (simp [*]; done) | (refine congrArg (Value.int .i64) ?_; (try simp only [decide_eq_true_eq, decide_eq_false_iff_not] at *) <;> (unfold wrap64; omega))), H', ⟨by have := HK1.out; omega⟩, by repeat (first | exact Drawn0.refl _ | apply Drawn0.step)⟩
                        · rw [if_neg c38] at H
                          have c38b0 : decide (127 < (rd (l0.drop (a1 : Int).toNat) x23_1)) = false := decide_eq_false c38
                          clear c38
                          simp only [Option.some.injEq, Prod.mk.injEq] at H
                          obtain ⟨rfl, rfl, rfl⟩ := H
                          have p128002 : 0 ≤ (x23_1 : Int) := of_decide_eq_true (by first | (with_reducible assumption) | assumption)
                          have q128002 : x23_1 < ((l0.drop (a1 : Int).toNat).length : Int) := of_decide_eq_true (by first | (with_reducible assumption) | assumption)
                          obtain ⟨ad128002, e128002, hx128002_0⟩ := Kd.at_int HR128001.out x23_1 p128002 q128002
                          cases e128002
                          replace p128002 := eq_true p128002
                          replace q128002 := eq_true q128002
                          (try (have q128002n := q128002; simp only [List.length_drop, List.length_take] at q128002n))
                          go_wp2
                          go_ret3
                          exact ⟨by first | rfl | (simp; done) | (simp [*]; done) | (refine congrArg (Value.int .i64) ?_; (try simp only [decide_eq_true_eq, decide_eq_false_iff_not] at *) <;> (unfold wrap64; omega)), by repeat (first | exact Drawn0.refl _ | apply Drawn0.step)⟩
                  · rw [if_neg c10] at H
                    exact absurd H (by simp)
                · rw [if_neg c9] at H
                  exact absurd H (by simp)
              · rw [if_neg c8] at H
                have c8b0 : decide (x23_1 < ((l0.drop (a1 : Int).toNat).length : Int)) = false := decide_eq_false c8
                clear c8
                (try (have c8bn := c8b0; simp only [List.length_drop, List.length_take] at c8bn))
                simp only [Option.some.injEq, Prod.mk.injEq] at H
                obtain ⟨rfl, rfl, rfl⟩ := H
                go_wp2
                go_ret3
                exact ⟨by first | rfl | (simp; done) | (simp [*]; done) | (refine congrArg (Value.int .i64) ?_; (try simp only [decide_eq_true_eq, decide_eq_false_iff_not] at *) <;> (unfold wrap64; omega)), by repeat (first | exact Drawn0.refl _ | apply Drawn0.step)⟩
        · rw [if_neg c6] at H
          exact absurd H (by simp)
      · rw [if_neg c5] at H
        exact absurd H (by simp)

end Go.Proofs.Ytjpeojohakhmdaa.PS
