-- Written by a program of this session, out of the translation; Lean checks it.
import Derived.Test.YthpomojgkhjhbaaPSx0
import Derived.Test.YthpomojgkhjhbaaPSx2
import Derived.Test.YthpomojgkhjhbaaPSx3
namespace Go.Proofs.Ythpomojgkhjhbaa.PS
open Go.RowKit Go.Proofs.YthpomojgkhjhbaaW.PrintWords Go.Proofs.YthpomojgkhjhbaaW.PrintLast Go.Proofs.YthpomojgkhjhbaaW.PrintMore
attribute [local go_sem] max2_int min2_int max_two min_two max_three min_three max_four min_four   -- for this text's walks alone
set_option linter.unusedVariables false
set_option linter.unusedSimpArgs false

/-! ### columbariumlaw2_SumSteps: function 7 -/
mutual
def columbariumlaw2_SumSteps.j0 : Nat → ByteArray → Option (Bool)
  | 0, _ => none
  | k + 1, x0 => (sum_Fnv.f k (⟨#[]⟩ : ByteArray)).bind fun t156 => (columbariumlaw2_SumSteps.l0 k x0 t156 0)
def columbariumlaw2_SumSteps.l0 : Nat → ByteArray → Int → Int → Option (Bool)
  | 0, _, _, _ => none
  | k + 1, x0, x3, x4 => if x4 < (x0.size : Int) then (if 0 ≤ x4 then (if 0 ≤ (wrap64 (x4 + 1)) then (if (wrap64 (x4 + 1)) ≤ (x0.size : Int) then ((sum_Fnv.f k (x0.extract 0 ((wrap64 (x4 + 1)) : Int).toNat)).bind fun t157 => (if t157 = (IntKind.u64.wrap ((Go.bits .xor .u64 x3 (IntKind.u64.wrap (bt x0 x4))) * 1099511628211)) then (columbariumlaw2_SumSteps.l0 k x0 (IntKind.u64.wrap ((Go.bits .xor .u64 x3 (IntKind.u64.wrap (bt x0 x4))) * 1099511628211)) (wrap64 (x4 + 1))) else (some false))) else (none)) else (none)) else (none)) else ((sum_Fnv.f k x0).bind fun t158 => (if x3 = t158 then ((columbariumlaw2_known.f k).bind fun t159 => (some t159)) else (some false)))
end
def columbariumlaw2_SumSteps.f (k : Nat) (a0 : ByteArray) : Option (Bool) := if (a0.size : Int) > 300 then (if 0 ≤ 300 then (if 300 ≤ (a0.size : Int) then (columbariumlaw2_SumSteps.j0 k (a0.extract 0 300)) else (none)) else (none)) else (columbariumlaw2_SumSteps.j0 k a0)
theorem columbariumlaw2_SumSteps.mono_l : ∀ k, (∀ y0, LeO (columbariumlaw2_SumSteps.j0 k y0) (columbariumlaw2_SumSteps.j0 (k + 1) y0)) ∧ (∀ y0 y1 y2, LeO (columbariumlaw2_SumSteps.l0 k y0 y1 y2) (columbariumlaw2_SumSteps.l0 (k + 1) y0 y1 y2))
  | 0 => ⟨fun _ r h => by simp [columbariumlaw2_SumSteps.j0] at h, fun _ _ _ r h => by simp [columbariumlaw2_SumSteps.l0] at h⟩
  | k + 1 => by
    obtain ⟨ih0, ih1⟩ := columbariumlaw2_SumSteps.mono_l k
    refine ⟨?_, ?_⟩
    · intro y0
      unfold columbariumlaw2_SumSteps.j0
      repeat' first
      | (with_reducible exact ih0 _)
      | (with_reducible exact ih1 _ _ _)
      | (with_reducible exact columbariumlaw2_known.mono _)
      | (with_reducible exact sum_Fnv.mono _ _)
      | (with_reducible exact LeO.refl _)
      | (with_reducible exact LeO.none _)
      | (with_reducible refine LeO.ite ?_ ?_)
      | (with_reducible refine LeO.bind ?_ (fun _ => ?_))
      | exact ih0 _
      | exact ih1 _ _ _
      | exact columbariumlaw2_known.mono _
      | exact sum_Fnv.mono _ _
      | exact LeO.none _
      | refine LeO.ite ?_ ?_
      | refine LeO.bind ?_ (fun _ => ?_)
    · intro y0 y1 y2
      unfold columbariumlaw2_SumSteps.l0
      repeat' first
      | (with_reducible exact ih0 _)
      | (with_reducible exact ih1 _ _ _)
      | (with_reducible exact columbariumlaw2_known.mono _)
      | (with_reducible exact sum_Fnv.mono _ _)
      | (with_reducible exact LeO.refl _)
      | (with_reducible exact LeO.none _)
      | (with_reducible refine LeO.ite ?_ ?_)
      | (with_reducible refine LeO.bind ?_ (fun _ => ?_))
      | exact ih0 _
      | exact ih1 _ _ _
      | exact columbariumlaw2_known.mono _
      | exact sum_Fnv.mono _ _
      | exact LeO.none _
      | refine LeO.ite ?_ ?_
      | refine LeO.bind ?_ (fun _ => ?_)
theorem columbariumlaw2_SumSteps.mono : ∀ a0 k, LeO (columbariumlaw2_SumSteps.f k a0) (columbariumlaw2_SumSteps.f (k + 1) a0) := by
  intro a0 k
  obtain ⟨ih0, ih1⟩ := columbariumlaw2_SumSteps.mono_l k
  unfold columbariumlaw2_SumSteps.f
  repeat' first
      | (with_reducible exact ih0 _)
      | (with_reducible exact ih1 _ _ _)
      | (with_reducible exact columbariumlaw2_known.mono _)
      | (with_reducible exact sum_Fnv.mono _ _)
      | (with_reducible exact LeO.refl _)
      | (with_reducible exact LeO.none _)
      | (with_reducible refine LeO.ite ?_ ?_)
      | (with_reducible refine LeO.bind ?_ (fun _ => ?_))
      | exact ih0 _
      | exact ih1 _ _ _
      | exact columbariumlaw2_known.mono _
      | exact sum_Fnv.mono _ _
      | exact LeO.none _
      | refine LeO.ite ?_ ?_
      | refine LeO.bind ?_ (fun _ => ?_)
set_option maxHeartbeats 8000000 in
set_option maxRecDepth 100000 in
theorem columbariumlaw2_SumSteps.calls (k : Nat) (a0 : ByteArray) (r : Bool) (w : World) (h : columbariumlaw2_SumSteps.f k a0 = some r) (hr_ : Aside0 (r = true)) :
    Calls Try.prog 7 #[.string a0] w fun e w' => e = .returned (.bool r) ∧ Below w.heap.size w w' := by
  have HB := Aside0.mk (Below.refl w.heap.size w)
  have H : (if (a0.size : Int) > 300 then (if 0 ≤ 300 then (if 300 ≤ (a0.size : Int) then (columbariumlaw2_SumSteps.j0 k (a0.extract 0 300)) else (none)) else (none)) else (columbariumlaw2_SumSteps.j0 k a0)) = some r := h
  clear h
  have HC2 := Aside0.mk H
  clear H
  go_enter Try.func7, Try.ntmps7
  go_upto_if 7 with (fail)
  go_cut [0] (fun v0 wc => ∃ (kq : Nat) (x0_1 : ByteArray), v0 = .string x0_1 ∧ Aside0 (columbariumlaw2_SumSteps.j0 kq x0_1 = some r) ∧ Aside0 (kq ≤ k) ∧ Aside0 (Below w.heap.size w wc))
  case first =>
    have H := HC2.out
    clear HC2
    by_cases c3 : (a0.size : Int) > 300
    · rw [if_pos c3] at H
      have c3b0 : decide (300 < (a0.size : Int)) = true := decide_eq_true c3
      have c3b1 : decide (300 < a0.size) = true := decide_eq_true (by omega)
      clear c3
      (first | rw [c3b0] | (simp only [i64_w, i32_w]; rw [c3b0]) | skip)
      by_cases c4 : 0 ≤ 300
      · rw [if_pos c4] at H
        have c4b0 := eq_true c4
        have c4b1 : decide (0 ≤ 300) = true := decide_eq_true c4
        clear c4
        by_cases c5 : 300 ≤ (a0.size : Int)
        · rw [if_pos c5] at H
          have c5b0 := eq_true c5
          have c5b1 : decide (300 ≤ (a0.size : Int)) = true := decide_eq_true c5
          clear c5
          have H' := Aside0.mk H
          clear H
          go_wp2
          go_meet
          case rel => exact ⟨_, (a0.extract 0 300), (by first | rfl | (simp; done) | (simp [*]; done) | (refine congrArg (Value.int .i64) ?_; (try simp only [decide_eq_true_eq, decide_eq_false_iff_not] at *) <;> (unfold wrap64; omega))), H', ⟨by first | omega | exact Nat.le_refl _⟩, ⟨by repeat (first | (with_reducible first | exact HB.out | apply below_alloc | apply pw_below_drewN | apply below_drew1) | exact HB.out)⟩⟩
        · rw [if_neg c5] at H
          exact absurd H (by simp)
      · rw [if_neg c4] at H
        exact absurd H (by simp)
    · rw [if_neg c3] at H
      have c3b0 : decide (300 < (a0.size : Int)) = false := decide_eq_false c3
      have c3b1 : decide (300 < a0.size) = false := decide_eq_false (by omega)
      clear c3
      (first | rw [c3b0] | (simp only [i64_w, i32_w]; rw [c3b0]) | skip)
      have H' := Aside0.mk H
      clear H
      go_wp2
      go_meet
      case rel => exact ⟨_, (a0), (by first | rfl | (simp; done) | (simp [*]; done) | (refine congrArg (Value.int .i64) ?_; (try simp only [decide_eq_true_eq, decide_eq_false_iff_not] at *) <;> (unfold wrap64; omega))), H', ⟨by first | omega | exact Nat.le_refl _⟩, ⟨by repeat (first | (with_reducible first | exact HB.out | apply below_alloc | apply pw_below_drewN | apply below_drew1) | exact HB.out)⟩⟩
  case rest =>
    clear HC2
    try clear p2
    try clear c3
    try clear c3b0
    try clear c3b1
    try clear c4
    try clear c4b0
    try clear c4b1
    try clear c5
    try clear c5b0
    try clear c5b1
    obtain ⟨kq, x0_1, rfl, HA, HJ1, HB⟩ := hcut
    cases kq with
    | zero => exact absurd HA.out (by simp [columbariumlaw2_SumSteps.j0])
    | succ kj1 =>
      have H := HA.out
      clear HA
      simp only [columbariumlaw2_SumSteps.j0] at H
      replace H := Option.bind_eq_some_iff.mp H
      obtain ⟨t156, A60, H⟩ := H
      replace H : (columbariumlaw2_SumSteps.l0 kj1 x0_1 t156 0) = some r := H
      have A6 := Aside0.mk A60
      clear A60
      have H' := Aside0.mk H
      clear H
      go_wp2_with (first | ((with_reducible refine gate_callee (f := 15) rfl ?_); refine goesL_ (some 10) rfl rfl Try.func15 (by kernel_rfl) rfl #[.string (⟨#[]⟩ : ByteArray)] rfl (by (try simp only [List.map_toArray, List.map_cons, List.map_nil]); first | done | rfl | (simp only [List.length_drop, List.length_take]; rfl)) ?_; (with_reducible refine (sum_Fnv.calls kj1 (⟨#[]⟩ : ByteArray) t156 _ A6.out).mono ?_); rintro e w' ⟨rfl, ⟨nd, rfl⟩⟩; refine ⟨_, rfl, ?_⟩))
      go_loopg [3, 4] kj1 (fun kq v3 v4 w' => ∃ (x3_2 : Int) (x4_2 : Int), v3 = .int .u64 x3_2 ∧ v4 = .int .i64 x4_2 ∧ Aside0 (columbariumlaw2_SumSteps.l0 kq x0_1 x3_2 x4_2 = some r) ∧ Aside0 (kq ≤ kj1) ∧ Aside0 (Below w.heap.size w w'))
      case atStart => exact ⟨(t156), (0), (by first | rfl | (simp; done) | (simp [*]; done) | (refine congrArg (Value.int .i64) ?_; (try simp only [decide_eq_true_eq, decide_eq_false_iff_not] at *) <;> (unfold wrap64; omega))), (by first | rfl | (simp; done) | (simp [*]; done) | (refine congrArg (Value.int .i64) ?_; (try simp only [decide_eq_true_eq, decide_eq_false_iff_not] at *) <;> (unfold wrap64; omega))), H', ⟨Nat.le_refl _⟩, ⟨by repeat (first | (with_reducible first | exact HB.out | apply below_alloc | apply pw_below_drewN | apply below_drew1) | exact HB.out)⟩⟩
      case round =>
        clear H'
        try clear c1
        try clear p2
        try clear c3
        try clear c3b0
        try clear c3b1
        try clear c4
        try clear c4b0
        try clear c4b1
        try clear c5
        try clear c5b0
        try clear c5b1
        try clear p6
        try clear p2
        obtain ⟨x3_2, x4_2, rfl, rfl, HA, HK2, HB⟩ := hrel
        cases gk with
        | zero => exact absurd HA.out (by simp [columbariumlaw2_SumSteps.l0])
        | succ k2 =>
          have H := HA.out
          clear HA
          simp only [columbariumlaw2_SumSteps.l0] at H
          by_cases c7 : x4_2 < (x0_1.size : Int)
          · rw [if_pos c7] at H
            have c7b0 : decide (x4_2 < (x0_1.size : Int)) = true := decide_eq_true c7
            clear c7
            by_cases c8 : 0 ≤ x4_2
            · rw [if_pos c8] at H
              have c8b0 : decide (0 ≤ x4_2) = true := decide_eq_true c8
              clear c8
              obtain ⟨ji10, hji10⟩ : ∃ j_ : Int, (wrap64 (x4_2 + 1)) = j_ := ⟨_, rfl⟩
              replace H : (if 0 ≤ (ji10) then (if (ji10) ≤ (x0_1.size : Int) then ((sum_Fnv.f k2 (x0_1.extract 0 ((ji10) : Int).toNat)).bind fun t157 => (if t157 = (IntKind.u64.wrap ((Go.bits .xor .u64 x3_2 (IntKind.u64.wrap (bt x0_1 x4_2))) * 1099511628211)) then (columbariumlaw2_SumSteps.l0 k2 x0_1 (IntKind.u64.wrap ((Go.bits .xor .u64 x3_2 (IntKind.u64.wrap (bt x0_1 x4_2))) * 1099511628211)) ji10) else (some false))) else (none)) else (none)) = some r := by first | (rw [hji10] at H; exact H) | (simp only [hji10] at H ⊢; exact H)
              have hji10w : (IntKind.i64.wrap (x4_2 + 1)) = ji10 := (i64_w _).trans hji10
              (try ((have hji10v : (x4_2 + 1) = ji10 := by ((have h_ := hji10); ((try simp only [decide_eq_true_eq] at *) <;> (unfold wrap64 at h_; omega)))); (have hji10l : 0 ≤ ji10 := by ((have h_ := hji10); ((try simp only [decide_eq_true_eq] at *) <;> (unfold wrap64 at h_; omega)))); (have hji10u : ji10 ≤ 64 := by ((have h_ := hji10); ((try simp only [decide_eq_true_eq] at *) <;> (unfold wrap64 at h_; omega))))))
              by_cases c11 : 0 ≤ (ji10)
              · rw [if_pos c11] at H
                have c11b0 := eq_true c11
                have c11b1 : decide (0 ≤ (ji10)) = true := decide_eq_true c11
                clear c11
                by_cases c12 : (ji10) ≤ (x0_1.size : Int)
                · rw [if_pos c12] at H
                  have c12b0 := eq_true c12
                  have c12b1 : decide ((ji10) ≤ (x0_1.size : Int)) = true := decide_eq_true c12
                  clear c12
                  replace H := Option.bind_eq_some_iff.mp H
                  obtain ⟨t157, A130, H⟩ := H
                  replace H : (if t157 = (IntKind.u64.wrap ((Go.bits .xor .u64 x3_2 (IntKind.u64.wrap (bt x0_1 x4_2))) * 1099511628211)) then (columbariumlaw2_SumSteps.l0 k2 x0_1 (IntKind.u64.wrap ((Go.bits .xor .u64 x3_2 (IntKind.u64.wrap (bt x0_1 x4_2))) * 1099511628211)) ji10) else (some false)) = some r := H
                  have A13 := Aside0.mk A130
                  clear A130
                  by_cases c14 : t157 = (IntKind.u64.wrap ((Go.bits .xor .u64 x3_2 (IntKind.u64.wrap (bt x0_1 x4_2))) * 1099511628211))
                  · rw [if_pos c14] at H
                    have c14b0 : (t157 == (IntKind.u64.wrap ((Go.bits .xor .u64 x3_2 (IntKind.u64.wrap (bt x0_1 x4_2))) * 1099511628211))) = true := beq_iff_eq.mpr c14
                    have c14b1 : (t157 != (IntKind.u64.wrap ((Go.bits .xor .u64 x3_2 (IntKind.u64.wrap (bt x0_1 x4_2))) * 1099511628211))) = false := bne_eq_false_iff_eq.mpr c14
                    clear c14
                    have H' := Aside0.mk H
                    clear H
                    have p9 : 0 ≤ (x4_2 : Int) := of_decide_eq_true (by first | (with_reducible assumption) | assumption)
                    have q9 : x4_2 < (x0_1.size : Int) := of_decide_eq_true (by first | (with_reducible assumption) | assumption)
                    have hx9 := bt_at x0_1 x4_2
                    replace p9 := eq_true p9
                    replace q9 := eq_true q9
                    go_wp2_with (first | ((with_reducible refine gate_callee (f := 15) rfl ?_); refine goesL_ (some 28) rfl rfl Try.func15 (by kernel_rfl) rfl #[.string (x0_1.extract 0 ((ji10) : Int).toNat)] rfl (by (try simp only [List.map_toArray, List.map_cons, List.map_nil]); first | done | (simp only [hji10]; rfl) | rfl | (simp only [List.length_drop, List.length_take]; rfl)) ?_; (with_reducible refine (sum_Fnv.calls k2 (x0_1.extract 0 ((ji10) : Int).toNat) t157 _ A13.out).mono ?_); rintro e w' ⟨rfl, ⟨nd, rfl⟩⟩; refine ⟨_, rfl, ?_⟩))
                    go_roundg k2
                    case measure => have := HJ1.out; have := HK2.out; omega
                    case rel => exact ⟨(IntKind.u64.wrap ((Go.bits .xor .u64 x3_2 (IntKind.u64.wrap (bt x0_1 x4_2))) * 1099511628211)), (ji10), (by first | rfl | (simp; done) | (simp [*]; done) | (refine congrArg (Value.int .i64) ?_; (try simp only [decide_eq_true_eq, decide_eq_false_iff_not] at *) <;> (unfold wrap64; omega))), (by first | rfl | (simp; done) | (simp only [← hji10] <;> (first | rfl | simp)) | (simp [*]; done) | (refine congrArg (Value.int .i64) ?_; (try simp only [decide_eq_true_eq, decide_eq_false_iff_not] at *) <;> (unfold wrap64; omega))), H', ⟨by have := HJ1.out; have := HK2.out; omega⟩, ⟨by repeat (first | (with_reducible first | exact HB.out | apply below_alloc | apply pw_below_drewN | apply below_drew1) | exact HB.out)⟩⟩
                  · rw [if_neg c14] at H
                    have c14b0 : (t157 == (IntKind.u64.wrap ((Go.bits .xor .u64 x3_2 (IntKind.u64.wrap (bt x0_1 x4_2))) * 1099511628211))) = false := beq_eq_false_iff_ne.mpr c14
                    have c14b1 : (t157 != (IntKind.u64.wrap ((Go.bits .xor .u64 x3_2 (IntKind.u64.wrap (bt x0_1 x4_2))) * 1099511628211))) = true := bne_iff_ne.mpr c14
                    exact absurd ((Option.some.inj H).trans hr_.out) (by decide)
                · rw [if_neg c12] at H
                  exact absurd H (by simp)
              · rw [if_neg c11] at H
                exact absurd H (by simp)
            · rw [if_neg c8] at H
              exact absurd H (by simp)
          · rw [if_neg c7] at H
            have c7b0 : decide (x4_2 < (x0_1.size : Int)) = false := decide_eq_false c7
            clear c7
            replace H := Option.bind_eq_some_iff.mp H
            obtain ⟨t158, A150, H⟩ := H
            replace H : (if x3_2 = t158 then ((columbariumlaw2_known.f k2).bind fun t159 => (some t159)) else (some false)) = some r := H
            have A15 := Aside0.mk A150
            clear A150
            by_cases c16 : x3_2 = t158
            · rw [if_pos c16] at H
              have c16b0 : (x3_2 == t158) = true := beq_iff_eq.mpr c16
              have c16b1 : (x3_2 != t158) = false := bne_eq_false_iff_eq.mpr c16
              clear c16
              replace H := Option.bind_eq_some_iff.mp H
              obtain ⟨t159, A170, H⟩ := H
              replace H : (some t159) = some r := H
              have A17 := Aside0.mk A170
              clear A170
              obtain rfl := Option.some.inj H
              go_wp2_with (first | ((with_reducible refine gate_callee (f := 15) rfl ?_); refine goesL_ (some 33) rfl rfl Try.func15 (by kernel_rfl) rfl #[.string x0_1] rfl (by (try simp only [List.map_toArray, List.map_cons, List.map_nil]); first | done | rfl | (simp only [List.length_drop, List.length_take]; rfl)) ?_; (with_reducible refine (sum_Fnv.calls k2 x0_1 t158 _ A15.out).mono ?_); rintro e w' ⟨rfl, ⟨nd, rfl⟩⟩; refine ⟨_, rfl, ?_⟩) | (go_at_call 16; (with_reducible refine (columbariumlaw2_known.calls k2  t159 _ A17.out).mono ?_); rintro e w18 ⟨rfl, hb⟩; have n0_ := Aside0.mk (below_step (by repeat (first | (with_reducible first | exact HB.out | apply below_alloc | apply pw_below_drewN | apply below_drew1) | exact HB.out)) hb); clear HB; have HB := n0_; clear n0_; (try clear hb); (try clear hb2); (try clear hk); (try clear hi)))
              go_ret
              exact ⟨by first | rfl | (simp [errW_none, errW_some] <;> rfl) | (simp [*, errW_none, errW_some] <;> rfl), by repeat (first | (with_reducible first | exact HB.out | apply below_alloc | apply pw_below_drewN | apply below_drew1) | exact HB.out)⟩
            · rw [if_neg c16] at H
              have c16b0 : (x3_2 == t158) = false := beq_eq_false_iff_ne.mpr c16
              have c16b1 : (x3_2 != t158) = true := bne_iff_ne.mpr c16
              exact absurd ((Option.some.inj H).trans hr_.out) (by decide)

/-- THE ONE PURE STATEMENT of columbariumlaw2_SumSteps: yours. -/
def columbariumlaw2_SumSteps.Pure : Prop := ∀ (a0 : ByteArray), a0.size ≤ 140737488351232 → ∃ k, columbariumlaw2_SumSteps.f k a0 = some true
theorem columbariumlaw2_SumSteps.walk (P : columbariumlaw2_SumSteps.Pure) (a0 : ByteArray) (w : World) (w0 : a0.size ≤ 140737488351232) :
    Calls Try.prog 7 #[.string a0] w fun e w' => e = .returned (.bool true) ∧ Below w.heap.size w w' := by
  obtain ⟨k, h⟩ := P a0 w0
  refine (columbariumlaw2_SumSteps.calls k a0 true w h ⟨rfl⟩).mono ?_
  rintro e w' ⟨rfl, hd⟩
  exact ⟨rfl, hd⟩

end Go.Proofs.Ythpomojgkhjhbaa.PS
