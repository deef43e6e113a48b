-- PRINTED by print.py (a twelfth state) out of the translation. Not trusted: Lean checks it.
import Derived.Test.YthpomojgkhjhbaaPSx0
import Derived.Test.YthpomojgkhjhbaaPSx11
import Derived.Test.YthpomojgkhjhbaaPSx13
namespace Go.Proofs.Ythpomojgkhjhbaa.PS
open Go.RowKit Go.Proofs.YthpomojgkhjhbaaW.PrintWords Go.Proofs.YthpomojgkhjhbaaW.PrintLast Go.Proofs.YthpomojgkhjhbaaW.PrintMore
attribute [local go_sem] max2_int min2_int max_two min_two max_three min_three max_four min_four   -- for this text's walks alone
set_option linter.unusedVariables false
set_option linter.unusedSimpArgs false

/-! ### columbariumlaw1_VarintZigs: function 9 -/
def columbariumlaw1_VarintZigs.j0 : Nat → Int → Int → Int → Int → Int → Option (Bool)
  | 0, _, _, _, _, _ => none
  | k + 1, x0, x1, x5, x6, x7 => if x1 < 0 then (if x7 < (wrap64 (-(wrap64 (x1 + 1)))) then (if x5 ≥ x6 then (some false) else (if x7 > (wrap64 (-(wrap64 (x1 + 1)))) then (if x5 ≤ x6 then (some false) else (if x7 = (wrap64 (-(wrap64 (x1 + 1)))) then (if (IntKind.u64.wrap (Int.tdiv x5 2)) = (IntKind.u64.wrap (Int.tdiv x6 2)) then (if (((Int.tmod x5 2) == 1) == (decide (x0 < 0))) = true then (if (wrap64 (IntKind.u64.wrap (Int.tdiv x5 2))) = x7 then ((columbariumlaw1_known.f k).bind fun t186 => (some t186)) else (some false)) else (some false)) else (some false)) else (if (((Int.tmod x5 2) == 1) == (decide (x0 < 0))) = true then (if (wrap64 (IntKind.u64.wrap (Int.tdiv x5 2))) = x7 then ((columbariumlaw1_known.f k).bind fun t187 => (some t187)) else (some false)) else (some false)))) else (if x7 = (wrap64 (-(wrap64 (x1 + 1)))) then (if (IntKind.u64.wrap (Int.tdiv x5 2)) = (IntKind.u64.wrap (Int.tdiv x6 2)) then (if (((Int.tmod x5 2) == 1) == (decide (x0 < 0))) = true then (if (wrap64 (IntKind.u64.wrap (Int.tdiv x5 2))) = x7 then ((columbariumlaw1_known.f k).bind fun t188 => (some t188)) else (some false)) else (some false)) else (some false)) else (if (((Int.tmod x5 2) == 1) == (decide (x0 < 0))) = true then (if (wrap64 (IntKind.u64.wrap (Int.tdiv x5 2))) = x7 then ((columbariumlaw1_known.f k).bind fun t189 => (some t189)) else (some false)) else (some false))))) else (if x7 > (wrap64 (-(wrap64 (x1 + 1)))) then (if x5 ≤ x6 then (some false) else (if x7 = (wrap64 (-(wrap64 (x1 + 1)))) then (if (IntKind.u64.wrap (Int.tdiv x5 2)) = (IntKind.u64.wrap (Int.tdiv x6 2)) then (if (((Int.tmod x5 2) == 1) == (decide (x0 < 0))) = true then (if (wrap64 (IntKind.u64.wrap (Int.tdiv x5 2))) = x7 then ((columbariumlaw1_known.f k).bind fun t190 => (some t190)) else (some false)) else (some false)) else (some false)) else (if (((Int.tmod x5 2) == 1) == (decide (x0 < 0))) = true then (if (wrap64 (IntKind.u64.wrap (Int.tdiv x5 2))) = x7 then ((columbariumlaw1_known.f k).bind fun t191 => (some t191)) else (some false)) else (some false)))) else (if x7 = (wrap64 (-(wrap64 (x1 + 1)))) then (if (IntKind.u64.wrap (Int.tdiv x5 2)) = (IntKind.u64.wrap (Int.tdiv x6 2)) then (if (((Int.tmod x5 2) == 1) == (decide (x0 < 0))) = true then (if (wrap64 (IntKind.u64.wrap (Int.tdiv x5 2))) = x7 then ((columbariumlaw1_known.f k).bind fun t192 => (some t192)) else (some false)) else (some false)) else (some false)) else (if (((Int.tmod x5 2) == 1) == (decide (x0 < 0))) = true then (if (wrap64 (IntKind.u64.wrap (Int.tdiv x5 2))) = x7 then ((columbariumlaw1_known.f k).bind fun t193 => (some t193)) else (some false)) else (some false))))) else (if x7 < x1 then (if x5 ≥ x6 then (some false) else (if x7 > x1 then (if x5 ≤ x6 then (some false) else (if x7 = x1 then (if (IntKind.u64.wrap (Int.tdiv x5 2)) = (IntKind.u64.wrap (Int.tdiv x6 2)) then (if (((Int.tmod x5 2) == 1) == (decide (x0 < 0))) = true then (if (wrap64 (IntKind.u64.wrap (Int.tdiv x5 2))) = x7 then ((columbariumlaw1_known.f k).bind fun t194 => (some t194)) else (some false)) else (some false)) else (some false)) else (if (((Int.tmod x5 2) == 1) == (decide (x0 < 0))) = true then (if (wrap64 (IntKind.u64.wrap (Int.tdiv x5 2))) = x7 then ((columbariumlaw1_known.f k).bind fun t195 => (some t195)) else (some false)) else (some false)))) else (if x7 = x1 then (if (IntKind.u64.wrap (Int.tdiv x5 2)) = (IntKind.u64.wrap (Int.tdiv x6 2)) then (if (((Int.tmod x5 2) == 1) == (decide (x0 < 0))) = true then (if (wrap64 (IntKind.u64.wrap (Int.tdiv x5 2))) = x7 then ((columbariumlaw1_known.f k).bind fun t196 => (some t196)) else (some false)) else (some false)) else (some false)) else (if (((Int.tmod x5 2) == 1) == (decide (x0 < 0))) = true then (if (wrap64 (IntKind.u64.wrap (Int.tdiv x5 2))) = x7 then ((columbariumlaw1_known.f k).bind fun t197 => (some t197)) else (some false)) else (some false))))) else (if x7 > x1 then (if x5 ≤ x6 then (some false) else (if x7 = x1 then (if (IntKind.u64.wrap (Int.tdiv x5 2)) = (IntKind.u64.wrap (Int.tdiv x6 2)) then (if (((Int.tmod x5 2) == 1) == (decide (x0 < 0))) = true then (if (wrap64 (IntKind.u64.wrap (Int.tdiv x5 2))) = x7 then ((columbariumlaw1_known.f k).bind fun t198 => (some t198)) else (some false)) else (some false)) else (some false)) else (if (((Int.tmod x5 2) == 1) == (decide (x0 < 0))) = true then (if (wrap64 (IntKind.u64.wrap (Int.tdiv x5 2))) = x7 then ((columbariumlaw1_known.f k).bind fun t199 => (some t199)) else (some false)) else (some false)))) else (if x7 = x1 then (if (IntKind.u64.wrap (Int.tdiv x5 2)) = (IntKind.u64.wrap (Int.tdiv x6 2)) then (if (((Int.tmod x5 2) == 1) == (decide (x0 < 0))) = true then (if (wrap64 (IntKind.u64.wrap (Int.tdiv x5 2))) = x7 then ((columbariumlaw1_known.f k).bind fun t200 => (some t200)) else (some false)) else (some false)) else (some false)) else (if (((Int.tmod x5 2) == 1) == (decide (x0 < 0))) = true then (if (wrap64 (IntKind.u64.wrap (Int.tdiv x5 2))) = x7 then ((columbariumlaw1_known.f k).bind fun t201 => (some t201)) else (some false)) else (some false)))))
def columbariumlaw1_VarintZigs.f (k : Nat) (a0 : Int) (a1 : Int) : Option (Bool) := (varint_Zig.f a0).bind fun t184 => ((varint_Zig.f a1).bind fun t185 => (if a0 < 0 then (columbariumlaw1_VarintZigs.j0 k a0 a1 t184 t185 (wrap64 (-(wrap64 (a0 + 1))))) else (columbariumlaw1_VarintZigs.j0 k a0 a1 t184 t185 a0)))
theorem columbariumlaw1_VarintZigs.mono_l : ∀ k, (∀ y0 y1 y2 y3 y4, LeO (columbariumlaw1_VarintZigs.j0 k y0 y1 y2 y3 y4) (columbariumlaw1_VarintZigs.j0 (k + 1) y0 y1 y2 y3 y4))
  | 0 => fun _ _ _ _ _ r h => by simp [columbariumlaw1_VarintZigs.j0] at h
  | k + 1 => by
    have ih0 := columbariumlaw1_VarintZigs.mono_l k
    · intro y0 y1 y2 y3 y4
      unfold columbariumlaw1_VarintZigs.j0
      repeat' first
      | (with_reducible exact ih0 _ _ _ _ _)
      | (with_reducible exact columbariumlaw1_known.mono _)
      | (with_reducible exact LeO.refl _)
      | (with_reducible exact LeO.none _)
      | (with_reducible refine LeO.ite ?_ ?_)
      | (with_reducible refine LeO.bind ?_ (fun _ => ?_))
      | exact ih0 _ _ _ _ _
      | exact columbariumlaw1_known.mono _
      | exact LeO.none _
      | refine LeO.ite ?_ ?_
      | refine LeO.bind ?_ (fun _ => ?_)
theorem columbariumlaw1_VarintZigs.mono : ∀ a0 a1 k, LeO (columbariumlaw1_VarintZigs.f k a0 a1) (columbariumlaw1_VarintZigs.f (k + 1) a0 a1) := by
  intro a0 a1 k
  have ih0 := columbariumlaw1_VarintZigs.mono_l k
  unfold columbariumlaw1_VarintZigs.f
  repeat' first
      | (with_reducible exact ih0 _ _ _ _ _)
      | (with_reducible exact columbariumlaw1_known.mono _)
      | (with_reducible exact LeO.refl _)
      | (with_reducible exact LeO.none _)
      | (with_reducible refine LeO.ite ?_ ?_)
      | (with_reducible refine LeO.bind ?_ (fun _ => ?_))
      | exact ih0 _ _ _ _ _
      | exact columbariumlaw1_known.mono _
      | exact LeO.none _
      | refine LeO.ite ?_ ?_
      | refine LeO.bind ?_ (fun _ => ?_)
set_option maxHeartbeats 8000000 in
set_option maxRecDepth 100000 in
theorem columbariumlaw1_VarintZigs.calls (k : Nat) (a0 : Int) (a1 : Int) (r : Bool) (w : World) (h : columbariumlaw1_VarintZigs.f k a0 a1 = some r) (hr_ : Aside0 (r = true)) :
    Calls Try.prog 9 #[.int .i64 a0, .int .i64 a1] w fun e w' => e = .returned (.bool r) ∧ Below w.heap.size w w' := by
  have HB := Aside0.mk (Below.refl w.heap.size w)
  have H : ((varint_Zig.f a0).bind fun t184 => ((varint_Zig.f a1).bind fun t185 => (if a0 < 0 then (columbariumlaw1_VarintZigs.j0 k a0 a1 t184 t185 (wrap64 (-(wrap64 (a0 + 1))))) else (columbariumlaw1_VarintZigs.j0 k a0 a1 t184 t185 a0)))) = some r := h
  clear h
  replace H := Option.bind_eq_some_iff.mp H
  obtain ⟨t184, A30, H⟩ := H
  replace H : ((varint_Zig.f a1).bind fun t185 => (if a0 < 0 then (columbariumlaw1_VarintZigs.j0 k a0 a1 t184 t185 (wrap64 (-(wrap64 (a0 + 1))))) else (columbariumlaw1_VarintZigs.j0 k a0 a1 t184 t185 a0))) = some r := H
  have A3 := Aside0.mk A30
  clear A30
  replace H := Option.bind_eq_some_iff.mp H
  obtain ⟨t185, A40, H⟩ := H
  replace H : (if a0 < 0 then (columbariumlaw1_VarintZigs.j0 k a0 a1 t184 t185 (wrap64 (-(wrap64 (a0 + 1))))) else (columbariumlaw1_VarintZigs.j0 k a0 a1 t184 t185 a0)) = some r := H
  have A4 := Aside0.mk A40
  clear A40
  have HC5 := Aside0.mk H
  clear H
  go_enter Try.func9, Try.ntmps9
  go_upto_if 15 with (first | ((with_reducible refine gate_callee (f := 25) rfl ?_); refine goesL_ (some 10) rfl rfl Try.func25 (by kernel_rfl) rfl #[.int .i64 a0] rfl (by (try simp only [List.map_toArray, List.map_cons, List.map_nil]); first | done | rfl | (simp only [List.length_drop, List.length_take]; rfl)) ?_; (with_reducible refine (varint_Zig.calls a0 t184 _ A3.out).mono ?_); rintro e w' ⟨rfl, ⟨nd, rfl⟩⟩; refine ⟨_, rfl, ?_⟩) | ((with_reducible refine gate_callee (f := 25) rfl ?_); refine goesL_ (some 12) rfl rfl Try.func25 (by kernel_rfl) rfl #[.int .i64 a1] rfl (by (try simp only [List.map_toArray, List.map_cons, List.map_nil]); first | done | rfl | (simp only [List.length_drop, List.length_take]; rfl)) ?_; (with_reducible refine (varint_Zig.calls a1 t185 _ A4.out).mono ?_); rintro e w' ⟨rfl, ⟨nd, rfl⟩⟩; refine ⟨_, rfl, ?_⟩))
  (try simp only [Act.put, List.setIfInBounds_toArray, List.set_cons_zero, List.set_cons_succ])
  go_cut [7] (fun v7 wc => ∃ (kq : Nat) (x7_4 : Int), v7 = .int .i64 x7_4 ∧ Aside0 (columbariumlaw1_VarintZigs.j0 kq a0 a1 t184 t185 x7_4 = some r) ∧ Aside0 (kq ≤ k) ∧ Aside0 (Below w.heap.size w wc))
  case first =>
    have H := HC5.out
    clear HC5
    by_cases c6 : a0 < 0
    · rw [if_pos c6] at H
      have c6b0 : decide (a0 < 0) = true := decide_eq_true c6
      clear c6
      (first | rw [c6b0] | (simp only [i64_w, i32_w]; rw [c6b0]) | skip)
      have H' := Aside0.mk H
      clear H
      go_wp2
      go_meet
      case rel => exact ⟨_, (wrap64 (-(wrap64 (a0 + 1)))), (by first | rfl | (simp; done) | (simp [*]; done) | (refine congrArg (Value.int .i64) ?_; (try simp only [decide_eq_true_eq, decide_eq_false_iff_not] at *) <;> (unfold wrap64; omega))), H', ⟨by first | omega | exact Nat.le_refl _⟩, ⟨by repeat (first | (with_reducible first | exact HB.out | apply below_alloc | apply pw_below_drewN | apply below_drew1) | exact HB.out)⟩⟩
    · rw [if_neg c6] at H
      have c6b0 : decide (a0 < 0) = false := decide_eq_false c6
      clear c6
      (first | rw [c6b0] | (simp only [i64_w, i32_w]; rw [c6b0]) | skip)
      have H' := Aside0.mk H
      clear H
      go_wp2
      go_meet
      case rel => exact ⟨_, (a0), (by first | rfl | (simp; done) | (simp [*]; done) | (refine congrArg (Value.int .i64) ?_; (try simp only [decide_eq_true_eq, decide_eq_false_iff_not] at *) <;> (unfold wrap64; omega))), H', ⟨by first | omega | exact Nat.le_refl _⟩, ⟨by repeat (first | (with_reducible first | exact HB.out | apply below_alloc | apply pw_below_drewN | apply below_drew1) | exact HB.out)⟩⟩
  case rest =>
    clear HC5
    try clear c2
    try clear p2
    try clear c6
    try clear c6b0
    try clear p6
    obtain ⟨kq, x7_4, rfl, HA, HJ4, HB⟩ := hcut
    cases kq with
    | zero => exact absurd HA.out (by simp [columbariumlaw1_VarintZigs.j0])
    | succ kj4 =>
      have H := HA.out
      clear HA
      simp only [columbariumlaw1_VarintZigs.j0] at H
      by_cases c7 : a1 < 0
      · rw [if_pos c7] at H
        have c7b0 : decide (a1 < 0) = true := decide_eq_true c7
        clear c7
        by_cases c8 : x7_4 < (wrap64 (-(wrap64 (a1 + 1))))
        · rw [if_pos c8] at H
          have c8b0 : decide (x7_4 < (wrap64 (-(wrap64 (a1 + 1))))) = true := decide_eq_true c8
          clear c8
          by_cases c9 : t184 ≥ t185
          · rw [if_pos c9] at H
            have c9b0 : decide (t185 ≤ t184) = true := decide_eq_true c9
            clear c9
            exact absurd ((Option.some.inj H).trans hr_.out) (by decide)
          · rw [if_neg c9] at H
            have c9b0 : decide (t185 ≤ t184) = false := decide_eq_false c9
            clear c9
            by_cases c10 : x7_4 > (wrap64 (-(wrap64 (a1 + 1))))
            · rw [if_pos c10] at H
              have c10b0 : decide ((wrap64 (-(wrap64 (a1 + 1)))) < x7_4) = true := decide_eq_true c10
              clear c10
              by_cases c11 : t184 ≤ t185
              · rw [if_pos c11] at H
                have c11b0 : decide (t184 ≤ t185) = true := decide_eq_true c11
                clear c11
                exact absurd ((Option.some.inj H).trans hr_.out) (by decide)
              · rw [if_neg c11] at H
                have c11b0 : decide (t184 ≤ t185) = false := decide_eq_false c11
                clear c11
                by_cases c12 : x7_4 = (wrap64 (-(wrap64 (a1 + 1))))
                · rw [if_pos c12] at H
                  have c12b0 : (x7_4 == (wrap64 (-(wrap64 (a1 + 1))))) = true := beq_iff_eq.mpr c12
                  have c12b1 : (x7_4 != (wrap64 (-(wrap64 (a1 + 1))))) = false := bne_eq_false_iff_eq.mpr c12
                  clear c12
                  by_cases c13 : (IntKind.u64.wrap (Int.tdiv t184 2)) = (IntKind.u64.wrap (Int.tdiv t185 2))
                  · rw [if_pos c13] at H
                    have c13b0 : ((IntKind.u64.wrap (Int.tdiv t184 2)) == (IntKind.u64.wrap (Int.tdiv t185 2))) = true := beq_iff_eq.mpr c13
                    have c13b1 : ((IntKind.u64.wrap (Int.tdiv t184 2)) != (IntKind.u64.wrap (Int.tdiv t185 2))) = false := bne_eq_false_iff_eq.mpr c13
                    clear c13
                    by_cases c14 : (((Int.tmod t184 2) == 1) == (decide (a0 < 0))) = true
                    · rw [if_pos c14] at H
                      have c14b0 : (((Int.tmod t184 2) == 1) == (decide (a0 < 0))) = true := c14
                      (try (have c14b1 : decide (((Int.tmod t184 2) == 1) = (decide (a0 < 0))) = true := by simpa using c14))
                      (try (have c14b2 : (((Int.tmod t184 2) == 1) == (decide (a0 < 0))) = true := by simpa using c14))
                      clear c14
                      by_cases c15 : (wrap64 (IntKind.u64.wrap (Int.tdiv t184 2))) = x7_4
                      · rw [if_pos c15] at H
                        have c15b0 : ((wrap64 (IntKind.u64.wrap (Int.tdiv t184 2))) == x7_4) = true := beq_iff_eq.mpr c15
                        have c15b1 : ((wrap64 (IntKind.u64.wrap (Int.tdiv t184 2))) != x7_4) = false := bne_eq_false_iff_eq.mpr c15
                        clear c15
                        replace H := Option.bind_eq_some_iff.mp H
                        obtain ⟨t186, A160, H⟩ := H
                        replace H : (some t186) = some r := H
                        have A16 := Aside0.mk A160
                        clear A160
                        obtain rfl := Option.some.inj H
                        go_wp2_with (first | (go_at_call 24; (with_reducible refine (columbariumlaw1_known.calls kj4  t186 _ A16.out).mono ?_); rintro e w17 ⟨rfl, hb⟩; have n0_ := Aside0.mk (below_step (by repeat (first | (with_reducible first | exact HB.out | apply below_alloc | apply pw_below_drewN | apply below_drew1) | exact HB.out)) hb); clear HB; have HB := n0_; clear n0_; (try clear hb); (try clear hb2); (try clear hk); (try clear hi)))
                        go_ret
                        exact ⟨by first | rfl | (simp [errW_none, errW_some] <;> rfl) | (simp [*, errW_none, errW_some] <;> rfl), by repeat (first | (with_reducible first | exact HB.out | apply below_alloc | apply pw_below_drewN | apply below_drew1) | exact HB.out)⟩
                      · rw [if_neg c15] at H
                        have c15b0 : ((wrap64 (IntKind.u64.wrap (Int.tdiv t184 2))) == x7_4) = false := beq_eq_false_iff_ne.mpr c15
                        have c15b1 : ((wrap64 (IntKind.u64.wrap (Int.tdiv t184 2))) != x7_4) = true := bne_iff_ne.mpr c15
                        exact absurd ((Option.some.inj H).trans hr_.out) (by decide)
                    · rw [if_neg c14] at H
                      have c14b0 : (((Int.tmod t184 2) == 1) == (decide (a0 < 0))) = false := by simpa using c14
                      (try (have c14b1 : decide (((Int.tmod t184 2) == 1) = (decide (a0 < 0))) = false := by simpa using c14))
                      (try (have c14b2 : (((Int.tmod t184 2) == 1) == (decide (a0 < 0))) = false := by simpa using c14))
                      (try (have c14b3 : ¬ (((Int.tmod t184 2) == 1) = (decide (a0 < 0))) := by simpa using c14))
                      clear c14
                      exact absurd ((Option.some.inj H).trans hr_.out) (by decide)
                  · rw [if_neg c13] at H
                    have c13b0 : ((IntKind.u64.wrap (Int.tdiv t184 2)) == (IntKind.u64.wrap (Int.tdiv t185 2))) = false := beq_eq_false_iff_ne.mpr c13
                    have c13b1 : ((IntKind.u64.wrap (Int.tdiv t184 2)) != (IntKind.u64.wrap (Int.tdiv t185 2))) = true := bne_iff_ne.mpr c13
                    exact absurd ((Option.some.inj H).trans hr_.out) (by decide)
                · rw [if_neg c12] at H
                  have c12b0 : (x7_4 == (wrap64 (-(wrap64 (a1 + 1))))) = false := beq_eq_false_iff_ne.mpr c12
                  have c12b1 : (x7_4 != (wrap64 (-(wrap64 (a1 + 1))))) = true := bne_iff_ne.mpr c12
                  by_cases c18 : (((Int.tmod t184 2) == 1) == (decide (a0 < 0))) = true
                  · rw [if_pos c18] at H
                    have c18b0 : (((Int.tmod t184 2) == 1) == (decide (a0 < 0))) = true := c18
                    (try (have c18b1 : decide (((Int.tmod t184 2) == 1) = (decide (a0 < 0))) = true := by simpa using c18))
                    (try (have c18b2 : (((Int.tmod t184 2) == 1) == (decide (a0 < 0))) = true := by simpa using c18))
                    clear c18
                    by_cases c19 : (wrap64 (IntKind.u64.wrap (Int.tdiv t184 2))) = x7_4
                    · rw [if_pos c19] at H
                      have c19b0 : ((wrap64 (IntKind.u64.wrap (Int.tdiv t184 2))) == x7_4) = true := beq_iff_eq.mpr c19
                      have c19b1 : ((wrap64 (IntKind.u64.wrap (Int.tdiv t184 2))) != x7_4) = false := bne_eq_false_iff_eq.mpr c19
                      clear c19
                      replace H := Option.bind_eq_some_iff.mp H
                      obtain ⟨t187, A200, H⟩ := H
                      replace H : (some t187) = some r := H
                      have A20 := Aside0.mk A200
                      clear A200
                      obtain rfl := Option.some.inj H
                      go_wp2_with (first | (go_at_call 24; (with_reducible refine (columbariumlaw1_known.calls kj4  t187 _ A20.out).mono ?_); rintro e w21 ⟨rfl, hb⟩; have n0_ := Aside0.mk (below_step (by repeat (first | (with_reducible first | exact HB.out | apply below_alloc | apply pw_below_drewN | apply below_drew1) | exact HB.out)) hb); clear HB; have HB := n0_; clear n0_; (try clear hb); (try clear hb2); (try clear hk); (try clear hi)))
                      go_ret
                      exact ⟨by first | rfl | (simp [errW_none, errW_some] <;> rfl) | (simp [*, errW_none, errW_some] <;> rfl), by repeat (first | (with_reducible first | exact HB.out | apply below_alloc | apply pw_below_drewN | apply below_drew1) | exact HB.out)⟩
                    · rw [if_neg c19] at H
                      have c19b0 : ((wrap64 (IntKind.u64.wrap (Int.tdiv t184 2))) == x7_4) = false := beq_eq_false_iff_ne.mpr c19
                      have c19b1 : ((wrap64 (IntKind.u64.wrap (Int.tdiv t184 2))) != x7_4) = true := bne_iff_ne.mpr c19
                      exact absurd ((Option.some.inj H).trans hr_.out) (by decide)
                  · rw [if_neg c18] at H
                    have c18b0 : (((Int.tmod t184 2) == 1) == (decide (a0 < 0))) = false := by simpa using c18
                    (try (have c18b1 : decide (((Int.tmod t184 2) == 1) = (decide (a0 < 0))) = false := by simpa using c18))
                    (try (have c18b2 : (((Int.tmod t184 2) == 1) == (decide (a0 < 0))) = false := by simpa using c18))
                    (try (have c18b3 : ¬ (((Int.tmod t184 2) == 1) = (decide (a0 < 0))) := by simpa using c18))
                    clear c18
                    exact absurd ((Option.some.inj H).trans hr_.out) (by decide)
            · rw [if_neg c10] at H
              have c10b0 : decide ((wrap64 (-(wrap64 (a1 + 1)))) < x7_4) = false := decide_eq_false c10
              clear c10
              by_cases c22 : x7_4 = (wrap64 (-(wrap64 (a1 + 1))))
              · rw [if_pos c22] at H
                have c22b0 : (x7_4 == (wrap64 (-(wrap64 (a1 + 1))))) = true := beq_iff_eq.mpr c22
                have c22b1 : (x7_4 != (wrap64 (-(wrap64 (a1 + 1))))) = false := bne_eq_false_iff_eq.mpr c22
                clear c22
                by_cases c23 : (IntKind.u64.wrap (Int.tdiv t184 2)) = (IntKind.u64.wrap (Int.tdiv t185 2))
                · rw [if_pos c23] at H
                  have c23b0 : ((IntKind.u64.wrap (Int.tdiv t184 2)) == (IntKind.u64.wrap (Int.tdiv t185 2))) = true := beq_iff_eq.mpr c23
                  have c23b1 : ((IntKind.u64.wrap (Int.tdiv t184 2)) != (IntKind.u64.wrap (Int.tdiv t185 2))) = false := bne_eq_false_iff_eq.mpr c23
                  clear c23
                  by_cases c24 : (((Int.tmod t184 2) == 1) == (decide (a0 < 0))) = true
                  · rw [if_pos c24] at H
                    have c24b0 : (((Int.tmod t184 2) == 1) == (decide (a0 < 0))) = true := c24
                    (try (have c24b1 : decide (((Int.tmod t184 2) == 1) = (decide (a0 < 0))) = true := by simpa using c24))
                    (try (have c24b2 : (((Int.tmod t184 2) == 1) == (decide (a0 < 0))) = true := by simpa using c24))
                    clear c24
                    by_cases c25 : (wrap64 (IntKind.u64.wrap (Int.tdiv t184 2))) = x7_4
                    · rw [if_pos c25] at H
                      have c25b0 : ((wrap64 (IntKind.u64.wrap (Int.tdiv t184 2))) == x7_4) = true := beq_iff_eq.mpr c25
                      have c25b1 : ((wrap64 (IntKind.u64.wrap (Int.tdiv t184 2))) != x7_4) = false := bne_eq_false_iff_eq.mpr c25
                      clear c25
                      replace H := Option.bind_eq_some_iff.mp H
                      obtain ⟨t188, A260, H⟩ := H
                      replace H : (some t188) = some r := H
                      have A26 := Aside0.mk A260
                      clear A260
                      obtain rfl := Option.some.inj H
                      go_wp2_with (first | (go_at_call 24; (with_reducible refine (columbariumlaw1_known.calls kj4  t188 _ A26.out).mono ?_); rintro e w27 ⟨rfl, hb⟩; have n0_ := Aside0.mk (below_step (by repeat (first | (with_reducible first | exact HB.out | apply below_alloc | apply pw_below_drewN | apply below_drew1) | exact HB.out)) hb); clear HB; have HB := n0_; clear n0_; (try clear hb); (try clear hb2); (try clear hk); (try clear hi)))
                      go_ret
                      exact ⟨by first | rfl | (simp [errW_none, errW_some] <;> rfl) | (simp [*, errW_none, errW_some] <;> rfl), by repeat (first | (with_reducible first | exact HB.out | apply below_alloc | apply pw_below_drewN | apply below_drew1) | exact HB.out)⟩
                    · rw [if_neg c25] at H
                      have c25b0 : ((wrap64 (IntKind.u64.wrap (Int.tdiv t184 2))) == x7_4) = false := beq_eq_false_iff_ne.mpr c25
                      have c25b1 : ((wrap64 (IntKind.u64.wrap (Int.tdiv t184 2))) != x7_4) = true := bne_iff_ne.mpr c25
                      exact absurd ((Option.some.inj H).trans hr_.out) (by decide)
                  · rw [if_neg c24] at H
                    have c24b0 : (((Int.tmod t184 2) == 1) == (decide (a0 < 0))) = false := by simpa using c24
                    (try (have c24b1 : decide (((Int.tmod t184 2) == 1) = (decide (a0 < 0))) = false := by simpa using c24))
                    (try (have c24b2 : (((Int.tmod t184 2) == 1) == (decide (a0 < 0))) = false := by simpa using c24))
                    (try (have c24b3 : ¬ (((Int.tmod t184 2) == 1) = (decide (a0 < 0))) := by simpa using c24))
                    clear c24
                    exact absurd ((Option.some.inj H).trans hr_.out) (by decide)
                · rw [if_neg c23] at H
                  have c23b0 : ((IntKind.u64.wrap (Int.tdiv t184 2)) == (IntKind.u64.wrap (Int.tdiv t185 2))) = false := beq_eq_false_iff_ne.mpr c23
                  have c23b1 : ((IntKind.u64.wrap (Int.tdiv t184 2)) != (IntKind.u64.wrap (Int.tdiv t185 2))) = true := bne_iff_ne.mpr c23
                  exact absurd ((Option.some.inj H).trans hr_.out) (by decide)
              · rw [if_neg c22] at H
                have c22b0 : (x7_4 == (wrap64 (-(wrap64 (a1 + 1))))) = false := beq_eq_false_iff_ne.mpr c22
                have c22b1 : (x7_4 != (wrap64 (-(wrap64 (a1 + 1))))) = true := bne_iff_ne.mpr c22
                by_cases c28 : (((Int.tmod t184 2) == 1) == (decide (a0 < 0))) = true
                · rw [if_pos c28] at H
                  have c28b0 : (((Int.tmod t184 2) == 1) == (decide (a0 < 0))) = true := c28
                  (try (have c28b1 : decide (((Int.tmod t184 2) == 1) = (decide (a0 < 0))) = true := by simpa using c28))
                  (try (have c28b2 : (((Int.tmod t184 2) == 1) == (decide (a0 < 0))) = true := by simpa using c28))
                  clear c28
                  by_cases c29 : (wrap64 (IntKind.u64.wrap (Int.tdiv t184 2))) = x7_4
                  · rw [if_pos c29] at H
                    have c29b0 : ((wrap64 (IntKind.u64.wrap (Int.tdiv t184 2))) == x7_4) = true := beq_iff_eq.mpr c29
                    have c29b1 : ((wrap64 (IntKind.u64.wrap (Int.tdiv t184 2))) != x7_4) = false := bne_eq_false_iff_eq.mpr c29
                    clear c29
                    replace H := Option.bind_eq_some_iff.mp H
                    obtain ⟨t189, A300, H⟩ := H
                    replace H : (some t189) = some r := H
                    have A30 := Aside0.mk A300
                    clear A300
                    obtain rfl := Option.some.inj H
                    go_wp2_with (first | (go_at_call 24; (with_reducible refine (columbariumlaw1_known.calls kj4  t189 _ A30.out).mono ?_); rintro e w31 ⟨rfl, hb⟩; have n0_ := Aside0.mk (below_step (by repeat (first | (with_reducible first | exact HB.out | apply below_alloc | apply pw_below_drewN | apply below_drew1) | exact HB.out)) hb); clear HB; have HB := n0_; clear n0_; (try clear hb); (try clear hb2); (try clear hk); (try clear hi)))
                    go_ret
                    exact ⟨by first | rfl | (simp [errW_none, errW_some] <;> rfl) | (simp [*, errW_none, errW_some] <;> rfl), by repeat (first | (with_reducible first | exact HB.out | apply below_alloc | apply pw_below_drewN | apply below_drew1) | exact HB.out)⟩
                  · rw [if_neg c29] at H
                    have c29b0 : ((wrap64 (IntKind.u64.wrap (Int.tdiv t184 2))) == x7_4) = false := beq_eq_false_iff_ne.mpr c29
                    have c29b1 : ((wrap64 (IntKind.u64.wrap (Int.tdiv t184 2))) != x7_4) = true := bne_iff_ne.mpr c29
                    exact absurd ((Option.some.inj H).trans hr_.out) (by decide)
                · rw [if_neg c28] at H
                  have c28b0 : (((Int.tmod t184 2) == 1) == (decide (a0 < 0))) = false := by simpa using c28
                  (try (have c28b1 : decide (((Int.tmod t184 2) == 1) = (decide (a0 < 0))) = false := by simpa using c28))
                  (try (have c28b2 : (((Int.tmod t184 2) == 1) == (decide (a0 < 0))) = false := by simpa using c28))
                  (try (have c28b3 : ¬ (((Int.tmod t184 2) == 1) = (decide (a0 < 0))) := by simpa using c28))
                  clear c28
                  exact absurd ((Option.some.inj H).trans hr_.out) (by decide)
        · rw [if_neg c8] at H
          have c8b0 : decide (x7_4 < (wrap64 (-(wrap64 (a1 + 1))))) = false := decide_eq_false c8
          clear c8
          by_cases c32 : x7_4 > (wrap64 (-(wrap64 (a1 + 1))))
          · rw [if_pos c32] at H
            have c32b0 : decide ((wrap64 (-(wrap64 (a1 + 1)))) < x7_4) = true := decide_eq_true c32
            clear c32
            by_cases c33 : t184 ≤ t185
            · rw [if_pos c33] at H
              have c33b0 : decide (t184 ≤ t185) = true := decide_eq_true c33
              clear c33
              exact absurd ((Option.some.inj H).trans hr_.out) (by decide)
            · rw [if_neg c33] at H
              have c33b0 : decide (t184 ≤ t185) = false := decide_eq_false c33
              clear c33
              by_cases c34 : x7_4 = (wrap64 (-(wrap64 (a1 + 1))))
              · rw [if_pos c34] at H
                have c34b0 : (x7_4 == (wrap64 (-(wrap64 (a1 + 1))))) = true := beq_iff_eq.mpr c34
                have c34b1 : (x7_4 != (wrap64 (-(wrap64 (a1 + 1))))) = false := bne_eq_false_iff_eq.mpr c34
                clear c34
                by_cases c35 : (IntKind.u64.wrap (Int.tdiv t184 2)) = (IntKind.u64.wrap (Int.tdiv t185 2))
                · rw [if_pos c35] at H
                  have c35b0 : ((IntKind.u64.wrap (Int.tdiv t184 2)) == (IntKind.u64.wrap (Int.tdiv t185 2))) = true := beq_iff_eq.mpr c35
                  have c35b1 : ((IntKind.u64.wrap (Int.tdiv t184 2)) != (IntKind.u64.wrap (Int.tdiv t185 2))) = false := bne_eq_false_iff_eq.mpr c35
                  clear c35
                  by_cases c36 : (((Int.tmod t184 2) == 1) == (decide (a0 < 0))) = true
                  · rw [if_pos c36] at H
                    have c36b0 : (((Int.tmod t184 2) == 1) == (decide (a0 < 0))) = true := c36
                    (try (have c36b1 : decide (((Int.tmod t184 2) == 1) = (decide (a0 < 0))) = true := by simpa using c36))
                    (try (have c36b2 : (((Int.tmod t184 2) == 1) == (decide (a0 < 0))) = true := by simpa using c36))
                    clear c36
                    by_cases c37 : (wrap64 (IntKind.u64.wrap (Int.tdiv t184 2))) = x7_4
                    · rw [if_pos c37] at H
                      have c37b0 : ((wrap64 (IntKind.u64.wrap (Int.tdiv t184 2))) == x7_4) = true := beq_iff_eq.mpr c37
                      have c37b1 : ((wrap64 (IntKind.u64.wrap (Int.tdiv t184 2))) != x7_4) = false := bne_eq_false_iff_eq.mpr c37
                      clear c37
                      replace H := Option.bind_eq_some_iff.mp H
                      obtain ⟨t190, A380, H⟩ := H
                      replace H : (some t190) = some r := H
                      have A38 := Aside0.mk A380
                      clear A380
                      obtain rfl := Option.some.inj H
                      go_wp2_with (first | (go_at_call 24; (with_reducible refine (columbariumlaw1_known.calls kj4  t190 _ A38.out).mono ?_); rintro e w39 ⟨rfl, hb⟩; have n0_ := Aside0.mk (below_step (by repeat (first | (with_reducible first | exact HB.out | apply below_alloc | apply pw_below_drewN | apply below_drew1) | exact HB.out)) hb); clear HB; have HB := n0_; clear n0_; (try clear hb); (try clear hb2); (try clear hk); (try clear hi)))
                      go_ret
                      exact ⟨by first | rfl | (simp [errW_none, errW_some] <;> rfl) | (simp [*, errW_none, errW_some] <;> rfl), by repeat (first | (with_reducible first | exact HB.out | apply below_alloc | apply pw_below_drewN | apply below_drew1) | exact HB.out)⟩
                    · rw [if_neg c37] at H
                      have c37b0 : ((wrap64 (IntKind.u64.wrap (Int.tdiv t184 2))) == x7_4) = false := beq_eq_false_iff_ne.mpr c37
                      have c37b1 : ((wrap64 (IntKind.u64.wrap (Int.tdiv t184 2))) != x7_4) = true := bne_iff_ne.mpr c37
                      exact absurd ((Option.some.inj H).trans hr_.out) (by decide)
                  · rw [if_neg c36] at H
                    have c36b0 : (((Int.tmod t184 2) == 1) == (decide (a0 < 0))) = false := by simpa using c36
                    (try (have c36b1 : decide (((Int.tmod t184 2) == 1) = (decide (a0 < 0))) = false := by simpa using c36))
                    (try (have c36b2 : (((Int.tmod t184 2) == 1) == (decide (a0 < 0))) = false := by simpa using c36))
                    (try (have c36b3 : ¬ (((Int.tmod t184 2) == 1) = (decide (a0 < 0))) := by simpa using c36))
                    clear c36
                    exact absurd ((Option.some.inj H).trans hr_.out) (by decide)
                · rw [if_neg c35] at H
                  have c35b0 : ((IntKind.u64.wrap (Int.tdiv t184 2)) == (IntKind.u64.wrap (Int.tdiv t185 2))) = false := beq_eq_false_iff_ne.mpr c35
                  have c35b1 : ((IntKind.u64.wrap (Int.tdiv t184 2)) != (IntKind.u64.wrap (Int.tdiv t185 2))) = true := bne_iff_ne.mpr c35
                  exact absurd ((Option.some.inj H).trans hr_.out) (by decide)
              · rw [if_neg c34] at H
                have c34b0 : (x7_4 == (wrap64 (-(wrap64 (a1 + 1))))) = false := beq_eq_false_iff_ne.mpr c34
                have c34b1 : (x7_4 != (wrap64 (-(wrap64 (a1 + 1))))) = true := bne_iff_ne.mpr c34
                by_cases c40 : (((Int.tmod t184 2) == 1) == (decide (a0 < 0))) = true
                · rw [if_pos c40] at H
                  have c40b0 : (((Int.tmod t184 2) == 1) == (decide (a0 < 0))) = true := c40
                  (try (have c40b1 : decide (((Int.tmod t184 2) == 1) = (decide (a0 < 0))) = true := by simpa using c40))
                  (try (have c40b2 : (((Int.tmod t184 2) == 1) == (decide (a0 < 0))) = true := by simpa using c40))
                  clear c40
                  by_cases c41 : (wrap64 (IntKind.u64.wrap (Int.tdiv t184 2))) = x7_4
                  · rw [if_pos c41] at H
                    have c41b0 : ((wrap64 (IntKind.u64.wrap (Int.tdiv t184 2))) == x7_4) = true := beq_iff_eq.mpr c41
                    have c41b1 : ((wrap64 (IntKind.u64.wrap (Int.tdiv t184 2))) != x7_4) = false := bne_eq_false_iff_eq.mpr c41
                    clear c41
                    replace H := Option.bind_eq_some_iff.mp H
                    obtain ⟨t191, A420, H⟩ := H
                    replace H : (some t191) = some r := H
                    have A42 := Aside0.mk A420
                    clear A420
                    obtain rfl := Option.some.inj H
                    go_wp2_with (first | (go_at_call 24; (with_reducible refine (columbariumlaw1_known.calls kj4  t191 _ A42.out).mono ?_); rintro e w43 ⟨rfl, hb⟩; have n0_ := Aside0.mk (below_step (by repeat (first | (with_reducible first | exact HB.out | apply below_alloc | apply pw_below_drewN | apply below_drew1) | exact HB.out)) hb); clear HB; have HB := n0_; clear n0_; (try clear hb); (try clear hb2); (try clear hk); (try clear hi)))
                    go_ret
                    exact ⟨by first | rfl | (simp [errW_none, errW_some] <;> rfl) | (simp [*, errW_none, errW_some] <;> rfl), by repeat (first | (with_reducible first | exact HB.out | apply below_alloc | apply pw_below_drewN | apply below_drew1) | exact HB.out)⟩
                  · rw [if_neg c41] at H
                    have c41b0 : ((wrap64 (IntKind.u64.wrap (Int.tdiv t184 2))) == x7_4) = false := beq_eq_false_iff_ne.mpr c41
                    have c41b1 : ((wrap64 (IntKind.u64.wrap (Int.tdiv t184 2))) != x7_4) = true := bne_iff_ne.mpr c41
                    exact absurd ((Option.some.inj H).trans hr_.out) (by decide)
                · rw [if_neg c40] at H
                  have c40b0 : (((Int.tmod t184 2) == 1) == (decide (a0 < 0))) = false := by simpa using c40
                  (try (have c40b1 : decide (((Int.tmod t184 2) == 1) = (decide (a0 < 0))) = false := by simpa using c40))
                  (try (have c40b2 : (((Int.tmod t184 2) == 1) == (decide (a0 < 0))) = false := by simpa using c40))
                  (try (have c40b3 : ¬ (((Int.tmod t184 2) == 1) = (decide (a0 < 0))) := by simpa using c40))
                  clear c40
                  exact absurd ((Option.some.inj H).trans hr_.out) (by decide)
          · rw [if_neg c32] at H
            have c32b0 : decide ((wrap64 (-(wrap64 (a1 + 1)))) < x7_4) = false := decide_eq_false c32
            clear c32
            by_cases c44 : x7_4 = (wrap64 (-(wrap64 (a1 + 1))))
            · rw [if_pos c44] at H
              have c44b0 : (x7_4 == (wrap64 (-(wrap64 (a1 + 1))))) = true := beq_iff_eq.mpr c44
              have c44b1 : (x7_4 != (wrap64 (-(wrap64 (a1 + 1))))) = false := bne_eq_false_iff_eq.mpr c44
              clear c44
              by_cases c45 : (IntKind.u64.wrap (Int.tdiv t184 2)) = (IntKind.u64.wrap (Int.tdiv t185 2))
              · rw [if_pos c45] at H
                have c45b0 : ((IntKind.u64.wrap (Int.tdiv t184 2)) == (IntKind.u64.wrap (Int.tdiv t185 2))) = true := beq_iff_eq.mpr c45
                have c45b1 : ((IntKind.u64.wrap (Int.tdiv t184 2)) != (IntKind.u64.wrap (Int.tdiv t185 2))) = false := bne_eq_false_iff_eq.mpr c45
                clear c45
                by_cases c46 : (((Int.tmod t184 2) == 1) == (decide (a0 < 0))) = true
                · rw [if_pos c46] at H
                  have c46b0 : (((Int.tmod t184 2) == 1) == (decide (a0 < 0))) = true := c46
                  (try (have c46b1 : decide (((Int.tmod t184 2) == 1) = (decide (a0 < 0))) = true := by simpa using c46))
                  (try (have c46b2 : (((Int.tmod t184 2) == 1) == (decide (a0 < 0))) = true := by simpa using c46))
                  clear c46
                  by_cases c47 : (wrap64 (IntKind.u64.wrap (Int.tdiv t184 2))) = x7_4
                  · rw [if_pos c47] at H
                    have c47b0 : ((wrap64 (IntKind.u64.wrap (Int.tdiv t184 2))) == x7_4) = true := beq_iff_eq.mpr c47
                    have c47b1 : ((wrap64 (IntKind.u64.wrap (Int.tdiv t184 2))) != x7_4) = false := bne_eq_false_iff_eq.mpr c47
                    clear c47
                    replace H := Option.bind_eq_some_iff.mp H
                    obtain ⟨t192, A480, H⟩ := H
                    replace H : (some t192) = some r := H
                    have A48 := Aside0.mk A480
                    clear A480
                    obtain rfl := Option.some.inj H
                    go_wp2_with (first | (go_at_call 24; (with_reducible refine (columbariumlaw1_known.calls kj4  t192 _ A48.out).mono ?_); rintro e w49 ⟨rfl, hb⟩; have n0_ := Aside0.mk (below_step (by repeat (first | (with_reducible first | exact HB.out | apply below_alloc | apply pw_below_drewN | apply below_drew1) | exact HB.out)) hb); clear HB; have HB := n0_; clear n0_; (try clear hb); (try clear hb2); (try clear hk); (try clear hi)))
                    go_ret
                    exact ⟨by first | rfl | (simp [errW_none, errW_some] <;> rfl) | (simp [*, errW_none, errW_some] <;> rfl), by repeat (first | (with_reducible first | exact HB.out | apply below_alloc | apply pw_below_drewN | apply below_drew1) | exact HB.out)⟩
                  · rw [if_neg c47] at H
                    have c47b0 : ((wrap64 (IntKind.u64.wrap (Int.tdiv t184 2))) == x7_4) = false := beq_eq_false_iff_ne.mpr c47
                    have c47b1 : ((wrap64 (IntKind.u64.wrap (Int.tdiv t184 2))) != x7_4) = true := bne_iff_ne.mpr c47
                    exact absurd ((Option.some.inj H).trans hr_.out) (by decide)
                · rw [if_neg c46] at H
                  have c46b0 : (((Int.tmod t184 2) == 1) == (decide (a0 < 0))) = false := by simpa using c46
                  (try (have c46b1 : decide (((Int.tmod t184 2) == 1) = (decide (a0 < 0))) = false := by simpa using c46))
                  (try (have c46b2 : (((Int.tmod t184 2) == 1) == (decide (a0 < 0))) = false := by simpa using c46))
                  (try (have c46b3 : ¬ (((Int.tmod t184 2) == 1) = (decide (a0 < 0))) := by simpa using c46))
                  clear c46
                  exact absurd ((Option.some.inj H).trans hr_.out) (by decide)
              · rw [if_neg c45] at H
                have c45b0 : ((IntKind.u64.wrap (Int.tdiv t184 2)) == (IntKind.u64.wrap (Int.tdiv t185 2))) = false := beq_eq_false_iff_ne.mpr c45
                have c45b1 : ((IntKind.u64.wrap (Int.tdiv t184 2)) != (IntKind.u64.wrap (Int.tdiv t185 2))) = true := bne_iff_ne.mpr c45
                exact absurd ((Option.some.inj H).trans hr_.out) (by decide)
            · rw [if_neg c44] at H
              have c44b0 : (x7_4 == (wrap64 (-(wrap64 (a1 + 1))))) = false := beq_eq_false_iff_ne.mpr c44
              have c44b1 : (x7_4 != (wrap64 (-(wrap64 (a1 + 1))))) = true := bne_iff_ne.mpr c44
              by_cases c50 : (((Int.tmod t184 2) == 1) == (decide (a0 < 0))) = true
              · rw [if_pos c50] at H
                have c50b0 : (((Int.tmod t184 2) == 1) == (decide (a0 < 0))) = true := c50
                (try (have c50b1 : decide (((Int.tmod t184 2) == 1) = (decide (a0 < 0))) = true := by simpa using c50))
                (try (have c50b2 : (((Int.tmod t184 2) == 1) == (decide (a0 < 0))) = true := by simpa using c50))
                clear c50
                by_cases c51 : (wrap64 (IntKind.u64.wrap (Int.tdiv t184 2))) = x7_4
                · rw [if_pos c51] at H
                  have c51b0 : ((wrap64 (IntKind.u64.wrap (Int.tdiv t184 2))) == x7_4) = true := beq_iff_eq.mpr c51
                  have c51b1 : ((wrap64 (IntKind.u64.wrap (Int.tdiv t184 2))) != x7_4) = false := bne_eq_false_iff_eq.mpr c51
                  clear c51
                  replace H := Option.bind_eq_some_iff.mp H
                  obtain ⟨t193, A520, H⟩ := H
                  replace H : (some t193) = some r := H
                  have A52 := Aside0.mk A520
                  clear A520
                  obtain rfl := Option.some.inj H
                  go_wp2_with (first | (go_at_call 24; (with_reducible refine (columbariumlaw1_known.calls kj4  t193 _ A52.out).mono ?_); rintro e w53 ⟨rfl, hb⟩; have n0_ := Aside0.mk (below_step (by repeat (first | (with_reducible first | exact HB.out | apply below_alloc | apply pw_below_drewN | apply below_drew1) | exact HB.out)) hb); clear HB; have HB := n0_; clear n0_; (try clear hb); (try clear hb2); (try clear hk); (try clear hi)))
                  go_ret
                  exact ⟨by first | rfl | (simp [errW_none, errW_some] <;> rfl) | (simp [*, errW_none, errW_some] <;> rfl), by repeat (first | (with_reducible first | exact HB.out | apply below_alloc | apply pw_below_drewN | apply below_drew1) | exact HB.out)⟩
                · rw [if_neg c51] at H
                  have c51b0 : ((wrap64 (IntKind.u64.wrap (Int.tdiv t184 2))) == x7_4) = false := beq_eq_false_iff_ne.mpr c51
                  have c51b1 : ((wrap64 (IntKind.u64.wrap (Int.tdiv t184 2))) != x7_4) = true := bne_iff_ne.mpr c51
                  exact absurd ((Option.some.inj H).trans hr_.out) (by decide)
              · rw [if_neg c50] at H
                have c50b0 : (((Int.tmod t184 2) == 1) == (decide (a0 < 0))) = false := by simpa using c50
                (try (have c50b1 : decide (((Int.tmod t184 2) == 1) = (decide (a0 < 0))) = false := by simpa using c50))
                (try (have c50b2 : (((Int.tmod t184 2) == 1) == (decide (a0 < 0))) = false := by simpa using c50))
                (try (have c50b3 : ¬ (((Int.tmod t184 2) == 1) = (decide (a0 < 0))) := by simpa using c50))
                clear c50
                exact absurd ((Option.some.inj H).trans hr_.out) (by decide)
      · rw [if_neg c7] at H
        have c7b0 : decide (a1 < 0) = false := decide_eq_false c7
        clear c7
        by_cases c54 : x7_4 < a1
        · rw [if_pos c54] at H
          have c54b0 : decide (x7_4 < a1) = true := decide_eq_true c54
          clear c54
          by_cases c55 : t184 ≥ t185
          · rw [if_pos c55] at H
            have c55b0 : decide (t185 ≤ t184) = true := decide_eq_true c55
            clear c55
            exact absurd ((Option.some.inj H).trans hr_.out) (by decide)
          · rw [if_neg c55] at H
            have c55b0 : decide (t185 ≤ t184) = false := decide_eq_false c55
            clear c55
            by_cases c56 : x7_4 > a1
            · rw [if_pos c56] at H
              have c56b0 : decide (a1 < x7_4) = true := decide_eq_true c56
              clear c56
              by_cases c57 : t184 ≤ t185
              · rw [if_pos c57] at H
                have c57b0 : decide (t184 ≤ t185) = true := decide_eq_true c57
                clear c57
                exact absurd ((Option.some.inj H).trans hr_.out) (by decide)
              · rw [if_neg c57] at H
                have c57b0 : decide (t184 ≤ t185) = false := decide_eq_false c57
                clear c57
                by_cases c58 : x7_4 = a1
                · rw [if_pos c58] at H
                  have c58b0 : (x7_4 == a1) = true := beq_iff_eq.mpr c58
                  have c58b1 : (x7_4 != a1) = false := bne_eq_false_iff_eq.mpr c58
                  clear c58
                  by_cases c59 : (IntKind.u64.wrap (Int.tdiv t184 2)) = (IntKind.u64.wrap (Int.tdiv t185 2))
                  · rw [if_pos c59] at H
                    have c59b0 : ((IntKind.u64.wrap (Int.tdiv t184 2)) == (IntKind.u64.wrap (Int.tdiv t185 2))) = true := beq_iff_eq.mpr c59
                    have c59b1 : ((IntKind.u64.wrap (Int.tdiv t184 2)) != (IntKind.u64.wrap (Int.tdiv t185 2))) = false := bne_eq_false_iff_eq.mpr c59
                    clear c59
                    by_cases c60 : (((Int.tmod t184 2) == 1) == (decide (a0 < 0))) = true
                    · rw [if_pos c60] at H
                      have c60b0 : (((Int.tmod t184 2) == 1) == (decide (a0 < 0))) = true := c60
                      (try (have c60b1 : decide (((Int.tmod t184 2) == 1) = (decide (a0 < 0))) = true := by simpa using c60))
                      (try (have c60b2 : (((Int.tmod t184 2) == 1) == (decide (a0 < 0))) = true := by simpa using c60))
                      clear c60
                      by_cases c61 : (wrap64 (IntKind.u64.wrap (Int.tdiv t184 2))) = x7_4
                      · rw [if_pos c61] at H
                        have c61b0 : ((wrap64 (IntKind.u64.wrap (Int.tdiv t184 2))) == x7_4) = true := beq_iff_eq.mpr c61
                        have c61b1 : ((wrap64 (IntKind.u64.wrap (Int.tdiv t184 2))) != x7_4) = false := bne_eq_false_iff_eq.mpr c61
                        clear c61
                        replace H := Option.bind_eq_some_iff.mp H
                        obtain ⟨t194, A620, H⟩ := H
                        replace H : (some t194) = some r := H
                        have A62 := Aside0.mk A620
                        clear A620
                        obtain rfl := Option.some.inj H
                        go_wp2_with (first | (go_at_call 24; (with_reducible refine (columbariumlaw1_known.calls kj4  t194 _ A62.out).mono ?_); rintro e w63 ⟨rfl, hb⟩; have n0_ := Aside0.mk (below_step (by repeat (first | (with_reducible first | exact HB.out | apply below_alloc | apply pw_below_drewN | apply below_drew1) | exact HB.out)) hb); clear HB; have HB := n0_; clear n0_; (try clear hb); (try clear hb2); (try clear hk); (try clear hi)))
                        go_ret
                        exact ⟨by first | rfl | (simp [errW_none, errW_some] <;> rfl) | (simp [*, errW_none, errW_some] <;> rfl), by repeat (first | (with_reducible first | exact HB.out | apply below_alloc | apply pw_below_drewN | apply below_drew1) | exact HB.out)⟩
                      · rw [if_neg c61] at H
                        have c61b0 : ((wrap64 (IntKind.u64.wrap (Int.tdiv t184 2))) == x7_4) = false := beq_eq_false_iff_ne.mpr c61
                        have c61b1 : ((wrap64 (IntKind.u64.wrap (Int.tdiv t184 2))) != x7_4) = true := bne_iff_ne.mpr c61
                        exact absurd ((Option.some.inj H).trans hr_.out) (by decide)
                    · rw [if_neg c60] at H
                      have c60b0 : (((Int.tmod t184 2) == 1) == (decide (a0 < 0))) = false := by simpa using c60
                      (try (have c60b1 : decide (((Int.tmod t184 2) == 1) = (decide (a0 < 0))) = false := by simpa using c60))
                      (try (have c60b2 : (((Int.tmod t184 2) == 1) == (decide (a0 < 0))) = false := by simpa using c60))
                      (try (have c60b3 : ¬ (((Int.tmod t184 2) == 1) = (decide (a0 < 0))) := by simpa using c60))
                      clear c60
                      exact absurd ((Option.some.inj H).trans hr_.out) (by decide)
                  · rw [if_neg c59] at H
                    have c59b0 : ((IntKind.u64.wrap (Int.tdiv t184 2)) == (IntKind.u64.wrap (Int.tdiv t185 2))) = false := beq_eq_false_iff_ne.mpr c59
                    have c59b1 : ((IntKind.u64.wrap (Int.tdiv t184 2)) != (IntKind.u64.wrap (Int.tdiv t185 2))) = true := bne_iff_ne.mpr c59
                    exact absurd ((Option.some.inj H).trans hr_.out) (by decide)
                · rw [if_neg c58] at H
                  have c58b0 : (x7_4 == a1) = false := beq_eq_false_iff_ne.mpr c58
                  have c58b1 : (x7_4 != a1) = true := bne_iff_ne.mpr c58
                  by_cases c64 : (((Int.tmod t184 2) == 1) == (decide (a0 < 0))) = true
                  · rw [if_pos c64] at H
                    have c64b0 : (((Int.tmod t184 2) == 1) == (decide (a0 < 0))) = true := c64
                    (try (have c64b1 : decide (((Int.tmod t184 2) == 1) = (decide (a0 < 0))) = true := by simpa using c64))
                    (try (have c64b2 : (((Int.tmod t184 2) == 1) == (decide (a0 < 0))) = true := by simpa using c64))
                    clear c64
                    by_cases c65 : (wrap64 (IntKind.u64.wrap (Int.tdiv t184 2))) = x7_4
                    · rw [if_pos c65] at H
                      have c65b0 : ((wrap64 (IntKind.u64.wrap (Int.tdiv t184 2))) == x7_4) = true := beq_iff_eq.mpr c65
                      have c65b1 : ((wrap64 (IntKind.u64.wrap (Int.tdiv t184 2))) != x7_4) = false := bne_eq_false_iff_eq.mpr c65
                      clear c65
                      replace H := Option.bind_eq_some_iff.mp H
                      obtain ⟨t195, A660, H⟩ := H
                      replace H : (some t195) = some r := H
                      have A66 := Aside0.mk A660
                      clear A660
                      obtain rfl := Option.some.inj H
                      go_wp2_with (first | (go_at_call 24; (with_reducible refine (columbariumlaw1_known.calls kj4  t195 _ A66.out).mono ?_); rintro e w67 ⟨rfl, hb⟩; have n0_ := Aside0.mk (below_step (by repeat (first | (with_reducible first | exact HB.out | apply below_alloc | apply pw_below_drewN | apply below_drew1) | exact HB.out)) hb); clear HB; have HB := n0_; clear n0_; (try clear hb); (try clear hb2); (try clear hk); (try clear hi)))
                      go_ret
                      exact ⟨by first | rfl | (simp [errW_none, errW_some] <;> rfl) | (simp [*, errW_none, errW_some] <;> rfl), by repeat (first | (with_reducible first | exact HB.out | apply below_alloc | apply pw_below_drewN | apply below_drew1) | exact HB.out)⟩
                    · rw [if_neg c65] at H
                      have c65b0 : ((wrap64 (IntKind.u64.wrap (Int.tdiv t184 2))) == x7_4) = false := beq_eq_false_iff_ne.mpr c65
                      have c65b1 : ((wrap64 (IntKind.u64.wrap (Int.tdiv t184 2))) != x7_4) = true := bne_iff_ne.mpr c65
                      exact absurd ((Option.some.inj H).trans hr_.out) (by decide)
                  · rw [if_neg c64] at H
                    have c64b0 : (((Int.tmod t184 2) == 1) == (decide (a0 < 0))) = false := by simpa using c64
                    (try (have c64b1 : decide (((Int.tmod t184 2) == 1) = (decide (a0 < 0))) = false := by simpa using c64))
                    (try (have c64b2 : (((Int.tmod t184 2) == 1) == (decide (a0 < 0))) = false := by simpa using c64))
                    (try (have c64b3 : ¬ (((Int.tmod t184 2) == 1) = (decide (a0 < 0))) := by simpa using c64))
                    clear c64
                    exact absurd ((Option.some.inj H).trans hr_.out) (by decide)
            · rw [if_neg c56] at H
              have c56b0 : decide (a1 < x7_4) = false := decide_eq_false c56
              clear c56
              by_cases c68 : x7_4 = a1
              · rw [if_pos c68] at H
                have c68b0 : (x7_4 == a1) = true := beq_iff_eq.mpr c68
                have c68b1 : (x7_4 != a1) = false := bne_eq_false_iff_eq.mpr c68
                clear c68
                by_cases c69 : (IntKind.u64.wrap (Int.tdiv t184 2)) = (IntKind.u64.wrap (Int.tdiv t185 2))
                · rw [if_pos c69] at H
                  have c69b0 : ((IntKind.u64.wrap (Int.tdiv t184 2)) == (IntKind.u64.wrap (Int.tdiv t185 2))) = true := beq_iff_eq.mpr c69
                  have c69b1 : ((IntKind.u64.wrap (Int.tdiv t184 2)) != (IntKind.u64.wrap (Int.tdiv t185 2))) = false := bne_eq_false_iff_eq.mpr c69
                  clear c69
                  by_cases c70 : (((Int.tmod t184 2) == 1) == (decide (a0 < 0))) = true
                  · rw [if_pos c70] at H
                    have c70b0 : (((Int.tmod t184 2) == 1) == (decide (a0 < 0))) = true := c70
                    (try (have c70b1 : decide (((Int.tmod t184 2) == 1) = (decide (a0 < 0))) = true := by simpa using c70))
                    (try (have c70b2 : (((Int.tmod t184 2) == 1) == (decide (a0 < 0))) = true := by simpa using c70))
                    clear c70
                    by_cases c71 : (wrap64 (IntKind.u64.wrap (Int.tdiv t184 2))) = x7_4
                    · rw [if_pos c71] at H
                      have c71b0 : ((wrap64 (IntKind.u64.wrap (Int.tdiv t184 2))) == x7_4) = true := beq_iff_eq.mpr c71
                      have c71b1 : ((wrap64 (IntKind.u64.wrap (Int.tdiv t184 2))) != x7_4) = false := bne_eq_false_iff_eq.mpr c71
                      clear c71
                      replace H := Option.bind_eq_some_iff.mp H
                      obtain ⟨t196, A720, H⟩ := H
                      replace H : (some t196) = some r := H
                      have A72 := Aside0.mk A720
                      clear A720
                      obtain rfl := Option.some.inj H
                      go_wp2_with (first | (go_at_call 24; (with_reducible refine (columbariumlaw1_known.calls kj4  t196 _ A72.out).mono ?_); rintro e w73 ⟨rfl, hb⟩; have n0_ := Aside0.mk (below_step (by repeat (first | (with_reducible first | exact HB.out | apply below_alloc | apply pw_below_drewN | apply below_drew1) | exact HB.out)) hb); clear HB; have HB := n0_; clear n0_; (try clear hb); (try clear hb2); (try clear hk); (try clear hi)))
                      go_ret
                      exact ⟨by first | rfl | (simp [errW_none, errW_some] <;> rfl) | (simp [*, errW_none, errW_some] <;> rfl), by repeat (first | (with_reducible first | exact HB.out | apply below_alloc | apply pw_below_drewN | apply below_drew1) | exact HB.out)⟩
                    · rw [if_neg c71] at H
                      have c71b0 : ((wrap64 (IntKind.u64.wrap (Int.tdiv t184 2))) == x7_4) = false := beq_eq_false_iff_ne.mpr c71
                      have c71b1 : ((wrap64 (IntKind.u64.wrap (Int.tdiv t184 2))) != x7_4) = true := bne_iff_ne.mpr c71
                      exact absurd ((Option.some.inj H).trans hr_.out) (by decide)
                  · rw [if_neg c70] at H
                    have c70b0 : (((Int.tmod t184 2) == 1) == (decide (a0 < 0))) = false := by simpa using c70
                    (try (have c70b1 : decide (((Int.tmod t184 2) == 1) = (decide (a0 < 0))) = false := by simpa using c70))
                    (try (have c70b2 : (((Int.tmod t184 2) == 1) == (decide (a0 < 0))) = false := by simpa using c70))
                    (try (have c70b3 : ¬ (((Int.tmod t184 2) == 1) = (decide (a0 < 0))) := by simpa using c70))
                    clear c70
                    exact absurd ((Option.some.inj H).trans hr_.out) (by decide)
                · rw [if_neg c69] at H
                  have c69b0 : ((IntKind.u64.wrap (Int.tdiv t184 2)) == (IntKind.u64.wrap (Int.tdiv t185 2))) = false := beq_eq_false_iff_ne.mpr c69
                  have c69b1 : ((IntKind.u64.wrap (Int.tdiv t184 2)) != (IntKind.u64.wrap (Int.tdiv t185 2))) = true := bne_iff_ne.mpr c69
                  exact absurd ((Option.some.inj H).trans hr_.out) (by decide)
              · rw [if_neg c68] at H
                have c68b0 : (x7_4 == a1) = false := beq_eq_false_iff_ne.mpr c68
                have c68b1 : (x7_4 != a1) = true := bne_iff_ne.mpr c68
                by_cases c74 : (((Int.tmod t184 2) == 1) == (decide (a0 < 0))) = true
                · rw [if_pos c74] at H
                  have c74b0 : (((Int.tmod t184 2) == 1) == (decide (a0 < 0))) = true := c74
                  (try (have c74b1 : decide (((Int.tmod t184 2) == 1) = (decide (a0 < 0))) = true := by simpa using c74))
                  (try (have c74b2 : (((Int.tmod t184 2) == 1) == (decide (a0 < 0))) = true := by simpa using c74))
                  clear c74
                  by_cases c75 : (wrap64 (IntKind.u64.wrap (Int.tdiv t184 2))) = x7_4
                  · rw [if_pos c75] at H
                    have c75b0 : ((wrap64 (IntKind.u64.wrap (Int.tdiv t184 2))) == x7_4) = true := beq_iff_eq.mpr c75
                    have c75b1 : ((wrap64 (IntKind.u64.wrap (Int.tdiv t184 2))) != x7_4) = false := bne_eq_false_iff_eq.mpr c75
                    clear c75
                    replace H := Option.bind_eq_some_iff.mp H
                    obtain ⟨t197, A760, H⟩ := H
                    replace H : (some t197) = some r := H
                    have A76 := Aside0.mk A760
                    clear A760
                    obtain rfl := Option.some.inj H
                    go_wp2_with (first | (go_at_call 24; (with_reducible refine (columbariumlaw1_known.calls kj4  t197 _ A76.out).mono ?_); rintro e w77 ⟨rfl, hb⟩; have n0_ := Aside0.mk (below_step (by repeat (first | (with_reducible first | exact HB.out | apply below_alloc | apply pw_below_drewN | apply below_drew1) | exact HB.out)) hb); clear HB; have HB := n0_; clear n0_; (try clear hb); (try clear hb2); (try clear hk); (try clear hi)))
                    go_ret
                    exact ⟨by first | rfl | (simp [errW_none, errW_some] <;> rfl) | (simp [*, errW_none, errW_some] <;> rfl), by repeat (first | (with_reducible first | exact HB.out | apply below_alloc | apply pw_below_drewN | apply below_drew1) | exact HB.out)⟩
                  · rw [if_neg c75] at H
                    have c75b0 : ((wrap64 (IntKind.u64.wrap (Int.tdiv t184 2))) == x7_4) = false := beq_eq_false_iff_ne.mpr c75
                    have c75b1 : ((wrap64 (IntKind.u64.wrap (Int.tdiv t184 2))) != x7_4) = true := bne_iff_ne.mpr c75
                    exact absurd ((Option.some.inj H).trans hr_.out) (by decide)
                · rw [if_neg c74] at H
                  have c74b0 : (((Int.tmod t184 2) == 1) == (decide (a0 < 0))) = false := by simpa using c74
                  (try (have c74b1 : decide (((Int.tmod t184 2) == 1) = (decide (a0 < 0))) = false := by simpa using c74))
                  (try (have c74b2 : (((Int.tmod t184 2) == 1) == (decide (a0 < 0))) = false := by simpa using c74))
                  (try (have c74b3 : ¬ (((Int.tmod t184 2) == 1) = (decide (a0 < 0))) := by simpa using c74))
                  clear c74
                  exact absurd ((Option.some.inj H).trans hr_.out) (by decide)
        · rw [if_neg c54] at H
          have c54b0 : decide (x7_4 < a1) = false := decide_eq_false c54
          clear c54
          by_cases c78 : x7_4 > a1
          · rw [if_pos c78] at H
            have c78b0 : decide (a1 < x7_4) = true := decide_eq_true c78
            clear c78
            by_cases c79 : t184 ≤ t185
            · rw [if_pos c79] at H
              have c79b0 : decide (t184 ≤ t185) = true := decide_eq_true c79
              clear c79
              exact absurd ((Option.some.inj H).trans hr_.out) (by decide)
            · rw [if_neg c79] at H
              have c79b0 : decide (t184 ≤ t185) = false := decide_eq_false c79
              clear c79
              by_cases c80 : x7_4 = a1
              · rw [if_pos c80] at H
                have c80b0 : (x7_4 == a1) = true := beq_iff_eq.mpr c80
                have c80b1 : (x7_4 != a1) = false := bne_eq_false_iff_eq.mpr c80
                clear c80
                by_cases c81 : (IntKind.u64.wrap (Int.tdiv t184 2)) = (IntKind.u64.wrap (Int.tdiv t185 2))
                · rw [if_pos c81] at H
                  have c81b0 : ((IntKind.u64.wrap (Int.tdiv t184 2)) == (IntKind.u64.wrap (Int.tdiv t185 2))) = true := beq_iff_eq.mpr c81
                  have c81b1 : ((IntKind.u64.wrap (Int.tdiv t184 2)) != (IntKind.u64.wrap (Int.tdiv t185 2))) = false := bne_eq_false_iff_eq.mpr c81
                  clear c81
                  by_cases c82 : (((Int.tmod t184 2) == 1) == (decide (a0 < 0))) = true
                  · rw [if_pos c82] at H
                    have c82b0 : (((Int.tmod t184 2) == 1) == (decide (a0 < 0))) = true := c82
                    (try (have c82b1 : decide (((Int.tmod t184 2) == 1) = (decide (a0 < 0))) = true := by simpa using c82))
                    (try (have c82b2 : (((Int.tmod t184 2) == 1) == (decide (a0 < 0))) = true := by simpa using c82))
                    clear c82
                    by_cases c83 : (wrap64 (IntKind.u64.wrap (Int.tdiv t184 2))) = x7_4
                    · rw [if_pos c83] at H
                      have c83b0 : ((wrap64 (IntKind.u64.wrap (Int.tdiv t184 2))) == x7_4) = true := beq_iff_eq.mpr c83
                      have c83b1 : ((wrap64 (IntKind.u64.wrap (Int.tdiv t184 2))) != x7_4) = false := bne_eq_false_iff_eq.mpr c83
                      clear c83
                      replace H := Option.bind_eq_some_iff.mp H
                      obtain ⟨t198, A840, H⟩ := H
                      replace H : (some t198) = some r := H
                      have A84 := Aside0.mk A840
                      clear A840
                      obtain rfl := Option.some.inj H
                      go_wp2_with (first | (go_at_call 24; (with_reducible refine (columbariumlaw1_known.calls kj4  t198 _ A84.out).mono ?_); rintro e w85 ⟨rfl, hb⟩; have n0_ := Aside0.mk (below_step (by repeat (first | (with_reducible first | exact HB.out | apply below_alloc | apply pw_below_drewN | apply below_drew1) | exact HB.out)) hb); clear HB; have HB := n0_; clear n0_; (try clear hb); (try clear hb2); (try clear hk); (try clear hi)))
                      go_ret
                      exact ⟨by first | rfl | (simp [errW_none, errW_some] <;> rfl) | (simp [*, errW_none, errW_some] <;> rfl), by repeat (first | (with_reducible first | exact HB.out | apply below_alloc | apply pw_below_drewN | apply below_drew1) | exact HB.out)⟩
                    · rw [if_neg c83] at H
                      have c83b0 : ((wrap64 (IntKind.u64.wrap (Int.tdiv t184 2))) == x7_4) = false := beq_eq_false_iff_ne.mpr c83
                      have c83b1 : ((wrap64 (IntKind.u64.wrap (Int.tdiv t184 2))) != x7_4) = true := bne_iff_ne.mpr c83
                      exact absurd ((Option.some.inj H).trans hr_.out) (by decide)
                  · rw [if_neg c82] at H
                    have c82b0 : (((Int.tmod t184 2) == 1) == (decide (a0 < 0))) = false := by simpa using c82
                    (try (have c82b1 : decide (((Int.tmod t184 2) == 1) = (decide (a0 < 0))) = false := by simpa using c82))
                    (try (have c82b2 : (((Int.tmod t184 2) == 1) == (decide (a0 < 0))) = false := by simpa using c82))
                    (try (have c82b3 : ¬ (((Int.tmod t184 2) == 1) = (decide (a0 < 0))) := by simpa using c82))
                    clear c82
                    exact absurd ((Option.some.inj H).trans hr_.out) (by decide)
                · rw [if_neg c81] at H
                  have c81b0 : ((IntKind.u64.wrap (Int.tdiv t184 2)) == (IntKind.u64.wrap (Int.tdiv t185 2))) = false := beq_eq_false_iff_ne.mpr c81
                  have c81b1 : ((IntKind.u64.wrap (Int.tdiv t184 2)) != (IntKind.u64.wrap (Int.tdiv t185 2))) = true := bne_iff_ne.mpr c81
                  exact absurd ((Option.some.inj H).trans hr_.out) (by decide)
              · rw [if_neg c80] at H
                have c80b0 : (x7_4 == a1) = false := beq_eq_false_iff_ne.mpr c80
                have c80b1 : (x7_4 != a1) = true := bne_iff_ne.mpr c80
                by_cases c86 : (((Int.tmod t184 2) == 1) == (decide (a0 < 0))) = true
                · rw [if_pos c86] at H
                  have c86b0 : (((Int.tmod t184 2) == 1) == (decide (a0 < 0))) = true := c86
                  (try (have c86b1 : decide (((Int.tmod t184 2) == 1) = (decide (a0 < 0))) = true := by simpa using c86))
                  (try (have c86b2 : (((Int.tmod t184 2) == 1) == (decide (a0 < 0))) = true := by simpa using c86))
                  clear c86
                  by_cases c87 : (wrap64 (IntKind.u64.wrap (Int.tdiv t184 2))) = x7_4
                  · rw [if_pos c87] at H
                    have c87b0 : ((wrap64 (IntKind.u64.wrap (Int.tdiv t184 2))) == x7_4) = true := beq_iff_eq.mpr c87
                    have c87b1 : ((wrap64 (IntKind.u64.wrap (Int.tdiv t184 2))) != x7_4) = false := bne_eq_false_iff_eq.mpr c87
                    clear c87
                    replace H := Option.bind_eq_some_iff.mp H
                    obtain ⟨t199, A880, H⟩ := H
                    replace H : (some t199) = some r := H
                    have A88 := Aside0.mk A880
                    clear A880
                    obtain rfl := Option.some.inj H
                    go_wp2_with (first | (go_at_call 24; (with_reducible refine (columbariumlaw1_known.calls kj4  t199 _ A88.out).mono ?_); rintro e w89 ⟨rfl, hb⟩; have n0_ := Aside0.mk (below_step (by repeat (first | (with_reducible first | exact HB.out | apply below_alloc | apply pw_below_drewN | apply below_drew1) | exact HB.out)) hb); clear HB; have HB := n0_; clear n0_; (try clear hb); (try clear hb2); (try clear hk); (try clear hi)))
                    go_ret
                    exact ⟨by first | rfl | (simp [errW_none, errW_some] <;> rfl) | (simp [*, errW_none, errW_some] <;> rfl), by repeat (first | (with_reducible first | exact HB.out | apply below_alloc | apply pw_below_drewN | apply below_drew1) | exact HB.out)⟩
                  · rw [if_neg c87] at H
                    have c87b0 : ((wrap64 (IntKind.u64.wrap (Int.tdiv t184 2))) == x7_4) = false := beq_eq_false_iff_ne.mpr c87
                    have c87b1 : ((wrap64 (IntKind.u64.wrap (Int.tdiv t184 2))) != x7_4) = true := bne_iff_ne.mpr c87
                    exact absurd ((Option.some.inj H).trans hr_.out) (by decide)
                · rw [if_neg c86] at H
                  have c86b0 : (((Int.tmod t184 2) == 1) == (decide (a0 < 0))) = false := by simpa using c86
                  (try (have c86b1 : decide (((Int.tmod t184 2) == 1) = (decide (a0 < 0))) = false := by simpa using c86))
                  (try (have c86b2 : (((Int.tmod t184 2) == 1) == (decide (a0 < 0))) = false := by simpa using c86))
                  (try (have c86b3 : ¬ (((Int.tmod t184 2) == 1) = (decide (a0 < 0))) := by simpa using c86))
                  clear c86
                  exact absurd ((Option.some.inj H).trans hr_.out) (by decide)
          · rw [if_neg c78] at H
            have c78b0 : decide (a1 < x7_4) = false := decide_eq_false c78
            clear c78
            by_cases c90 : x7_4 = a1
            · rw [if_pos c90] at H
              have c90b0 : (x7_4 == a1) = true := beq_iff_eq.mpr c90
              have c90b1 : (x7_4 != a1) = false := bne_eq_false_iff_eq.mpr c90
              clear c90
              by_cases c91 : (IntKind.u64.wrap (Int.tdiv t184 2)) = (IntKind.u64.wrap (Int.tdiv t185 2))
              · rw [if_pos c91] at H
                have c91b0 : ((IntKind.u64.wrap (Int.tdiv t184 2)) == (IntKind.u64.wrap (Int.tdiv t185 2))) = true := beq_iff_eq.mpr c91
                have c91b1 : ((IntKind.u64.wrap (Int.tdiv t184 2)) != (IntKind.u64.wrap (Int.tdiv t185 2))) = false := bne_eq_false_iff_eq.mpr c91
                clear c91
                by_cases c92 : (((Int.tmod t184 2) == 1) == (decide (a0 < 0))) = true
                · rw [if_pos c92] at H
                  have c92b0 : (((Int.tmod t184 2) == 1) == (decide (a0 < 0))) = true := c92
                  (try (have c92b1 : decide (((Int.tmod t184 2) == 1) = (decide (a0 < 0))) = true := by simpa using c92))
                  (try (have c92b2 : (((Int.tmod t184 2) == 1) == (decide (a0 < 0))) = true := by simpa using c92))
                  clear c92
                  by_cases c93 : (wrap64 (IntKind.u64.wrap (Int.tdiv t184 2))) = x7_4
                  · rw [if_pos c93] at H
                    have c93b0 : ((wrap64 (IntKind.u64.wrap (Int.tdiv t184 2))) == x7_4) = true := beq_iff_eq.mpr c93
                    have c93b1 : ((wrap64 (IntKind.u64.wrap (Int.tdiv t184 2))) != x7_4) = false := bne_eq_false_iff_eq.mpr c93
                    clear c93
                    replace H := Option.bind_eq_some_iff.mp H
                    obtain ⟨t200, A940, H⟩ := H
                    replace H : (some t200) = some r := H
                    have A94 := Aside0.mk A940
                    clear A940
                    obtain rfl := Option.some.inj H
                    go_wp2_with (first | (go_at_call 24; (with_reducible refine (columbariumlaw1_known.calls kj4  t200 _ A94.out).mono ?_); rintro e w95 ⟨rfl, hb⟩; have n0_ := Aside0.mk (below_step (by repeat (first | (with_reducible first | exact HB.out | apply below_alloc | apply pw_below_drewN | apply below_drew1) | exact HB.out)) hb); clear HB; have HB := n0_; clear n0_; (try clear hb); (try clear hb2); (try clear hk); (try clear hi)))
                    go_ret
                    exact ⟨by first | rfl | (simp [errW_none, errW_some] <;> rfl) | (simp [*, errW_none, errW_some] <;> rfl), by repeat (first | (with_reducible first | exact HB.out | apply below_alloc | apply pw_below_drewN | apply below_drew1) | exact HB.out)⟩
                  · rw [if_neg c93] at H
                    have c93b0 : ((wrap64 (IntKind.u64.wrap (Int.tdiv t184 2))) == x7_4) = false := beq_eq_false_iff_ne.mpr c93
                    have c93b1 : ((wrap64 (IntKind.u64.wrap (Int.tdiv t184 2))) != x7_4) = true := bne_iff_ne.mpr c93
                    exact absurd ((Option.some.inj H).trans hr_.out) (by decide)
                · rw [if_neg c92] at H
                  have c92b0 : (((Int.tmod t184 2) == 1) == (decide (a0 < 0))) = false := by simpa using c92
                  (try (have c92b1 : decide (((Int.tmod t184 2) == 1) = (decide (a0 < 0))) = false := by simpa using c92))
                  (try (have c92b2 : (((Int.tmod t184 2) == 1) == (decide (a0 < 0))) = false := by simpa using c92))
                  (try (have c92b3 : ¬ (((Int.tmod t184 2) == 1) = (decide (a0 < 0))) := by simpa using c92))
                  clear c92
                  exact absurd ((Option.some.inj H).trans hr_.out) (by decide)
              · rw [if_neg c91] at H
                have c91b0 : ((IntKind.u64.wrap (Int.tdiv t184 2)) == (IntKind.u64.wrap (Int.tdiv t185 2))) = false := beq_eq_false_iff_ne.mpr c91
                have c91b1 : ((IntKind.u64.wrap (Int.tdiv t184 2)) != (IntKind.u64.wrap (Int.tdiv t185 2))) = true := bne_iff_ne.mpr c91
                exact absurd ((Option.some.inj H).trans hr_.out) (by decide)
            · rw [if_neg c90] at H
              have c90b0 : (x7_4 == a1) = false := beq_eq_false_iff_ne.mpr c90
              have c90b1 : (x7_4 != a1) = true := bne_iff_ne.mpr c90
              by_cases c96 : (((Int.tmod t184 2) == 1) == (decide (a0 < 0))) = true
              · rw [if_pos c96] at H
                have c96b0 : (((Int.tmod t184 2) == 1) == (decide (a0 < 0))) = true := c96
                (try (have c96b1 : decide (((Int.tmod t184 2) == 1) = (decide (a0 < 0))) = true := by simpa using c96))
                (try (have c96b2 : (((Int.tmod t184 2) == 1) == (decide (a0 < 0))) = true := by simpa using c96))
                clear c96
                by_cases c97 : (wrap64 (IntKind.u64.wrap (Int.tdiv t184 2))) = x7_4
                · rw [if_pos c97] at H
                  have c97b0 : ((wrap64 (IntKind.u64.wrap (Int.tdiv t184 2))) == x7_4) = true := beq_iff_eq.mpr c97
                  have c97b1 : ((wrap64 (IntKind.u64.wrap (Int.tdiv t184 2))) != x7_4) = false := bne_eq_false_iff_eq.mpr c97
                  clear c97
                  replace H := Option.bind_eq_some_iff.mp H
                  obtain ⟨t201, A980, H⟩ := H
                  replace H : (some t201) = some r := H
                  have A98 := Aside0.mk A980
                  clear A980
                  obtain rfl := Option.some.inj H
                  go_wp2_with (first | (go_at_call 24; (with_reducible refine (columbariumlaw1_known.calls kj4  t201 _ A98.out).mono ?_); rintro e w99 ⟨rfl, hb⟩; have n0_ := Aside0.mk (below_step (by repeat (first | (with_reducible first | exact HB.out | apply below_alloc | apply pw_below_drewN | apply below_drew1) | exact HB.out)) hb); clear HB; have HB := n0_; clear n0_; (try clear hb); (try clear hb2); (try clear hk); (try clear hi)))
                  go_ret
                  exact ⟨by first | rfl | (simp [errW_none, errW_some] <;> rfl) | (simp [*, errW_none, errW_some] <;> rfl), by repeat (first | (with_reducible first | exact HB.out | apply below_alloc | apply pw_below_drewN | apply below_drew1) | exact HB.out)⟩
                · rw [if_neg c97] at H
                  have c97b0 : ((wrap64 (IntKind.u64.wrap (Int.tdiv t184 2))) == x7_4) = false := beq_eq_false_iff_ne.mpr c97
                  have c97b1 : ((wrap64 (IntKind.u64.wrap (Int.tdiv t184 2))) != x7_4) = true := bne_iff_ne.mpr c97
                  exact absurd ((Option.some.inj H).trans hr_.out) (by decide)
              · rw [if_neg c96] at H
                have c96b0 : (((Int.tmod t184 2) == 1) == (decide (a0 < 0))) = false := by simpa using c96
                (try (have c96b1 : decide (((Int.tmod t184 2) == 1) = (decide (a0 < 0))) = false := by simpa using c96))
                (try (have c96b2 : (((Int.tmod t184 2) == 1) == (decide (a0 < 0))) = false := by simpa using c96))
                (try (have c96b3 : ¬ (((Int.tmod t184 2) == 1) = (decide (a0 < 0))) := by simpa using c96))
                clear c96
                exact absurd ((Option.some.inj H).trans hr_.out) (by decide)

/-- THE ONE PURE STATEMENT of columbariumlaw1_VarintZigs: yours. -/
def columbariumlaw1_VarintZigs.Pure : Prop := ∀ (a0 : Int) (a1 : Int), (Lit.int .i64 a0).wf = true → (Lit.int .i64 a1).wf = true → ∃ k, columbariumlaw1_VarintZigs.f k a0 a1 = some true
theorem columbariumlaw1_VarintZigs.walk (P : columbariumlaw1_VarintZigs.Pure) (a0 : Int) (a1 : Int) (w : World) (w0 : (Lit.int .i64 a0).wf = true) (w1 : (Lit.int .i64 a1).wf = true) :
    Calls Try.prog 9 #[.int .i64 a0, .int .i64 a1] w fun e w' => e = .returned (.bool true) ∧ Below w.heap.size w w' := by
  obtain ⟨k, h⟩ := P a0 a1 w0 w1
  refine (columbariumlaw1_VarintZigs.calls k a0 a1 true w h ⟨rfl⟩).mono ?_
  rintro e w' ⟨rfl, hd⟩
  exact ⟨rfl, hd⟩

end Go.Proofs.Ythpomojgkhjhbaa.PS
