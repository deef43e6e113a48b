-- Written by a program of this session, out of the translation; Lean checks it.
import Derived.Test.YthpomojgkhjhbaaPSx0
import Derived.Test.YthpomojgkhjhbaaPSx1
import Derived.Test.YthpomojgkhjhbaaPSx2
import Derived.Test.YthpomojgkhjhbaaPSx3
import Derived.Test.YthpomojgkhjhbaaPSx5
namespace Go.Proofs.Ythpomojgkhjhbaa.PS
open Go.RowKit Go.Proofs.YthpomojgkhjhbaaW.PrintWords Go.Proofs.YthpomojgkhjhbaaW.PrintLast Go.Proofs.YthpomojgkhjhbaaW.PrintMore
attribute [local go_sem] max2_int min2_int max_two min_two max_three min_three max_four min_four   -- for this text's walks alone
set_option linter.unusedVariables false
set_option linter.unusedSimpArgs false

/-! ### columbariumlaw2_SumTurns: function 5 -/
def columbariumlaw2_SumTurns.l0 : Nat → List Int → Int → List Int → Int → List Int → Int → Int → Option (Bool)
  | 0, _, _, _, _, _, _, _ => none
  | k + 1, x0, x2, x13, x14, x49, x50, x51 => if x51 < x50 then (if 0 ≤ x51 then (if x51 < (x49.length : Int) then (if 0 ≤ (wrap64 (x14 + x51)) then (if (wrap64 (x14 + x51)) < (x13.length : Int) then (columbariumlaw2_SumTurns.l0 k x0 x2 (x13.set ((wrap64 (x14 + x51)) : Int).toNat (Go.bits .xor .u8 (rd x13 (wrap64 (x14 + x51))) (rd x49 x51))) x14 x49 x50 (wrap64 (x51 + 1))) else (none)) else (none)) else (none)) else (none)) else ((sum_Crc.f k x13).bind fun t130 => ((sum_Crc.f k x0).bind fun t131 => (if t130 = t131 then (some false) else ((some (([x2] : List Int) : List Int)).bind fun y132 => (if (strOfNums x0).size + (strOfNums y132).size ≤ 9223372036854775807 then ((sum_Fnv.f k ((strOfNums x0) ++ (strOfNums y132))).bind fun t135 => ((sum_Fnv.f k (strOfNums x0)).bind fun t136 => (if t135 = (IntKind.u64.wrap ((Go.bits .xor .u64 t136 (IntKind.u64.wrap (x2))) * 1099511628211)) then ((columbariumlaw2_known.f k).bind fun t137 => (some t137)) else (some false)))) else (none))))))
def columbariumlaw2_SumTurns.f (k : Nat) (l0 : List Int) (a1 : Int) (a2 : Int) (a3 : Int) (a4 : Int) (a5 : Int) : Option (Bool) := if (l0.length : Int) < 4 then ((columbariumlaw2_known.f k).bind fun t114 => (some t114)) else (if (l0.length : Int) > 3000 then ((columbariumlaw2_known.f k).bind fun t115 => (some t115)) else (if (Go.bits .or .u8 (Go.bits .or .u8 (Go.bits .or .u8 a2 a3) a4) a5) = 0 then ((columbariumlaw2_known.f k).bind fun t116 => (some t116)) else ((some (([] : List Int) : List Int)).bind fun y117 => (if y117.length + l0.length < 140737488355328 then ((columbariumbook_Within.f a1 0 (wrap64 ((l0.length : Int) - 4))).bind fun t123 => ((some (([a2, a3, a4, a5] : List Int) : List Int)).bind fun y124 => (columbariumlaw2_SumTurns.l0 k l0 a2 (y117 ++ l0) t123 y124 (y124.length : Int) 0))) else (none)))))
theorem columbariumlaw2_SumTurns.mono_l : ∀ k, (∀ y0 y1 y2 y3 y4 y5 y6, LeO (columbariumlaw2_SumTurns.l0 k y0 y1 y2 y3 y4 y5 y6) (columbariumlaw2_SumTurns.l0 (k + 1) y0 y1 y2 y3 y4 y5 y6))
  | 0 => fun _ _ _ _ _ _ _ r h => by simp [columbariumlaw2_SumTurns.l0] at h
  | k + 1 => by
    have ih0 := columbariumlaw2_SumTurns.mono_l k
    · intro y0 y1 y2 y3 y4 y5 y6
      unfold columbariumlaw2_SumTurns.l0
      repeat' first
      | (with_reducible exact ih0 _ _ _ _ _ _ _)
      | (with_reducible exact columbariumlaw2_known.mono _)
      | (with_reducible exact sum_Crc.mono _ _)
      | (with_reducible exact sum_Fnv.mono _ _)
      | (with_reducible exact LeO.refl _)
      | (with_reducible exact LeO.none _)
      | (with_reducible refine LeO.ite ?_ ?_)
      | (with_reducible refine LeO.bind ?_ (fun _ => ?_))
      | exact ih0 _ _ _ _ _ _ _
      | exact columbariumlaw2_known.mono _
      | exact sum_Crc.mono _ _
      | exact sum_Fnv.mono _ _
      | exact LeO.none _
      | refine LeO.ite ?_ ?_
      | refine LeO.bind ?_ (fun _ => ?_)
theorem columbariumlaw2_SumTurns.mono : ∀ a0 a1 a2 a3 a4 a5 k, LeO (columbariumlaw2_SumTurns.f k a0 a1 a2 a3 a4 a5) (columbariumlaw2_SumTurns.f (k + 1) a0 a1 a2 a3 a4 a5) := by
  intro a0 a1 a2 a3 a4 a5 k
  have ih0 := columbariumlaw2_SumTurns.mono_l k
  unfold columbariumlaw2_SumTurns.f
  repeat' first
      | (with_reducible exact ih0 _ _ _ _ _ _ _)
      | (with_reducible exact columbariumlaw2_known.mono _)
      | (with_reducible exact sum_Crc.mono _ _)
      | (with_reducible exact sum_Fnv.mono _ _)
      | (with_reducible exact LeO.refl _)
      | (with_reducible exact LeO.none _)
      | (with_reducible refine LeO.ite ?_ ?_)
      | (with_reducible refine LeO.bind ?_ (fun _ => ?_))
      | exact ih0 _ _ _ _ _ _ _
      | exact columbariumlaw2_known.mono _
      | exact sum_Crc.mono _ _
      | exact sum_Fnv.mono _ _
      | exact LeO.none _
      | refine LeO.ite ?_ ?_
      | refine LeO.bind ?_ (fun _ => ?_)
set_option maxHeartbeats 8000000 in
set_option maxRecDepth 100000 in
theorem columbariumlaw2_SumTurns.calls (k : Nat) (A0 : Option Addr) (c0 : Nat) (l0 : List Int) (a1 : Int) (a2 : Int) (a3 : Int) (a4 : Int) (a5 : Int) (r : Bool) (w : World) (hr0 : Kd.C (Kd.int .u8) w A0 l0.length l0) (hc0 : l0.length ≤ c0) (h : columbariumlaw2_SumTurns.f k l0 a1 a2 a3 a4 a5 = some r) (hr_ : Aside0 (r = true)) :
    Calls Try.prog 5 #[.slice A0 l0.length c0, .int .i64 a1, .int .u8 a2, .int .u8 a3, .int .u8 a4, .int .u8 a5] w fun e w' => e = .returned (.bool r) ∧ Below w.heap.size w w' := by
  have HR0 := Aside0.mk hr0
  have HC0 := Aside0.mk hc0
  clear hr0 hc0
  have HB := Aside0.mk (Below.refl w.heap.size w)
  have H : (if (l0.length : Int) < 4 then ((columbariumlaw2_known.f k).bind fun t114 => (some t114)) else (if (l0.length : Int) > 3000 then ((columbariumlaw2_known.f k).bind fun t115 => (some t115)) else (if (Go.bits .or .u8 (Go.bits .or .u8 (Go.bits .or .u8 a2 a3) a4) a5) = 0 then ((columbariumlaw2_known.f k).bind fun t116 => (some t116)) else ((some (([] : List Int) : List Int)).bind fun y117 => (if y117.length + l0.length < 140737488355328 then ((columbariumbook_Within.f a1 0 (wrap64 ((l0.length : Int) - 4))).bind fun t123 => ((some (([a2, a3, a4, a5] : List Int) : List Int)).bind fun y124 => (columbariumlaw2_SumTurns.l0 k l0 a2 (y117 ++ l0) t123 y124 (y124.length : Int) 0))) else (none)))))) = some r := h
  clear h
  by_cases c7 : (l0.length : Int) < 4
  · rw [if_pos c7] at H
    have c7b0 : decide ((l0.length : Int) < 4) = true := decide_eq_true c7
    have c7b1 : decide (l0.length < 4) = true := decide_eq_true (by omega)
    clear c7
    replace H := Option.bind_eq_some_iff.mp H
    obtain ⟨t114, A80, H⟩ := H
    replace H : (some t114) = some r := H
    have A8 := Aside0.mk A80
    clear A80
    obtain rfl := Option.some.inj H
    go_enter Try.func5, Try.ntmps5
    go_wp2_with (first | ((with_reducible refine gate_callee (f := 16) rfl ?_); refine goesL_ (some 36) rfl rfl Try.func16 (by kernel_rfl) rfl #[] rfl (by (try simp only [List.map_toArray, List.map_cons, List.map_nil]); first | done | rfl | (simp only [List.length_drop, List.length_take]; rfl)) ?_; (with_reducible refine (columbariumlaw2_known.calls k  t114 _ A8.out).mono ?_); rintro e w9 ⟨rfl, hb⟩; refine ⟨_, rfl, ?_⟩; have n0_ := Aside0.mk (below_step (by repeat (first | (with_reducible first | exact HB.out | apply below_alloc | apply pw_below_drewN | apply below_drew1) | exact HB.out)) hb); clear HB; have HB := n0_; clear n0_; (try clear hb); (try clear hb2); (try clear hk); (try clear hi)))
    go_ret
    exact ⟨by first | rfl | (simp [errW_none, errW_some] <;> rfl) | (simp [*, errW_none, errW_some] <;> rfl), by repeat (first | (with_reducible first | exact HB.out | apply below_alloc | apply pw_below_drewN | apply below_drew1) | exact HB.out)⟩
  · rw [if_neg c7] at H
    have c7b0 : decide ((l0.length : Int) < 4) = false := decide_eq_false c7
    have c7b1 : decide (l0.length < 4) = false := decide_eq_false (by omega)
    clear c7
    by_cases c10 : (l0.length : Int) > 3000
    · rw [if_pos c10] at H
      have c10b0 : decide (3000 < (l0.length : Int)) = true := decide_eq_true c10
      have c10b1 : decide (3000 < l0.length) = true := decide_eq_true (by omega)
      clear c10
      replace H := Option.bind_eq_some_iff.mp H
      obtain ⟨t115, A110, H⟩ := H
      replace H : (some t115) = some r := H
      have A11 := Aside0.mk A110
      clear A110
      obtain rfl := Option.some.inj H
      go_enter Try.func5, Try.ntmps5
      go_wp2_with (first | ((with_reducible refine gate_callee (f := 16) rfl ?_); refine goesL_ (some 36) rfl rfl Try.func16 (by kernel_rfl) rfl #[] rfl (by (try simp only [List.map_toArray, List.map_cons, List.map_nil]); first | done | rfl | (simp only [List.length_drop, List.length_take]; rfl)) ?_; (with_reducible refine (columbariumlaw2_known.calls k  t115 _ A11.out).mono ?_); rintro e w12 ⟨rfl, hb⟩; refine ⟨_, rfl, ?_⟩; have n0_ := Aside0.mk (below_step (by repeat (first | (with_reducible first | exact HB.out | apply below_alloc | apply pw_below_drewN | apply below_drew1) | exact HB.out)) hb); clear HB; have HB := n0_; clear n0_; (try clear hb); (try clear hb2); (try clear hk); (try clear hi)))
      go_ret
      exact ⟨by first | rfl | (simp [errW_none, errW_some] <;> rfl) | (simp [*, errW_none, errW_some] <;> rfl), by repeat (first | (with_reducible first | exact HB.out | apply below_alloc | apply pw_below_drewN | apply below_drew1) | exact HB.out)⟩
    · rw [if_neg c10] at H
      have c10b0 : decide (3000 < (l0.length : Int)) = false := decide_eq_false c10
      have c10b1 : decide (3000 < l0.length) = false := decide_eq_false (by omega)
      clear c10
      by_cases c13 : (Go.bits .or .u8 (Go.bits .or .u8 (Go.bits .or .u8 a2 a3) a4) a5) = 0
      · rw [if_pos c13] at H
        have c13b0 : ((Go.bits .or .u8 (Go.bits .or .u8 (Go.bits .or .u8 a2 a3) a4) a5) == 0) = true := beq_iff_eq.mpr c13
        have c13b1 : ((Go.bits .or .u8 (Go.bits .or .u8 (Go.bits .or .u8 a2 a3) a4) a5) != 0) = false := bne_eq_false_iff_eq.mpr c13
        clear c13
        replace H := Option.bind_eq_some_iff.mp H
        obtain ⟨t116, A140, H⟩ := H
        replace H : (some t116) = some r := H
        have A14 := Aside0.mk A140
        clear A140
        obtain rfl := Option.some.inj H
        go_enter Try.func5, Try.ntmps5
        go_wp2_with (first | ((with_reducible refine gate_callee (f := 16) rfl ?_); refine goesL_ (some 36) rfl rfl Try.func16 (by kernel_rfl) rfl #[] rfl (by (try simp only [List.map_toArray, List.map_cons, List.map_nil]); first | done | rfl | (simp only [List.length_drop, List.length_take]; rfl)) ?_; (with_reducible refine (columbariumlaw2_known.calls k  t116 _ A14.out).mono ?_); rintro e w15 ⟨rfl, hb⟩; refine ⟨_, rfl, ?_⟩; have n0_ := Aside0.mk (below_step (by repeat (first | (with_reducible first | exact HB.out | apply below_alloc | apply pw_below_drewN | apply below_drew1) | exact HB.out)) hb); clear HB; have HB := n0_; clear n0_; (try clear hb); (try clear hb2); (try clear hk); (try clear hi)))
        go_ret
        exact ⟨by first | rfl | (simp [errW_none, errW_some] <;> rfl) | (simp [*, errW_none, errW_some] <;> rfl), by repeat (first | (with_reducible first | exact HB.out | apply below_alloc | apply pw_below_drewN | apply below_drew1) | exact HB.out)⟩
      · rw [if_neg c13] at H
        have c13b0 : ((Go.bits .or .u8 (Go.bits .or .u8 (Go.bits .or .u8 a2 a3) a4) a5) == 0) = false := beq_eq_false_iff_ne.mpr c13
        have c13b1 : ((Go.bits .or .u8 (Go.bits .or .u8 (Go.bits .or .u8 a2 a3) a4) a5) != 0) = true := bne_iff_ne.mpr c13
        obtain ⟨y117, hy117⟩ : ∃ y_ : List Int, y_ = (([] : List Int)) := ⟨_, rfl⟩
        replace H : (if y117.length + l0.length < 140737488355328 then ((columbariumbook_Within.f a1 0 (wrap64 ((l0.length : Int) - 4))).bind fun t123 => ((some (([a2, a3, a4, a5] : List Int) : List Int)).bind fun y124 => (columbariumlaw2_SumTurns.l0 k l0 a2 (y117 ++ l0) t123 y124 (y124.length : Int) 0))) else (none)) = some r := by first | (rw [hy117]; with_reducible exact H) | (have H2_ := (Option.bind_some _ _).symm.trans H; rw [hy117]; with_reducible exact H2_) | (have H2_ := (Option.bind_some _ _).symm.trans H; with_reducible exact H2_) | with_reducible exact H | (rw [hy117]; exact H) | exact H
        have Ny117 := Aside0.mk hy117
        clear hy117
        by_cases c16 : y117.length + l0.length < 140737488355328
        · rw [if_pos c16] at H
          have LMc16 := Aside0.mk c16
          clear c16
          obtain ⟨y120, hy120⟩ : ∃ y_ : List Int, y_ = (y117 ++ l0) := ⟨_, rfl⟩
          replace H : ((columbariumbook_Within.f a1 0 (wrap64 ((l0.length : Int) - 4))).bind fun t123 => ((some (([a2, a3, a4, a5] : List Int) : List Int)).bind fun y124 => (columbariumlaw2_SumTurns.l0 k l0 a2 y120 t123 y124 (y124.length : Int) 0))) = some r := by first | (rw [hy120]; with_reducible exact H) | (have H2_ := (Option.bind_some _ _).symm.trans H; rw [hy120]; with_reducible exact H2_) | (have H2_ := (Option.bind_some _ _).symm.trans H; with_reducible exact H2_) | with_reducible exact H | (rw [hy120]; exact H) | exact H
          have Ny120 := Aside0.mk hy120
          clear hy120
          replace H := Option.bind_eq_some_iff.mp H
          obtain ⟨t123, A170, H⟩ := H
          replace H : ((some (([a2, a3, a4, a5] : List Int) : List Int)).bind fun y124 => (columbariumlaw2_SumTurns.l0 k l0 a2 y120 t123 y124 (y124.length : Int) 0)) = some r := H
          have A17 := Aside0.mk A170
          clear A170
          obtain ⟨y124, hy124⟩ : ∃ y_ : List Int, y_ = (([a2, a3, a4, a5] : List Int)) := ⟨_, rfl⟩
          replace H : (columbariumlaw2_SumTurns.l0 k l0 a2 y120 t123 y124 (y124.length : Int) 0) = some r := by first | (rw [hy124]; with_reducible exact H) | (have H2_ := (Option.bind_some _ _).symm.trans H; rw [hy124]; with_reducible exact H2_) | (have H2_ := (Option.bind_some _ _).symm.trans H; with_reducible exact H2_) | with_reducible exact H | (rw [hy124]; exact H) | exact H
          have Ny124 := Aside0.mk hy124
          clear hy124
          have H' := Aside0.mk H
          clear H
          go_enter Try.func5, Try.ntmps5
          go_wp2_with (first | ((with_reducible refine gate_dst (N := 37) rfl ?_); (try (refine gate_guard (by rfl) ?_; dsimp only)); refine Kd.R_lit (Kd.int .u8) _ 5 ?hg (N := 37) ?hd (xs := ([] : List Int)) (inner := []) (ok := fun _ => True) (okp := fun _ => True) ?hr ?hp (fun _ hk => hk) trivial (Below.refl _ _) (Nat.le_refl _) (by simp) ?_; (case hd => rfl); (case hg => rfl); (case hr => first | (go_simp; done) | (go_simp; rfl)); (case hp => exact (Reps.none _ _)); intro v118 w18 ho19 hb hg_ hnew_; clear hg_ hnew_; (first | rw [← Ny117.out] at ho19 | (simp only [Int.reduceToNat] at ho19; rw [← Ny117.out] at ho19)); have n0_ := Aside0.mk (Kd.R_lower ho19 (below_size (by repeat (first | (with_reducible first | exact HB.out | apply below_alloc | apply pw_below_drewN | apply below_drew1) | exact HB.out)))); have n1_ := Aside0.mk (below_step (by repeat (first | (with_reducible first | exact HB.out | apply below_alloc | apply pw_below_drewN | apply below_drew1) | exact HB.out)) hb); clear HB; have HO119 := n0_; have HB := n1_; clear n0_ n1_; clear hb ho19) | ((with_reducible refine gate_builtin (b := .append) (xs := #[.tmp 37, .tmp 38]) rfl ?_); (try (refine gate_guard (by rfl) ?_; dsimp only)); at_builtin; refine Kd.R_append_rows (Kd.int .u8) (w0 := w) w.heap.size rfl (.tmp 37) (.tmp 38) 27 5 (.int .u8 0) 1 rfl Try.underlying27 info5 rfl (by decide) (by omega) v118 y117 l0 _ _ _ (fun _ => True) (fun _ => False) rfl rfl ?aO ?aR (fun _ _ h => h) (fun _ h => h.elim) ?aF ?aB ?aS ?aL ?_; (case aR => repeat (first | exact (Kd.C_below HR0.out HB.out) | (with_reducible refine Kd.C_alloc ?_ _) | (with_reducible refine Kd.C_drewN ?_ _) | (with_reducible refine Kd.C_drew ?_))); (case aB => exact (by repeat (first | (with_reducible first | exact HB.out | apply below_alloc | apply pw_below_drewN | apply below_drew1) | exact HB.out))); (case aF => exact (fun _ _ => trivial)); (case aO => exact (by (with_reducible repeat (first | apply Kd.R_alloc | apply Kd.R_drewN | apply Kd.R_drew)); exact HO119.out)); (case aS => exact (below_size (by repeat (first | (with_reducible first | exact HB.out | apply below_alloc | apply pw_below_drewN | apply below_drew1) | exact HB.out)))); (case aL => have := LMc16.out; omega); intro v121 w20 ho hb hg hat; rw [← Ny120.out] at ho; have n0_ := Aside0.mk (hb); have n1_ := Aside0.mk (ho); clear HB; clear HO119; have HB := n0_; have HO122 := n1_; clear n0_ n1_; clear ho hb hg hat) | ((with_reducible refine gate_callee (f := 21) rfl ?_); refine goesL_ (some 44) rfl rfl Try.func21 (by kernel_rfl) rfl #[.int .i64 a1, .int .i64 0, .int .i64 (wrap64 ((l0.length : Int) - 4))] rfl (by (try simp only [List.map_toArray, List.map_cons, List.map_nil]); first | done | rfl | (simp only [List.length_drop, List.length_take]; rfl)) ?_; (with_reducible refine (columbariumbook_Within.calls a1 0 (wrap64 ((l0.length : Int) - 4)) t123 _ A17.out).mono ?_); rintro e w' ⟨rfl, ⟨nd, rfl⟩⟩; refine ⟨_, rfl, ?_⟩) | ((with_reducible refine gate_dst (N := 49) rfl ?_); (try (refine gate_guard (by rfl) ?_; dsimp only)); refine Kd.R_lit (Kd.int .u8) _ 5 ?hg (N := 49) ?hd (xs := ([a2, a3, a4, a5] : List Int)) (inner := [.int .u8 a2, .int .u8 a3, .int .u8 a4, .int .u8 a5]) (ok := fun _ => True) (okp := fun _ => True) ?hr ?hp (fun _ hk => hk) trivial (Below.refl _ _) (Nat.le_refl _) (by simp) ?_; (case hd => rfl); (case hg => rfl); (case hr => first | (go_simp; done) | (go_simp; rfl)); (case hp => exact (Reps.one (show Kd.M (Kd.int .u8) _ _ _ a2 [.int .u8 a2] from rfl) (Reps.one (show Kd.M (Kd.int .u8) _ _ _ a3 [.int .u8 a3] from rfl) (Reps.one (show Kd.M (Kd.int .u8) _ _ _ a4 [.int .u8 a4] from rfl) (Reps.one (show Kd.M (Kd.int .u8) _ _ _ a5 [.int .u8 a5] from rfl) (Reps.none _ _)))))); intro v125 w21 ho22 hb hg_ hnew_; clear hg_ hnew_; (first | rw [← Ny124.out] at ho22 | (simp only [Int.reduceToNat] at ho22; rw [← Ny124.out] at ho22)); have n0_ := Aside0.mk (Kd.R_elder' (by (with_reducible repeat (first | apply Kd.R_alloc | apply Kd.R_drewN | apply Kd.R_drew)); exact HO122.out) (Kd.R_base ho22) hb); have n1_ := Aside0.mk (Kd.R_lower (Kd.R_new' ho22 (Kd.R_lt (by (with_reducible repeat (first | apply Kd.R_alloc | apply Kd.R_drewN | apply Kd.R_drew)); exact HO122.out))) (below_size (by repeat (first | (with_reducible first | exact HB.out | apply below_alloc | apply pw_below_drewN | apply below_drew1) | exact HB.out)))); have n2_ := Aside0.mk (below_step (by repeat (first | (with_reducible first | exact HB.out | apply below_alloc | apply pw_below_drewN | apply below_drew1) | exact HB.out)) hb); clear HO122; clear HB; have HO122 := n0_; have HO126 := n1_; have HB := n2_; clear n0_ n1_ n2_; clear hb ho22; obtain ⟨Ao23, co23, eo23⟩ := Kd.R_slice HO126.out; subst eo23))
          go_loopg [51] k (fun kq v51 w' => ∃ (x13_1 : List Int) (x51_1 : Int), v51 = .int .i64 x51_1 ∧ Aside0 (columbariumlaw2_SumTurns.l0 kq l0 a2 x13_1 t123 y124 (y124.length : Int) x51_1 = some r) ∧ Aside0 (kq ≤ k) ∧ Aside0 (Kd.R (Kd.int .u8) 5 w' w.heap.size (fun k_ => some k_ ≠ ((.slice Ao23 y124.length co23) : Value).ownBlock) v121 x13_1) ∧ Aside0 (Kd.R (Kd.int .u8) 5 w' w.heap.size (fun k_ => some k_ ≠ (v121 : Value).ownBlock) (.slice Ao23 y124.length co23) y124) ∧ Aside0 (Below w.heap.size w w'))
          case atStart => exact ⟨(y120), (0), (by first | rfl | (simp; done) | (simp [*]; done) | (refine congrArg (Value.int .i64) ?_; (try simp only [decide_eq_true_eq, decide_eq_false_iff_not] at *) <;> (unfold wrap64; omega))), H', ⟨Nat.le_refl _⟩, ⟨by (with_reducible repeat (first | apply Kd.R_alloc | apply Kd.R_drewN | apply Kd.R_drew)); exact Kd.R_mono HO122.out (fun _ hk => hk.2)⟩, ⟨by (with_reducible repeat (first | apply Kd.R_alloc | apply Kd.R_drewN | apply Kd.R_drew)); exact Kd.R_mono HO126.out (fun _ hk => hk.2)⟩, ⟨by repeat (first | (with_reducible first | exact HB.out | apply below_alloc | apply pw_below_drewN | apply below_drew1) | exact HB.out)⟩⟩
          case round =>
            clear H'
            try clear c1
            try clear c2
            try clear p2
            try clear c5
            try clear p6
            try clear c7
            try clear c7b0
            try clear c7b1
            try clear c10
            try clear c10b0
            try clear c10b1
            try clear c13
            try clear c13b0
            try clear c13b1
            try clear c16
            try clear c21
            obtain ⟨x13_1, x51_1, rfl, HA, HK1, HO_13, HO_49, HB⟩ := hrel
            cases gk with
            | zero => exact absurd HA.out (by simp [columbariumlaw2_SumTurns.l0])
            | succ k1 =>
              have H := HA.out
              clear HA
              simp only [columbariumlaw2_SumTurns.l0] at H
              by_cases c24 : x51_1 < (y124.length : Int)
              · rw [if_pos c24] at H
                have c24b0 : decide (x51_1 < (y124.length : Int)) = true := decide_eq_true c24
                clear c24
                by_cases c25 : 0 ≤ x51_1
                · rw [if_pos c25] at H
                  have c25b0 : decide (0 ≤ x51_1) = true := decide_eq_true c25
                  clear c25
                  by_cases c26 : x51_1 < (y124.length : Int)
                  · rw [if_pos c26] at H
                    have c26b0 : decide (x51_1 < (y124.length : Int)) = true := decide_eq_true c26
                    clear c26
                    obtain ⟨ji27, hji27⟩ : ∃ j_ : Int, (wrap64 (t123 + x51_1)) = j_ := ⟨_, rfl⟩
                    replace H : (if 0 ≤ (ji27) then (if (ji27) < (x13_1.length : Int) then (columbariumlaw2_SumTurns.l0 k1 l0 a2 (x13_1.set ((ji27) : Int).toNat (Go.bits .xor .u8 (rd x13_1 (ji27)) (rd y124 x51_1))) t123 y124 (y124.length : Int) (wrap64 (x51_1 + 1))) else (none)) else (none)) = some r := by first | (rw [hji27] at H; exact H) | (simp only [hji27] at H ⊢; exact H)
                    have hji27w : (IntKind.i64.wrap (t123 + x51_1)) = ji27 := (i64_w _).trans hji27
                    (try ((have hji27v : (t123 + x51_1) = ji27 := by ((have h_ := hji27); ((try simp only [decide_eq_true_eq] at *) <;> (unfold wrap64 at h_; omega)))); (have hji27l : 0 ≤ ji27 := by ((have h_ := hji27); ((try simp only [decide_eq_true_eq] at *) <;> (unfold wrap64 at h_; omega)))); (have hji27u : ji27 ≤ 64 := by ((have h_ := hji27); ((try simp only [decide_eq_true_eq] at *) <;> (unfold wrap64 at h_; omega))))))
                    by_cases c28 : 0 ≤ (ji27)
                    · rw [if_pos c28] at H
                      have c28b0 : decide (0 ≤ (ji27)) = true := decide_eq_true c28
                      clear c28
                      by_cases c29 : (ji27) < (x13_1.length : Int)
                      · rw [if_pos c29] at H
                        have c29b0 : decide ((ji27) < (x13_1.length : Int)) = true := decide_eq_true c29
                        clear c29
                        obtain ⟨y129, hy129⟩ : ∃ y_ : List Int, y_ = (x13_1.set ((ji27) : Int).toNat (Go.bits .xor .u8 (rd x13_1 (ji27)) (rd y124 x51_1))) := ⟨_, rfl⟩
                        replace H : (columbariumlaw2_SumTurns.l0 k1 l0 a2 y129 t123 y124 (y124.length : Int) (wrap64 (x51_1 + 1))) = some r := by first | (rw [hy129]; with_reducible exact H) | (have H2_ := (Option.bind_some _ _).symm.trans H; rw [hy129]; with_reducible exact H2_) | (have H2_ := (Option.bind_some _ _).symm.trans H; with_reducible exact H2_) | with_reducible exact H | (rw [hy129]; exact H) | exact H
                        have Ny129 := Aside0.mk hy129
                        clear hy129
                        have H' := Aside0.mk H
                        clear H
                        have p127 : 0 ≤ (x51_1 : Int) := of_decide_eq_true (by first | (with_reducible assumption) | assumption)
                        have q127 : x51_1 < (y124.length : Int) := of_decide_eq_true (by first | (with_reducible assumption) | assumption)
                        obtain ⟨ad127, e127, hx127_0⟩ := Kd.at_int (Kd.R_reads' HO_49.out).2.2 x51_1 p127 q127
                        cases e127
                        replace p127 := eq_true p127
                        replace q127 := eq_true q127
                        obtain ⟨Ao31, co31, eo31⟩ := Kd.R_slice HO_13.out
                        subst eo31
                        have p128 : 0 ≤ ((ji27) : Int) := of_decide_eq_true (by first | (with_reducible assumption) | assumption)
                        have q128 : (ji27) < (x13_1.length : Int) := of_decide_eq_true (by first | (with_reducible assumption) | assumption)
                        obtain ⟨ad128, e128, hx128_0⟩ := Kd.at_int (Kd.R_reads' HO_13.out).2.2 (ji27) p128 q128
                        cases e128
                        replace p128 := eq_true p128
                        replace q128 := eq_true q128
                        have p30 : 0 ≤ ((ji27) : Int) := of_decide_eq_true (by first | (with_reducible assumption) | assumption)
                        have q30 : ((ji27) : Int) < ((x13_1.length : Int) : Int) := of_decide_eq_true (by first | (with_reducible assumption) | assumption)
                        obtain ⟨go30, co30, eo30, gb30, gl30, cl30, HG30⟩ := Kd.R_form HO_13.out (by omega)
                        (first | cases eo30 | (injection eo30 with ea_ en_ ec_; (first | subst ea_ | (injection ea_ with ea_; subst ea_)); subst ec_; clear en_))
                        have GB30 := Aside0.mk gb30
                        have GG30 := Aside0.mk HG30
                        clear gb30 gl30 HG30
                        (first | simp only [add_plain] at hx128_0 | skip)
                        obtain ⟨hx30_0, hf30_0⟩ := Kd.R_celln 0 HO_13.out ((ji27) : Int) p30 q30
                        replace p30 := eq_true p30
                        replace q30 := eq_true q30
                        have HP32 := Kd.R_putg HO_13.out ((ji27) : Int) (Go.bits .xor .u8 (rd x13_1 (ji27)) (rd y124 x51_1))
                        go_wp2_with (first | ((with_reducible refine gate_store (t := 5) (p := 68) rfl ?_); refine store_event (t := 5) (p := 68) (v := ?vo_w33) (w1 := (wr.setCell ⟨go30, ((ji27) : Int).toNat, none⟩ (.int .u8 (Go.bits .xor .u8 (rd x13_1 (ji27)) (rd y124 x51_1))))) ?hg ?ho ?hn ?hr ?_; (case ho => rfl); (case hg => rfl); (case hn => rfl); (case hr => first | (go_simp; done) | (go_simp; rfl)); intro w33 hw; have hg : wr.grownBy w33 (some go30) := (by rw [hw]; exact HP32.2); have hp_ : Kd.R (Kd.int .u8) 5 w33 w.heap.size (fun k_ => some k_ ≠ (.slice (some ad127) y124.length co23 : Value).ownBlock) (.slice (some ⟨go30, 0, none⟩) x13_1.length co31) y129 := (by rw [hw, Ny129.out]; exact HP32.1); clear HP32; have n0_ := Aside0.mk (hp_); have n1_ := Aside0.mk (Kd.R_after (v := (.slice (some ⟨go30, 0, none⟩) x13_1.length co31)) (v1 := (.slice (some ⟨go30, 0, none⟩) x13_1.length co31)) (ok := (fun _ => True)) (by (with_reducible repeat (first | apply Kd.R_alloc | apply Kd.R_drewN | apply Kd.R_drew)); exact Kd.R_mono HO_49.out (fun _ hk => ⟨trivial, hk⟩)) hg (.inl rfl)); have n2_ := Aside0.mk ((by rw [hw]; exact below_set (HB.out) GB30.out : Below w.heap.size w w33)); clear HO_13; clear HO_49; clear HB; have HO_13 := n0_; have HO_49 := n1_; have HB := n2_; clear n0_ n1_ n2_; clear hg hw hp_))
                        go_roundg k1
                        case measure => have := HK1.out; omega
                        case rel => exact ⟨(y129), (wrap64 (x51_1 + 1)), (by first | rfl | (simp; done) | (simp [*]; done) | (refine congrArg (Value.int .i64) ?_; (try simp only [decide_eq_true_eq, decide_eq_false_iff_not] at *) <;> (unfold wrap64; omega))), H', ⟨by have := HK1.out; omega⟩, ⟨by (with_reducible repeat (first | apply Kd.R_alloc | apply Kd.R_drewN | apply Kd.R_drew)); exact HO_13.out⟩, ⟨by (with_reducible repeat (first | apply Kd.R_alloc | apply Kd.R_drewN | apply Kd.R_drew)); exact Kd.R_mono HO_49.out (fun _ hk => hk.2)⟩, ⟨by repeat (first | (with_reducible first | exact HB.out | apply below_alloc | apply pw_below_drewN | apply below_drew1) | exact HB.out)⟩⟩
                      · rw [if_neg c29] at H
                        exact absurd H (by simp)
                    · rw [if_neg c28] at H
                      exact absurd H (by simp)
                  · rw [if_neg c26] at H
                    exact absurd H (by simp)
                · rw [if_neg c25] at H
                  exact absurd H (by simp)
              · rw [if_neg c24] at H
                have c24b0 : decide (x51_1 < (y124.length : Int)) = false := decide_eq_false c24
                clear c24
                replace H := Option.bind_eq_some_iff.mp H
                obtain ⟨t130, A340, H⟩ := H
                replace H : ((sum_Crc.f k1 l0).bind fun t131 => (if t130 = t131 then (some false) else ((some (([a2] : List Int) : List Int)).bind fun y132 => (if (strOfNums l0).size + (strOfNums y132).size ≤ 9223372036854775807 then ((sum_Fnv.f k1 ((strOfNums l0) ++ (strOfNums y132))).bind fun t135 => ((sum_Fnv.f k1 (strOfNums l0)).bind fun t136 => (if t135 = (IntKind.u64.wrap ((Go.bits .xor .u64 t136 (IntKind.u64.wrap (a2))) * 1099511628211)) then ((columbariumlaw2_known.f k1).bind fun t137 => (some t137)) else (some false)))) else (none))))) = some r := H
                have A34 := Aside0.mk A340
                clear A340
                replace H := Option.bind_eq_some_iff.mp H
                obtain ⟨t131, A350, H⟩ := H
                replace H : (if t130 = t131 then (some false) else ((some (([a2] : List Int) : List Int)).bind fun y132 => (if (strOfNums l0).size + (strOfNums y132).size ≤ 9223372036854775807 then ((sum_Fnv.f k1 ((strOfNums l0) ++ (strOfNums y132))).bind fun t135 => ((sum_Fnv.f k1 (strOfNums l0)).bind fun t136 => (if t135 = (IntKind.u64.wrap ((Go.bits .xor .u64 t136 (IntKind.u64.wrap (a2))) * 1099511628211)) then ((columbariumlaw2_known.f k1).bind fun t137 => (some t137)) else (some false)))) else (none)))) = some r := H
                have A35 := Aside0.mk A350
                clear A350
                by_cases c36 : t130 = t131
                · rw [if_pos c36] at H
                  have c36b0 : (t130 == t131) = true := beq_iff_eq.mpr c36
                  have c36b1 : (t130 != t131) = false := bne_eq_false_iff_eq.mpr c36
                  clear c36
                  exact absurd ((Option.some.inj H).trans hr_.out) (by decide)
                · rw [if_neg c36] at H
                  have c36b0 : (t130 == t131) = false := beq_eq_false_iff_ne.mpr c36
                  have c36b1 : (t130 != t131) = true := bne_iff_ne.mpr c36
                  obtain ⟨y132, hy132⟩ : ∃ y_ : List Int, y_ = (([a2] : List Int)) := ⟨_, rfl⟩
                  replace H : (if (strOfNums l0).size + (strOfNums y132).size ≤ 9223372036854775807 then ((sum_Fnv.f k1 ((strOfNums l0) ++ (strOfNums y132))).bind fun t135 => ((sum_Fnv.f k1 (strOfNums l0)).bind fun t136 => (if t135 = (IntKind.u64.wrap ((Go.bits .xor .u64 t136 (IntKind.u64.wrap (a2))) * 1099511628211)) then ((columbariumlaw2_known.f k1).bind fun t137 => (some t137)) else (some false)))) else (none)) = some r := by first | (rw [hy132]; with_reducible exact H) | (have H2_ := (Option.bind_some _ _).symm.trans H; rw [hy132]; with_reducible exact H2_) | (have H2_ := (Option.bind_some _ _).symm.trans H; with_reducible exact H2_) | with_reducible exact H | (rw [hy132]; exact H) | exact H
                  have Ny132 := Aside0.mk hy132
                  clear hy132
                  by_cases c37 : (strOfNums l0).size + (strOfNums y132).size ≤ 9223372036854775807
                  · rw [if_pos c37] at H
                    have c37b0 := eq_true c37
                    have c37b1 : decide ((strOfNums l0).size + (strOfNums y132).size ≤ 9223372036854775807) = true := decide_eq_true c37
                    try have c37b2 : (9223372036854775807 < (strOfNums l0).size + (strOfNums y132).size) = False := eq_false (Nat.not_lt.2 c37)
                    replace H := Option.bind_eq_some_iff.mp H
                    obtain ⟨t135, A380, H⟩ := H
                    replace H : ((sum_Fnv.f k1 (strOfNums l0)).bind fun t136 => (if t135 = (IntKind.u64.wrap ((Go.bits .xor .u64 t136 (IntKind.u64.wrap (a2))) * 1099511628211)) then ((columbariumlaw2_known.f k1).bind fun t137 => (some t137)) else (some false))) = some r := H
                    have A38 := Aside0.mk A380
                    clear A380
                    replace H := Option.bind_eq_some_iff.mp H
                    obtain ⟨t136, A390, H⟩ := H
                    replace H : (if t135 = (IntKind.u64.wrap ((Go.bits .xor .u64 t136 (IntKind.u64.wrap (a2))) * 1099511628211)) then ((columbariumlaw2_known.f k1).bind fun t137 => (some t137)) else (some false)) = some r := H
                    have A39 := Aside0.mk A390
                    clear A390
                    by_cases c40 : t135 = (IntKind.u64.wrap ((Go.bits .xor .u64 t136 (IntKind.u64.wrap (a2))) * 1099511628211))
                    · rw [if_pos c40] at H
                      have c40b0 : (t135 == (IntKind.u64.wrap ((Go.bits .xor .u64 t136 (IntKind.u64.wrap (a2))) * 1099511628211))) = true := beq_iff_eq.mpr c40
                      have c40b1 : (t135 != (IntKind.u64.wrap ((Go.bits .xor .u64 t136 (IntKind.u64.wrap (a2))) * 1099511628211))) = false := bne_eq_false_iff_eq.mpr c40
                      clear c40
                      replace H := Option.bind_eq_some_iff.mp H
                      obtain ⟨t137, A410, H⟩ := H
                      replace H : (some t137) = some r := H
                      have A41 := Aside0.mk A410
                      clear A410
                      obtain rfl := Option.some.inj H
                      have hcv42 := pw_C_string_len (P := Try.prog) (A := A0) (c := c0) Try.underlying27 Try.underlying5 Try.underlying9 (Kd.C_below HR0.out HB.out)
                      obtain ⟨Ao43, co43, eo43⟩ := Kd.R_slice HO_13.out
                      subst eo43
                      go_wp2_with (first | ((with_reducible refine gate_callee (f := 14) rfl ?_); refine goesL_ (some 73) rfl rfl Try.func14 (by kernel_rfl) rfl #[.slice Ao43 x13_1.length co43] rfl (by (try simp only [List.map_toArray, List.map_cons, List.map_nil]); first | done | rfl | (simp only [List.length_drop, List.length_take]; rfl)) ?_; (with_reducible refine (sum_Crc.calls k1 _ _ x13_1 t130 _ ?side1 ?side2 A34.out).mono ?_); (case side1 => repeat (first | exact (Kd.R_reads' HO_13.out).2.2 | (with_reducible refine Kd.C_alloc ?_ _) | (with_reducible refine Kd.C_drewN ?_ _) | (with_reducible refine Kd.C_drew ?_))); (case side2 => exact (Kd.R_reads' HO_13.out).2.1); rintro e w' ⟨rfl, ⟨nd, rfl⟩⟩; refine ⟨_, rfl, ?_⟩) | ((with_reducible refine gate_callee (f := 14) rfl ?_); refine goesL_ (some 75) rfl rfl Try.func14 (by kernel_rfl) rfl #[.slice A0 l0.length c0] rfl (by (try simp only [List.map_toArray, List.map_cons, List.map_nil]); first | done | rfl | (simp only [List.length_drop, List.length_take]; rfl)) ?_; (with_reducible refine (sum_Crc.calls k1 _ _ l0 t131 _ ?side1 ?side2 A35.out).mono ?_); (case side1 => repeat (first | exact (Kd.C_below HR0.out (by repeat (first | (with_reducible first | exact HB.out | apply below_alloc | apply pw_below_drewN | apply below_drew1) | exact HB.out))) | (with_reducible refine Kd.C_alloc ?_ _) | (with_reducible refine Kd.C_drewN ?_ _) | (with_reducible refine Kd.C_drew ?_))); (case side2 => exact HC0.out); rintro e w' ⟨rfl, ⟨nd, rfl⟩⟩; refine ⟨_, rfl, ?_⟩) | ((with_reducible refine gate_dst (N := 80) rfl ?_); (try (refine gate_guard (by rfl) ?_; dsimp only)); refine Kd.R_lit (Kd.int .u8) _ 5 ?hg (N := 80) ?hd (xs := ([a2] : List Int)) (inner := [.int .u8 a2]) (ok := fun _ => True) (okp := fun _ => True) ?hr ?hp (fun _ hk => hk) trivial (Below.refl _ _) (Nat.le_refl _) (by simp) ?_; (case hd => rfl); (case hg => rfl); (case hr => first | (go_simp; done) | (go_simp; rfl)); (case hp => exact (Reps.one (show Kd.M (Kd.int .u8) _ _ _ a2 [.int .u8 a2] from rfl) (Reps.none _ _))); intro v133 w44 ho45 hb hg_ hnew_; clear hg_ hnew_; (first | rw [← Ny132.out] at ho45 | (simp only [Int.reduceToNat] at ho45; rw [← Ny132.out] at ho45)); have n0_ := Aside0.mk (Kd.R_elder' (by (with_reducible repeat (first | apply Kd.R_alloc | apply Kd.R_drewN | apply Kd.R_drew)); exact HO_13.out) (Kd.R_base ho45) hb); have n1_ := Aside0.mk (Kd.R_elder' (by (with_reducible repeat (first | apply Kd.R_alloc | apply Kd.R_drewN | apply Kd.R_drew)); exact HO_49.out) (Kd.R_base ho45) hb); have n2_ := Aside0.mk (Kd.R_lower (Kd.R_new' (Kd.R_new' ho45 (Kd.R_lt (by (with_reducible repeat (first | apply Kd.R_alloc | apply Kd.R_drewN | apply Kd.R_drew)); exact HO_13.out))) (Kd.R_lt (by (with_reducible repeat (first | apply Kd.R_alloc | apply Kd.R_drewN | apply Kd.R_drew)); exact HO_49.out))) (below_size (by repeat (first | (with_reducible first | exact HB.out | apply below_alloc | apply pw_below_drewN | apply below_drew1) | exact HB.out)))); have n3_ := Aside0.mk (below_step (by repeat (first | (with_reducible first | exact HB.out | apply below_alloc | apply pw_below_drewN | apply below_drew1) | exact HB.out)) hb); clear HO_13; clear HO_49; clear HB; have HO_13 := n0_; have HO_49 := n1_; have HO134 := n2_; have HB := n3_; clear n0_ n1_ n2_ n3_; clear hb ho45; have hcv46 := own_string (P := Try.prog) Try.underlying27 Try.underlying5 Try.underlying9 (Kd.own_of_R HO134.out)) | (go_at_call 15; (with_reducible refine (sum_Fnv.calls k1 ((strOfNums l0) ++ (strOfNums y132)) t135 _ A38.out).mono ?_); rintro e w' ⟨rfl, ⟨nd, rfl⟩⟩) | (go_at_call 15; (with_reducible refine (sum_Fnv.calls k1 (strOfNums l0) t136 _ A39.out).mono ?_); rintro e w' ⟨rfl, ⟨nd, rfl⟩⟩) | (go_at_call 16; (with_reducible refine (columbariumlaw2_known.calls k1  t137 _ A41.out).mono ?_); rintro e w47 ⟨rfl, hb⟩; have n0_ := Aside0.mk (Kd.R_below (by (with_reducible repeat (first | apply Kd.R_alloc | apply Kd.R_drewN | apply Kd.R_drew)); exact HO_13.out) hb); have n1_ := Aside0.mk (Kd.R_below (by (with_reducible repeat (first | apply Kd.R_alloc | apply Kd.R_drewN | apply Kd.R_drew)); exact HO_49.out) hb); have n2_ := Aside0.mk (Kd.R_below (by (with_reducible repeat (first | apply Kd.R_alloc | apply Kd.R_drewN | apply Kd.R_drew)); exact HO134.out) hb); have n3_ := Aside0.mk (below_step (by repeat (first | (with_reducible first | exact HB.out | apply below_alloc | apply pw_below_drewN | apply below_drew1) | exact HB.out)) hb); clear HO_13; clear HO_49; clear HO134; clear HB; have HO_13 := n0_; have HO_49 := n1_; have HO134 := n2_; have HB := n3_; clear n0_ n1_ n2_ n3_; (try clear hb); (try clear hb2); (try clear hk); (try clear hi)))
                      go_ret
                      exact ⟨by first | rfl | (simp [errW_none, errW_some] <;> rfl) | (simp [*, errW_none, errW_some] <;> rfl), by repeat (first | (with_reducible first | exact HB.out | apply below_alloc | apply pw_below_drewN | apply below_drew1) | exact HB.out)⟩
                    · rw [if_neg c40] at H
                      have c40b0 : (t135 == (IntKind.u64.wrap ((Go.bits .xor .u64 t136 (IntKind.u64.wrap (a2))) * 1099511628211))) = false := beq_eq_false_iff_ne.mpr c40
                      have c40b1 : (t135 != (IntKind.u64.wrap ((Go.bits .xor .u64 t136 (IntKind.u64.wrap (a2))) * 1099511628211))) = true := bne_iff_ne.mpr c40
                      exact absurd ((Option.some.inj H).trans hr_.out) (by decide)
                  · rw [if_neg c37] at H
                    exact absurd H (by simp)
        · rw [if_neg c16] at H
          exact absurd H (by simp)

/-- THE ONE PURE STATEMENT of columbariumlaw2_SumTurns: yours. -/
def columbariumlaw2_SumTurns.Pure : Prop := ∀ (l0 : List Int) (a1 : Int) (a2 : Int) (a3 : Int) (a4 : Int) (a5 : Int), l0.length ≤ maxLen → l0.length * 1 ≤ 140737488351232 → (∀ x ∈ l0, (Lit.int .u8 x).wf = true) → (Lit.int .i64 a1).wf = true → (Lit.int .u8 a2).wf = true → (Lit.int .u8 a3).wf = true → (Lit.int .u8 a4).wf = true → (Lit.int .u8 a5).wf = true → ∃ k, columbariumlaw2_SumTurns.f k l0 a1 a2 a3 a4 a5 = some true
theorem columbariumlaw2_SumTurns.walk (P : columbariumlaw2_SumTurns.Pure) (a0 : Option Addr) (len0 cap0 : Nat) (z0 : List Int) (a1 : Int) (a2 : Int) (a3 : Int) (a4 : Int) (a5 : Int) (w : World) (w0 : (a0 = none ∧ len0 = 0 ∧ cap0 = 0 ∧ z0 = []) ∨ ∃ x, a0 = some x ∧ len0 ≤ cap0 ∧ cap0 ≤ maxLen ∧ z0.length = cap0 ∧ (∀ i, i < z0.length → w.cell? (x.add i) = some (.int .u8 (z0.getD i 0))) ∧ ∀ n ∈ z0, (Lit.int .u8 n).wf = true) (y0 : len0 * 1 ≤ 140737488351232) (w1 : (Lit.int .i64 a1).wf = true) (w2 : (Lit.int .u8 a2).wf = true) (w3 : (Lit.int .u8 a3).wf = true) (w4 : (Lit.int .u8 a4).wf = true) (w5 : (Lit.int .u8 a5).wf = true) :
    Calls Try.prog 5 #[.slice a0 len0 cap0, .int .i64 a1, .int .u8 a2, .int .u8 a3, .int .u8 a4, .int .u8 a5] w fun e w' => e = .returned (.bool true) ∧ Below w.heap.size w w' := by
  obtain ⟨l0, rfl, hr0, hm0, hw0, hc0⟩ := ReadsInt.ofRowC w0
  obtain ⟨k, h⟩ := P l0 a1 a2 a3 a4 a5 hm0 y0 hw0 w1 w2 w3 w4 w5
  refine (columbariumlaw2_SumTurns.calls k _ _ l0 a1 a2 a3 a4 a5 true w (Kd.C_of_reads (d := (0 : Int)) (h1 := fun _ => rfl) hr0) hc0 h ⟨rfl⟩).mono ?_
  rintro e w' ⟨rfl, hd⟩
  exact ⟨rfl, hd⟩

end Go.Proofs.Ythpomojgkhjhbaa.PS
