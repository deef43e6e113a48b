-- Written by a program of this session, out of the translation; Lean checks it.
import Derived.Test.YtjpeojohakhmdaaPSx0
import Derived.Test.YtjpeojohakhmdaaPSslicesIsSortedint64int64
namespace Go.Proofs.Ytjpeojohakhmdaa.PS
open Go.RowKit Go.Proofs.YtjpeojohakhmdaaW.PrintWords Go.Proofs.YtjpeojohakhmdaaW.PrintLast Go.Proofs.YtjpeojohakhmdaaW.PrintMore
attribute [local go_sem high] pw_str_leq pw_str_gtr
attribute [local go_sem] pw_us8 pw_us32 pw_us64 pw_max2_str pw_min2_str max2_int min2_int max_two min_two max_three min_three max_four min_four   -- for this text's walks alone
set_option linter.unusedVariables false
set_option linter.unusedSimpArgs false

/-! ### ticks_Right: function 31 -/
def ticks_Right.j0 : Nat → Bool → Int → Int → List Int → Option (Bool)
  | 0, _, _, _, _ => none
  | k + 1, x28, x64002000, x64002001, x64002002 => if x28 = true then (some false) else (if x64002000 = 0 then (some (x64002001 == 0)) else (if 0 ≤ (wrap64 ((x64002002.length : Int) - 1)) then (if (wrap64 ((x64002002.length : Int) - 1)) < (x64002002.length : Int) then (if (rd x64002002 (wrap64 ((x64002002.length : Int) - 1))) = x64002001 then (some true) else (if (rd x64002002 (wrap64 ((x64002002.length : Int) - 1))) < x64002001 then (some ((Int.tmod x64002000 4) != 1)) else (some false))) else (none)) else (none)))
def ticks_Right.f (k : Nat) (a0_0 : Int) (a0_1 : Int) (l0_2 : List Int) : Option (Bool) := if a0_0 < 0 then (ticks_Right.j0 k true a0_0 a0_1 l0_2) else (if a0_0 > 1048576 then (ticks_Right.j0 k true a0_0 a0_1 l0_2) else (if (l0_2.length : Int) = (wrap64 (Int.tdiv (wrap64 ((wrap64 (a0_0 + 4)) - 1)) 4)) then ((slices_IsSorted_int64_int64.f k l0_2).bind fun t64002 => (ticks_Right.j0 k (!t64002) a0_0 a0_1 l0_2)) else (ticks_Right.j0 k true a0_0 a0_1 l0_2)))
theorem ticks_Right.mono_l : ∀ k, (∀ y0 y1 y2 y3, LeO (ticks_Right.j0 k y0 y1 y2 y3) (ticks_Right.j0 (k + 1) y0 y1 y2 y3))
  | 0 => fun _ _ _ _ r h => by simp [ticks_Right.j0] at h
  | k + 1 => by
    have ih0 := ticks_Right.mono_l k
    · intro y0 y1 y2 y3
      unfold ticks_Right.j0
      repeat' first
      | (with_reducible exact ih0 _ _ _ _)
      | (with_reducible exact slices_IsSorted_int64_int64.mono _ _)
      | (with_reducible exact LeO.refl _)
      | (with_reducible exact LeO.none _)
      | (with_reducible refine LeO.ite ?_ ?_)
      | (with_reducible refine LeO.bind ?_ (fun _ => ?_))
      | exact ih0 _ _ _ _
      | exact slices_IsSorted_int64_int64.mono _ _
      | exact LeO.none _
      | refine LeO.ite ?_ ?_
      | refine LeO.bind ?_ (fun _ => ?_)
theorem ticks_Right.mono : ∀ a0 a1 a2 k, LeO (ticks_Right.f k a0 a1 a2) (ticks_Right.f (k + 1) a0 a1 a2) := by
  intro a0 a1 a2 k
  have ih0 := ticks_Right.mono_l k
  unfold ticks_Right.f
  repeat' first
      | (with_reducible exact ih0 _ _ _ _)
      | (with_reducible exact slices_IsSorted_int64_int64.mono _ _)
      | (with_reducible exact LeO.refl _)
      | (with_reducible exact LeO.none _)
      | (with_reducible refine LeO.ite ?_ ?_)
      | (with_reducible refine LeO.bind ?_ (fun _ => ?_))
      | exact ih0 _ _ _ _
      | exact slices_IsSorted_int64_int64.mono _ _
      | exact LeO.none _
      | refine LeO.ite ?_ ?_
      | refine LeO.bind ?_ (fun _ => ?_)
set_option maxHeartbeats 8000000 in
set_option maxRecDepth 100000 in
theorem ticks_Right.calls (k : Nat) (a0_0 : Int) (a0_1 : Int) (A0_2 : Option Addr) (c0_2 : Nat) (l0_2 : List Int) (r : Bool) (w : World) (hr0_2 : Kd.C (Kd.int .i64) w A0_2 l0_2.length l0_2) (hc0_2 : l0_2.length ≤ c0_2) (h : ticks_Right.f k a0_0 a0_1 l0_2 = some r) :
    Calls Try.prog 31 #[.agg #[.int .i64 a0_0, .int .i64 a0_1, .slice A0_2 l0_2.length c0_2]] w fun e w' => e = .returned (.bool r) ∧ Below w.heap.size w w' := by
  have hu61 := Try.underlying61
  have HR0_2 := Aside0.mk hr0_2
  have HC0_2 := Aside0.mk hc0_2
  clear hr0_2 hc0_2
  have HB := Aside0.mk (Below.refl w.heap.size w)
  have H : (if a0_0 < 0 then (ticks_Right.j0 k true a0_0 a0_1 l0_2) else (if a0_0 > 1048576 then (ticks_Right.j0 k true a0_0 a0_1 l0_2) else (if (l0_2.length : Int) = (wrap64 (Int.tdiv (wrap64 ((wrap64 (a0_0 + 4)) - 1)) 4)) then ((slices_IsSorted_int64_int64.f k l0_2).bind fun t64002 => (ticks_Right.j0 k (!t64002) a0_0 a0_1 l0_2)) else (ticks_Right.j0 k true a0_0 a0_1 l0_2)))) = some r := h
  clear h
  have HC2 := Aside0.mk H
  clear H
  go_enter Try.func31, Try.ntmps31
  go_upto_region 1 with (first | ((with_reducible refine gate_dst (N := 1) rfl ?_); (try (refine gate_guard (by rfl) ?_; dsimp only)); refine box_event ?hg (N := 1) ?hd (cs := #[.int .i64 a0_0, .int .i64 a0_1, .slice A0_2 l0_2.length c0_2]) (t := 61) ?hr ?_; (case hd => rfl); (case hg => rfl); (case hr => first | (go_simp; done) | (go_simp; rfl)); intro gb64001 hg w3 hbox hb; have n0_ := Aside0.mk (below_step (by repeat (first | (with_reducible first | exact HB.out | apply below_alloc | apply pw_below_drewN | apply below_drew1) | exact HB.out)) hb); have n1_ := Aside0.mk (hbox); have n2_ := Aside0.mk ((by rw [hg]; exact (below_size (by repeat (first | (with_reducible first | exact HB.out | apply below_alloc | apply pw_below_drewN | apply below_drew1) | exact HB.out))) : w.heap.size ≤ gb64001)); have n3_ := Aside0.mk ((by rw [hg]; exact (below_size (by repeat (first | (with_reducible first | exact HB.out | apply below_alloc | apply pw_below_drewN | apply below_drew1) | exact HB.out))) : w.heap.size ≤ gb64001)); clear HB; have HB := n0_; have BK64001 := n1_; have GW64001 := n2_; have GE64001 := n3_; clear n0_ n1_ n2_ n3_; clear hb hbox hg))
  (try simp only [Act.put, List.setIfInBounds_toArray, List.set_cons_zero, List.set_cons_succ])
  go_cut [28] (fun v28 wc => ∃ (kq : Nat) (x28_1 : Bool), v28 = .bool x28_1 ∧ Aside0 (ticks_Right.j0 kq x28_1 a0_0 a0_1 l0_2 = some r) ∧ Aside0 (kq ≤ k) ∧ Aside0 (wc.heap[gb64001]? = some (.cells #[.int .i64 a0_0, .int .i64 a0_1, (.slice A0_2 l0_2.length c0_2)] 61 (0, 0))) ∧ Aside0 (Below w.heap.size w wc))
  case first =>
    have H := HC2.out
    clear HC2
    by_cases c4 : a0_0 < 0
    · rw [if_pos c4] at H
      have c4b0 : decide (a0_0 < 0) = true := decide_eq_true c4
      clear c4
      (first | rw [c4b0] | (simp only [i64_w, i32_w]; rw [c4b0]) | rw [c4b1] | skip)
      have H' := Aside0.mk H
      clear H
      have hcz5_0 : w3.cell? ⟨gb64001, 0, none⟩ = some (.int .i64 a0_0) := (blk_cell BK64001.out 0).trans rfl
      have hcz5_1 : w3.cell? ⟨gb64001, 1, none⟩ = some (.int .i64 a0_1) := (blk_cell BK64001.out 1).trans rfl
      have hcz5_2 : w3.cell? ⟨gb64001, 2, none⟩ = some (.slice A0_2 l0_2.length c0_2) := (blk_cell BK64001.out 2).trans rfl
      have hfz5_0 := blk_frozen BK64001.out 0
      have hfz5_1 := blk_frozen BK64001.out 1
      have hfz5_2 := blk_frozen BK64001.out 2
      go_wp2
      go_meet
      case rel => exact ⟨_, (true), (by first | rfl | (simp; done) | (simp [*]; done) | (refine congrArg (Value.int .i64) ?_; (try simp only [decide_eq_true_eq, decide_eq_false_iff_not] at *) <;> (unfold wrap64; omega))), H', ⟨by first | omega | exact Nat.le_refl _⟩, ⟨by (with_reducible repeat (first | refine blk_drewN ?_ _ | refine blk_drew ?_ | refine blk_alloc ?_ _)); exact BK64001.out⟩, ⟨by repeat (first | (with_reducible first | exact HB.out | apply below_alloc | apply pw_below_drewN | apply below_drew1 | refine below_set ?_ GE64001.out) | exact HB.out)⟩⟩
    · rw [if_neg c4] at H
      have c4b0 : decide (a0_0 < 0) = false := decide_eq_false c4
      clear c4
      (first | rw [c4b0] | (simp only [i64_w, i32_w]; rw [c4b0]) | rw [c4b1] | skip)
      by_cases c6 : a0_0 > 1048576
      · rw [if_pos c6] at H
        have c6b0 : decide (1048576 < a0_0) = true := decide_eq_true c6
        clear c6
        have H' := Aside0.mk H
        clear H
        have hcz7_0 : w3.cell? ⟨gb64001, 0, none⟩ = some (.int .i64 a0_0) := (blk_cell BK64001.out 0).trans rfl
        have hcz7_1 : w3.cell? ⟨gb64001, 1, none⟩ = some (.int .i64 a0_1) := (blk_cell BK64001.out 1).trans rfl
        have hcz7_2 : w3.cell? ⟨gb64001, 2, none⟩ = some (.slice A0_2 l0_2.length c0_2) := (blk_cell BK64001.out 2).trans rfl
        have hfz7_0 := blk_frozen BK64001.out 0
        have hfz7_1 := blk_frozen BK64001.out 1
        have hfz7_2 := blk_frozen BK64001.out 2
        go_wp2
        go_meet
        case rel => exact ⟨_, (true), (by first | rfl | (simp; done) | (simp [*]; done) | (refine congrArg (Value.int .i64) ?_; (try simp only [decide_eq_true_eq, decide_eq_false_iff_not] at *) <;> (unfold wrap64; omega))), H', ⟨by first | omega | exact Nat.le_refl _⟩, ⟨by (with_reducible repeat (first | refine blk_drewN ?_ _ | refine blk_drew ?_ | refine blk_alloc ?_ _)); exact BK64001.out⟩, ⟨by repeat (first | (with_reducible first | exact HB.out | apply below_alloc | apply pw_below_drewN | apply below_drew1 | refine below_set ?_ GE64001.out) | exact HB.out)⟩⟩
      · rw [if_neg c6] at H
        have c6b0 : decide (1048576 < a0_0) = false := decide_eq_false c6
        clear c6
        by_cases c8 : (l0_2.length : Int) = (wrap64 (Int.tdiv (wrap64 ((wrap64 (a0_0 + 4)) - 1)) 4))
        · rw [if_pos c8] at H
          have c8b0 : ((l0_2.length : Int) == (wrap64 (Int.tdiv (wrap64 ((wrap64 (a0_0 + 4)) - 1)) 4))) = true := beq_iff_eq.mpr c8
          have c8b1 : ((l0_2.length : Int) != (wrap64 (Int.tdiv (wrap64 ((wrap64 (a0_0 + 4)) - 1)) 4))) = false := bne_eq_false_iff_eq.mpr c8
          clear c8
          replace H := Option.bind_eq_some_iff.mp H
          obtain ⟨t64002, A90, H⟩ := H
          replace H : (ticks_Right.j0 k (!t64002) a0_0 a0_1 l0_2) = some r := H
          have A9 := Aside0.mk A90
          clear A90
          have H' := Aside0.mk H
          clear H
          have hcz10_0 : w3.cell? ⟨gb64001, 0, none⟩ = some (.int .i64 a0_0) := (blk_cell BK64001.out 0).trans rfl
          have hcz10_1 : w3.cell? ⟨gb64001, 1, none⟩ = some (.int .i64 a0_1) := (blk_cell BK64001.out 1).trans rfl
          have hcz10_2 : w3.cell? ⟨gb64001, 2, none⟩ = some (.slice A0_2 l0_2.length c0_2) := (blk_cell BK64001.out 2).trans rfl
          have hfz10_0 := blk_frozen BK64001.out 0
          have hfz10_1 := blk_frozen BK64001.out 1
          have hfz10_2 := blk_frozen BK64001.out 2
          go_wp2_with (first | (go_at_call 56; (with_reducible refine (slices_IsSorted_int64_int64.calls k _ _ l0_2 t64002 _ ?side1 ?side2 A9.out).mono ?_); (case side1 => repeat (first | exact (Kd.C_below HR0_2.out HB.out) | (with_reducible refine Kd.C_alloc ?_ _) | (with_reducible refine Kd.C_drewN ?_ _) | (with_reducible refine Kd.C_drew ?_))); (case side2 => exact HC0_2.out); rintro e w' ⟨rfl, ⟨nd, rfl⟩⟩))
          go_meet
          case rel => exact ⟨_, (!t64002), (by first | rfl | (simp; done) | (simp [*]; done) | (refine congrArg (Value.int .i64) ?_; (try simp only [decide_eq_true_eq, decide_eq_false_iff_not] at *) <;> (unfold wrap64; omega))), H', ⟨by first | omega | exact Nat.le_refl _⟩, ⟨by (with_reducible repeat (first | refine blk_drewN ?_ _ | refine blk_drew ?_ | refine blk_alloc ?_ _)); exact BK64001.out⟩, ⟨by repeat (first | (with_reducible first | exact HB.out | apply below_alloc | apply pw_below_drewN | apply below_drew1 | refine below_set ?_ GE64001.out) | exact HB.out)⟩⟩
        · rw [if_neg c8] at H
          have c8b0 : ((l0_2.length : Int) == (wrap64 (Int.tdiv (wrap64 ((wrap64 (a0_0 + 4)) - 1)) 4))) = false := beq_eq_false_iff_ne.mpr c8
          have c8b1 : ((l0_2.length : Int) != (wrap64 (Int.tdiv (wrap64 ((wrap64 (a0_0 + 4)) - 1)) 4))) = true := bne_iff_ne.mpr c8
          have H' := Aside0.mk H
          clear H
          have hcz11_0 : w3.cell? ⟨gb64001, 0, none⟩ = some (.int .i64 a0_0) := (blk_cell BK64001.out 0).trans rfl
          have hcz11_1 : w3.cell? ⟨gb64001, 1, none⟩ = some (.int .i64 a0_1) := (blk_cell BK64001.out 1).trans rfl
          have hcz11_2 : w3.cell? ⟨gb64001, 2, none⟩ = some (.slice A0_2 l0_2.length c0_2) := (blk_cell BK64001.out 2).trans rfl
          have hfz11_0 := blk_frozen BK64001.out 0
          have hfz11_1 := blk_frozen BK64001.out 1
          have hfz11_2 := blk_frozen BK64001.out 2
          go_wp2
          go_meet
          case rel => exact ⟨_, (true), (by first | rfl | (simp; done) | (simp [*]; done) | (refine congrArg (Value.int .i64) ?_; (try simp only [decide_eq_true_eq, decide_eq_false_iff_not] at *) <;> (unfold wrap64; omega))), H', ⟨by first | omega | exact Nat.le_refl _⟩, ⟨by (with_reducible repeat (first | refine blk_drewN ?_ _ | refine blk_drew ?_ | refine blk_alloc ?_ _)); exact BK64001.out⟩, ⟨by repeat (first | (with_reducible first | exact HB.out | apply below_alloc | apply pw_below_drewN | apply below_drew1 | refine below_set ?_ GE64001.out) | exact HB.out)⟩⟩
  case rest =>
    clear HC2
    try clear p2
    try clear c3
    try clear c4
    try clear c4b0
    try clear c4b1
    try clear c6
    try clear c6b0
    try clear p6
    try clear c8
    try clear c8b0
    try clear c8b1
    try clear hcz10_0
    try clear hcz10_1
    try clear hcz10_2
    try clear hcz11_0
    try clear hcz11_1
    try clear hcz11_2
    try clear hcz5_0
    try clear hcz5_1
    try clear hcz5_2
    try clear hcz7_0
    try clear hcz7_1
    try clear hcz7_2
    try clear hfz10_0
    try clear hfz10_1
    try clear hfz10_2
    try clear hfz11_0
    try clear hfz11_1
    try clear hfz11_2
    try clear hfz5_0
    try clear hfz5_1
    try clear hfz5_2
    try clear hfz7_0
    try clear hfz7_1
    try clear hfz7_2
    obtain ⟨kq, x28_1, rfl, HA, HJ1, BK64001, HB⟩ := hcut
    cases kq with
    | zero => exact absurd HA.out (by simp [ticks_Right.j0])
    | succ kj1 =>
      have H := HA.out
      clear HA
      simp only [ticks_Right.j0] at H
      by_cases c12 : x28_1 = true
      · subst c12
        have H1 : (some false) = some r := by rw [if_pos rfl] at H; exact H
        clear H
        have H := H1
        clear H1
        obtain rfl := Option.some.inj H
        go_wp2
        go_ret
        exact ⟨by first | rfl | (simp [errW_none, errW_some] <;> rfl) | (simp [*, errW_none, errW_some] <;> rfl), by repeat (first | (with_reducible first | exact HB.out | apply below_alloc | apply pw_below_drewN | apply below_drew1 | refine below_set ?_ GE64001.out) | exact HB.out)⟩
      · replace c12 := Bool.eq_false_iff.mpr c12
        subst c12
        have H1 : (if a0_0 = 0 then (some (a0_1 == 0)) else (if 0 ≤ (wrap64 ((l0_2.length : Int) - 1)) then (if (wrap64 ((l0_2.length : Int) - 1)) < (l0_2.length : Int) then (if (rd l0_2 (wrap64 ((l0_2.length : Int) - 1))) = a0_1 then (some true) else (if (rd l0_2 (wrap64 ((l0_2.length : Int) - 1))) < a0_1 then (some ((Int.tmod a0_0 4) != 1)) else (some false))) else (none)) else (none))) = some r := by rw [if_neg (show ¬ (false = true) by decide)] at H; exact H
        clear H
        have H := H1
        clear H1
        by_cases c13 : a0_0 = 0
        · rw [if_pos c13] at H
          have c13b0 : (a0_0 == 0) = true := beq_iff_eq.mpr c13
          have c13b1 : (a0_0 != 0) = false := bne_eq_false_iff_eq.mpr c13
          clear c13
          obtain rfl := Option.some.inj H
          have hcz14_0 : wc.cell? ⟨gb64001, 0, none⟩ = some (.int .i64 a0_0) := (blk_cell BK64001.out 0).trans rfl
          have hcz14_1 : wc.cell? ⟨gb64001, 1, none⟩ = some (.int .i64 a0_1) := (blk_cell BK64001.out 1).trans rfl
          have hcz14_2 : wc.cell? ⟨gb64001, 2, none⟩ = some (.slice A0_2 l0_2.length c0_2) := (blk_cell BK64001.out 2).trans rfl
          have hfz14_0 := blk_frozen BK64001.out 0
          have hfz14_1 := blk_frozen BK64001.out 1
          have hfz14_2 := blk_frozen BK64001.out 2
          go_wp2
          go_ret
          exact ⟨by first | rfl | (simp [errW_none, errW_some] <;> rfl) | (simp [*, errW_none, errW_some] <;> rfl), by repeat (first | (with_reducible first | exact HB.out | apply below_alloc | apply pw_below_drewN | apply below_drew1 | refine below_set ?_ GE64001.out) | exact HB.out)⟩
        · rw [if_neg c13] at H
          have c13b0 : (a0_0 == 0) = false := beq_eq_false_iff_ne.mpr c13
          have c13b1 : (a0_0 != 0) = true := bne_iff_ne.mpr c13
          obtain ⟨ji15, hji15⟩ : ∃ j_ : Int, (wrap64 ((l0_2.length : Int) - 1)) = j_ := ⟨_, rfl⟩
          replace H : (if 0 ≤ (ji15) then (if (ji15) < (l0_2.length : Int) then (if (rd l0_2 (ji15)) = a0_1 then (some true) else (if (rd l0_2 (ji15)) < a0_1 then (some ((Int.tmod a0_0 4) != 1)) else (some false))) else (none)) else (none)) = some r := by first | (rw [hji15] at H; exact H) | (simp only [hji15] at H ⊢; exact H)
          have hji15w : (IntKind.i64.wrap ((l0_2.length : Int) - 1)) = ji15 := (i64_w _).trans hji15
          (try ((have hji15v : ((l0_2.length : Int) - 1) = ji15 := by ((have h_ := hji15); ((try simp only [decide_eq_true_eq] at *) <;> (unfold wrap64 at h_; omega)))); (have hji15l : 0 ≤ ji15 := by ((have h_ := hji15); ((try simp only [decide_eq_true_eq] at *) <;> (unfold wrap64 at h_; omega)))); (have hji15u : ji15 ≤ 64 := by ((have h_ := hji15); ((try simp only [decide_eq_true_eq] at *) <;> (unfold wrap64 at h_; omega))))))
          by_cases c16 : 0 ≤ (ji15)
          · rw [if_pos c16] at H
            have c16b0 : decide (0 ≤ (ji15)) = true := decide_eq_true c16
            clear c16
            by_cases c17 : (ji15) < (l0_2.length : Int)
            · rw [if_pos c17] at H
              have c17b0 : decide ((ji15) < (l0_2.length : Int)) = true := decide_eq_true c17
              clear c17
              by_cases c18 : (rd l0_2 (ji15)) = a0_1
              · rw [if_pos c18] at H
                have c18b0 : ((rd l0_2 (ji15)) == a0_1) = true := beq_iff_eq.mpr c18
                have c18b1 : ((rd l0_2 (ji15)) != a0_1) = false := bne_eq_false_iff_eq.mpr c18
                clear c18
                obtain rfl := Option.some.inj H
                have hcz19_0 : wc.cell? ⟨gb64001, 0, none⟩ = some (.int .i64 a0_0) := (blk_cell BK64001.out 0).trans rfl
                have hcz19_1 : wc.cell? ⟨gb64001, 1, none⟩ = some (.int .i64 a0_1) := (blk_cell BK64001.out 1).trans rfl
                have hcz19_2 : wc.cell? ⟨gb64001, 2, none⟩ = some (.slice A0_2 l0_2.length c0_2) := (blk_cell BK64001.out 2).trans rfl
                have hfz19_0 := blk_frozen BK64001.out 0
                have hfz19_1 := blk_frozen BK64001.out 1
                have hfz19_2 := blk_frozen BK64001.out 2
                have p64003 : 0 ≤ ((ji15) : Int) := of_decide_eq_true (by first | (with_reducible assumption) | assumption)
                have q64003 : (ji15) < (l0_2.length : Int) := of_decide_eq_true (by first | (with_reducible assumption) | assumption)
                obtain ⟨ad64003, e64003, hx64003_0⟩ := Kd.at_int HR0_2.out (ji15) p64003 q64003
                cases e64003
                replace hx64003_0 := (HB.out.cell (World.block_lt_of_cell? w _ hx64003_0)).trans hx64003_0
                replace p64003 := eq_true p64003
                replace q64003 := eq_true q64003
                go_wp2
                go_ret
                exact ⟨by first | rfl | (simp [errW_none, errW_some] <;> rfl) | (simp only [← hji15]; first | rfl | (simp [errW_none, errW_some] <;> rfl)) | (simp [*, errW_none, errW_some] <;> rfl), by repeat (first | (with_reducible first | exact HB.out | apply below_alloc | apply pw_below_drewN | apply below_drew1 | refine below_set ?_ GE64001.out) | exact HB.out)⟩
              · rw [if_neg c18] at H
                have c18b0 : ((rd l0_2 (ji15)) == a0_1) = false := beq_eq_false_iff_ne.mpr c18
                have c18b1 : ((rd l0_2 (ji15)) != a0_1) = true := bne_iff_ne.mpr c18
                by_cases c20 : (rd l0_2 (ji15)) < a0_1
                · rw [if_pos c20] at H
                  have c20b0 : decide ((rd l0_2 (ji15)) < a0_1) = true := decide_eq_true c20
                  clear c20
                  obtain rfl := Option.some.inj H
                  have hcz21_0 : wc.cell? ⟨gb64001, 0, none⟩ = some (.int .i64 a0_0) := (blk_cell BK64001.out 0).trans rfl
                  have hcz21_1 : wc.cell? ⟨gb64001, 1, none⟩ = some (.int .i64 a0_1) := (blk_cell BK64001.out 1).trans rfl
                  have hcz21_2 : wc.cell? ⟨gb64001, 2, none⟩ = some (.slice A0_2 l0_2.length c0_2) := (blk_cell BK64001.out 2).trans rfl
                  have hfz21_0 := blk_frozen BK64001.out 0
                  have hfz21_1 := blk_frozen BK64001.out 1
                  have hfz21_2 := blk_frozen BK64001.out 2
                  have p64003 : 0 ≤ ((ji15) : Int) := of_decide_eq_true (by first | (with_reducible assumption) | assumption)
                  have q64003 : (ji15) < (l0_2.length : Int) := of_decide_eq_true (by first | (with_reducible assumption) | assumption)
                  obtain ⟨ad64003, e64003, hx64003_0⟩ := Kd.at_int HR0_2.out (ji15) p64003 q64003
                  cases e64003
                  replace hx64003_0 := (HB.out.cell (World.block_lt_of_cell? w _ hx64003_0)).trans hx64003_0
                  replace p64003 := eq_true p64003
                  replace q64003 := eq_true q64003
                  go_wp2
                  go_ret
                  exact ⟨by first | rfl | (simp [errW_none, errW_some] <;> rfl) | (simp only [← hji15]; first | rfl | (simp [errW_none, errW_some] <;> rfl)) | (simp [*, errW_none, errW_some] <;> rfl), by repeat (first | (with_reducible first | exact HB.out | apply below_alloc | apply pw_below_drewN | apply below_drew1 | refine below_set ?_ GE64001.out) | exact HB.out)⟩
                · rw [if_neg c20] at H
                  have c20b0 : decide ((rd l0_2 (ji15)) < a0_1) = false := decide_eq_false c20
                  clear c20
                  obtain rfl := Option.some.inj H
                  have hcz22_0 : wc.cell? ⟨gb64001, 0, none⟩ = some (.int .i64 a0_0) := (blk_cell BK64001.out 0).trans rfl
                  have hcz22_1 : wc.cell? ⟨gb64001, 1, none⟩ = some (.int .i64 a0_1) := (blk_cell BK64001.out 1).trans rfl
                  have hcz22_2 : wc.cell? ⟨gb64001, 2, none⟩ = some (.slice A0_2 l0_2.length c0_2) := (blk_cell BK64001.out 2).trans rfl
                  have hfz22_0 := blk_frozen BK64001.out 0
                  have hfz22_1 := blk_frozen BK64001.out 1
                  have hfz22_2 := blk_frozen BK64001.out 2
                  have p64003 : 0 ≤ ((ji15) : Int) := of_decide_eq_true (by first | (with_reducible assumption) | assumption)
                  have q64003 : (ji15) < (l0_2.length : Int) := of_decide_eq_true (by first | (with_reducible assumption) | assumption)
                  obtain ⟨ad64003, e64003, hx64003_0⟩ := Kd.at_int HR0_2.out (ji15) p64003 q64003
                  cases e64003
                  replace hx64003_0 := (HB.out.cell (World.block_lt_of_cell? w _ hx64003_0)).trans hx64003_0
                  replace p64003 := eq_true p64003
                  replace q64003 := eq_true q64003
                  go_wp2
                  go_ret
                  exact ⟨by first | rfl | (simp [errW_none, errW_some] <;> rfl) | (simp only [← hji15]; first | rfl | (simp [errW_none, errW_some] <;> rfl)) | (simp [*, errW_none, errW_some] <;> rfl), by repeat (first | (with_reducible first | exact HB.out | apply below_alloc | apply pw_below_drewN | apply below_drew1 | refine below_set ?_ GE64001.out) | exact HB.out)⟩
            · rw [if_neg c17] at H
              exact absurd H (by simp)
          · rw [if_neg c16] at H
            exact absurd H (by simp)

end Go.Proofs.Ytjpeojohakhmdaa.PS
