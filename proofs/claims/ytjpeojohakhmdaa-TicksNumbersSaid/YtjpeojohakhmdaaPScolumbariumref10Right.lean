-- Written by a program of this session, out of the translation; Lean checks it.
import Derived.Test.YtjpeojohakhmdaaPSx0
namespace Go.Proofs.Ytjpeojohakhmdaa.PS
open Go.RowKit Go.Proofs.YtjpeojohakhmdaaW.PrintWords Go.Proofs.YtjpeojohakhmdaaW.PrintLast Go.Proofs.YtjpeojohakhmdaaW.PrintMore
attribute [local go_sem high] pw_str_leq pw_str_gtr
attribute [local go_sem] pw_us8 pw_us32 pw_us64 pw_max2_str pw_min2_str max2_int min2_int max_two min_two max_three min_three max_four min_four   -- for this text's walks alone
set_option linter.unusedVariables false
set_option linter.unusedSimpArgs false

/-! ### columbariumref10_Right: function 40 -/
mutual
def columbariumref10_Right.j0 : Nat → Bool → Int → Int → List Int → Option (Bool)
  | 0, _, _, _, _ => none
  | k + 1, x22, x82002000, x82002001, x82002002 => if x22 = true then (some false) else (if x82002000 = 0 then (some (x82002001 == 0)) else (columbariumref10_Right.l0 k 1 x82002000 x82002001 x82002002))
def columbariumref10_Right.l0 : Nat → Int → Int → Int → List Int → Option (Bool)
  | 0, _, _, _, _ => none
  | k + 1, x3, x82002000, x82002001, x82002002 => if x3 < (x82002002.length : Int) then (if 0 ≤ x3 then (if 0 ≤ (wrap64 (x3 - 1)) then (if (wrap64 (x3 - 1)) < (x82002002.length : Int) then (if (rd x82002002 x3) < (rd x82002002 (wrap64 (x3 - 1))) then (some false) else (columbariumref10_Right.l0 k (wrap64 (x3 + 1)) x82002000 x82002001 x82002002)) else (none)) else (none)) else (none)) else (if 0 ≤ (wrap64 ((x82002002.length : Int) - 1)) then (if (wrap64 ((x82002002.length : Int) - 1)) < (x82002002.length : Int) then (if (rd x82002002 (wrap64 ((x82002002.length : Int) - 1))) ≤ x82002001 then (if (Int.tmod x82002000 4) = 1 then (some ((rd x82002002 (wrap64 ((x82002002.length : Int) - 1))) == x82002001)) else (some true)) else (some false)) else (none)) else (none))
end
def columbariumref10_Right.f (k : Nat) (a0_0 : Int) (a0_1 : Int) (l0_2 : List Int) : Option (Bool) := if a0_0 < 0 then (columbariumref10_Right.j0 k true a0_0 a0_1 l0_2) else (if a0_0 > 1048576 then (columbariumref10_Right.j0 k true a0_0 a0_1 l0_2) else (columbariumref10_Right.j0 k ((l0_2.length : Int) != (wrap64 (Int.tdiv (wrap64 ((wrap64 (a0_0 + 4)) - 1)) 4))) a0_0 a0_1 l0_2))
theorem columbariumref10_Right.mono_l : ∀ k, (∀ y0 y1 y2 y3, LeO (columbariumref10_Right.j0 k y0 y1 y2 y3) (columbariumref10_Right.j0 (k + 1) y0 y1 y2 y3)) ∧ (∀ y0 y1 y2 y3, LeO (columbariumref10_Right.l0 k y0 y1 y2 y3) (columbariumref10_Right.l0 (k + 1) y0 y1 y2 y3))
  | 0 => ⟨fun _ _ _ _ r h => by simp [columbariumref10_Right.j0] at h, fun _ _ _ _ r h => by simp [columbariumref10_Right.l0] at h⟩
  | k + 1 => by
    obtain ⟨ih0, ih1⟩ := columbariumref10_Right.mono_l k
    refine ⟨?_, ?_⟩
    · intro y0 y1 y2 y3
      unfold columbariumref10_Right.j0
      repeat' first
      | (with_reducible exact ih0 _ _ _ _)
      | (with_reducible exact ih1 _ _ _ _)
      | (with_reducible exact LeO.refl _)
      | (with_reducible exact LeO.none _)
      | (with_reducible refine LeO.ite ?_ ?_)
      | (with_reducible refine LeO.bind ?_ (fun _ => ?_))
      | exact ih0 _ _ _ _
      | exact ih1 _ _ _ _
      | exact LeO.none _
      | refine LeO.ite ?_ ?_
      | refine LeO.bind ?_ (fun _ => ?_)
    · intro y0 y1 y2 y3
      unfold columbariumref10_Right.l0
      repeat' first
      | (with_reducible exact ih0 _ _ _ _)
      | (with_reducible exact ih1 _ _ _ _)
      | (with_reducible exact LeO.refl _)
      | (with_reducible exact LeO.none _)
      | (with_reducible refine LeO.ite ?_ ?_)
      | (with_reducible refine LeO.bind ?_ (fun _ => ?_))
      | exact ih0 _ _ _ _
      | exact ih1 _ _ _ _
      | exact LeO.none _
      | refine LeO.ite ?_ ?_
      | refine LeO.bind ?_ (fun _ => ?_)
theorem columbariumref10_Right.mono : ∀ a0 a1 a2 k, LeO (columbariumref10_Right.f k a0 a1 a2) (columbariumref10_Right.f (k + 1) a0 a1 a2) := by
  intro a0 a1 a2 k
  obtain ⟨ih0, ih1⟩ := columbariumref10_Right.mono_l k
  unfold columbariumref10_Right.f
  repeat' first
      | (with_reducible exact ih0 _ _ _ _)
      | (with_reducible exact ih1 _ _ _ _)
      | (with_reducible exact LeO.refl _)
      | (with_reducible exact LeO.none _)
      | (with_reducible refine LeO.ite ?_ ?_)
      | (with_reducible refine LeO.bind ?_ (fun _ => ?_))
      | exact ih0 _ _ _ _
      | exact ih1 _ _ _ _
      | exact LeO.none _
      | refine LeO.ite ?_ ?_
      | refine LeO.bind ?_ (fun _ => ?_)
set_option maxHeartbeats 8000000 in
set_option maxRecDepth 100000 in
theorem columbariumref10_Right.calls (k : Nat) (a0_0 : Int) (a0_1 : Int) (A0_2 : Option Addr) (c0_2 : Nat) (l0_2 : List Int) (r : Bool) (w : World) (hr0_2 : Kd.C (Kd.int .i64) w A0_2 l0_2.length l0_2) (hc0_2 : l0_2.length ≤ c0_2) (h : columbariumref10_Right.f k a0_0 a0_1 l0_2 = some r) :
    Calls Try.prog 40 #[.agg #[.int .i64 a0_0, .int .i64 a0_1, .slice A0_2 l0_2.length c0_2]] w fun e w' => e = .returned (.bool r) ∧ Below w.heap.size w w' := by
  have hu70 := Try.underlying70
  have HR0_2 := Aside0.mk hr0_2
  have HC0_2 := Aside0.mk hc0_2
  clear hr0_2 hc0_2
  have HB := Aside0.mk (Below.refl w.heap.size w)
  have H : (if a0_0 < 0 then (columbariumref10_Right.j0 k true a0_0 a0_1 l0_2) else (if a0_0 > 1048576 then (columbariumref10_Right.j0 k true a0_0 a0_1 l0_2) else (columbariumref10_Right.j0 k ((l0_2.length : Int) != (wrap64 (Int.tdiv (wrap64 ((wrap64 (a0_0 + 4)) - 1)) 4))) a0_0 a0_1 l0_2))) = some r := h
  clear h
  have HC2 := Aside0.mk H
  clear H
  go_enter Try.func40, Try.ntmps40
  go_upto_region 1 with (first | ((with_reducible refine gate_dst (N := 1) rfl ?_); (try (refine gate_guard (by rfl) ?_; dsimp only)); refine box_event ?hg (N := 1) ?hd (cs := #[.int .i64 a0_0, .int .i64 a0_1, .slice A0_2 l0_2.length c0_2]) (t := 70) ?hr ?_; (case hd => rfl); (case hg => rfl); (case hr => first | (go_simp; done) | (go_simp; rfl)); intro gb82001 hg w3 hbox hb; have n0_ := Aside0.mk (below_step (by repeat (first | (with_reducible first | exact HB.out | apply below_alloc | apply pw_below_drewN | apply below_drew1) | exact HB.out)) hb); have n1_ := Aside0.mk (hbox); have n2_ := Aside0.mk ((by rw [hg]; exact (below_size (by repeat (first | (with_reducible first | exact HB.out | apply below_alloc | apply pw_below_drewN | apply below_drew1) | exact HB.out))) : w.heap.size ≤ gb82001)); have n3_ := Aside0.mk ((by rw [hg]; exact (below_size (by repeat (first | (with_reducible first | exact HB.out | apply below_alloc | apply pw_below_drewN | apply below_drew1) | exact HB.out))) : w.heap.size ≤ gb82001)); clear HB; have HB := n0_; have BK82001 := n1_; have GW82001 := n2_; have GE82001 := n3_; clear n0_ n1_ n2_ n3_; clear hb hbox hg))
  repeat (go_quiet (first | ((with_reducible refine gate_dst (N := 1) rfl ?_); (try (refine gate_guard (by rfl) ?_; dsimp only)); refine box_event ?hg (N := 1) ?hd (cs := #[.int .i64 a0_0, .int .i64 a0_1, .slice A0_2 l0_2.length c0_2]) (t := 70) ?hr ?_; (case hd => rfl); (case hg => rfl); (case hr => first | (go_simp; done) | (go_simp; rfl)); intro gb82001 hg w3 hbox hb; have n0_ := Aside0.mk (below_step (by repeat (first | (with_reducible first | exact HB.out | apply below_alloc | apply pw_below_drewN | apply below_drew1) | exact HB.out)) hb); have n1_ := Aside0.mk (hbox); have n2_ := Aside0.mk ((by rw [hg]; exact (below_size (by repeat (first | (with_reducible first | exact HB.out | apply below_alloc | apply pw_below_drewN | apply below_drew1) | exact HB.out))) : w.heap.size ≤ gb82001)); have n3_ := Aside0.mk ((by rw [hg]; exact (below_size (by repeat (first | (with_reducible first | exact HB.out | apply below_alloc | apply pw_below_drewN | apply below_drew1) | exact HB.out))) : w.heap.size ≤ gb82001)); clear HB; have HB := n0_; have BK82001 := n1_; have GW82001 := n2_; have GE82001 := n3_; clear n0_ n1_ n2_ n3_; clear hb hbox hg)); go_upto_region 1 with (first | ((with_reducible refine gate_dst (N := 1) rfl ?_); (try (refine gate_guard (by rfl) ?_; dsimp only)); refine box_event ?hg (N := 1) ?hd (cs := #[.int .i64 a0_0, .int .i64 a0_1, .slice A0_2 l0_2.length c0_2]) (t := 70) ?hr ?_; (case hd => rfl); (case hg => rfl); (case hr => first | (go_simp; done) | (go_simp; rfl)); intro gb82001 hg w3 hbox hb; have n0_ := Aside0.mk (below_step (by repeat (first | (with_reducible first | exact HB.out | apply below_alloc | apply pw_below_drewN | apply below_drew1) | exact HB.out)) hb); have n1_ := Aside0.mk (hbox); have n2_ := Aside0.mk ((by rw [hg]; exact (below_size (by repeat (first | (with_reducible first | exact HB.out | apply below_alloc | apply pw_below_drewN | apply below_drew1) | exact HB.out))) : w.heap.size ≤ gb82001)); have n3_ := Aside0.mk ((by rw [hg]; exact (below_size (by repeat (first | (with_reducible first | exact HB.out | apply below_alloc | apply pw_below_drewN | apply below_drew1) | exact HB.out))) : w.heap.size ≤ gb82001)); clear HB; have HB := n0_; have BK82001 := n1_; have GW82001 := n2_; have GE82001 := n3_; clear n0_ n1_ n2_ n3_; clear hb hbox hg)))
  (try simp only [Act.put, List.setIfInBounds_toArray, List.set_cons_zero, List.set_cons_succ])
  go_cut [22] (fun v22 wc => ∃ (kq : Nat) (x22_1 : Bool), v22 = .bool x22_1 ∧ Aside0 (columbariumref10_Right.j0 kq x22_1 a0_0 a0_1 l0_2 = some r) ∧ Aside0 (kq ≤ k) ∧ Aside0 (wc.heap[gb82001]? = some (.cells #[.int .i64 a0_0, .int .i64 a0_1, (.slice A0_2 l0_2.length c0_2)] 70 (0, 0))) ∧ Aside0 (Below w.heap.size w wc))
  case first =>
    have H := HC2.out
    clear HC2
    by_cases c4 : a0_0 < 0
    · rw [if_pos c4] at H
      have c4b0 : decide (a0_0 < 0) = true := decide_eq_true c4
      clear c4
      (first | rw [c4b0] | (simp only [i64_w, i32_w]; rw [c4b0]) | rw [c4b1] | skip)
      have H' := Aside0.mk H
      clear H
      have hcz5_0 : w3.cell? ⟨gb82001, 0, none⟩ = some (.int .i64 a0_0) := (blk_cell BK82001.out 0).trans rfl
      have hcz5_1 : w3.cell? ⟨gb82001, 1, none⟩ = some (.int .i64 a0_1) := (blk_cell BK82001.out 1).trans rfl
      have hcz5_2 : w3.cell? ⟨gb82001, 2, none⟩ = some (.slice A0_2 l0_2.length c0_2) := (blk_cell BK82001.out 2).trans rfl
      have hfz5_0 := blk_frozen BK82001.out 0
      have hfz5_1 := blk_frozen BK82001.out 1
      have hfz5_2 := blk_frozen BK82001.out 2
      go_wp2
      repeat (go_quiet (fail); try go_wp2)
      go_meet
      case rel => exact ⟨_, (true), (by first | rfl | (simp; done) | (simp [*]; done) | (refine congrArg (Value.int .i64) ?_; (try simp only [decide_eq_true_eq, decide_eq_false_iff_not] at *) <;> (unfold wrap64; omega))), H', ⟨by first | omega | exact Nat.le_refl _⟩, ⟨by (with_reducible repeat (first | refine blk_drewN ?_ _ | refine blk_drew ?_ | refine blk_alloc ?_ _)); exact BK82001.out⟩, ⟨by repeat (first | (with_reducible first | exact HB.out | apply below_alloc | apply pw_below_drewN | apply below_drew1 | refine below_set ?_ GE82001.out) | exact HB.out)⟩⟩
    · rw [if_neg c4] at H
      have c4b0 : decide (a0_0 < 0) = false := decide_eq_false c4
      clear c4
      (first | rw [c4b0] | (simp only [i64_w, i32_w]; rw [c4b0]) | rw [c4b1] | skip)
      by_cases c6 : a0_0 > 1048576
      · rw [if_pos c6] at H
        have c6b0 : decide (1048576 < a0_0) = true := decide_eq_true c6
        clear c6
        have H' := Aside0.mk H
        clear H
        have hcz7_0 : w3.cell? ⟨gb82001, 0, none⟩ = some (.int .i64 a0_0) := (blk_cell BK82001.out 0).trans rfl
        have hcz7_1 : w3.cell? ⟨gb82001, 1, none⟩ = some (.int .i64 a0_1) := (blk_cell BK82001.out 1).trans rfl
        have hcz7_2 : w3.cell? ⟨gb82001, 2, none⟩ = some (.slice A0_2 l0_2.length c0_2) := (blk_cell BK82001.out 2).trans rfl
        have hfz7_0 := blk_frozen BK82001.out 0
        have hfz7_1 := blk_frozen BK82001.out 1
        have hfz7_2 := blk_frozen BK82001.out 2
        go_wp2
        repeat (go_quiet (fail); try go_wp2)
        go_meet
        case rel => exact ⟨_, (true), (by first | rfl | (simp; done) | (simp [*]; done) | (refine congrArg (Value.int .i64) ?_; (try simp only [decide_eq_true_eq, decide_eq_false_iff_not] at *) <;> (unfold wrap64; omega))), H', ⟨by first | omega | exact Nat.le_refl _⟩, ⟨by (with_reducible repeat (first | refine blk_drewN ?_ _ | refine blk_drew ?_ | refine blk_alloc ?_ _)); exact BK82001.out⟩, ⟨by repeat (first | (with_reducible first | exact HB.out | apply below_alloc | apply pw_below_drewN | apply below_drew1 | refine below_set ?_ GE82001.out) | exact HB.out)⟩⟩
      · rw [if_neg c6] at H
        have c6b0 : decide (1048576 < a0_0) = false := decide_eq_false c6
        clear c6
        have H' := Aside0.mk H
        clear H
        have hcz8_0 : w3.cell? ⟨gb82001, 0, none⟩ = some (.int .i64 a0_0) := (blk_cell BK82001.out 0).trans rfl
        have hcz8_1 : w3.cell? ⟨gb82001, 1, none⟩ = some (.int .i64 a0_1) := (blk_cell BK82001.out 1).trans rfl
        have hcz8_2 : w3.cell? ⟨gb82001, 2, none⟩ = some (.slice A0_2 l0_2.length c0_2) := (blk_cell BK82001.out 2).trans rfl
        have hfz8_0 := blk_frozen BK82001.out 0
        have hfz8_1 := blk_frozen BK82001.out 1
        have hfz8_2 := blk_frozen BK82001.out 2
        go_wp2
        repeat (go_quiet (fail); try go_wp2)
        go_meet
        case rel => exact ⟨_, (((l0_2.length : Int) != (wrap64 (Int.tdiv (wrap64 ((wrap64 (a0_0 + 4)) - 1)) 4)))), (by first | rfl | (simp; done) | (simp [*]; done) | (refine congrArg (Value.int .i64) ?_; (try simp only [decide_eq_true_eq, decide_eq_false_iff_not] at *) <;> (unfold wrap64; omega))), H', ⟨by first | omega | exact Nat.le_refl _⟩, ⟨by (with_reducible repeat (first | refine blk_drewN ?_ _ | refine blk_drew ?_ | refine blk_alloc ?_ _)); exact BK82001.out⟩, ⟨by repeat (first | (with_reducible first | exact HB.out | apply below_alloc | apply pw_below_drewN | apply below_drew1 | refine below_set ?_ GE82001.out) | exact HB.out)⟩⟩
  case rest =>
    clear HC2
    try clear p2
    try clear c4
    try clear c4b0
    try clear c4b1
    try clear c6
    try clear c6b0
    try clear p6
    try clear hcz5_0
    try clear hcz5_1
    try clear hcz5_2
    try clear hcz7_0
    try clear hcz7_1
    try clear hcz7_2
    try clear hcz8_0
    try clear hcz8_1
    try clear hcz8_2
    try clear hfz5_0
    try clear hfz5_1
    try clear hfz5_2
    try clear hfz7_0
    try clear hfz7_1
    try clear hfz7_2
    try clear hfz8_0
    try clear hfz8_1
    try clear hfz8_2
    obtain ⟨kq, x22_1, rfl, HA, HJ1, BK82001, HB⟩ := hcut
    cases kq with
    | zero => exact absurd HA.out (by simp [columbariumref10_Right.j0])
    | succ kj1 =>
      have H := HA.out
      clear HA
      simp only [columbariumref10_Right.j0] at H
      by_cases c9 : x22_1 = true
      · subst c9
        have H1 : (some false) = some r := by rw [if_pos rfl] at H; exact H
        clear H
        have H := H1
        clear H1
        obtain rfl := Option.some.inj H
        go_wp2
        repeat (go_quiet (fail); try go_wp2)
        go_ret
        exact ⟨by first | rfl | (simp [errW_none, errW_some] <;> rfl) | (simp [*, errW_none, errW_some] <;> rfl), by repeat (first | (with_reducible first | exact HB.out | apply below_alloc | apply pw_below_drewN | apply below_drew1 | refine below_set ?_ GE82001.out) | exact HB.out)⟩
      · replace c9 := Bool.eq_false_iff.mpr c9
        subst c9
        have H1 : (if a0_0 = 0 then (some (a0_1 == 0)) else (columbariumref10_Right.l0 kj1 1 a0_0 a0_1 l0_2)) = some r := by rw [if_neg (show ¬ (false = true) by decide)] at H; exact H
        clear H
        have H := H1
        clear H1
        by_cases c10 : a0_0 = 0
        · rw [if_pos c10] at H
          have c10b0 : (a0_0 == 0) = true := beq_iff_eq.mpr c10
          have c10b1 : (a0_0 != 0) = false := bne_eq_false_iff_eq.mpr c10
          clear c10
          obtain rfl := Option.some.inj H
          have hcz11_0 : wc.cell? ⟨gb82001, 0, none⟩ = some (.int .i64 a0_0) := (blk_cell BK82001.out 0).trans rfl
          have hcz11_1 : wc.cell? ⟨gb82001, 1, none⟩ = some (.int .i64 a0_1) := (blk_cell BK82001.out 1).trans rfl
          have hcz11_2 : wc.cell? ⟨gb82001, 2, none⟩ = some (.slice A0_2 l0_2.length c0_2) := (blk_cell BK82001.out 2).trans rfl
          have hfz11_0 := blk_frozen BK82001.out 0
          have hfz11_1 := blk_frozen BK82001.out 1
          have hfz11_2 := blk_frozen BK82001.out 2
          go_wp2
          repeat (go_quiet (fail); try go_wp2)
          go_ret
          exact ⟨by first | rfl | (simp [errW_none, errW_some] <;> rfl) | (simp [*, errW_none, errW_some] <;> rfl), by repeat (first | (with_reducible first | exact HB.out | apply below_alloc | apply pw_below_drewN | apply below_drew1 | refine below_set ?_ GE82001.out) | exact HB.out)⟩
        · rw [if_neg c10] at H
          have c10b0 : (a0_0 == 0) = false := beq_eq_false_iff_ne.mpr c10
          have c10b1 : (a0_0 != 0) = true := bne_iff_ne.mpr c10
          have H' := Aside0.mk H
          clear H
          have hcz12_0 : wc.cell? ⟨gb82001, 0, none⟩ = some (.int .i64 a0_0) := (blk_cell BK82001.out 0).trans rfl
          have hcz12_1 : wc.cell? ⟨gb82001, 1, none⟩ = some (.int .i64 a0_1) := (blk_cell BK82001.out 1).trans rfl
          have hcz12_2 : wc.cell? ⟨gb82001, 2, none⟩ = some (.slice A0_2 l0_2.length c0_2) := (blk_cell BK82001.out 2).trans rfl
          have hfz12_0 := blk_frozen BK82001.out 0
          have hfz12_1 := blk_frozen BK82001.out 1
          have hfz12_2 := blk_frozen BK82001.out 2
          go_wp2
          repeat (go_quiet (fail); try go_wp2)
          go_loopg [3] kj1 (fun kq v3 w' => ∃ (x3_2 : Int), v3 = .int .i64 x3_2 ∧ Aside0 (columbariumref10_Right.l0 kq x3_2 a0_0 a0_1 l0_2 = some r) ∧ Aside0 (kq ≤ kj1) ∧ Aside0 (w'.heap[gb82001]? = some (.cells #[.int .i64 a0_0, .int .i64 a0_1, (.slice A0_2 l0_2.length c0_2)] 70 (0, 0))) ∧ Aside0 (Below w.heap.size w w'))
          case atStart => exact ⟨(1), (by first | rfl | (simp; done) | (simp [*]; done) | (refine congrArg (Value.int .i64) ?_; (try simp only [decide_eq_true_eq, decide_eq_false_iff_not] at *) <;> (unfold wrap64; omega))), H', ⟨Nat.le_refl _⟩, ⟨by (with_reducible repeat (first | refine blk_drewN ?_ _ | refine blk_drew ?_ | refine blk_alloc ?_ _)); exact BK82001.out⟩, ⟨by repeat (first | (with_reducible first | exact HB.out | apply below_alloc | apply pw_below_drewN | apply below_drew1 | refine below_set ?_ GE82001.out) | exact HB.out)⟩⟩
          case round =>
            clear H'
            try clear c1
            try clear p2
            try clear c4
            try clear c4b0
            try clear c4b1
            try clear c6
            try clear c6b0
            try clear p6
            try clear c9
            try clear c10
            try clear c10b0
            try clear c10b1
            try clear hcz11_0
            try clear hcz11_1
            try clear hcz11_2
            try clear hcz12_0
            try clear hcz12_1
            try clear hcz12_2
            try clear hcz5_0
            try clear hcz5_1
            try clear hcz5_2
            try clear hcz7_0
            try clear hcz7_1
            try clear hcz7_2
            try clear hcz8_0
            try clear hcz8_1
            try clear hcz8_2
            try clear hfz11_0
            try clear hfz11_1
            try clear hfz11_2
            try clear hfz12_0
            try clear hfz12_1
            try clear hfz12_2
            try clear hfz5_0
            try clear hfz5_1
            try clear hfz5_2
            try clear hfz7_0
            try clear hfz7_1
            try clear hfz7_2
            try clear hfz8_0
            try clear hfz8_1
            try clear hfz8_2
            try clear p2
            try clear p6
            obtain ⟨x3_2, rfl, HA, HK2, BK82001, HB⟩ := hrel
            cases gk with
            | zero => exact absurd HA.out (by simp [columbariumref10_Right.l0])
            | succ k2 =>
              have H := HA.out
              clear HA
              simp only [columbariumref10_Right.l0] at H
              by_cases c13 : x3_2 < (l0_2.length : Int)
              · rw [if_pos c13] at H
                have c13b0 : decide (x3_2 < (l0_2.length : Int)) = true := decide_eq_true c13
                clear c13
                by_cases c14 : 0 ≤ x3_2
                · rw [if_pos c14] at H
                  have c14b0 : decide (0 ≤ x3_2) = true := decide_eq_true c14
                  clear c14
                  obtain ⟨ji15, hji15⟩ : ∃ j_ : Int, (wrap64 (x3_2 - 1)) = j_ := ⟨_, rfl⟩
                  replace H : (if 0 ≤ (ji15) then (if (ji15) < (l0_2.length : Int) then (if (rd l0_2 x3_2) < (rd l0_2 (ji15)) then (some false) else (columbariumref10_Right.l0 k2 (wrap64 (x3_2 + 1)) a0_0 a0_1 l0_2)) else (none)) else (none)) = some r := by first | (rw [hji15] at H; exact H) | (simp only [hji15] at H ⊢; exact H)
                  have hji15w : (IntKind.i64.wrap (x3_2 - 1)) = ji15 := (i64_w _).trans hji15
                  (try ((have hji15v : (x3_2 - 1) = ji15 := by ((have h_ := hji15); ((try simp only [decide_eq_true_eq] at *) <;> (unfold wrap64 at h_; omega)))); (have hji15l : 0 ≤ ji15 := by ((have h_ := hji15); ((try simp only [decide_eq_true_eq] at *) <;> (unfold wrap64 at h_; omega)))); (have hji15u : ji15 ≤ 64 := by ((have h_ := hji15); ((try simp only [decide_eq_true_eq] at *) <;> (unfold wrap64 at h_; omega))))))
                  by_cases c16 : 0 ≤ (ji15)
                  · rw [if_pos c16] at H
                    have c16b0 : decide (0 ≤ (ji15)) = true := decide_eq_true c16
                    clear c16
                    by_cases c17 : (ji15) < (l0_2.length : Int)
                    · rw [if_pos c17] at H
                      have c17b0 : decide ((ji15) < (l0_2.length : Int)) = true := decide_eq_true c17
                      clear c17
                      by_cases c18 : (rd l0_2 x3_2) < (rd l0_2 (ji15))
                      · rw [if_pos c18] at H
                        have c18b0 : decide ((rd l0_2 x3_2) < (rd l0_2 (ji15))) = true := decide_eq_true c18
                        clear c18
                        obtain rfl := Option.some.inj H
                        have hcz19_0 : wr.cell? ⟨gb82001, 0, none⟩ = some (.int .i64 a0_0) := (blk_cell BK82001.out 0).trans rfl
                        have hcz19_1 : wr.cell? ⟨gb82001, 1, none⟩ = some (.int .i64 a0_1) := (blk_cell BK82001.out 1).trans rfl
                        have hcz19_2 : wr.cell? ⟨gb82001, 2, none⟩ = some (.slice A0_2 l0_2.length c0_2) := (blk_cell BK82001.out 2).trans rfl
                        have hfz19_0 := blk_frozen BK82001.out 0
                        have hfz19_1 := blk_frozen BK82001.out 1
                        have hfz19_2 := blk_frozen BK82001.out 2
                        have p82002 : 0 ≤ (x3_2 : Int) := of_decide_eq_true (by first | (with_reducible assumption) | assumption)
                        have q82002 : x3_2 < (l0_2.length : Int) := of_decide_eq_true (by first | (with_reducible assumption) | assumption)
                        obtain ⟨ad82002, e82002, hx82002_0⟩ := Kd.at_int HR0_2.out x3_2 p82002 q82002
                        cases e82002
                        replace hx82002_0 := (HB.out.cell (World.block_lt_of_cell? w _ hx82002_0)).trans hx82002_0
                        replace p82002 := eq_true p82002
                        replace q82002 := eq_true q82002
                        have p82003 : 0 ≤ ((ji15) : Int) := of_decide_eq_true (by first | (with_reducible assumption) | assumption)
                        have q82003 : (ji15) < (l0_2.length : Int) := of_decide_eq_true (by first | (with_reducible assumption) | assumption)
                        obtain ⟨ad82003, e82003, hx82003_0⟩ := Kd.at_int HR0_2.out (ji15) p82003 q82003
                        obtain rfl : ad82002 = ad82003 := (by injection e82003)
                        replace hx82003_0 := (HB.out.cell (World.block_lt_of_cell? w _ hx82003_0)).trans hx82003_0
                        replace p82003 := eq_true p82003
                        replace q82003 := eq_true q82003
                        go_wp2
                        repeat (go_quiet (fail); try go_wp2)
                        go_ret
                        exact ⟨by first | rfl | (simp [errW_none, errW_some] <;> rfl) | (simp only [← hji15]; first | rfl | (simp [errW_none, errW_some] <;> rfl)) | (simp [*, errW_none, errW_some] <;> rfl), by repeat (first | (with_reducible first | exact HB.out | apply below_alloc | apply pw_below_drewN | apply below_drew1 | refine below_set ?_ GE82001.out) | exact HB.out)⟩
                      · rw [if_neg c18] at H
                        have c18b0 : decide ((rd l0_2 x3_2) < (rd l0_2 (ji15))) = false := decide_eq_false c18
                        clear c18
                        have H' := Aside0.mk H
                        clear H
                        have hcz20_0 : wr.cell? ⟨gb82001, 0, none⟩ = some (.int .i64 a0_0) := (blk_cell BK82001.out 0).trans rfl
                        have hcz20_1 : wr.cell? ⟨gb82001, 1, none⟩ = some (.int .i64 a0_1) := (blk_cell BK82001.out 1).trans rfl
                        have hcz20_2 : wr.cell? ⟨gb82001, 2, none⟩ = some (.slice A0_2 l0_2.length c0_2) := (blk_cell BK82001.out 2).trans rfl
                        have hfz20_0 := blk_frozen BK82001.out 0
                        have hfz20_1 := blk_frozen BK82001.out 1
                        have hfz20_2 := blk_frozen BK82001.out 2
                        have p82002 : 0 ≤ (x3_2 : Int) := of_decide_eq_true (by first | (with_reducible assumption) | assumption)
                        have q82002 : x3_2 < (l0_2.length : Int) := of_decide_eq_true (by first | (with_reducible assumption) | assumption)
                        obtain ⟨ad82002, e82002, hx82002_0⟩ := Kd.at_int HR0_2.out x3_2 p82002 q82002
                        cases e82002
                        replace hx82002_0 := (HB.out.cell (World.block_lt_of_cell? w _ hx82002_0)).trans hx82002_0
                        replace p82002 := eq_true p82002
                        replace q82002 := eq_true q82002
                        have p82003 : 0 ≤ ((ji15) : Int) := of_decide_eq_true (by first | (with_reducible assumption) | assumption)
                        have q82003 : (ji15) < (l0_2.length : Int) := of_decide_eq_true (by first | (with_reducible assumption) | assumption)
                        obtain ⟨ad82003, e82003, hx82003_0⟩ := Kd.at_int HR0_2.out (ji15) p82003 q82003
                        obtain rfl : ad82002 = ad82003 := (by injection e82003)
                        replace hx82003_0 := (HB.out.cell (World.block_lt_of_cell? w _ hx82003_0)).trans hx82003_0
                        replace p82003 := eq_true p82003
                        replace q82003 := eq_true q82003
                        go_wp2
                        repeat (go_quiet (fail); try go_wp2)
                        go_roundg k2
                        case measure => have := HJ1.out; have := HK2.out; omega
                        case rel => exact ⟨(wrap64 (x3_2 + 1)), (by first | rfl | (simp; done) | (simp [*]; done) | (refine congrArg (Value.int .i64) ?_; (try simp only [decide_eq_true_eq, decide_eq_false_iff_not] at *) <;> (unfold wrap64; omega))), H', ⟨by have := HJ1.out; have := HK2.out; omega⟩, ⟨by (with_reducible repeat (first | refine blk_drewN ?_ _ | refine blk_drew ?_ | refine blk_alloc ?_ _)); exact BK82001.out⟩, ⟨by repeat (first | (with_reducible first | exact HB.out | apply below_alloc | apply pw_below_drewN | apply below_drew1 | refine below_set ?_ GE82001.out) | exact HB.out)⟩⟩
                    · rw [if_neg c17] at H
                      exact absurd H (by simp)
                  · rw [if_neg c16] at H
                    exact absurd H (by simp)
                · rw [if_neg c14] at H
                  exact absurd H (by simp)
              · rw [if_neg c13] at H
                have c13b0 : decide (x3_2 < (l0_2.length : Int)) = false := decide_eq_false c13
                clear c13
                obtain ⟨ji21, hji21⟩ : ∃ j_ : Int, (wrap64 ((l0_2.length : Int) - 1)) = j_ := ⟨_, rfl⟩
                replace H : (if 0 ≤ (ji21) then (if (ji21) < (l0_2.length : Int) then (if (rd l0_2 (ji21)) ≤ a0_1 then (if (Int.tmod a0_0 4) = 1 then (some ((rd l0_2 (ji21)) == a0_1)) else (some true)) else (some false)) else (none)) else (none)) = some r := by first | (rw [hji21] at H; exact H) | (simp only [hji21] at H ⊢; exact H)
                have hji21w : (IntKind.i64.wrap ((l0_2.length : Int) - 1)) = ji21 := (i64_w _).trans hji21
                (try ((have hji21v : ((l0_2.length : Int) - 1) = ji21 := by ((have h_ := hji21); ((try simp only [decide_eq_true_eq] at *) <;> (unfold wrap64 at h_; omega)))); (have hji21l : 0 ≤ ji21 := by ((have h_ := hji21); ((try simp only [decide_eq_true_eq] at *) <;> (unfold wrap64 at h_; omega)))); (have hji21u : ji21 ≤ 64 := by ((have h_ := hji21); ((try simp only [decide_eq_true_eq] at *) <;> (unfold wrap64 at h_; omega))))))
                by_cases c22 : 0 ≤ (ji21)
                · rw [if_pos c22] at H
                  have c22b0 : decide (0 ≤ (ji21)) = true := decide_eq_true c22
                  clear c22
                  by_cases c23 : (ji21) < (l0_2.length : Int)
                  · rw [if_pos c23] at H
                    have c23b0 : decide ((ji21) < (l0_2.length : Int)) = true := decide_eq_true c23
                    clear c23
                    by_cases c24 : (rd l0_2 (ji21)) ≤ a0_1
                    · rw [if_pos c24] at H
                      have c24b0 : decide ((rd l0_2 (ji21)) ≤ a0_1) = true := decide_eq_true c24
                      clear c24
                      by_cases c25 : (Int.tmod a0_0 4) = 1
                      · rw [if_pos c25] at H
                        have c25b0 : ((Int.tmod a0_0 4) == 1) = true := beq_iff_eq.mpr c25
                        have c25b1 : ((Int.tmod a0_0 4) != 1) = false := bne_eq_false_iff_eq.mpr c25
                        clear c25
                        obtain rfl := Option.some.inj H
                        have hcz26_0 : wr.cell? ⟨gb82001, 0, none⟩ = some (.int .i64 a0_0) := (blk_cell BK82001.out 0).trans rfl
                        have hcz26_1 : wr.cell? ⟨gb82001, 1, none⟩ = some (.int .i64 a0_1) := (blk_cell BK82001.out 1).trans rfl
                        have hcz26_2 : wr.cell? ⟨gb82001, 2, none⟩ = some (.slice A0_2 l0_2.length c0_2) := (blk_cell BK82001.out 2).trans rfl
                        have hfz26_0 := blk_frozen BK82001.out 0
                        have hfz26_1 := blk_frozen BK82001.out 1
                        have hfz26_2 := blk_frozen BK82001.out 2
                        have p82004 : 0 ≤ ((ji21) : Int) := of_decide_eq_true (by first | (with_reducible assumption) | assumption)
                        have q82004 : (ji21) < (l0_2.length : Int) := of_decide_eq_true (by first | (with_reducible assumption) | assumption)
                        obtain ⟨ad82004, e82004, hx82004_0⟩ := Kd.at_int HR0_2.out (ji21) p82004 q82004
                        cases e82004
                        replace hx82004_0 := (HB.out.cell (World.block_lt_of_cell? w _ hx82004_0)).trans hx82004_0
                        replace p82004 := eq_true p82004
                        replace q82004 := eq_true q82004
                        have p82005 : 0 ≤ ((ji21) : Int) := of_decide_eq_true (by first | (with_reducible assumption) | assumption)
                        have q82005 : (ji21) < (l0_2.length : Int) := of_decide_eq_true (by first | (with_reducible assumption) | assumption)
                        obtain ⟨ad82005, e82005, hx82005_0⟩ := Kd.at_int HR0_2.out (ji21) p82005 q82005
                        obtain rfl : ad82004 = ad82005 := (by injection e82005)
                        replace hx82005_0 := (HB.out.cell (World.block_lt_of_cell? w _ hx82005_0)).trans hx82005_0
                        replace p82005 := eq_true p82005
                        replace q82005 := eq_true q82005
                        go_wp2
                        repeat (go_quiet (fail); try go_wp2)
                        go_ret
                        exact ⟨by first | rfl | (simp [errW_none, errW_some] <;> rfl) | (simp only [← hji21]; first | rfl | (simp [errW_none, errW_some] <;> rfl)) | (simp [*, errW_none, errW_some] <;> rfl), by repeat (first | (with_reducible first | exact HB.out | apply below_alloc | apply pw_below_drewN | apply below_drew1 | refine below_set ?_ GE82001.out) | exact HB.out)⟩
                      · rw [if_neg c25] at H
                        have c25b0 : ((Int.tmod a0_0 4) == 1) = false := beq_eq_false_iff_ne.mpr c25
                        have c25b1 : ((Int.tmod a0_0 4) != 1) = true := bne_iff_ne.mpr c25
                        obtain rfl := Option.some.inj H
                        have hcz27_0 : wr.cell? ⟨gb82001, 0, none⟩ = some (.int .i64 a0_0) := (blk_cell BK82001.out 0).trans rfl
                        have hcz27_1 : wr.cell? ⟨gb82001, 1, none⟩ = some (.int .i64 a0_1) := (blk_cell BK82001.out 1).trans rfl
                        have hcz27_2 : wr.cell? ⟨gb82001, 2, none⟩ = some (.slice A0_2 l0_2.length c0_2) := (blk_cell BK82001.out 2).trans rfl
                        have hfz27_0 := blk_frozen BK82001.out 0
                        have hfz27_1 := blk_frozen BK82001.out 1
                        have hfz27_2 := blk_frozen BK82001.out 2
                        have p82004 : 0 ≤ ((ji21) : Int) := of_decide_eq_true (by first | (with_reducible assumption) | assumption)
                        have q82004 : (ji21) < (l0_2.length : Int) := of_decide_eq_true (by first | (with_reducible assumption) | assumption)
                        obtain ⟨ad82004, e82004, hx82004_0⟩ := Kd.at_int HR0_2.out (ji21) p82004 q82004
                        cases e82004
                        replace hx82004_0 := (HB.out.cell (World.block_lt_of_cell? w _ hx82004_0)).trans hx82004_0
                        replace p82004 := eq_true p82004
                        replace q82004 := eq_true q82004
                        go_wp2
                        repeat (go_quiet (fail); try go_wp2)
                        go_ret
                        exact ⟨by first | rfl | (simp [errW_none, errW_some] <;> rfl) | (simp only [← hji21]; first | rfl | (simp [errW_none, errW_some] <;> rfl)) | (simp [*, errW_none, errW_some] <;> rfl), by repeat (first | (with_reducible first | exact HB.out | apply below_alloc | apply pw_below_drewN | apply below_drew1 | refine below_set ?_ GE82001.out) | exact HB.out)⟩
                    · rw [if_neg c24] at H
                      have c24b0 : decide ((rd l0_2 (ji21)) ≤ a0_1) = false := decide_eq_false c24
                      clear c24
                      obtain rfl := Option.some.inj H
                      have hcz28_0 : wr.cell? ⟨gb82001, 0, none⟩ = some (.int .i64 a0_0) := (blk_cell BK82001.out 0).trans rfl
                      have hcz28_1 : wr.cell? ⟨gb82001, 1, none⟩ = some (.int .i64 a0_1) := (blk_cell BK82001.out 1).trans rfl
                      have hcz28_2 : wr.cell? ⟨gb82001, 2, none⟩ = some (.slice A0_2 l0_2.length c0_2) := (blk_cell BK82001.out 2).trans rfl
                      have hfz28_0 := blk_frozen BK82001.out 0
                      have hfz28_1 := blk_frozen BK82001.out 1
                      have hfz28_2 := blk_frozen BK82001.out 2
                      have p82004 : 0 ≤ ((ji21) : Int) := of_decide_eq_true (by first | (with_reducible assumption) | assumption)
                      have q82004 : (ji21) < (l0_2.length : Int) := of_decide_eq_true (by first | (with_reducible assumption) | assumption)
                      obtain ⟨ad82004, e82004, hx82004_0⟩ := Kd.at_int HR0_2.out (ji21) p82004 q82004
                      cases e82004
                      replace hx82004_0 := (HB.out.cell (World.block_lt_of_cell? w _ hx82004_0)).trans hx82004_0
                      replace p82004 := eq_true p82004
                      replace q82004 := eq_true q82004
                      go_wp2
                      repeat (go_quiet (fail); try go_wp2)
                      go_ret
                      exact ⟨by first | rfl | (simp [errW_none, errW_some] <;> rfl) | (simp only [← hji21]; first | rfl | (simp [errW_none, errW_some] <;> rfl)) | (simp [*, errW_none, errW_some] <;> rfl), by repeat (first | (with_reducible first | exact HB.out | apply below_alloc | apply pw_below_drewN | apply below_drew1 | refine below_set ?_ GE82001.out) | exact HB.out)⟩
                  · rw [if_neg c23] at H
                    exact absurd H (by simp)
                · rw [if_neg c22] at H
                  exact absurd H (by simp)

end Go.Proofs.Ytjpeojohakhmdaa.PS
