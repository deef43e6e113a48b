-- Written by a program of this session, out of the translation; Lean checks it.
import Derived.Test.YtjpeojohakhmdaaPSx0
import Derived.Test.YtjpeojohakhmdaaPSslicesIsSortedint64int64
namespace Go.Proofs.Ytjpeojohakhmdaa.PS
open Go.RowKit Go.Proofs.YtjpeojohakhmdaaW.PrintWords Go.Proofs.YtjpeojohakhmdaaW.PrintLast Go.Proofs.YtjpeojohakhmdaaW.PrintMore
attribute [local go_sem high] pw_str_leq pw_str_gtr
attribute [local go_sem] pw_us8 pw_us32 pw_us64 pw_max2_str pw_min2_str max2_int min2_int max_two min_two max_three min_three max_four min_four   -- for this text's walks alone
set_option linter.unusedVariables false
set_option linter.unusedSimpArgs false

/-! ### ticks_Build: function 30 -/
mutual
def ticks_Build.j0 : Nat → List Int → Bool → Option (Int × Int × List Int × Int)
  | 0, _, _ => none
  | k + 1, x0, x14 => if x14 = true then (some (0, 0, ([] : List Int), 12)) else (ticks_Build.l0 k x0 (x0.length : Int) 0 (x0.length : Int) 0 ([] : List Int))
def ticks_Build.l0 : Nat → List Int → Int → Int → Int → Int → List Int → Option (Int × Int × List Int × Int)
  | 0, _, _, _, _, _, _ => none
  | k + 1, x19, x20, x21, x62004000, x62004001, x62004002 => if x21 < x20 then (if 0 ≤ x21 then (if x21 < (x19.length : Int) then (if (Int.tmod x21 4) = 0 then (if x62004002.length < 17592186044416 then (ticks_Build.l0 k x19 x20 (wrap64 (x21 + 1)) x62004000 (rd x19 x21) (x62004002 ++ [rd x19 x21])) else (none)) else (ticks_Build.l0 k x19 x20 (wrap64 (x21 + 1)) x62004000 (rd x19 x21) x62004002)) else (none)) else (none)) else (some (x62004000, x62004001, x62004002, 0))
end
def ticks_Build.f (k : Nat) (l0 : List Int) : Option (Int × Int × List Int × Int) := if (l0.length : Int) > 1048576 then (ticks_Build.j0 k l0 true) else ((slices_IsSorted_int64_int64.f k l0).bind fun t62002 => (ticks_Build.j0 k l0 (!t62002)))
theorem ticks_Build.mono_l : ∀ k, (∀ y0 y1, LeO (ticks_Build.j0 k y0 y1) (ticks_Build.j0 (k + 1) y0 y1)) ∧ (∀ y0 y1 y2 y3 y4 y5, LeO (ticks_Build.l0 k y0 y1 y2 y3 y4 y5) (ticks_Build.l0 (k + 1) y0 y1 y2 y3 y4 y5))
  | 0 => ⟨fun _ _ r h => by simp [ticks_Build.j0] at h, fun _ _ _ _ _ _ r h => by simp [ticks_Build.l0] at h⟩
  | k + 1 => by
    obtain ⟨ih0, ih1⟩ := ticks_Build.mono_l k
    refine ⟨?_, ?_⟩
    · intro y0 y1
      unfold ticks_Build.j0
      repeat' first
      | (with_reducible exact ih0 _ _)
      | (with_reducible exact ih1 _ _ _ _ _ _)
      | (with_reducible exact slices_IsSorted_int64_int64.mono _ _)
      | (with_reducible exact LeO.refl _)
      | (with_reducible exact LeO.none _)
      | (with_reducible refine LeO.ite ?_ ?_)
      | (with_reducible refine LeO.bind ?_ (fun _ => ?_))
      | exact ih0 _ _
      | exact ih1 _ _ _ _ _ _
      | exact slices_IsSorted_int64_int64.mono _ _
      | exact LeO.none _
      | refine LeO.ite ?_ ?_
      | refine LeO.bind ?_ (fun _ => ?_)
    · intro y0 y1 y2 y3 y4 y5
      unfold ticks_Build.l0
      repeat' first
      | (with_reducible exact ih0 _ _)
      | (with_reducible exact ih1 _ _ _ _ _ _)
      | (with_reducible exact slices_IsSorted_int64_int64.mono _ _)
      | (with_reducible exact LeO.refl _)
      | (with_reducible exact LeO.none _)
      | (with_reducible refine LeO.ite ?_ ?_)
      | (with_reducible refine LeO.bind ?_ (fun _ => ?_))
      | exact ih0 _ _
      | exact ih1 _ _ _ _ _ _
      | exact slices_IsSorted_int64_int64.mono _ _
      | exact LeO.none _
      | refine LeO.ite ?_ ?_
      | refine LeO.bind ?_ (fun _ => ?_)
theorem ticks_Build.mono : ∀ a0 k, LeO (ticks_Build.f k a0) (ticks_Build.f (k + 1) a0) := by
  intro a0 k
  obtain ⟨ih0, ih1⟩ := ticks_Build.mono_l k
  unfold ticks_Build.f
  repeat' first
      | (with_reducible exact ih0 _ _)
      | (with_reducible exact ih1 _ _ _ _ _ _)
      | (with_reducible exact slices_IsSorted_int64_int64.mono _ _)
      | (with_reducible exact LeO.refl _)
      | (with_reducible exact LeO.none _)
      | (with_reducible refine LeO.ite ?_ ?_)
      | (with_reducible refine LeO.bind ?_ (fun _ => ?_))
      | exact ih0 _ _
      | exact ih1 _ _ _ _ _ _
      | exact slices_IsSorted_int64_int64.mono _ _
      | exact LeO.none _
      | refine LeO.ite ?_ ?_
      | refine LeO.bind ?_ (fun _ => ?_)
set_option maxHeartbeats 8000000 in
set_option maxRecDepth 100000 in
theorem ticks_Build.calls (k : Nat) (A0 : Option Addr) (c0 : Nat) (l0 : List Int) (r1 : Int) (r2 : Int) (r3 : List Int) (r4 : Int) (w : World) (hr0 : Kd.C (Kd.int .i64) w A0 l0.length l0) (hc0 : l0.length ≤ c0) (h : ticks_Build.f k l0 = some (r1, r2, r3, r4)) :
    Calls Try.prog 30 #[.slice A0 l0.length c0] w fun e w' => ∃ v2_ : Value, e = .returned (.tuple #[.agg #[.int .i64 r1, .int .i64 r2, v2_], .int .i64 r4]) ∧ Kd.R (Kd.int .i64) 2 w' w.heap.size (fun _ => True) v2_ r3 ∧ Below w.heap.size w w' := by
  have hu61 := Try.underlying61
  have HR0 := Aside0.mk hr0
  have HC0 := Aside0.mk hc0
  clear hr0 hc0
  have HB := Aside0.mk (Below.refl w.heap.size w)
  have H : (if (l0.length : Int) > 1048576 then (ticks_Build.j0 k l0 true) else ((slices_IsSorted_int64_int64.f k l0).bind fun t62002 => (ticks_Build.j0 k l0 (!t62002)))) = some (r1, r2, r3, r4) := h
  clear h
  have HC2 := Aside0.mk H
  clear H
  go_enter Try.func30, Try.ntmps30
  go_upto_region 1 with (first | ((with_reducible refine gate_dst (N := 2) rfl ?_); refine box_event ?hg (N := 2) ?hd (cs := #[.int .i64 0, .int .i64 0, .slice none 0 0]) (t := 61) ?hr ?_; (case hd => rfl); (case hg => rfl); (case hr => first | (go_simp; done) | (go_simp; rfl)); intro gb62001 hg w3 hbox hb; have n0_ := Aside0.mk (below_step (by repeat (first | (with_reducible first | exact HB.out | apply below_alloc | apply pw_below_drewN | apply below_drew1) | exact HB.out)) hb); have n1_ := Aside0.mk (hbox); have n2_ := Aside0.mk ((by rw [hg]; exact (below_size (by repeat (first | (with_reducible first | exact HB.out | apply below_alloc | apply pw_below_drewN | apply below_drew1) | exact HB.out))) : w.heap.size ≤ gb62001)); have n3_ := Aside0.mk ((by rw [hg]; exact (below_size (by repeat (first | (with_reducible first | exact HB.out | apply below_alloc | apply pw_below_drewN | apply below_drew1) | exact HB.out))) : w.heap.size ≤ gb62001)); clear HB; have HB := n0_; have BK62001 := n1_; have GW62001 := n2_; have GE62001 := n3_; clear n0_ n1_ n2_ n3_; clear hb hbox hg))
  (try simp only [Act.put, List.setIfInBounds_toArray, List.set_cons_zero, List.set_cons_succ])
  go_cut [14] (fun v14 wc => ∃ (kq : Nat) (x14_1 : Bool), v14 = .bool x14_1 ∧ Aside0 (ticks_Build.j0 kq l0 x14_1 = some (r1, r2, r3, r4)) ∧ Aside0 (kq ≤ k) ∧ Aside0 (wc.heap[gb62001]? = some (.cells #[.int .i64 0, .int .i64 0, (.slice none 0 0)] 61 (0, 0))) ∧ Aside0 (Below w.heap.size w wc))
  case first =>
    have H := HC2.out
    clear HC2
    by_cases c4 : (l0.length : Int) > 1048576
    · rw [if_pos c4] at H
      have c4b0 : decide (1048576 < (l0.length : Int)) = true := decide_eq_true c4
      have c4b1 : decide (1048576 < l0.length) = true := decide_eq_true (by omega)
      clear c4
      (first | rw [c4b0] | (simp only [i64_w, i32_w]; rw [c4b0]) | rw [c4b1] | skip)
      have H' := Aside0.mk H
      clear H
      go_wp2
      go_meet
      case rel => exact ⟨_, (true), (by first | rfl | (simp; done) | (simp [*]; done) | (refine congrArg (Value.int .i64) ?_; (try simp only [decide_eq_true_eq, decide_eq_false_iff_not] at *) <;> (unfold wrap64; omega))), H', ⟨by first | omega | exact Nat.le_refl _⟩, ⟨by (with_reducible repeat (first | refine blk_drewN ?_ _ | refine blk_drew ?_ | refine blk_alloc ?_ _)); exact BK62001.out⟩, ⟨by repeat (first | (with_reducible first | exact HB.out | apply below_alloc | apply pw_below_drewN | apply below_drew1 | refine below_set ?_ GE62001.out) | exact HB.out)⟩⟩
    · rw [if_neg c4] at H
      have c4b0 : decide (1048576 < (l0.length : Int)) = false := decide_eq_false c4
      have c4b1 : decide (1048576 < l0.length) = false := decide_eq_false (by omega)
      clear c4
      (first | rw [c4b0] | (simp only [i64_w, i32_w]; rw [c4b0]) | rw [c4b1] | skip)
      replace H := Option.bind_eq_some_iff.mp H
      obtain ⟨t62002, A50, H⟩ := H
      replace H : (ticks_Build.j0 k l0 (!t62002)) = some (r1, r2, r3, r4) := H
      have A5 := Aside0.mk A50
      clear A50
      have H' := Aside0.mk H
      clear H
      go_wp2_with (first | (go_at_call 56; (with_reducible refine (slices_IsSorted_int64_int64.calls k _ _ l0 t62002 _ ?side1 ?side2 A5.out).mono ?_); (case side1 => repeat (first | exact (Kd.C_below HR0.out HB.out) | (with_reducible refine Kd.C_alloc ?_ _) | (with_reducible refine Kd.C_drewN ?_ _) | (with_reducible refine Kd.C_drew ?_))); (case side2 => exact HC0.out); rintro e w' ⟨rfl, ⟨nd, rfl⟩⟩))
      go_meet
      case rel => exact ⟨_, (!t62002), (by first | rfl | (simp; done) | (simp [*]; done) | (refine congrArg (Value.int .i64) ?_; (try simp only [decide_eq_true_eq, decide_eq_false_iff_not] at *) <;> (unfold wrap64; omega))), H', ⟨by first | omega | exact Nat.le_refl _⟩, ⟨by (with_reducible repeat (first | refine blk_drewN ?_ _ | refine blk_drew ?_ | refine blk_alloc ?_ _)); exact BK62001.out⟩, ⟨by repeat (first | (with_reducible first | exact HB.out | apply below_alloc | apply pw_below_drewN | apply below_drew1 | refine below_set ?_ GE62001.out) | exact HB.out)⟩⟩
  case rest =>
    clear HC2
    try clear p2
    try clear c3
    try clear c4
    try clear c4b0
    try clear c4b1
    obtain ⟨kq, x14_1, rfl, HA, HJ1, BK62001, HB⟩ := hcut
    cases kq with
    | zero => exact absurd HA.out (by simp [ticks_Build.j0])
    | succ kj1 =>
      have H := HA.out
      clear HA
      simp only [ticks_Build.j0] at H
      by_cases c6 : x14_1 = true
      · subst c6
        have H1 : (some (0, 0, ([] : List Int), 12)) = some (r1, r2, r3, r4) := by rw [if_pos rfl] at H; exact H
        clear H
        have H := H1
        clear H1
        simp only [Option.some.injEq, Prod.mk.injEq] at H
        obtain ⟨rfl, rfl, rfl, rfl⟩ := H
        have hcz7_0 : wc.cell? ⟨gb62001, 0, none⟩ = some (.int .i64 0) := (blk_cell BK62001.out 0).trans rfl
        have hcz7_1 : wc.cell? ⟨gb62001, 1, none⟩ = some (.int .i64 0) := (blk_cell BK62001.out 1).trans rfl
        have hcz7_2 : wc.cell? ⟨gb62001, 2, none⟩ = some (.slice none 0 0) := (blk_cell BK62001.out 2).trans rfl
        have hfz7_0 := blk_frozen BK62001.out 0
        have hfz7_1 := blk_frozen BK62001.out 1
        have hfz7_2 := blk_frozen BK62001.out 2
        go_wp2
        refine bodyPost_ret (results_ct rfl _ _ gb62001 61 #[.int .i64 0, .int .i64 0, .slice none 0 0] (0, 0) _ rfl (by (with_reducible repeat (first | refine blk_drewN ?_ _ | refine blk_drew ?_ | refine blk_alloc ?_ _)); refine blk_put (cs := #[.int .i64 0, .int .i64 0, .slice none 0 0]) ?_ 2 _ rfl; (with_reducible repeat (first | refine blk_drewN ?_ _ | refine blk_drew ?_ | refine blk_alloc ?_ _)); refine blk_put (cs := #[.int .i64 0, .int .i64 0, .slice none 0 0]) ?_ 1 _ rfl; (with_reducible repeat (first | refine blk_drewN ?_ _ | refine blk_drew ?_ | refine blk_alloc ?_ _)); refine blk_put (cs := #[.int .i64 0, .int .i64 0, .slice none 0 0]) ?_ 0 _ rfl; (with_reducible repeat (first | refine blk_drewN ?_ _ | refine blk_drew ?_ | refine blk_alloc ?_ _)); exact BK62001.out) Try.underlying61 rfl (by kernel_rfl)) rfl ?_
        exact ⟨_, by first | rfl | (simp [errW_none, errW_some] <;> rfl) | (simp [*, errW_none, errW_some] <;> rfl), by first | exact Kd.R_nil _ _ _ _ _ | exact Kd.N_nil _ _ _ _ _ | exact Kd.V_nil _ _ _ _ _ | exact Kd.Q_nil _ _ _ _ _ | exact Kd.S_nil _ _ _ _ _, by repeat (first | (with_reducible first | exact HB.out | apply below_alloc | apply pw_below_drewN | apply below_drew1 | refine below_set ?_ GE62001.out) | exact HB.out)⟩
      · replace c6 := Bool.eq_false_iff.mpr c6
        subst c6
        have H1 : (ticks_Build.l0 kj1 l0 (l0.length : Int) 0 (l0.length : Int) 0 ([] : List Int)) = some (r1, r2, r3, r4) := by rw [if_neg (show ¬ (false = true) by decide)] at H; exact H
        clear H
        have H := H1
        clear H1
        have H' := Aside0.mk H
        clear H
        go_wp2_with (first | ((with_reducible refine gate_dst (N := 4) rfl ?_); refine box_event ?hg (N := 4) ?hd (cs := #[.int .i64 0, .int .i64 0, .slice none 0 0]) (t := 61) ?hr ?_; (case hd => rfl); (case hg => rfl); (case hr => first | (go_simp; done) | (go_simp; rfl)); intro gb62003 hg w8 hbox hb; have n0_ := Aside0.mk (blk_below (g := gb62001) (o := .cells #[.int .i64 0, .int .i64 0, .slice none 0 0] 61 (0, 0)) (by (with_reducible repeat (first | refine blk_drewN ?_ _ | refine blk_drew ?_ | refine blk_alloc ?_ _)); exact BK62001.out) hb); have n1_ := Aside0.mk (below_step (by repeat (first | (with_reducible first | exact HB.out | apply below_alloc | apply pw_below_drewN | apply below_drew1 | refine below_set ?_ GE62001.out) | exact HB.out)) hb); have n2_ := Aside0.mk (hbox); have n3_ := Aside0.mk ((by rw [hg]; exact (below_size (by repeat (first | (with_reducible first | exact HB.out | apply below_alloc | apply pw_below_drewN | apply below_drew1 | refine below_set ?_ GE62001.out) | exact HB.out))) : w.heap.size ≤ gb62003)); have n4_ := Aside0.mk ((by rw [hg]; exact (below_size (by repeat (first | (with_reducible first | exact HB.out | apply below_alloc | apply pw_below_drewN | apply below_drew1 | refine below_set ?_ GE62001.out) | exact HB.out))) : w.heap.size ≤ gb62003)); have n5_ := Aside0.mk ((by rw [hg]; exact Nat.ne_of_lt (blk_lt (g := gb62001) (o := .cells #[.int .i64 0, .int .i64 0, .slice none 0 0] 61 (0, 0)) (by (with_reducible repeat (first | refine blk_drewN ?_ _ | refine blk_drew ?_ | refine blk_alloc ?_ _)); exact BK62001.out)) : gb62001 ≠ gb62003)); have n6_ := Aside0.mk ((by rw [hg]; exact Nat.ne_of_gt (blk_lt (g := gb62001) (o := .cells #[.int .i64 0, .int .i64 0, .slice none 0 0] 61 (0, 0)) (by (with_reducible repeat (first | refine blk_drewN ?_ _ | refine blk_drew ?_ | refine blk_alloc ?_ _)); exact BK62001.out)) : gb62003 ≠ gb62001)); clear BK62001; clear HB; have BK62001 := n0_; have HB := n1_; have BK62003 := n2_; have GW62003 := n3_; have GE62003 := n4_; have NB62001_62003 := n5_; have NB62003_62001 := n6_; clear n0_ n1_ n2_ n3_ n4_ n5_ n6_; clear hb hbox hg; have hnb9 := NB62003_62001.out; have hnc9 := NB62001_62003.out; have hcz10_0 : w8.cell? ⟨gb62003, 0, none⟩ = some (.int .i64 0) := (blk_cell BK62003.out 0).trans rfl; have hcz10_1 : w8.cell? ⟨gb62003, 1, none⟩ = some (.int .i64 0) := (blk_cell BK62003.out 1).trans rfl; have hcz10_2 : w8.cell? ⟨gb62003, 2, none⟩ = some (.slice none 0 0) := (blk_cell BK62003.out 2).trans rfl; have hfz10_0 := blk_frozen BK62003.out 0; have hfz10_1 := blk_frozen BK62003.out 1; have hfz10_2 := blk_frozen BK62003.out 2))
        go_loopg [21] kj1 (fun kq v21 w' => ∃ (x21_2 : Int) (x62004001_2 : Int) (x62004002_2 : List Int) (u62004002 : Value), v21 = .int .i64 x21_2 ∧ Aside0 (ticks_Build.l0 kq l0 (l0.length : Int) x21_2 (l0.length : Int) x62004001_2 x62004002_2 = some (r1, r2, r3, r4)) ∧ Aside0 (kq ≤ kj1) ∧ Aside0 (Kd.R (Kd.int .i64) 2 w' w.heap.size (fun _ => True) u62004002 x62004002_2) ∧ Aside0 (w'.heap[gb62001]? = some (.cells #[.int .i64 0, .int .i64 0, (.slice none 0 0)] 61 (0, 0))) ∧ Aside0 (w'.heap[gb62003]? = some (.cells #[.int .i64 (l0.length : Int), .int .i64 x62004001_2, u62004002] 61 (0, 0))) ∧ Aside0 (Below w.heap.size w w'))
        case atStart => exact ⟨(0), (0), (([] : List Int)), (.slice none 0 0), (by first | rfl | (simp; done) | (simp [*]; done) | (refine congrArg (Value.int .i64) ?_; (try simp only [decide_eq_true_eq, decide_eq_false_iff_not] at *) <;> (unfold wrap64; omega))), H', ⟨Nat.le_refl _⟩, ⟨by first | exact Kd.R_nil _ _ _ _ _ | exact Kd.N_nil _ _ _ _ _ | exact Kd.V_nil _ _ _ _ _ | exact Kd.Q_nil _ _ _ _ _ | exact Kd.S_nil _ _ _ _ _⟩, ⟨by (with_reducible repeat (first | refine blk_drewN ?_ _ | refine blk_drew ?_ | refine blk_alloc ?_ _)); refine blk_far ?_ NB62001_62003.out _; (with_reducible repeat (first | refine blk_drewN ?_ _ | refine blk_drew ?_ | refine blk_alloc ?_ _)); refine blk_far ?_ NB62001_62003.out _; (with_reducible repeat (first | refine blk_drewN ?_ _ | refine blk_drew ?_ | refine blk_alloc ?_ _)); refine blk_far ?_ NB62001_62003.out _; (with_reducible repeat (first | refine blk_drewN ?_ _ | refine blk_drew ?_ | refine blk_alloc ?_ _)); exact BK62001.out⟩, ⟨by (with_reducible repeat (first | refine blk_drewN ?_ _ | refine blk_drew ?_ | refine blk_alloc ?_ _)); refine blk_put (cs := #[.int .i64 (l0.length : Int), .int .i64 0, .slice none 0 0]) ?_ 2 _ rfl; (with_reducible repeat (first | refine blk_drewN ?_ _ | refine blk_drew ?_ | refine blk_alloc ?_ _)); refine blk_put (cs := #[.int .i64 (l0.length : Int), .int .i64 0, .slice none 0 0]) ?_ 1 _ rfl; (with_reducible repeat (first | refine blk_drewN ?_ _ | refine blk_drew ?_ | refine blk_alloc ?_ _)); refine blk_put (cs := #[.int .i64 0, .int .i64 0, .slice none 0 0]) ?_ 0 _ rfl; (with_reducible repeat (first | refine blk_drewN ?_ _ | refine blk_drew ?_ | refine blk_alloc ?_ _)); exact BK62003.out⟩, ⟨by repeat (first | (with_reducible first | exact HB.out | apply below_alloc | apply pw_below_drewN | apply below_drew1 | refine below_set ?_ GE62001.out | refine below_set ?_ GE62003.out) | exact HB.out)⟩⟩
        case round =>
          clear H'
          try clear p2
          try clear c3
          try clear c4
          try clear c4b0
          try clear c4b1
          try clear c6
          try clear p6
          try clear c9
          try clear hcz10_0
          try clear hcz10_1
          try clear hcz10_2
          try clear hcz7_0
          try clear hcz7_1
          try clear hcz7_2
          try clear hfz10_0
          try clear hfz10_1
          try clear hfz10_2
          try clear hfz7_0
          try clear hfz7_1
          try clear hfz7_2
          try clear p2
          obtain ⟨x21_2, x62004001_2, x62004002_2, u62004002, rfl, HA, HK2, HO_62004002, BK62001, BK62003, HB⟩ := hrel
          cases gk with
          | zero => exact absurd HA.out (by simp [ticks_Build.l0])
          | succ k2 =>
            have H := HA.out
            clear HA
            simp only [ticks_Build.l0] at H
            by_cases c11 : x21_2 < (l0.length : Int)
            · rw [if_pos c11] at H
              have c11b0 : decide (x21_2 < (l0.length : Int)) = true := decide_eq_true c11
              clear c11
              by_cases c12 : 0 ≤ x21_2
              · rw [if_pos c12] at H
                have c12b0 : decide (0 ≤ x21_2) = true := decide_eq_true c12
                clear c12
                by_cases c13 : x21_2 < (l0.length : Int)
                · rw [if_pos c13] at H
                  have c13b0 : decide (x21_2 < (l0.length : Int)) = true := decide_eq_true c13
                  clear c13
                  by_cases c14 : (Int.tmod x21_2 4) = 0
                  · rw [if_pos c14] at H
                    have c14b0 : ((Int.tmod x21_2 4) == 0) = true := beq_iff_eq.mpr c14
                    have c14b1 : ((Int.tmod x21_2 4) != 0) = false := bne_eq_false_iff_eq.mpr c14
                    clear c14
                    by_cases c15 : x62004002_2.length < 17592186044416
                    · rw [if_pos c15] at H
                      have LMc15 := Aside0.mk c15
                      clear c15
                      obtain ⟨y62005, hy62005⟩ : ∃ y_ : List Int, y_ = (x62004002_2 ++ [rd l0 x21_2]) := ⟨_, rfl⟩
                      replace H : (ticks_Build.l0 k2 l0 (l0.length : Int) (wrap64 (x21_2 + 1)) (l0.length : Int) (rd l0 x21_2) y62005) = some (r1, r2, r3, r4) := by first | (rw [hy62005]; with_reducible exact H) | (have H2_ := (Option.bind_some _ _).symm.trans H; rw [hy62005]; with_reducible exact H2_) | (have H2_ := (Option.bind_some _ _).symm.trans H; with_reducible exact H2_) | with_reducible exact H | (rw [hy62005]; exact H) | exact H
                      have Ny62005 := Aside0.mk hy62005
                      clear hy62005
                      have H' := Aside0.mk H
                      clear H
                      have p62004 : 0 ≤ (x21_2 : Int) := of_decide_eq_true (by first | (with_reducible assumption) | assumption)
                      have q62004 : x21_2 < (l0.length : Int) := of_decide_eq_true (by first | (with_reducible assumption) | assumption)
                      obtain ⟨ad62004, e62004, hx62004_0⟩ := Kd.at_int HR0.out x21_2 p62004 q62004
                      cases e62004
                      replace hx62004_0 := (HB.out.cell (World.block_lt_of_cell? w _ hx62004_0)).trans hx62004_0
                      replace p62004 := eq_true p62004
                      replace q62004 := eq_true q62004
                      have hnb16 := NB62003_62001.out
                      have hnc16 := NB62001_62003.out
                      have hcz17_0 : wr.cell? ⟨gb62003, 0, none⟩ = some (.int .i64 (l0.length : Int)) := (blk_cell BK62003.out 0).trans rfl
                      have hcz17_1 : wr.cell? ⟨gb62003, 1, none⟩ = some (.int .i64 x62004001_2) := (blk_cell BK62003.out 1).trans rfl
                      have hcz17_2 : wr.cell? ⟨gb62003, 2, none⟩ = some (u62004002) := (blk_cell BK62003.out 2).trans rfl
                      have hfz17_0 := blk_frozen BK62003.out 0
                      have hfz17_1 := blk_frozen BK62003.out 1
                      have hfz17_2 := blk_frozen BK62003.out 2
                      go_wp2_with (first | ((with_reducible refine gate_builtin (b := .append) (xs := #[.tmp 32, .tmp 34]) rfl ?_); at_builtin; refine Kd.R_append (Kd.int .i64) (w0 := w) w.heap.size rfl (.tmp 32) (.tmp 34) 58 2 (.int .i64 0) 8 rfl Try.underlying58 info2 rfl (by decide) (by omega) u62004002 x62004002_2 (rd l0 x21_2) [.int .i64 (rd l0 x21_2)] (fun _ => True) (fun _ => False) rfl (by first | (go_simp; done) | (go_simp; rfl)) ?aP (fun _ hk => hk.elim) ?aF ?aO ?aB ?aS ?aL ?_; (case aP => exact rfl); (case aB => exact (by repeat (first | (with_reducible first | exact HB.out | apply below_alloc | apply pw_below_drewN | apply below_drew1 | refine below_set ?_ GE62001.out | refine below_set ?_ GE62003.out) | exact HB.out))); (case aF => exact (fun _ _ => trivial)); (case aO => exact (by (with_reducible repeat (first | apply Kd.R_alloc | apply Kd.R_drewN | apply Kd.R_drew)); exact Kd.R_mono (Kd.R_far (p := ⟨gb62003, 1, none⟩) (Kd.R_types HO_62004002.out BK62003.out (by decide)) (fun _ hk => hk.2) (.int .i64 (rd l0 x21_2))) (fun _ hk => trivial))); (case aS => exact (below_size (by repeat (first | (with_reducible first | exact HB.out | apply below_alloc | apply pw_below_drewN | apply below_drew1 | refine below_set ?_ GE62001.out | refine below_set ?_ GE62003.out) | exact HB.out)))); (case aL => have := LMc15.out; omega); intro v62006 w18 ho hb hg hat; rw [← Ny62005.out] at ho; have n0_ := Aside0.mk (blk_grown (g := gb62001) (o := .cells #[.int .i64 0, .int .i64 0, .slice none 0 0] 61 (0, 0)) (by (with_reducible repeat (first | refine blk_drewN ?_ _ | refine blk_drew ?_ | refine blk_alloc ?_ _)); refine blk_far ?_ NB62001_62003.out _; (with_reducible repeat (first | refine blk_drewN ?_ _ | refine blk_drew ?_ | refine blk_alloc ?_ _)); exact BK62001.out) hg (Kd.R_ne HO_62004002.out BK62001.out (by decide))); have n1_ := Aside0.mk (blk_grown (g := gb62003) (o := .cells #[.int .i64 (l0.length : Int), .int .i64 (rd l0 x21_2), u62004002] 61 (0, 0)) (by (with_reducible repeat (first | refine blk_drewN ?_ _ | refine blk_drew ?_ | refine blk_alloc ?_ _)); refine blk_put (cs := #[.int .i64 (l0.length : Int), .int .i64 x62004001_2, u62004002]) ?_ 1 _ rfl; (with_reducible repeat (first | refine blk_drewN ?_ _ | refine blk_drew ?_ | refine blk_alloc ?_ _)); exact BK62003.out) hg (Kd.R_ne HO_62004002.out BK62003.out (by decide))); have n2_ := Aside0.mk (hb); have n3_ := Aside0.mk (ho); clear BK62001; clear BK62003; clear HB; clear HO_62004002; have BK62001 := n0_; have BK62003 := n1_; have HB := n2_; have HO62007 := n3_; clear n0_ n1_ n2_ n3_; clear ho hb hg hat; obtain ⟨Ao19, co19, eo19⟩ := Kd.R_slice HO62007.out; subst eo19; have hcz20_0 : w18.cell? ⟨gb62003, 0, none⟩ = some (.int .i64 (l0.length : Int)) := (blk_cell BK62003.out 0).trans rfl; have hcz20_1 : w18.cell? ⟨gb62003, 1, none⟩ = some (.int .i64 (rd l0 x21_2)) := (blk_cell BK62003.out 1).trans rfl; have hcz20_2 : w18.cell? ⟨gb62003, 2, none⟩ = some (u62004002) := (blk_cell BK62003.out 2).trans rfl; have hfz20_0 := blk_frozen BK62003.out 0; have hfz20_1 := blk_frozen BK62003.out 1; have hfz20_2 := blk_frozen BK62003.out 2))
                      go_roundg k2
                      case measure => have := HJ1.out; have := HK2.out; omega
                      case rel => exact ⟨(wrap64 (x21_2 + 1)), (rd l0 x21_2), (y62005), (.slice Ao19 y62005.length co19), (by first | rfl | (simp; done) | (simp [*]; done) | (refine congrArg (Value.int .i64) ?_; (try simp only [decide_eq_true_eq, decide_eq_false_iff_not] at *) <;> (unfold wrap64; omega))), H', ⟨by have := HJ1.out; have := HK2.out; omega⟩, ⟨by (with_reducible repeat (first | apply Kd.R_alloc | apply Kd.R_drewN | apply Kd.R_drew)); exact Kd.R_mono (Kd.R_far (p := ⟨gb62003, 2, none⟩) (Kd.R_types HO62007.out BK62003.out (by decide)) (fun _ hk => hk.2) (.slice Ao19 y62005.length co19)) (fun _ hk => trivial)⟩, ⟨by (with_reducible repeat (first | refine blk_drewN ?_ _ | refine blk_drew ?_ | refine blk_alloc ?_ _)); refine blk_far ?_ NB62001_62003.out _; (with_reducible repeat (first | refine blk_drewN ?_ _ | refine blk_drew ?_ | refine blk_alloc ?_ _)); exact BK62001.out⟩, ⟨by (with_reducible repeat (first | refine blk_drewN ?_ _ | refine blk_drew ?_ | refine blk_alloc ?_ _)); refine blk_put (cs := #[.int .i64 (l0.length : Int), .int .i64 (rd l0 x21_2), u62004002]) ?_ 2 _ rfl; (with_reducible repeat (first | refine blk_drewN ?_ _ | refine blk_drew ?_ | refine blk_alloc ?_ _)); exact BK62003.out⟩, ⟨by repeat (first | (with_reducible first | exact HB.out | apply below_alloc | apply pw_below_drewN | apply below_drew1 | refine below_set ?_ GE62001.out | refine below_set ?_ GE62003.out) | exact HB.out)⟩⟩
                    · rw [if_neg c15] at H
                      exact absurd H (by simp)
                  · rw [if_neg c14] at H
                    have c14b0 : ((Int.tmod x21_2 4) == 0) = false := beq_eq_false_iff_ne.mpr c14
                    have c14b1 : ((Int.tmod x21_2 4) != 0) = true := bne_iff_ne.mpr c14
                    have H' := Aside0.mk H
                    clear H
                    have p62004 : 0 ≤ (x21_2 : Int) := of_decide_eq_true (by first | (with_reducible assumption) | assumption)
                    have q62004 : x21_2 < (l0.length : Int) := of_decide_eq_true (by first | (with_reducible assumption) | assumption)
                    obtain ⟨ad62004, e62004, hx62004_0⟩ := Kd.at_int HR0.out x21_2 p62004 q62004
                    cases e62004
                    replace hx62004_0 := (HB.out.cell (World.block_lt_of_cell? w _ hx62004_0)).trans hx62004_0
                    replace p62004 := eq_true p62004
                    replace q62004 := eq_true q62004
                    have hnb21 := NB62003_62001.out
                    have hnc21 := NB62001_62003.out
                    have hcz22_0 : wr.cell? ⟨gb62003, 0, none⟩ = some (.int .i64 (l0.length : Int)) := (blk_cell BK62003.out 0).trans rfl
                    have hcz22_1 : wr.cell? ⟨gb62003, 1, none⟩ = some (.int .i64 x62004001_2) := (blk_cell BK62003.out 1).trans rfl
                    have hcz22_2 : wr.cell? ⟨gb62003, 2, none⟩ = some (u62004002) := (blk_cell BK62003.out 2).trans rfl
                    have hfz22_0 := blk_frozen BK62003.out 0
                    have hfz22_1 := blk_frozen BK62003.out 1
                    have hfz22_2 := blk_frozen BK62003.out 2
                    go_wp2
                    go_roundg k2
                    case measure => have := HJ1.out; have := HK2.out; omega
                    case rel => exact ⟨(wrap64 (x21_2 + 1)), (rd l0 x21_2), (x62004002_2), (u62004002), (by first | rfl | (simp; done) | (simp [*]; done) | (refine congrArg (Value.int .i64) ?_; (try simp only [decide_eq_true_eq, decide_eq_false_iff_not] at *) <;> (unfold wrap64; omega))), H', ⟨by have := HJ1.out; have := HK2.out; omega⟩, ⟨by (with_reducible repeat (first | apply Kd.R_alloc | apply Kd.R_drewN | apply Kd.R_drew)); exact Kd.R_mono (Kd.R_far (p := ⟨gb62003, 1, none⟩) (Kd.R_types HO_62004002.out BK62003.out (by decide)) (fun _ hk => hk.2) (.int .i64 (rd l0 x21_2))) (fun _ hk => trivial)⟩, ⟨by (with_reducible repeat (first | refine blk_drewN ?_ _ | refine blk_drew ?_ | refine blk_alloc ?_ _)); refine blk_far ?_ NB62001_62003.out _; (with_reducible repeat (first | refine blk_drewN ?_ _ | refine blk_drew ?_ | refine blk_alloc ?_ _)); exact BK62001.out⟩, ⟨by (with_reducible repeat (first | refine blk_drewN ?_ _ | refine blk_drew ?_ | refine blk_alloc ?_ _)); refine blk_put (cs := #[.int .i64 (l0.length : Int), .int .i64 x62004001_2, u62004002]) ?_ 1 _ rfl; (with_reducible repeat (first | refine blk_drewN ?_ _ | refine blk_drew ?_ | refine blk_alloc ?_ _)); exact BK62003.out⟩, ⟨by repeat (first | (with_reducible first | exact HB.out | apply below_alloc | apply pw_below_drewN | apply below_drew1 | refine below_set ?_ GE62001.out | refine below_set ?_ GE62003.out) | exact HB.out)⟩⟩
                · rw [if_neg c13] at H
                  exact absurd H (by simp)
              · rw [if_neg c12] at H
                exact absurd H (by simp)
            · rw [if_neg c11] at H
              have c11b0 : decide (x21_2 < (l0.length : Int)) = false := decide_eq_false c11
              clear c11
              simp only [Option.some.injEq, Prod.mk.injEq] at H
              obtain ⟨rfl, rfl, rfl, rfl⟩ := H
              have hnb23 := NB62003_62001.out
              have hnc23 := NB62001_62003.out
              have hcz24_0 : wr.cell? ⟨gb62003, 0, none⟩ = some (.int .i64 (l0.length : Int)) := (blk_cell BK62003.out 0).trans rfl
              have hcz24_1 : wr.cell? ⟨gb62003, 1, none⟩ = some (.int .i64 x62004001_2) := (blk_cell BK62003.out 1).trans rfl
              have hcz24_2 : wr.cell? ⟨gb62003, 2, none⟩ = some (u62004002) := (blk_cell BK62003.out 2).trans rfl
              have hfz24_0 := blk_frozen BK62003.out 0
              have hfz24_1 := blk_frozen BK62003.out 1
              have hfz24_2 := blk_frozen BK62003.out 2
              have hcz25_0 : wr.cell? ⟨gb62001, 0, none⟩ = some (.int .i64 0) := (blk_cell BK62001.out 0).trans rfl
              have hcz25_1 : wr.cell? ⟨gb62001, 1, none⟩ = some (.int .i64 0) := (blk_cell BK62001.out 1).trans rfl
              have hcz25_2 : wr.cell? ⟨gb62001, 2, none⟩ = some (.slice none 0 0) := (blk_cell BK62001.out 2).trans rfl
              have hfz25_0 := blk_frozen BK62001.out 0
              have hfz25_1 := blk_frozen BK62001.out 1
              have hfz25_2 := blk_frozen BK62001.out 2
              obtain ⟨Ao26, co26, eo26⟩ := Kd.R_slice HO_62004002.out
              subst eo26
              go_wp2
              refine bodyPost_ret (results_ct rfl _ _ gb62001 61 #[.int .i64 (l0.length : Int), .int .i64 x62004001_2, .slice Ao26 x62004002_2.length co26] (0, 0) _ rfl (by (with_reducible repeat (first | refine blk_drewN ?_ _ | refine blk_drew ?_ | refine blk_alloc ?_ _)); refine blk_put (cs := #[.int .i64 (l0.length : Int), .int .i64 x62004001_2, .slice none 0 0]) ?_ 2 _ rfl; (with_reducible repeat (first | refine blk_drewN ?_ _ | refine blk_drew ?_ | refine blk_alloc ?_ _)); refine blk_put (cs := #[.int .i64 (l0.length : Int), .int .i64 0, .slice none 0 0]) ?_ 1 _ rfl; (with_reducible repeat (first | refine blk_drewN ?_ _ | refine blk_drew ?_ | refine blk_alloc ?_ _)); refine blk_put (cs := #[.int .i64 0, .int .i64 0, .slice none 0 0]) ?_ 0 _ rfl; (with_reducible repeat (first | refine blk_drewN ?_ _ | refine blk_drew ?_ | refine blk_alloc ?_ _)); exact BK62001.out) Try.underlying61 rfl (by kernel_rfl)) rfl ?_
              exact ⟨_, by first | rfl | (simp [errW_none, errW_some] <;> rfl) | (simp [*, errW_none, errW_some] <;> rfl), by (with_reducible repeat (first | apply Kd.R_alloc | apply Kd.R_drewN | apply Kd.R_drew)); exact Kd.R_mono (Kd.R_far (p := ⟨gb62001, 2, none⟩) (Kd.R_far (p := ⟨gb62001, 1, none⟩) (Kd.R_far (p := ⟨gb62001, 0, none⟩) (Kd.R_types HO_62004002.out BK62001.out (by decide)) (fun _ hk => hk.2) (.int .i64 (l0.length : Int))) (fun _ hk => hk.2) (.int .i64 x62004001_2)) (fun _ hk => hk.2) (.slice Ao26 x62004002_2.length co26)) (fun _ hk => trivial), by repeat (first | (with_reducible first | exact HB.out | apply below_alloc | apply pw_below_drewN | apply below_drew1 | refine below_set ?_ GE62001.out | refine below_set ?_ GE62003.out) | exact HB.out)⟩

end Go.Proofs.Ytjpeojohakhmdaa.PS
