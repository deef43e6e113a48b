-- Written by a program of this session, out of the translation; Lean checks it.
import Derived.Test.YtjpeojohakhmdaaPSx0
import Derived.Test.YtjpeojohakhmdaaPScolumbariumref10Right
namespace Go.Proofs.Ytjpeojohakhmdaa.PS
open Go.RowKit Go.Proofs.YtjpeojohakhmdaaW.PrintWords Go.Proofs.YtjpeojohakhmdaaW.PrintLast Go.Proofs.YtjpeojohakhmdaaW.PrintMore
attribute [local go_sem high] pw_str_leq pw_str_gtr
attribute [local go_sem] pw_us8 pw_us32 pw_us64 pw_max2_str pw_min2_str max2_int min2_int max_two min_two max_three min_three max_four min_four   -- for this text's walks alone
set_option linter.unusedVariables false
set_option linter.unusedSimpArgs false

/-! ### columbariumref10_Span: function 36 -/
mutual
def columbariumref10_Span.j0 : Nat → Int → Int → Bool → Int → Int → List Int → Option (Int × Int)
  | 0, _, _, _, _, _, _ => none
  | k + 1, x1, x2, x38, x74002000, x74002001, x74002002 => if x38 = true then (some (0, 0)) else (columbariumref10_Span.l0 k x1 x2 0 0 x74002000 x74002001 x74002002)
def columbariumref10_Span.l0 : Nat → Int → Int → Int → Int → Int → Int → List Int → Option (Int × Int)
  | 0, _, _, _, _, _, _, _ => none
  | k + 1, x1, x2, x8, x9, x74002000, x74002001, x74002002 => if x9 < (x74002002.length : Int) then (if 0 ≤ x9 then (if (rd x74002002 x9) < x1 then (columbariumref10_Span.l0 k x1 x2 (wrap64 (x8 + 1)) (wrap64 (x9 + 1)) x74002000 x74002001 x74002002) else (columbariumref10_Span.l0 k x1 x2 x8 (wrap64 (x9 + 1)) x74002000 x74002001 x74002002)) else (none)) else (if x8 > 0 then (columbariumref10_Span.j2 k x2 (wrap64 (4 * (wrap64 (x8 - 1)))) x74002000 x74002001 x74002002) else (columbariumref10_Span.j2 k x2 0 x74002000 x74002001 x74002002))
def columbariumref10_Span.j2 : Nat → Int → Int → Int → Int → List Int → Option (Int × Int)
  | 0, _, _, _, _, _ => none
  | k + 1, x2, x10, x74002000, x74002001, x74002002 => columbariumref10_Span.l1 k x2 x10 0 x74002000 x74002001 x74002002
def columbariumref10_Span.l1 : Nat → Int → Int → Int → Int → Int → List Int → Option (Int × Int)
  | 0, _, _, _, _, _, _ => none
  | k + 1, x2, x10, x11, x74002000, x74002001, x74002002 => if x11 < (x74002002.length : Int) then (if 0 ≤ x11 then (if (rd x74002002 x11) > x2 then (some (x10, wrap64 (4 * x11))) else (columbariumref10_Span.l1 k x2 x10 (wrap64 (x11 + 1)) x74002000 x74002001 x74002002)) else (none)) else (some (x10, x74002000))
end
def columbariumref10_Span.f (k : Nat) (a0_0 : Int) (a0_1 : Int) (l0_2 : List Int) (a1 : Int) (a2 : Int) : Option (Int × Int) := if a2 < a1 then (columbariumref10_Span.j0 k a1 a2 true a0_0 a0_1 l0_2) else ((columbariumref10_Right.f k a0_0 a0_1 l0_2).bind fun t74002 => (if t74002 = true then (if a0_0 = 0 then (columbariumref10_Span.j0 k a1 a2 true a0_0 a0_1 l0_2) else (if 0 < (l0_2.length : Int) then (if (rd l0_2 0) > a2 then (columbariumref10_Span.j0 k a1 a2 true a0_0 a0_1 l0_2) else (columbariumref10_Span.j0 k a1 a2 (decide (a0_1 < a1)) a0_0 a0_1 l0_2)) else (none))) else (columbariumref10_Span.j0 k a1 a2 true a0_0 a0_1 l0_2)))
theorem columbariumref10_Span.mono_l : ∀ k, (∀ y0 y1 y2 y3 y4 y5, LeO (columbariumref10_Span.j0 k y0 y1 y2 y3 y4 y5) (columbariumref10_Span.j0 (k + 1) y0 y1 y2 y3 y4 y5)) ∧ (∀ y0 y1 y2 y3 y4 y5 y6, LeO (columbariumref10_Span.l0 k y0 y1 y2 y3 y4 y5 y6) (columbariumref10_Span.l0 (k + 1) y0 y1 y2 y3 y4 y5 y6)) ∧ (∀ y0 y1 y2 y3 y4, LeO (columbariumref10_Span.j2 k y0 y1 y2 y3 y4) (columbariumref10_Span.j2 (k + 1) y0 y1 y2 y3 y4)) ∧ (∀ y0 y1 y2 y3 y4 y5, LeO (columbariumref10_Span.l1 k y0 y1 y2 y3 y4 y5) (columbariumref10_Span.l1 (k + 1) y0 y1 y2 y3 y4 y5))
  | 0 => ⟨fun _ _ _ _ _ _ r h => by simp [columbariumref10_Span.j0] at h, fun _ _ _ _ _ _ _ r h => by simp [columbariumref10_Span.l0] at h, fun _ _ _ _ _ r h => by simp [columbariumref10_Span.j2] at h, fun _ _ _ _ _ _ r h => by simp [columbariumref10_Span.l1] at h⟩
  | k + 1 => by
    obtain ⟨ih0, ih1, ih2, ih3⟩ := columbariumref10_Span.mono_l k
    refine ⟨?_, ?_, ?_, ?_⟩
    · intro y0 y1 y2 y3 y4 y5
      unfold columbariumref10_Span.j0
      repeat' first
      | (with_reducible exact ih0 _ _ _ _ _ _)
      | (with_reducible exact ih1 _ _ _ _ _ _ _)
      | (with_reducible exact ih2 _ _ _ _ _)
      | (with_reducible exact ih3 _ _ _ _ _ _)
      | (with_reducible exact columbariumref10_Right.mono _ _ _ _)
      | (with_reducible exact LeO.refl _)
      | (with_reducible exact LeO.none _)
      | (with_reducible refine LeO.ite ?_ ?_)
      | (with_reducible refine LeO.bind ?_ (fun _ => ?_))
      | exact ih0 _ _ _ _ _ _
      | exact ih1 _ _ _ _ _ _ _
      | exact ih2 _ _ _ _ _
      | exact ih3 _ _ _ _ _ _
      | exact columbariumref10_Right.mono _ _ _ _
      | exact LeO.none _
      | refine LeO.ite ?_ ?_
      | refine LeO.bind ?_ (fun _ => ?_)
    · intro y0 y1 y2 y3 y4 y5 y6
      unfold columbariumref10_Span.l0
      repeat' first
      | (with_reducible exact ih0 _ _ _ _ _ _)
      | (with_reducible exact ih1 _ _ _ _ _ _ _)
      | (with_reducible exact ih2 _ _ _ _ _)
      | (with_reducible exact ih3 _ _ _ _ _ _)
      | (with_reducible exact columbariumref10_Right.mono _ _ _ _)
      | (with_reducible exact LeO.refl _)
      | (with_reducible exact LeO.none _)
      | (with_reducible refine LeO.ite ?_ ?_)
      | (with_reducible refine LeO.bind ?_ (fun _ => ?_))
      | exact ih0 _ _ _ _ _ _
      | exact ih1 _ _ _ _ _ _ _
      | exact ih2 _ _ _ _ _
      | exact ih3 _ _ _ _ _ _
      | exact columbariumref10_Right.mono _ _ _ _
      | exact LeO.none _
      | refine LeO.ite ?_ ?_
      | refine LeO.bind ?_ (fun _ => ?_)
    · intro y0 y1 y2 y3 y4
      unfold columbariumref10_Span.j2
      repeat' first
      | (with_reducible exact ih0 _ _ _ _ _ _)
      | (with_reducible exact ih1 _ _ _ _ _ _ _)
      | (with_reducible exact ih2 _ _ _ _ _)
      | (with_reducible exact ih3 _ _ _ _ _ _)
      | (with_reducible exact columbariumref10_Right.mono _ _ _ _)
      | (with_reducible exact LeO.refl _)
      | (with_reducible exact LeO.none _)
      | (with_reducible refine LeO.ite ?_ ?_)
      | (with_reducible refine LeO.bind ?_ (fun _ => ?_))
      | exact ih0 _ _ _ _ _ _
      | exact ih1 _ _ _ _ _ _ _
      | exact ih2 _ _ _ _ _
      | exact ih3 _ _ _ _ _ _
      | exact columbariumref10_Right.mono _ _ _ _
      | exact LeO.none _
      | refine LeO.ite ?_ ?_
      | refine LeO.bind ?_ (fun _ => ?_)
    · intro y0 y1 y2 y3 y4 y5
      unfold columbariumref10_Span.l1
      repeat' first
      | (with_reducible exact ih0 _ _ _ _ _ _)
      | (with_reducible exact ih1 _ _ _ _ _ _ _)
      | (with_reducible exact ih2 _ _ _ _ _)
      | (with_reducible exact ih3 _ _ _ _ _ _)
      | (with_reducible exact columbariumref10_Right.mono _ _ _ _)
      | (with_reducible exact LeO.refl _)
      | (with_reducible exact LeO.none _)
      | (with_reducible refine LeO.ite ?_ ?_)
      | (with_reducible refine LeO.bind ?_ (fun _ => ?_))
      | exact ih0 _ _ _ _ _ _
      | exact ih1 _ _ _ _ _ _ _
      | exact ih2 _ _ _ _ _
      | exact ih3 _ _ _ _ _ _
      | exact columbariumref10_Right.mono _ _ _ _
      | exact LeO.none _
      | refine LeO.ite ?_ ?_
      | refine LeO.bind ?_ (fun _ => ?_)
theorem columbariumref10_Span.mono : ∀ a0 a1 a2 a3 a4 k, LeO (columbariumref10_Span.f k a0 a1 a2 a3 a4) (columbariumref10_Span.f (k + 1) a0 a1 a2 a3 a4) := by
  intro a0 a1 a2 a3 a4 k
  obtain ⟨ih0, ih1, ih2, ih3⟩ := columbariumref10_Span.mono_l k
  unfold columbariumref10_Span.f
  repeat' first
      | (with_reducible exact ih0 _ _ _ _ _ _)
      | (with_reducible exact ih1 _ _ _ _ _ _ _)
      | (with_reducible exact ih2 _ _ _ _ _)
      | (with_reducible exact ih3 _ _ _ _ _ _)
      | (with_reducible exact columbariumref10_Right.mono _ _ _ _)
      | (with_reducible exact LeO.refl _)
      | (with_reducible exact LeO.none _)
      | (with_reducible refine LeO.ite ?_ ?_)
      | (with_reducible refine LeO.bind ?_ (fun _ => ?_))
      | exact ih0 _ _ _ _ _ _
      | exact ih1 _ _ _ _ _ _ _
      | exact ih2 _ _ _ _ _
      | exact ih3 _ _ _ _ _ _
      | exact columbariumref10_Right.mono _ _ _ _
      | exact LeO.none _
      | refine LeO.ite ?_ ?_
      | refine LeO.bind ?_ (fun _ => ?_)
set_option maxHeartbeats 8000000 in
set_option maxRecDepth 100000 in
theorem columbariumref10_Span.calls (k : Nat) (a0_0 : Int) (a0_1 : Int) (A0_2 : Option Addr) (c0_2 : Nat) (l0_2 : List Int) (a1 : Int) (a2 : Int) (r1 : Int) (r2 : Int) (w : World) (hr0_2 : Kd.C (Kd.int .i64) w A0_2 l0_2.length l0_2) (hc0_2 : l0_2.length ≤ c0_2) (h : columbariumref10_Span.f k a0_0 a0_1 l0_2 a1 a2 = some (r1, r2)) :
    Calls Try.prog 36 #[.agg #[.int .i64 a0_0, .int .i64 a0_1, .slice A0_2 l0_2.length c0_2], .int .i64 a1, .int .i64 a2] w fun e w' => e = .returned (.tuple #[.int .i64 r1, .int .i64 r2]) ∧ Below w.heap.size w w' := by
  have hu70 := Try.underlying70
  have HR0_2 := Aside0.mk hr0_2
  have HC0_2 := Aside0.mk hc0_2
  clear hr0_2 hc0_2
  have HB := Aside0.mk (Below.refl w.heap.size w)
  have H : (if a2 < a1 then (columbariumref10_Span.j0 k a1 a2 true a0_0 a0_1 l0_2) else ((columbariumref10_Right.f k a0_0 a0_1 l0_2).bind fun t74002 => (if t74002 = true then (if a0_0 = 0 then (columbariumref10_Span.j0 k a1 a2 true a0_0 a0_1 l0_2) else (if 0 < (l0_2.length : Int) then (if (rd l0_2 0) > a2 then (columbariumref10_Span.j0 k a1 a2 true a0_0 a0_1 l0_2) else (columbariumref10_Span.j0 k a1 a2 (decide (a0_1 < a1)) a0_0 a0_1 l0_2)) else (none))) else (columbariumref10_Span.j0 k a1 a2 true a0_0 a0_1 l0_2)))) = some (r1, r2) := h
  clear h
  have HC4 := Aside0.mk H
  clear H
  go_enter Try.func36, Try.ntmps36
  go_upto_region 1 with (first | ((with_reducible refine gate_dst (N := 3) rfl ?_); refine box_event ?hg (N := 3) ?hd (cs := #[.int .i64 a0_0, .int .i64 a0_1, .slice A0_2 l0_2.length c0_2]) (t := 70) ?hr ?_; (case hd => rfl); (case hg => rfl); (case hr => first | (go_simp; done) | (go_simp; rfl)); intro gb74001 hg w5 hbox hb; have n0_ := Aside0.mk (below_step (by repeat (first | (with_reducible first | exact HB.out | apply below_alloc | apply pw_below_drewN | apply below_drew1) | exact HB.out)) hb); have n1_ := Aside0.mk (hbox); have n2_ := Aside0.mk ((by rw [hg]; exact (below_size (by repeat (first | (with_reducible first | exact HB.out | apply below_alloc | apply pw_below_drewN | apply below_drew1) | exact HB.out))) : w.heap.size ≤ gb74001)); have n3_ := Aside0.mk ((by rw [hg]; exact (below_size (by repeat (first | (with_reducible first | exact HB.out | apply below_alloc | apply pw_below_drewN | apply below_drew1) | exact HB.out))) : w.heap.size ≤ gb74001)); clear HB; have HB := n0_; have BK74001 := n1_; have GW74001 := n2_; have GE74001 := n3_; clear n0_ n1_ n2_ n3_; clear hb hbox hg))
  repeat (go_quiet (first | ((with_reducible refine gate_dst (N := 3) rfl ?_); refine box_event ?hg (N := 3) ?hd (cs := #[.int .i64 a0_0, .int .i64 a0_1, .slice A0_2 l0_2.length c0_2]) (t := 70) ?hr ?_; (case hd => rfl); (case hg => rfl); (case hr => first | (go_simp; done) | (go_simp; rfl)); intro gb74001 hg w5 hbox hb; have n0_ := Aside0.mk (below_step (by repeat (first | (with_reducible first | exact HB.out | apply below_alloc | apply pw_below_drewN | apply below_drew1) | exact HB.out)) hb); have n1_ := Aside0.mk (hbox); have n2_ := Aside0.mk ((by rw [hg]; exact (below_size (by repeat (first | (with_reducible first | exact HB.out | apply below_alloc | apply pw_below_drewN | apply below_drew1) | exact HB.out))) : w.heap.size ≤ gb74001)); have n3_ := Aside0.mk ((by rw [hg]; exact (below_size (by repeat (first | (with_reducible first | exact HB.out | apply below_alloc | apply pw_below_drewN | apply below_drew1) | exact HB.out))) : w.heap.size ≤ gb74001)); clear HB; have HB := n0_; have BK74001 := n1_; have GW74001 := n2_; have GE74001 := n3_; clear n0_ n1_ n2_ n3_; clear hb hbox hg)); go_upto_region 1 with (first | ((with_reducible refine gate_dst (N := 3) rfl ?_); refine box_event ?hg (N := 3) ?hd (cs := #[.int .i64 a0_0, .int .i64 a0_1, .slice A0_2 l0_2.length c0_2]) (t := 70) ?hr ?_; (case hd => rfl); (case hg => rfl); (case hr => first | (go_simp; done) | (go_simp; rfl)); intro gb74001 hg w5 hbox hb; have n0_ := Aside0.mk (below_step (by repeat (first | (with_reducible first | exact HB.out | apply below_alloc | apply pw_below_drewN | apply below_drew1) | exact HB.out)) hb); have n1_ := Aside0.mk (hbox); have n2_ := Aside0.mk ((by rw [hg]; exact (below_size (by repeat (first | (with_reducible first | exact HB.out | apply below_alloc | apply pw_below_drewN | apply below_drew1) | exact HB.out))) : w.heap.size ≤ gb74001)); have n3_ := Aside0.mk ((by rw [hg]; exact (below_size (by repeat (first | (with_reducible first | exact HB.out | apply below_alloc | apply pw_below_drewN | apply below_drew1) | exact HB.out))) : w.heap.size ≤ gb74001)); clear HB; have HB := n0_; have BK74001 := n1_; have GW74001 := n2_; have GE74001 := n3_; clear n0_ n1_ n2_ n3_; clear hb hbox hg)))
  (try simp only [Act.put, List.setIfInBounds_toArray, List.set_cons_zero, List.set_cons_succ])
  go_cut [38] (fun v38 wc => ∃ (kq : Nat) (x38_3 : Bool), v38 = .bool x38_3 ∧ Aside0 (columbariumref10_Span.j0 kq a1 a2 x38_3 a0_0 a0_1 l0_2 = some (r1, r2)) ∧ Aside0 (kq ≤ k) ∧ Aside0 (wc.heap[gb74001]? = some (.cells #[.int .i64 a0_0, .int .i64 a0_1, (.slice A0_2 l0_2.length c0_2)] 70 (0, 0))) ∧ Aside0 (Below w.heap.size w wc))
  case first =>
    have H := HC4.out
    clear HC4
    by_cases c6 : a2 < a1
    · rw [if_pos c6] at H
      have c6b0 : decide (a2 < a1) = true := decide_eq_true c6
      clear c6
      (first | rw [c6b0] | (simp only [i64_w, i32_w]; rw [c6b0]) | rw [c6b1] | skip)
      have H' := Aside0.mk H
      clear H
      go_wp2
      repeat (go_quiet (fail); try go_wp2)
      go_meet
      case rel => exact ⟨_, (true), (by first | rfl | (simp; done) | (simp [*]; done) | (refine congrArg (Value.int .i64) ?_; (try simp only [decide_eq_true_eq, decide_eq_false_iff_not] at *) <;> (unfold wrap64; omega))), H', ⟨by first | omega | exact Nat.le_refl _⟩, ⟨by (with_reducible repeat (first | refine blk_drewN ?_ _ | refine blk_drew ?_ | refine blk_alloc ?_ _)); exact BK74001.out⟩, ⟨by repeat (first | (with_reducible first | exact HB.out | apply below_alloc | apply pw_below_drewN | apply below_drew1 | refine below_set ?_ GE74001.out) | exact HB.out)⟩⟩
    · rw [if_neg c6] at H
      have c6b0 : decide (a2 < a1) = false := decide_eq_false c6
      clear c6
      (first | rw [c6b0] | (simp only [i64_w, i32_w]; rw [c6b0]) | rw [c6b1] | skip)
      replace H := Option.bind_eq_some_iff.mp H
      obtain ⟨t74002, A70, H⟩ := H
      replace H : (if t74002 = true then (if a0_0 = 0 then (columbariumref10_Span.j0 k a1 a2 true a0_0 a0_1 l0_2) else (if 0 < (l0_2.length : Int) then (if (rd l0_2 0) > a2 then (columbariumref10_Span.j0 k a1 a2 true a0_0 a0_1 l0_2) else (columbariumref10_Span.j0 k a1 a2 (decide (a0_1 < a1)) a0_0 a0_1 l0_2)) else (none))) else (columbariumref10_Span.j0 k a1 a2 true a0_0 a0_1 l0_2)) = some (r1, r2) := H
      have A7 := Aside0.mk A70
      clear A70
      by_cases c8 : t74002 = true
      · subst c8
        have H1 : (if a0_0 = 0 then (columbariumref10_Span.j0 k a1 a2 true a0_0 a0_1 l0_2) else (if 0 < (l0_2.length : Int) then (if (rd l0_2 0) > a2 then (columbariumref10_Span.j0 k a1 a2 true a0_0 a0_1 l0_2) else (columbariumref10_Span.j0 k a1 a2 (decide (a0_1 < a1)) a0_0 a0_1 l0_2)) else (none))) = some (r1, r2) := by rw [if_pos rfl] at H; exact H
        clear H
        have H := H1
        clear H1
        by_cases c9 : a0_0 = 0
        · rw [if_pos c9] at H
          have c9b0 : (a0_0 == 0) = true := beq_iff_eq.mpr c9
          have c9b1 : (a0_0 != 0) = false := bne_eq_false_iff_eq.mpr c9
          clear c9
          have H' := Aside0.mk H
          clear H
          have hcz10_0 : w5.cell? ⟨gb74001, 0, none⟩ = some (.int .i64 a0_0) := (blk_cell BK74001.out 0).trans rfl
          have hcz10_1 : w5.cell? ⟨gb74001, 1, none⟩ = some (.int .i64 a0_1) := (blk_cell BK74001.out 1).trans rfl
          have hcz10_2 : w5.cell? ⟨gb74001, 2, none⟩ = some (.slice A0_2 l0_2.length c0_2) := (blk_cell BK74001.out 2).trans rfl
          have hfz10_0 := blk_frozen BK74001.out 0
          have hfz10_1 := blk_frozen BK74001.out 1
          have hfz10_2 := blk_frozen BK74001.out 2
          go_wp2_with (first | (go_at_call 40; (with_reducible refine (columbariumref10_Right.calls k a0_0 a0_1 _ _ l0_2 true _ ?side1 ?side2 A7.out).mono ?_); (case side1 => repeat (first | exact (Kd.C_below HR0_2.out HB.out) | (with_reducible refine Kd.C_alloc ?_ _) | (with_reducible refine Kd.C_drewN ?_ _) | (with_reducible refine Kd.C_drew ?_))); (case side2 => exact HC0_2.out); rintro e w11 ⟨rfl, hb⟩; have n0_ := Aside0.mk (blk_below (g := gb74001) (o := .cells #[.int .i64 a0_0, .int .i64 a0_1, .slice A0_2 l0_2.length c0_2] 70 (0, 0)) (by (with_reducible repeat (first | refine blk_drewN ?_ _ | refine blk_drew ?_ | refine blk_alloc ?_ _)); exact BK74001.out) hb); have n1_ := Aside0.mk (below_step (by repeat (first | (with_reducible first | exact HB.out | apply below_alloc | apply pw_below_drewN | apply below_drew1 | refine below_set ?_ GE74001.out) | exact HB.out)) hb); clear BK74001; clear HB; have BK74001 := n0_; have HB := n1_; clear n0_ n1_; (try clear hb); (try clear hb2); (try clear hk); (try clear hi); have hcz12_0 : w11.cell? ⟨gb74001, 0, none⟩ = some (.int .i64 a0_0) := (blk_cell BK74001.out 0).trans rfl; have hcz12_1 : w11.cell? ⟨gb74001, 1, none⟩ = some (.int .i64 a0_1) := (blk_cell BK74001.out 1).trans rfl; have hcz12_2 : w11.cell? ⟨gb74001, 2, none⟩ = some (.slice A0_2 l0_2.length c0_2) := (blk_cell BK74001.out 2).trans rfl; have hfz12_0 := blk_frozen BK74001.out 0; have hfz12_1 := blk_frozen BK74001.out 1; have hfz12_2 := blk_frozen BK74001.out 2))
          repeat (go_quiet (first | (go_at_call 40; (with_reducible refine (columbariumref10_Right.calls k a0_0 a0_1 _ _ l0_2 true _ ?side1 ?side2 A7.out).mono ?_); (case side1 => repeat (first | exact (Kd.C_below HR0_2.out HB.out) | (with_reducible refine Kd.C_alloc ?_ _) | (with_reducible refine Kd.C_drewN ?_ _) | (with_reducible refine Kd.C_drew ?_))); (case side2 => exact HC0_2.out); rintro e w11 ⟨rfl, hb⟩; have n0_ := Aside0.mk (blk_below (g := gb74001) (o := .cells #[.int .i64 a0_0, .int .i64 a0_1, .slice A0_2 l0_2.length c0_2] 70 (0, 0)) (by (with_reducible repeat (first | refine blk_drewN ?_ _ | refine blk_drew ?_ | refine blk_alloc ?_ _)); exact BK74001.out) hb); have n1_ := Aside0.mk (below_step (by repeat (first | (with_reducible first | exact HB.out | apply below_alloc | apply pw_below_drewN | apply below_drew1 | refine below_set ?_ GE74001.out) | exact HB.out)) hb); clear BK74001; clear HB; have BK74001 := n0_; have HB := n1_; clear n0_ n1_; (try clear hb); (try clear hb2); (try clear hk); (try clear hi); have hcz12_0 : w11.cell? ⟨gb74001, 0, none⟩ = some (.int .i64 a0_0) := (blk_cell BK74001.out 0).trans rfl; have hcz12_1 : w11.cell? ⟨gb74001, 1, none⟩ = some (.int .i64 a0_1) := (blk_cell BK74001.out 1).trans rfl; have hcz12_2 : w11.cell? ⟨gb74001, 2, none⟩ = some (.slice A0_2 l0_2.length c0_2) := (blk_cell BK74001.out 2).trans rfl; have hfz12_0 := blk_frozen BK74001.out 0; have hfz12_1 := blk_frozen BK74001.out 1; have hfz12_2 := blk_frozen BK74001.out 2)); try go_wp2_with (first | (go_at_call 40; (with_reducible refine (columbariumref10_Right.calls k a0_0 a0_1 _ _ l0_2 true _ ?side1 ?side2 A7.out).mono ?_); (case side1 => repeat (first | exact (Kd.C_below HR0_2.out HB.out) | (with_reducible refine Kd.C_alloc ?_ _) | (with_reducible refine Kd.C_drewN ?_ _) | (with_reducible refine Kd.C_drew ?_))); (case side2 => exact HC0_2.out); rintro e w11 ⟨rfl, hb⟩; have n0_ := Aside0.mk (blk_below (g := gb74001) (o := .cells #[.int .i64 a0_0, .int .i64 a0_1, .slice A0_2 l0_2.length c0_2] 70 (0, 0)) (by (with_reducible repeat (first | refine blk_drewN ?_ _ | refine blk_drew ?_ | refine blk_alloc ?_ _)); exact BK74001.out) hb); have n1_ := Aside0.mk (below_step (by repeat (first | (with_reducible first | exact HB.out | apply below_alloc | apply pw_below_drewN | apply below_drew1 | refine below_set ?_ GE74001.out) | exact HB.out)) hb); clear BK74001; clear HB; have BK74001 := n0_; have HB := n1_; clear n0_ n1_; (try clear hb); (try clear hb2); (try clear hk); (try clear hi); have hcz12_0 : w11.cell? ⟨gb74001, 0, none⟩ = some (.int .i64 a0_0) := (blk_cell BK74001.out 0).trans rfl; have hcz12_1 : w11.cell? ⟨gb74001, 1, none⟩ = some (.int .i64 a0_1) := (blk_cell BK74001.out 1).trans rfl; have hcz12_2 : w11.cell? ⟨gb74001, 2, none⟩ = some (.slice A0_2 l0_2.length c0_2) := (blk_cell BK74001.out 2).trans rfl; have hfz12_0 := blk_frozen BK74001.out 0; have hfz12_1 := blk_frozen BK74001.out 1; have hfz12_2 := blk_frozen BK74001.out 2)))
          go_meet
          case rel => exact ⟨_, (true), (by first | rfl | (simp; done) | (simp [*]; done) | (refine congrArg (Value.int .i64) ?_; (try simp only [decide_eq_true_eq, decide_eq_false_iff_not] at *) <;> (unfold wrap64; omega))), H', ⟨by first | omega | exact Nat.le_refl _⟩, ⟨by (with_reducible repeat (first | refine blk_drewN ?_ _ | refine blk_drew ?_ | refine blk_alloc ?_ _)); exact BK74001.out⟩, ⟨by repeat (first | (with_reducible first | exact HB.out | apply below_alloc | apply pw_below_drewN | apply below_drew1 | refine below_set ?_ GE74001.out) | exact HB.out)⟩⟩
        · rw [if_neg c9] at H
          have c9b0 : (a0_0 == 0) = false := beq_eq_false_iff_ne.mpr c9
          have c9b1 : (a0_0 != 0) = true := bne_iff_ne.mpr c9
          by_cases c13 : 0 < (l0_2.length : Int)
          · rw [if_pos c13] at H
            have c13b0 : decide (0 < (l0_2.length : Int)) = true := decide_eq_true c13
            have c13b1 : decide (0 < l0_2.length) = true := decide_eq_true (by omega)
            clear c13
            by_cases c14 : (rd l0_2 0) > a2
            · rw [if_pos c14] at H
              have c14b0 : decide (a2 < (rd l0_2 0)) = true := decide_eq_true c14
              clear c14
              have H' := Aside0.mk H
              clear H
              have hcz15_0 : w5.cell? ⟨gb74001, 0, none⟩ = some (.int .i64 a0_0) := (blk_cell BK74001.out 0).trans rfl
              have hcz15_1 : w5.cell? ⟨gb74001, 1, none⟩ = some (.int .i64 a0_1) := (blk_cell BK74001.out 1).trans rfl
              have hcz15_2 : w5.cell? ⟨gb74001, 2, none⟩ = some (.slice A0_2 l0_2.length c0_2) := (blk_cell BK74001.out 2).trans rfl
              have hfz15_0 := blk_frozen BK74001.out 0
              have hfz15_1 := blk_frozen BK74001.out 1
              have hfz15_2 := blk_frozen BK74001.out 2
              go_wp2_with (first | (go_at_call 40; (with_reducible refine (columbariumref10_Right.calls k a0_0 a0_1 _ _ l0_2 true _ ?side1 ?side2 A7.out).mono ?_); (case side1 => repeat (first | exact (Kd.C_below HR0_2.out HB.out) | (with_reducible refine Kd.C_alloc ?_ _) | (with_reducible refine Kd.C_drewN ?_ _) | (with_reducible refine Kd.C_drew ?_))); (case side2 => exact HC0_2.out); rintro e w16 ⟨rfl, hb⟩; have n0_ := Aside0.mk (blk_below (g := gb74001) (o := .cells #[.int .i64 a0_0, .int .i64 a0_1, .slice A0_2 l0_2.length c0_2] 70 (0, 0)) (by (with_reducible repeat (first | refine blk_drewN ?_ _ | refine blk_drew ?_ | refine blk_alloc ?_ _)); exact BK74001.out) hb); have n1_ := Aside0.mk (below_step (by repeat (first | (with_reducible first | exact HB.out | apply below_alloc | apply pw_below_drewN | apply below_drew1 | refine below_set ?_ GE74001.out) | exact HB.out)) hb); clear BK74001; clear HB; have BK74001 := n0_; have HB := n1_; clear n0_ n1_; (try clear hb); (try clear hb2); (try clear hk); (try clear hi); have hcz17_0 : w16.cell? ⟨gb74001, 0, none⟩ = some (.int .i64 a0_0) := (blk_cell BK74001.out 0).trans rfl; have hcz17_1 : w16.cell? ⟨gb74001, 1, none⟩ = some (.int .i64 a0_1) := (blk_cell BK74001.out 1).trans rfl; have hcz17_2 : w16.cell? ⟨gb74001, 2, none⟩ = some (.slice A0_2 l0_2.length c0_2) := (blk_cell BK74001.out 2).trans rfl; have hfz17_0 := blk_frozen BK74001.out 0; have hfz17_1 := blk_frozen BK74001.out 1; have hfz17_2 := blk_frozen BK74001.out 2; have p74003 : 0 ≤ (0 : Int) := (by omega); have q74003 : 0 < (l0_2.length : Int) := of_decide_eq_true (by first | (with_reducible assumption) | assumption); obtain ⟨ad74003, e74003, hx74003_0⟩ := Kd.at_int HR0_2.out 0 p74003 q74003; cases e74003; have qi74003 : (0 < l0_2.length) = True := eq_true (by omega); (try rw [show ((0 : Int)).toNat = 0 from rfl] at hx74003_0); (try rw [Addr.add_zero'] at hx74003_0); replace hx74003_0 := (HB.out.cell (World.block_lt_of_cell? w _ hx74003_0)).trans hx74003_0; replace p74003 := eq_true p74003; replace q74003 := eq_true q74003))
              repeat (go_quiet (first | (go_at_call 40; (with_reducible refine (columbariumref10_Right.calls k a0_0 a0_1 _ _ l0_2 true _ ?side1 ?side2 A7.out).mono ?_); (case side1 => repeat (first | exact (Kd.C_below HR0_2.out HB.out) | (with_reducible refine Kd.C_alloc ?_ _) | (with_reducible refine Kd.C_drewN ?_ _) | (with_reducible refine Kd.C_drew ?_))); (case side2 => exact HC0_2.out); rintro e w16 ⟨rfl, hb⟩; have n0_ := Aside0.mk (blk_below (g := gb74001) (o := .cells #[.int .i64 a0_0, .int .i64 a0_1, .slice A0_2 l0_2.length c0_2] 70 (0, 0)) (by (with_reducible repeat (first | refine blk_drewN ?_ _ | refine blk_drew ?_ | refine blk_alloc ?_ _)); exact BK74001.out) hb); have n1_ := Aside0.mk (below_step (by repeat (first | (with_reducible first | exact HB.out | apply below_alloc | apply pw_below_drewN | apply below_drew1 | refine below_set ?_ GE74001.out) | exact HB.out)) hb); clear BK74001; clear HB; have BK74001 := n0_; have HB := n1_; clear n0_ n1_; (try clear hb); (try clear hb2); (try clear hk); (try clear hi); have hcz17_0 : w16.cell? ⟨gb74001, 0, none⟩ = some (.int .i64 a0_0) := (blk_cell BK74001.out 0).trans rfl; have hcz17_1 : w16.cell? ⟨gb74001, 1, none⟩ = some (.int .i64 a0_1) := (blk_cell BK74001.out 1).trans rfl; have hcz17_2 : w16.cell? ⟨gb74001, 2, none⟩ = some (.slice A0_2 l0_2.length c0_2) := (blk_cell BK74001.out 2).trans rfl; have hfz17_0 := blk_frozen BK74001.out 0; have hfz17_1 := blk_frozen BK74001.out 1; have hfz17_2 := blk_frozen BK74001.out 2; have p74003 : 0 ≤ (0 : Int) := (by omega); have q74003 : 0 < (l0_2.length : Int) := of_decide_eq_true (by first | (with_reducible assumption) | assumption); obtain ⟨ad74003, e74003, hx74003_0⟩ := Kd.at_int HR0_2.out 0 p74003 q74003; cases e74003; have qi74003 : (0 < l0_2.length) = True := eq_true (by omega); (try rw [show ((0 : Int)).toNat = 0 from rfl] at hx74003_0); (try rw [Addr.add_zero'] at hx74003_0); replace hx74003_0 := (HB.out.cell (World.block_lt_of_cell? w _ hx74003_0)).trans hx74003_0; replace p74003 := eq_true p74003; replace q74003 := eq_true q74003)); try go_wp2_with (first | (go_at_call 40; (with_reducible refine (columbariumref10_Right.calls k a0_0 a0_1 _ _ l0_2 true _ ?side1 ?side2 A7.out).mono ?_); (case side1 => repeat (first | exact (Kd.C_below HR0_2.out HB.out) | (with_reducible refine Kd.C_alloc ?_ _) | (with_reducible refine Kd.C_drewN ?_ _) | (with_reducible refine Kd.C_drew ?_))); (case side2 => exact HC0_2.out); rintro e w16 ⟨rfl, hb⟩; have n0_ := Aside0.mk (blk_below (g := gb74001) (o := .cells #[.int .i64 a0_0, .int .i64 a0_1, .slice A0_2 l0_2.length c0_2] 70 (0, 0)) (by (with_reducible repeat (first | refine blk_drewN ?_ _ | refine blk_drew ?_ | refine blk_alloc ?_ _)); exact BK74001.out) hb); have n1_ := Aside0.mk (below_step (by repeat (first | (with_reducible first | exact HB.out | apply below_alloc | apply pw_below_drewN | apply below_drew1 | refine below_set ?_ GE74001.out) | exact HB.out)) hb); clear BK74001; clear HB; have BK74001 := n0_; have HB := n1_; clear n0_ n1_; (try clear hb); (try clear hb2); (try clear hk); (try clear hi); have hcz17_0 : w16.cell? ⟨gb74001, 0, none⟩ = some (.int .i64 a0_0) := (blk_cell BK74001.out 0).trans rfl; have hcz17_1 : w16.cell? ⟨gb74001, 1, none⟩ = some (.int .i64 a0_1) := (blk_cell BK74001.out 1).trans rfl; have hcz17_2 : w16.cell? ⟨gb74001, 2, none⟩ = some (.slice A0_2 l0_2.length c0_2) := (blk_cell BK74001.out 2).trans rfl; have hfz17_0 := blk_frozen BK74001.out 0; have hfz17_1 := blk_frozen BK74001.out 1; have hfz17_2 := blk_frozen BK74001.out 2; have p74003 : 0 ≤ (0 : Int) := (by omega); have q74003 : 0 < (l0_2.length : Int) := of_decide_eq_true (by first | (with_reducible assumption) | assumption); obtain ⟨ad74003, e74003, hx74003_0⟩ := Kd.at_int HR0_2.out 0 p74003 q74003; cases e74003; have qi74003 : (0 < l0_2.length) = True := eq_true (by omega); (try rw [show ((0 : Int)).toNat = 0 from rfl] at hx74003_0); (try rw [Addr.add_zero'] at hx74003_0); replace hx74003_0 := (HB.out.cell (World.block_lt_of_cell? w _ hx74003_0)).trans hx74003_0; replace p74003 := eq_true p74003; replace q74003 := eq_true q74003)))
              go_meet
              case rel => exact ⟨_, (true), (by first | rfl | (simp; done) | (simp [*]; done) | (refine congrArg (Value.int .i64) ?_; (try simp only [decide_eq_true_eq, decide_eq_false_iff_not] at *) <;> (unfold wrap64; omega))), H', ⟨by first | omega | exact Nat.le_refl _⟩, ⟨by (with_reducible repeat (first | refine blk_drewN ?_ _ | refine blk_drew ?_ | refine blk_alloc ?_ _)); exact BK74001.out⟩, ⟨by repeat (first | (with_reducible first | exact HB.out | apply below_alloc | apply pw_below_drewN | apply below_drew1 | refine below_set ?_ GE74001.out) | exact HB.out)⟩⟩
            · rw [if_neg c14] at H
              have c14b0 : decide (a2 < (rd l0_2 0)) = false := decide_eq_false c14
              clear c14
              have H' := Aside0.mk H
              clear H
              have hcz18_0 : w5.cell? ⟨gb74001, 0, none⟩ = some (.int .i64 a0_0) := (blk_cell BK74001.out 0).trans rfl
              have hcz18_1 : w5.cell? ⟨gb74001, 1, none⟩ = some (.int .i64 a0_1) := (blk_cell BK74001.out 1).trans rfl
              have hcz18_2 : w5.cell? ⟨gb74001, 2, none⟩ = some (.slice A0_2 l0_2.length c0_2) := (blk_cell BK74001.out 2).trans rfl
              have hfz18_0 := blk_frozen BK74001.out 0
              have hfz18_1 := blk_frozen BK74001.out 1
              have hfz18_2 := blk_frozen BK74001.out 2
              go_wp2_with (first | (go_at_call 40; (with_reducible refine (columbariumref10_Right.calls k a0_0 a0_1 _ _ l0_2 true _ ?side1 ?side2 A7.out).mono ?_); (case side1 => repeat (first | exact (Kd.C_below HR0_2.out HB.out) | (with_reducible refine Kd.C_alloc ?_ _) | (with_reducible refine Kd.C_drewN ?_ _) | (with_reducible refine Kd.C_drew ?_))); (case side2 => exact HC0_2.out); rintro e w19 ⟨rfl, hb⟩; have n0_ := Aside0.mk (blk_below (g := gb74001) (o := .cells #[.int .i64 a0_0, .int .i64 a0_1, .slice A0_2 l0_2.length c0_2] 70 (0, 0)) (by (with_reducible repeat (first | refine blk_drewN ?_ _ | refine blk_drew ?_ | refine blk_alloc ?_ _)); exact BK74001.out) hb); have n1_ := Aside0.mk (below_step (by repeat (first | (with_reducible first | exact HB.out | apply below_alloc | apply pw_below_drewN | apply below_drew1 | refine below_set ?_ GE74001.out) | exact HB.out)) hb); clear BK74001; clear HB; have BK74001 := n0_; have HB := n1_; clear n0_ n1_; (try clear hb); (try clear hb2); (try clear hk); (try clear hi); have hcz20_0 : w19.cell? ⟨gb74001, 0, none⟩ = some (.int .i64 a0_0) := (blk_cell BK74001.out 0).trans rfl; have hcz20_1 : w19.cell? ⟨gb74001, 1, none⟩ = some (.int .i64 a0_1) := (blk_cell BK74001.out 1).trans rfl; have hcz20_2 : w19.cell? ⟨gb74001, 2, none⟩ = some (.slice A0_2 l0_2.length c0_2) := (blk_cell BK74001.out 2).trans rfl; have hfz20_0 := blk_frozen BK74001.out 0; have hfz20_1 := blk_frozen BK74001.out 1; have hfz20_2 := blk_frozen BK74001.out 2; have p74003 : 0 ≤ (0 : Int) := (by omega); have q74003 : 0 < (l0_2.length : Int) := of_decide_eq_true (by first | (with_reducible assumption) | assumption); obtain ⟨ad74003, e74003, hx74003_0⟩ := Kd.at_int HR0_2.out 0 p74003 q74003; cases e74003; have qi74003 : (0 < l0_2.length) = True := eq_true (by omega); (try rw [show ((0 : Int)).toNat = 0 from rfl] at hx74003_0); (try rw [Addr.add_zero'] at hx74003_0); replace hx74003_0 := (HB.out.cell (World.block_lt_of_cell? w _ hx74003_0)).trans hx74003_0; replace p74003 := eq_true p74003; replace q74003 := eq_true q74003))
              repeat (go_quiet (first | (go_at_call 40; (with_reducible refine (columbariumref10_Right.calls k a0_0 a0_1 _ _ l0_2 true _ ?side1 ?side2 A7.out).mono ?_); (case side1 => repeat (first | exact (Kd.C_below HR0_2.out HB.out) | (with_reducible refine Kd.C_alloc ?_ _) | (with_reducible refine Kd.C_drewN ?_ _) | (with_reducible refine Kd.C_drew ?_))); (case side2 => exact HC0_2.out); rintro e w19 ⟨rfl, hb⟩; have n0_ := Aside0.mk (blk_below (g := gb74001) (o := .cells #[.int .i64 a0_0, .int .i64 a0_1, .slice A0_2 l0_2.length c0_2] 70 (0, 0)) (by (with_reducible repeat (first | refine blk_drewN ?_ _ | refine blk_drew ?_ | refine blk_alloc ?_ _)); exact BK74001.out) hb); have n1_ := Aside0.mk (below_step (by repeat (first | (with_reducible first | exact HB.out | apply below_alloc | apply pw_below_drewN | apply below_drew1 | refine below_set ?_ GE74001.out) | exact HB.out)) hb); clear BK74001; clear HB; have BK74001 := n0_; have HB := n1_; clear n0_ n1_; (try clear hb); (try clear hb2); (try clear hk); (try clear hi); have hcz20_0 : w19.cell? ⟨gb74001, 0, none⟩ = some (.int .i64 a0_0) := (blk_cell BK74001.out 0).trans rfl; have hcz20_1 : w19.cell? ⟨gb74001, 1, none⟩ = some (.int .i64 a0_1) := (blk_cell BK74001.out 1).trans rfl; have hcz20_2 : w19.cell? ⟨gb74001, 2, none⟩ = some (.slice A0_2 l0_2.length c0_2) := (blk_cell BK74001.out 2).trans rfl; have hfz20_0 := blk_frozen BK74001.out 0; have hfz20_1 := blk_frozen BK74001.out 1; have hfz20_2 := blk_frozen BK74001.out 2; have p74003 : 0 ≤ (0 : Int) := (by omega); have q74003 : 0 < (l0_2.length : Int) := of_decide_eq_true (by first | (with_reducible assumption) | assumption); obtain ⟨ad74003, e74003, hx74003_0⟩ := Kd.at_int HR0_2.out 0 p74003 q74003; cases e74003; have qi74003 : (0 < l0_2.length) = True := eq_true (by omega); (try rw [show ((0 : Int)).toNat = 0 from rfl] at hx74003_0); (try rw [Addr.add_zero'] at hx74003_0); replace hx74003_0 := (HB.out.cell (World.block_lt_of_cell? w _ hx74003_0)).trans hx74003_0; replace p74003 := eq_true p74003; replace q74003 := eq_true q74003)); try go_wp2_with (first | (go_at_call 40; (with_reducible refine (columbariumref10_Right.calls k a0_0 a0_1 _ _ l0_2 true _ ?side1 ?side2 A7.out).mono ?_); (case side1 => repeat (first | exact (Kd.C_below HR0_2.out HB.out) | (with_reducible refine Kd.C_alloc ?_ _) | (with_reducible refine Kd.C_drewN ?_ _) | (with_reducible refine Kd.C_drew ?_))); (case side2 => exact HC0_2.out); rintro e w19 ⟨rfl, hb⟩; have n0_ := Aside0.mk (blk_below (g := gb74001) (o := .cells #[.int .i64 a0_0, .int .i64 a0_1, .slice A0_2 l0_2.length c0_2] 70 (0, 0)) (by (with_reducible repeat (first | refine blk_drewN ?_ _ | refine blk_drew ?_ | refine blk_alloc ?_ _)); exact BK74001.out) hb); have n1_ := Aside0.mk (below_step (by repeat (first | (with_reducible first | exact HB.out | apply below_alloc | apply pw_below_drewN | apply below_drew1 | refine below_set ?_ GE74001.out) | exact HB.out)) hb); clear BK74001; clear HB; have BK74001 := n0_; have HB := n1_; clear n0_ n1_; (try clear hb); (try clear hb2); (try clear hk); (try clear hi); have hcz20_0 : w19.cell? ⟨gb74001, 0, none⟩ = some (.int .i64 a0_0) := (blk_cell BK74001.out 0).trans rfl; have hcz20_1 : w19.cell? ⟨gb74001, 1, none⟩ = some (.int .i64 a0_1) := (blk_cell BK74001.out 1).trans rfl; have hcz20_2 : w19.cell? ⟨gb74001, 2, none⟩ = some (.slice A0_2 l0_2.length c0_2) := (blk_cell BK74001.out 2).trans rfl; have hfz20_0 := blk_frozen BK74001.out 0; have hfz20_1 := blk_frozen BK74001.out 1; have hfz20_2 := blk_frozen BK74001.out 2; have p74003 : 0 ≤ (0 : Int) := (by omega); have q74003 : 0 < (l0_2.length : Int) := of_decide_eq_true (by first | (with_reducible assumption) | assumption); obtain ⟨ad74003, e74003, hx74003_0⟩ := Kd.at_int HR0_2.out 0 p74003 q74003; cases e74003; have qi74003 : (0 < l0_2.length) = True := eq_true (by omega); (try rw [show ((0 : Int)).toNat = 0 from rfl] at hx74003_0); (try rw [Addr.add_zero'] at hx74003_0); replace hx74003_0 := (HB.out.cell (World.block_lt_of_cell? w _ hx74003_0)).trans hx74003_0; replace p74003 := eq_true p74003; replace q74003 := eq_true q74003)))
              go_meet
              case rel => exact ⟨_, (decide (a0_1 < a1)), (by first | rfl | (simp; done) | (simp [*]; done) | (refine congrArg (Value.int .i64) ?_; (try simp only [decide_eq_true_eq, decide_eq_false_iff_not] at *) <;> (unfold wrap64; omega))), H', ⟨by first | omega | exact Nat.le_refl _⟩, ⟨by (with_reducible repeat (first | refine blk_drewN ?_ _ | refine blk_drew ?_ | refine blk_alloc ?_ _)); exact BK74001.out⟩, ⟨by repeat (first | (with_reducible first | exact HB.out | apply below_alloc | apply pw_below_drewN | apply below_drew1 | refine below_set ?_ GE74001.out) | exact HB.out)⟩⟩
          · rw [if_neg c13] at H
            exact absurd H (by simp)
      · replace c8 := Bool.eq_false_iff.mpr c8
        subst c8
        have H1 : (columbariumref10_Span.j0 k a1 a2 true a0_0 a0_1 l0_2) = some (r1, r2) := by rw [if_neg (show ¬ (false = true) by decide)] at H; exact H
        clear H
        have H := H1
        clear H1
        have H' := Aside0.mk H
        clear H
        have hcz21_0 : w5.cell? ⟨gb74001, 0, none⟩ = some (.int .i64 a0_0) := (blk_cell BK74001.out 0).trans rfl
        have hcz21_1 : w5.cell? ⟨gb74001, 1, none⟩ = some (.int .i64 a0_1) := (blk_cell BK74001.out 1).trans rfl
        have hcz21_2 : w5.cell? ⟨gb74001, 2, none⟩ = some (.slice A0_2 l0_2.length c0_2) := (blk_cell BK74001.out 2).trans rfl
        have hfz21_0 := blk_frozen BK74001.out 0
        have hfz21_1 := blk_frozen BK74001.out 1
        have hfz21_2 := blk_frozen BK74001.out 2
        go_wp2_with (first | (go_at_call 40; (with_reducible refine (columbariumref10_Right.calls k a0_0 a0_1 _ _ l0_2 false _ ?side1 ?side2 A7.out).mono ?_); (case side1 => repeat (first | exact (Kd.C_below HR0_2.out HB.out) | (with_reducible refine Kd.C_alloc ?_ _) | (with_reducible refine Kd.C_drewN ?_ _) | (with_reducible refine Kd.C_drew ?_))); (case side2 => exact HC0_2.out); rintro e w22 ⟨rfl, hb⟩; have n0_ := Aside0.mk (blk_below (g := gb74001) (o := .cells #[.int .i64 a0_0, .int .i64 a0_1, .slice A0_2 l0_2.length c0_2] 70 (0, 0)) (by (with_reducible repeat (first | refine blk_drewN ?_ _ | refine blk_drew ?_ | refine blk_alloc ?_ _)); exact BK74001.out) hb); have n1_ := Aside0.mk (below_step (by repeat (first | (with_reducible first | exact HB.out | apply below_alloc | apply pw_below_drewN | apply below_drew1 | refine below_set ?_ GE74001.out) | exact HB.out)) hb); clear BK74001; clear HB; have BK74001 := n0_; have HB := n1_; clear n0_ n1_; (try clear hb); (try clear hb2); (try clear hk); (try clear hi)))
        repeat (go_quiet (first | (go_at_call 40; (with_reducible refine (columbariumref10_Right.calls k a0_0 a0_1 _ _ l0_2 false _ ?side1 ?side2 A7.out).mono ?_); (case side1 => repeat (first | exact (Kd.C_below HR0_2.out HB.out) | (with_reducible refine Kd.C_alloc ?_ _) | (with_reducible refine Kd.C_drewN ?_ _) | (with_reducible refine Kd.C_drew ?_))); (case side2 => exact HC0_2.out); rintro e w22 ⟨rfl, hb⟩; have n0_ := Aside0.mk (blk_below (g := gb74001) (o := .cells #[.int .i64 a0_0, .int .i64 a0_1, .slice A0_2 l0_2.length c0_2] 70 (0, 0)) (by (with_reducible repeat (first | refine blk_drewN ?_ _ | refine blk_drew ?_ | refine blk_alloc ?_ _)); exact BK74001.out) hb); have n1_ := Aside0.mk (below_step (by repeat (first | (with_reducible first | exact HB.out | apply below_alloc | apply pw_below_drewN | apply below_drew1 | refine below_set ?_ GE74001.out) | exact HB.out)) hb); clear BK74001; clear HB; have BK74001 := n0_; have HB := n1_; clear n0_ n1_; (try clear hb); (try clear hb2); (try clear hk); (try clear hi))); try go_wp2_with (first | (go_at_call 40; (with_reducible refine (columbariumref10_Right.calls k a0_0 a0_1 _ _ l0_2 false _ ?side1 ?side2 A7.out).mono ?_); (case side1 => repeat (first | exact (Kd.C_below HR0_2.out HB.out) | (with_reducible refine Kd.C_alloc ?_ _) | (with_reducible refine Kd.C_drewN ?_ _) | (with_reducible refine Kd.C_drew ?_))); (case side2 => exact HC0_2.out); rintro e w22 ⟨rfl, hb⟩; have n0_ := Aside0.mk (blk_below (g := gb74001) (o := .cells #[.int .i64 a0_0, .int .i64 a0_1, .slice A0_2 l0_2.length c0_2] 70 (0, 0)) (by (with_reducible repeat (first | refine blk_drewN ?_ _ | refine blk_drew ?_ | refine blk_alloc ?_ _)); exact BK74001.out) hb); have n1_ := Aside0.mk (below_step (by repeat (first | (with_reducible first | exact HB.out | apply below_alloc | apply pw_below_drewN | apply below_drew1 | refine below_set ?_ GE74001.out) | exact HB.out)) hb); clear BK74001; clear HB; have BK74001 := n0_; have HB := n1_; clear n0_ n1_; (try clear hb); (try clear hb2); (try clear hk); (try clear hi))))
        go_meet
        case rel => exact ⟨_, (true), (by first | rfl | (simp; done) | (simp [*]; done) | (refine congrArg (Value.int .i64) ?_; (try simp only [decide_eq_true_eq, decide_eq_false_iff_not] at *) <;> (unfold wrap64; omega))), H', ⟨by first | omega | exact Nat.le_refl _⟩, ⟨by (with_reducible repeat (first | refine blk_drewN ?_ _ | refine blk_drew ?_ | refine blk_alloc ?_ _)); exact BK74001.out⟩, ⟨by repeat (first | (with_reducible first | exact HB.out | apply below_alloc | apply pw_below_drewN | apply below_drew1 | refine below_set ?_ GE74001.out) | exact HB.out)⟩⟩
  case rest =>
    clear HC4
    try clear c1
    try clear p2
    try clear c3
    try clear c6
    try clear c6b0
    try clear c6b1
    try clear p6
    try clear p7
    try clear q7
    try clear hx7
    try clear qi7
    try clear c8
    try clear c9
    try clear c9b0
    try clear c9b1
    try clear c13
    try clear c13b0
    try clear c13b1
    try clear c14
    try clear c14b0
    try clear hcz10_0
    try clear hcz10_1
    try clear hcz10_2
    try clear hcz12_0
    try clear hcz12_1
    try clear hcz12_2
    try clear hcz15_0
    try clear hcz15_1
    try clear hcz15_2
    try clear hcz17_0
    try clear hcz17_1
    try clear hcz17_2
    try clear hcz18_0
    try clear hcz18_1
    try clear hcz18_2
    try clear hcz20_0
    try clear hcz20_1
    try clear hcz20_2
    try clear hcz21_0
    try clear hcz21_1
    try clear hcz21_2
    try clear hfz10_0
    try clear hfz10_1
    try clear hfz10_2
    try clear hfz12_0
    try clear hfz12_1
    try clear hfz12_2
    try clear hfz15_0
    try clear hfz15_1
    try clear hfz15_2
    try clear hfz17_0
    try clear hfz17_1
    try clear hfz17_2
    try clear hfz18_0
    try clear hfz18_1
    try clear hfz18_2
    try clear hfz20_0
    try clear hfz20_1
    try clear hfz20_2
    try clear hfz21_0
    try clear hfz21_1
    try clear hfz21_2
    try clear hx74003_0
    try clear p74003
    try clear q74003
    obtain ⟨kq, x38_3, rfl, HA, HJ3, BK74001, HB⟩ := hcut
    cases kq with
    | zero => exact absurd HA.out (by simp [columbariumref10_Span.j0])
    | succ kj3 =>
      have H := HA.out
      clear HA
      simp only [columbariumref10_Span.j0] at H
      by_cases c23 : x38_3 = true
      · subst c23
        have H1 : (some (0, 0)) = some (r1, r2) := by rw [if_pos rfl] at H; exact H
        clear H
        have H := H1
        clear H1
        simp only [Option.some.injEq, Prod.mk.injEq] at H
        obtain ⟨rfl, rfl⟩ := H
        go_wp2
        repeat (go_quiet (fail); try go_wp2)
        go_ret2
        exact ⟨by first | rfl | (simp [errW_none, errW_some] <;> rfl) | (simp [*, errW_none, errW_some] <;> rfl), by repeat (first | (with_reducible first | exact HB.out | apply below_alloc | apply pw_below_drewN | apply below_drew1 | refine below_set ?_ GE74001.out) | exact HB.out)⟩
      · replace c23 := Bool.eq_false_iff.mpr c23
        subst c23
        have H1 : (columbariumref10_Span.l0 kj3 a1 a2 0 0 a0_0 a0_1 l0_2) = some (r1, r2) := by rw [if_neg (show ¬ (false = true) by decide)] at H; exact H
        clear H
        have H := H1
        clear H1
        have H' := Aside0.mk H
        clear H
        go_wp2
        repeat (go_quiet (fail); try go_wp2)
        go_loopg [8, 9] kj3 (fun kq v8 v9 w' => ∃ (x8_2 : Int) (x9_2 : Int), v8 = .int .i64 x8_2 ∧ v9 = .int .i64 x9_2 ∧ Aside0 (columbariumref10_Span.l0 kq a1 a2 x8_2 x9_2 a0_0 a0_1 l0_2 = some (r1, r2)) ∧ Aside0 (kq ≤ kj3) ∧ Aside0 (w'.heap[gb74001]? = some (.cells #[.int .i64 a0_0, .int .i64 a0_1, (.slice A0_2 l0_2.length c0_2)] 70 (0, 0))) ∧ Aside0 (Below w.heap.size w w'))
        case atStart => exact ⟨(0), (0), (by first | rfl | (simp; done) | (simp [*]; done) | (refine congrArg (Value.int .i64) ?_; (try simp only [decide_eq_true_eq, decide_eq_false_iff_not] at *) <;> (unfold wrap64; omega))), (by first | rfl | (simp; done) | (simp [*]; done) | (refine congrArg (Value.int .i64) ?_; (try simp only [decide_eq_true_eq, decide_eq_false_iff_not] at *) <;> (unfold wrap64; omega))), H', ⟨Nat.le_refl _⟩, ⟨by (with_reducible repeat (first | refine blk_drewN ?_ _ | refine blk_drew ?_ | refine blk_alloc ?_ _)); exact BK74001.out⟩, ⟨by repeat (first | (with_reducible first | exact HB.out | apply below_alloc | apply pw_below_drewN | apply below_drew1 | refine below_set ?_ GE74001.out) | exact HB.out)⟩⟩
        case round =>
          clear H'
          try clear c1
          try clear c2
          try clear p2
          try clear c3
          try clear c6
          try clear c6b0
          try clear c6b1
          try clear p6
          try clear p7
          try clear q7
          try clear hx7
          try clear qi7
          try clear c8
          try clear c9
          try clear c9b0
          try clear c9b1
          try clear c13
          try clear c13b0
          try clear c13b1
          try clear c14
          try clear c14b0
          try clear c23
          try clear hcz10_0
          try clear hcz10_1
          try clear hcz10_2
          try clear hcz12_0
          try clear hcz12_1
          try clear hcz12_2
          try clear hcz15_0
          try clear hcz15_1
          try clear hcz15_2
          try clear hcz17_0
          try clear hcz17_1
          try clear hcz17_2
          try clear hcz18_0
          try clear hcz18_1
          try clear hcz18_2
          try clear hcz20_0
          try clear hcz20_1
          try clear hcz20_2
          try clear hcz21_0
          try clear hcz21_1
          try clear hcz21_2
          try clear hfz10_0
          try clear hfz10_1
          try clear hfz10_2
          try clear hfz12_0
          try clear hfz12_1
          try clear hfz12_2
          try clear hfz15_0
          try clear hfz15_1
          try clear hfz15_2
          try clear hfz17_0
          try clear hfz17_1
          try clear hfz17_2
          try clear hfz18_0
          try clear hfz18_1
          try clear hfz18_2
          try clear hfz20_0
          try clear hfz20_1
          try clear hfz20_2
          try clear hfz21_0
          try clear hfz21_1
          try clear hfz21_2
          try clear hx74003_0
          try clear p2
          try clear p6
          try clear p7
          try clear p74003
          try clear q7
          try clear q74003
          obtain ⟨x8_2, x9_2, rfl, rfl, HA, HK2, BK74001, HB⟩ := hrel
          cases gk with
          | zero => exact absurd HA.out (by simp [columbariumref10_Span.l0])
          | succ k2 =>
            have H := HA.out
            clear HA
            simp only [columbariumref10_Span.l0] at H
            by_cases c24 : x9_2 < (l0_2.length : Int)
            · rw [if_pos c24] at H
              have c24b0 : decide (x9_2 < (l0_2.length : Int)) = true := decide_eq_true c24
              clear c24
              by_cases c25 : 0 ≤ x9_2
              · rw [if_pos c25] at H
                have c25b0 : decide (0 ≤ x9_2) = true := decide_eq_true c25
                clear c25
                by_cases c26 : (rd l0_2 x9_2) < a1
                · rw [if_pos c26] at H
                  have c26b0 : decide ((rd l0_2 x9_2) < a1) = true := decide_eq_true c26
                  clear c26
                  have H' := Aside0.mk H
                  clear H
                  have hcz27_0 : wr.cell? ⟨gb74001, 0, none⟩ = some (.int .i64 a0_0) := (blk_cell BK74001.out 0).trans rfl
                  have hcz27_1 : wr.cell? ⟨gb74001, 1, none⟩ = some (.int .i64 a0_1) := (blk_cell BK74001.out 1).trans rfl
                  have hcz27_2 : wr.cell? ⟨gb74001, 2, none⟩ = some (.slice A0_2 l0_2.length c0_2) := (blk_cell BK74001.out 2).trans rfl
                  have hfz27_0 := blk_frozen BK74001.out 0
                  have hfz27_1 := blk_frozen BK74001.out 1
                  have hfz27_2 := blk_frozen BK74001.out 2
                  have p74004 : 0 ≤ (x9_2 : Int) := of_decide_eq_true (by first | (with_reducible assumption) | assumption)
                  have q74004 : x9_2 < (l0_2.length : Int) := of_decide_eq_true (by first | (with_reducible assumption) | assumption)
                  obtain ⟨ad74004, e74004, hx74004_0⟩ := Kd.at_int HR0_2.out x9_2 p74004 q74004
                  cases e74004
                  replace hx74004_0 := (HB.out.cell (World.block_lt_of_cell? w _ hx74004_0)).trans hx74004_0
                  replace p74004 := eq_true p74004
                  replace q74004 := eq_true q74004
                  go_wp2
                  repeat (go_quiet (fail); try go_wp2)
                  go_roundg k2
                  case measure => have := HJ3.out; have := HK2.out; omega
                  case rel => exact ⟨(wrap64 (x8_2 + 1)), (wrap64 (x9_2 + 1)), (by first | rfl | (simp; done) | (simp [*]; done) | (refine congrArg (Value.int .i64) ?_; (try simp only [decide_eq_true_eq, decide_eq_false_iff_not] at *) <;> (unfold wrap64; omega))), (by first | rfl | (simp; done) | (simp [*]; done) | (refine congrArg (Value.int .i64) ?_; (try simp only [decide_eq_true_eq, decide_eq_false_iff_not] at *) <;> (unfold wrap64; omega))), H', ⟨by have := HJ3.out; have := HK2.out; omega⟩, ⟨by (with_reducible repeat (first | refine blk_drewN ?_ _ | refine blk_drew ?_ | refine blk_alloc ?_ _)); exact BK74001.out⟩, ⟨by repeat (first | (with_reducible first | exact HB.out | apply below_alloc | apply pw_below_drewN | apply below_drew1 | refine below_set ?_ GE74001.out) | exact HB.out)⟩⟩
                · rw [if_neg c26] at H
                  have c26b0 : decide ((rd l0_2 x9_2) < a1) = false := decide_eq_false c26
                  clear c26
                  have H' := Aside0.mk H
                  clear H
                  have hcz28_0 : wr.cell? ⟨gb74001, 0, none⟩ = some (.int .i64 a0_0) := (blk_cell BK74001.out 0).trans rfl
                  have hcz28_1 : wr.cell? ⟨gb74001, 1, none⟩ = some (.int .i64 a0_1) := (blk_cell BK74001.out 1).trans rfl
                  have hcz28_2 : wr.cell? ⟨gb74001, 2, none⟩ = some (.slice A0_2 l0_2.length c0_2) := (blk_cell BK74001.out 2).trans rfl
                  have hfz28_0 := blk_frozen BK74001.out 0
                  have hfz28_1 := blk_frozen BK74001.out 1
                  have hfz28_2 := blk_frozen BK74001.out 2
                  have p74004 : 0 ≤ (x9_2 : Int) := of_decide_eq_true (by first | (with_reducible assumption) | assumption)
                  have q74004 : x9_2 < (l0_2.length : Int) := of_decide_eq_true (by first | (with_reducible assumption) | assumption)
                  obtain ⟨ad74004, e74004, hx74004_0⟩ := Kd.at_int HR0_2.out x9_2 p74004 q74004
                  cases e74004
                  replace hx74004_0 := (HB.out.cell (World.block_lt_of_cell? w _ hx74004_0)).trans hx74004_0
                  replace p74004 := eq_true p74004
                  replace q74004 := eq_true q74004
                  go_wp2
                  repeat (go_quiet (fail); try go_wp2)
                  go_roundg k2
                  case measure => have := HJ3.out; have := HK2.out; omega
                  case rel => exact ⟨(x8_2), (wrap64 (x9_2 + 1)), (by first | rfl | (simp; done) | (simp [*]; done) | (refine congrArg (Value.int .i64) ?_; (try simp only [decide_eq_true_eq, decide_eq_false_iff_not] at *) <;> (unfold wrap64; omega))), (by first | rfl | (simp; done) | (simp [*]; done) | (refine congrArg (Value.int .i64) ?_; (try simp only [decide_eq_true_eq, decide_eq_false_iff_not] at *) <;> (unfold wrap64; omega))), H', ⟨by have := HJ3.out; have := HK2.out; omega⟩, ⟨by (with_reducible repeat (first | refine blk_drewN ?_ _ | refine blk_drew ?_ | refine blk_alloc ?_ _)); exact BK74001.out⟩, ⟨by repeat (first | (with_reducible first | exact HB.out | apply below_alloc | apply pw_below_drewN | apply below_drew1 | refine below_set ?_ GE74001.out) | exact HB.out)⟩⟩
              · rw [if_neg c25] at H
                exact absurd H (by simp)
            · rw [if_neg c24] at H
              have c24b0 : decide (x9_2 < (l0_2.length : Int)) = false := decide_eq_false c24
              clear c24
              have HC29 := Aside0.mk H
              clear H
              have hcz30_0 : wr.cell? ⟨gb74001, 0, none⟩ = some (.int .i64 a0_0) := (blk_cell BK74001.out 0).trans rfl
              have hcz30_1 : wr.cell? ⟨gb74001, 1, none⟩ = some (.int .i64 a0_1) := (blk_cell BK74001.out 1).trans rfl
              have hcz30_2 : wr.cell? ⟨gb74001, 2, none⟩ = some (.slice A0_2 l0_2.length c0_2) := (blk_cell BK74001.out 2).trans rfl
              have hfz30_0 := blk_frozen BK74001.out 0
              have hfz30_1 := blk_frozen BK74001.out 1
              have hfz30_2 := blk_frozen BK74001.out 2
              go_upto_if 56 with (fail)
              repeat (go_quiet (fail); go_upto_if 56 with (fail))
              go_cut [10] (fun v10 wc => ∃ (kq : Nat) (x10_28 : Int), v10 = .int .i64 x10_28 ∧ Aside0 (columbariumref10_Span.j2 kq a2 x10_28 a0_0 a0_1 l0_2 = some (r1, r2)) ∧ Aside0 (kq ≤ k2) ∧ Aside0 (wc.heap[gb74001]? = some (.cells #[.int .i64 a0_0, .int .i64 a0_1, (.slice A0_2 l0_2.length c0_2)] 70 (0, 0))) ∧ Aside0 (Below w.heap.size w wc))
              case first =>
                have H := HC29.out
                clear HC29
                by_cases c31 : x8_2 > 0
                · rw [if_pos c31] at H
                  have c31b0 : decide (0 < x8_2) = true := decide_eq_true c31
                  clear c31
                  (first | rw [c31b0] | (simp only [i64_w, i32_w]; rw [c31b0]) | rw [c31b1] | skip)
                  have H' := Aside0.mk H
                  clear H
                  go_wp2
                  repeat (go_quiet (fail); try go_wp2)
                  go_meet
                  case rel => exact ⟨_, (wrap64 (4 * (wrap64 (x8_2 - 1)))), (by first | rfl | (simp; done) | (simp [*]; done) | (refine congrArg (Value.int .i64) ?_; (try simp only [decide_eq_true_eq, decide_eq_false_iff_not] at *) <;> (unfold wrap64; omega))), H', ⟨by have := HJ3.out; have := HK2.out; first | omega | exact Nat.le_refl _⟩, ⟨by (with_reducible repeat (first | refine blk_drewN ?_ _ | refine blk_drew ?_ | refine blk_alloc ?_ _)); exact BK74001.out⟩, ⟨by repeat (first | (with_reducible first | exact HB.out | apply below_alloc | apply pw_below_drewN | apply below_drew1 | refine below_set ?_ GE74001.out) | exact HB.out)⟩⟩
                · rw [if_neg c31] at H
                  have c31b0 : decide (0 < x8_2) = false := decide_eq_false c31
                  clear c31
                  (first | rw [c31b0] | (simp only [i64_w, i32_w]; rw [c31b0]) | rw [c31b1] | skip)
                  have H' := Aside0.mk H
                  clear H
                  go_wp2
                  repeat (go_quiet (fail); try go_wp2)
                  go_meet
                  case rel => exact ⟨_, (0), (by first | rfl | (simp; done) | (simp [*]; done) | (refine congrArg (Value.int .i64) ?_; (try simp only [decide_eq_true_eq, decide_eq_false_iff_not] at *) <;> (unfold wrap64; omega))), H', ⟨by have := HJ3.out; have := HK2.out; first | omega | exact Nat.le_refl _⟩, ⟨by (with_reducible repeat (first | refine blk_drewN ?_ _ | refine blk_drew ?_ | refine blk_alloc ?_ _)); exact BK74001.out⟩, ⟨by repeat (first | (with_reducible first | exact HB.out | apply below_alloc | apply pw_below_drewN | apply below_drew1 | refine below_set ?_ GE74001.out) | exact HB.out)⟩⟩
              case rest =>
                clear HC29
                try clear c1
                try clear c2
                try clear p2
                try clear c3
                try clear c6
                try clear c6b0
                try clear c6b1
                try clear p6
                try clear p7
                try clear q7
                try clear hx7
                try clear qi7
                try clear c8
                try clear c9
                try clear c9b0
                try clear c9b1
                try clear c13
                try clear c13b0
                try clear c13b1
                try clear c14
                try clear c14b0
                try clear c23
                try clear c24
                try clear c24b0
                try clear c25
                try clear c25b0
                try clear c26
                try clear c26b0
                try clear c31
                try clear c31b0
                try clear c31b1
                try clear hcz10_0
                try clear hcz10_1
                try clear hcz10_2
                try clear hcz12_0
                try clear hcz12_1
                try clear hcz12_2
                try clear hcz15_0
                try clear hcz15_1
                try clear hcz15_2
                try clear hcz17_0
                try clear hcz17_1
                try clear hcz17_2
                try clear hcz18_0
                try clear hcz18_1
                try clear hcz18_2
                try clear hcz20_0
                try clear hcz20_1
                try clear hcz20_2
                try clear hcz21_0
                try clear hcz21_1
                try clear hcz21_2
                try clear hcz27_0
                try clear hcz27_1
                try clear hcz27_2
                try clear hcz28_0
                try clear hcz28_1
                try clear hcz28_2
                try clear hcz30_0
                try clear hcz30_1
                try clear hcz30_2
                try clear hfz10_0
                try clear hfz10_1
                try clear hfz10_2
                try clear hfz12_0
                try clear hfz12_1
                try clear hfz12_2
                try clear hfz15_0
                try clear hfz15_1
                try clear hfz15_2
                try clear hfz17_0
                try clear hfz17_1
                try clear hfz17_2
                try clear hfz18_0
                try clear hfz18_1
                try clear hfz18_2
                try clear hfz20_0
                try clear hfz20_1
                try clear hfz20_2
                try clear hfz21_0
                try clear hfz21_1
                try clear hfz21_2
                try clear hfz27_0
                try clear hfz27_1
                try clear hfz27_2
                try clear hfz28_0
                try clear hfz28_1
                try clear hfz28_2
                try clear hfz30_0
                try clear hfz30_1
                try clear hfz30_2
                try clear hx74003_0
                try clear hx74004_0
                try clear p2
                try clear p6
                try clear p7
                try clear p74003
                try clear p74004
                try clear q7
                try clear q74003
                try clear q74004
                obtain ⟨kq, x10_28, rfl, HA, HJ28, BK74001, HB⟩ := hcut
                cases kq with
                | zero => exact absurd HA.out (by simp [columbariumref10_Span.j2])
                | succ kj28 =>
                  have H := HA.out
                  clear HA
                  simp only [columbariumref10_Span.j2] at H
                  have H' := Aside0.mk H
                  clear H
                  go_wp2
                  repeat (go_quiet (fail); try go_wp2)
                  go_loopg [11] kj28 (fun kq v11 w' => ∃ (x11_4 : Int), v11 = .int .i64 x11_4 ∧ Aside0 (columbariumref10_Span.l1 kq a2 x10_28 x11_4 a0_0 a0_1 l0_2 = some (r1, r2)) ∧ Aside0 (kq ≤ kj28) ∧ Aside0 (w'.heap[gb74001]? = some (.cells #[.int .i64 a0_0, .int .i64 a0_1, (.slice A0_2 l0_2.length c0_2)] 70 (0, 0))) ∧ Aside0 (Below w.heap.size w w'))
                  case atStart => exact ⟨(0), (by first | rfl | (simp; done) | (simp [*]; done) | (refine congrArg (Value.int .i64) ?_; (try simp only [decide_eq_true_eq, decide_eq_false_iff_not] at *) <;> (unfold wrap64; omega))), H', ⟨Nat.le_refl _⟩, ⟨by (with_reducible repeat (first | refine blk_drewN ?_ _ | refine blk_drew ?_ | refine blk_alloc ?_ _)); exact BK74001.out⟩, ⟨by repeat (first | (with_reducible first | exact HB.out | apply below_alloc | apply pw_below_drewN | apply below_drew1 | refine below_set ?_ GE74001.out) | exact HB.out)⟩⟩
                  case round =>
                    clear H'
                    try clear c1
                    try clear c2
                    try clear p2
                    try clear c3
                    try clear c6
                    try clear c6b0
                    try clear c6b1
                    try clear p6
                    try clear p7
                    try clear q7
                    try clear hx7
                    try clear qi7
                    try clear c8
                    try clear c9
                    try clear c9b0
                    try clear c9b1
                    try clear c13
                    try clear c13b0
                    try clear c13b1
                    try clear c14
                    try clear c14b0
                    try clear c23
                    try clear c24
                    try clear c24b0
                    try clear c25
                    try clear c25b0
                    try clear c26
                    try clear c26b0
                    try clear c31
                    try clear c31b0
                    try clear c31b1
                    try clear hcz10_0
                    try clear hcz10_1
                    try clear hcz10_2
                    try clear hcz12_0
                    try clear hcz12_1
                    try clear hcz12_2
                    try clear hcz15_0
                    try clear hcz15_1
                    try clear hcz15_2
                    try clear hcz17_0
                    try clear hcz17_1
                    try clear hcz17_2
                    try clear hcz18_0
                    try clear hcz18_1
                    try clear hcz18_2
                    try clear hcz20_0
                    try clear hcz20_1
                    try clear hcz20_2
                    try clear hcz21_0
                    try clear hcz21_1
                    try clear hcz21_2
                    try clear hcz27_0
                    try clear hcz27_1
                    try clear hcz27_2
                    try clear hcz28_0
                    try clear hcz28_1
                    try clear hcz28_2
                    try clear hcz30_0
                    try clear hcz30_1
                    try clear hcz30_2
                    try clear hfz10_0
                    try clear hfz10_1
                    try clear hfz10_2
                    try clear hfz12_0
                    try clear hfz12_1
                    try clear hfz12_2
                    try clear hfz15_0
                    try clear hfz15_1
                    try clear hfz15_2
                    try clear hfz17_0
                    try clear hfz17_1
                    try clear hfz17_2
                    try clear hfz18_0
                    try clear hfz18_1
                    try clear hfz18_2
                    try clear hfz20_0
                    try clear hfz20_1
                    try clear hfz20_2
                    try clear hfz21_0
                    try clear hfz21_1
                    try clear hfz21_2
                    try clear hfz27_0
                    try clear hfz27_1
                    try clear hfz27_2
                    try clear hfz28_0
                    try clear hfz28_1
                    try clear hfz28_2
                    try clear hfz30_0
                    try clear hfz30_1
                    try clear hfz30_2
                    try clear hx74003_0
                    try clear hx74004_0
                    try clear p2
                    try clear p6
                    try clear p7
                    try clear p74003
                    try clear p74004
                    try clear q7
                    try clear q74003
                    try clear q74004
                    obtain ⟨x11_4, rfl, HA, HK4, BK74001, HB⟩ := hrel
                    cases gk with
                    | zero => exact absurd HA.out (by simp [columbariumref10_Span.l1])
                    | succ k4 =>
                      have H := HA.out
                      clear HA
                      simp only [columbariumref10_Span.l1] at H
                      by_cases c32 : x11_4 < (l0_2.length : Int)
                      · rw [if_pos c32] at H
                        have c32b0 : decide (x11_4 < (l0_2.length : Int)) = true := decide_eq_true c32
                        clear c32
                        by_cases c33 : 0 ≤ x11_4
                        · rw [if_pos c33] at H
                          have c33b0 : decide (0 ≤ x11_4) = true := decide_eq_true c33
                          clear c33
                          by_cases c34 : (rd l0_2 x11_4) > a2
                          · rw [if_pos c34] at H
                            have c34b0 : decide (a2 < (rd l0_2 x11_4)) = true := decide_eq_true c34
                            clear c34
                            simp only [Option.some.injEq, Prod.mk.injEq] at H
                            obtain ⟨rfl, rfl⟩ := H
                            have hcz35_0 : wr.cell? ⟨gb74001, 0, none⟩ = some (.int .i64 a0_0) := (blk_cell BK74001.out 0).trans rfl
                            have hcz35_1 : wr.cell? ⟨gb74001, 1, none⟩ = some (.int .i64 a0_1) := (blk_cell BK74001.out 1).trans rfl
                            have hcz35_2 : wr.cell? ⟨gb74001, 2, none⟩ = some (.slice A0_2 l0_2.length c0_2) := (blk_cell BK74001.out 2).trans rfl
                            have hfz35_0 := blk_frozen BK74001.out 0
                            have hfz35_1 := blk_frozen BK74001.out 1
                            have hfz35_2 := blk_frozen BK74001.out 2
                            have p74005 : 0 ≤ (x11_4 : Int) := of_decide_eq_true (by first | (with_reducible assumption) | assumption)
                            have q74005 : x11_4 < (l0_2.length : Int) := of_decide_eq_true (by first | (with_reducible assumption) | assumption)
                            obtain ⟨ad74005, e74005, hx74005_0⟩ := Kd.at_int HR0_2.out x11_4 p74005 q74005
                            cases e74005
                            replace hx74005_0 := (HB.out.cell (World.block_lt_of_cell? w _ hx74005_0)).trans hx74005_0
                            replace p74005 := eq_true p74005
                            replace q74005 := eq_true q74005
                            go_wp2
                            repeat (go_quiet (fail); try go_wp2)
                            go_ret2
                            exact ⟨by first | rfl | (simp [errW_none, errW_some] <;> rfl) | (simp [*, errW_none, errW_some] <;> rfl), by repeat (first | (with_reducible first | exact HB.out | apply below_alloc | apply pw_below_drewN | apply below_drew1 | refine below_set ?_ GE74001.out) | exact HB.out)⟩
                          · rw [if_neg c34] at H
                            have c34b0 : decide (a2 < (rd l0_2 x11_4)) = false := decide_eq_false c34
                            clear c34
                            have H' := Aside0.mk H
                            clear H
                            have hcz36_0 : wr.cell? ⟨gb74001, 0, none⟩ = some (.int .i64 a0_0) := (blk_cell BK74001.out 0).trans rfl
                            have hcz36_1 : wr.cell? ⟨gb74001, 1, none⟩ = some (.int .i64 a0_1) := (blk_cell BK74001.out 1).trans rfl
                            have hcz36_2 : wr.cell? ⟨gb74001, 2, none⟩ = some (.slice A0_2 l0_2.length c0_2) := (blk_cell BK74001.out 2).trans rfl
                            have hfz36_0 := blk_frozen BK74001.out 0
                            have hfz36_1 := blk_frozen BK74001.out 1
                            have hfz36_2 := blk_frozen BK74001.out 2
                            have p74005 : 0 ≤ (x11_4 : Int) := of_decide_eq_true (by first | (with_reducible assumption) | assumption)
                            have q74005 : x11_4 < (l0_2.length : Int) := of_decide_eq_true (by first | (with_reducible assumption) | assumption)
                            obtain ⟨ad74005, e74005, hx74005_0⟩ := Kd.at_int HR0_2.out x11_4 p74005 q74005
                            cases e74005
                            replace hx74005_0 := (HB.out.cell (World.block_lt_of_cell? w _ hx74005_0)).trans hx74005_0
                            replace p74005 := eq_true p74005
                            replace q74005 := eq_true q74005
                            go_wp2
                            repeat (go_quiet (fail); try go_wp2)
                            go_roundg k4
                            case measure => have := HJ3.out; have := HK2.out; have := HJ28.out; have := HK4.out; omega
                            case rel => exact ⟨(wrap64 (x11_4 + 1)), (by first | rfl | (simp; done) | (simp [*]; done) | (refine congrArg (Value.int .i64) ?_; (try simp only [decide_eq_true_eq, decide_eq_false_iff_not] at *) <;> (unfold wrap64; omega))), H', ⟨by have := HJ3.out; have := HK2.out; have := HJ28.out; have := HK4.out; omega⟩, ⟨by (with_reducible repeat (first | refine blk_drewN ?_ _ | refine blk_drew ?_ | refine blk_alloc ?_ _)); exact BK74001.out⟩, ⟨by repeat (first | (with_reducible first | exact HB.out | apply below_alloc | apply pw_below_drewN | apply below_drew1 | refine below_set ?_ GE74001.out) | exact HB.out)⟩⟩
                        · rw [if_neg c33] at H
                          exact absurd H (by simp)
                      · rw [if_neg c32] at H
                        have c32b0 : decide (x11_4 < (l0_2.length : Int)) = false := decide_eq_false c32
                        clear c32
                        simp only [Option.some.injEq, Prod.mk.injEq] at H
                        obtain ⟨rfl, rfl⟩ := H
                        have hcz37_0 : wr.cell? ⟨gb74001, 0, none⟩ = some (.int .i64 a0_0) := (blk_cell BK74001.out 0).trans rfl
                        have hcz37_1 : wr.cell? ⟨gb74001, 1, none⟩ = some (.int .i64 a0_1) := (blk_cell BK74001.out 1).trans rfl
                        have hcz37_2 : wr.cell? ⟨gb74001, 2, none⟩ = some (.slice A0_2 l0_2.length c0_2) := (blk_cell BK74001.out 2).trans rfl
                        have hfz37_0 := blk_frozen BK74001.out 0
                        have hfz37_1 := blk_frozen BK74001.out 1
                        have hfz37_2 := blk_frozen BK74001.out 2
                        go_wp2
                        repeat (go_quiet (fail); try go_wp2)
                        go_ret2
                        exact ⟨by first | rfl | (simp [errW_none, errW_some] <;> rfl) | (simp [*, errW_none, errW_some] <;> rfl), by repeat (first | (with_reducible first | exact HB.out | apply below_alloc | apply pw_below_drewN | apply below_drew1 | refine below_set ?_ GE74001.out) | exact HB.out)⟩

end Go.Proofs.Ytjpeojohakhmdaa.PS
