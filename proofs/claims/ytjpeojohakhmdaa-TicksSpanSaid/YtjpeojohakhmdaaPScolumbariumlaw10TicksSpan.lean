-- Written by a program of this session, out of the translation; Lean checks it.
import Derived.Test.YtjpeojohakhmdaaPSx0
import Derived.Test.YtjpeojohakhmdaaPScolumbariumbookWithin
import Derived.Test.YtjpeojohakhmdaaPScolumbariumlaw10rising
import Derived.Test.YtjpeojohakhmdaaPSticksBuild
import Derived.Test.YtjpeojohakhmdaaPSticksRight
import Derived.Test.YtjpeojohakhmdaaPSticksSpan
import Derived.Test.YtjpeojohakhmdaaPScolumbariumlaw10known
namespace Go.Proofs.Ytjpeojohakhmdaa.PS
open Go.RowKit Go.Proofs.YtjpeojohakhmdaaW.PrintWords Go.Proofs.YtjpeojohakhmdaaW.PrintLast Go.Proofs.YtjpeojohakhmdaaW.PrintMore
attribute [local go_sem] pw_us8 pw_us32 pw_us64 max2_int min2_int max_two min_two max_three min_three max_four min_four   -- for this text's walks alone
set_option linter.unusedVariables false
set_option linter.unusedSimpArgs false

/-! ### columbariumlaw10_TicksSpan: function 9 -/
def columbariumlaw10_TicksSpan.l0 : Nat → List Int → Int → Int → Int → Int → Int → Option (Bool)
  | 0, _, _, _, _, _, _ => none
  | k + 1, x9, x13, x14, x15, x16, x17 => if x17 < (x9.length : Int) then (if 0 ≤ x17 then (if (rd x9 x17) ≥ x13 then (if (rd x9 x17) ≤ x14 then (if x17 < x15 then (some false) else (if x17 ≥ x16 then (some false) else (columbariumlaw10_TicksSpan.l0 k x9 x13 x14 x15 x16 (wrap64 (x17 + 1))))) else (columbariumlaw10_TicksSpan.l0 k x9 x13 x14 x15 x16 (wrap64 (x17 + 1)))) else (columbariumlaw10_TicksSpan.l0 k x9 x13 x14 x15 x16 (wrap64 (x17 + 1)))) else (none)) else ((columbariumlaw10_known.f k).bind fun t387 => (some t387))
def columbariumlaw10_TicksSpan.f (k : Nat) (a0 : Int) (l1 : List Int) (a2 : Int) (a3 : Int) : Option (Bool) := (columbariumlaw10_rising.f k a0 l1).bind fun t370 => ((ticks_Build.f k t370).bind fun bt373 => (if bt373.2.2.2 = 0 then ((ticks_Right.f k bt373.1 bt373.2.1 bt373.2.2.1).bind fun t380 => (if t380 = true then ((columbariumbook_Within.f a2 0 300).bind fun t381 => ((columbariumbook_Within.f a3 0 300).bind fun t382 => ((ticks_Span.f k bt373.1 bt373.2.1 bt373.2.2.1 (wrap64 ((wrap64 ((Int.tmod a0 1099511627776) + t381)) - 20)) (wrap64 ((wrap64 ((Int.tmod a0 1099511627776) + t382)) - 20))).bind fun bt383 => (if bt383.1 < 0 then (some false) else (if bt383.1 > bt383.2 then (some false) else (if bt383.2 > (t370.length : Int) then (some false) else (columbariumlaw10_TicksSpan.l0 k t370 (wrap64 ((wrap64 ((Int.tmod a0 1099511627776) + t381)) - 20)) (wrap64 ((wrap64 ((Int.tmod a0 1099511627776) + t382)) - 20)) bt383.1 bt383.2 0))))))) else (some false))) else (some false)))
theorem columbariumlaw10_TicksSpan.mono_l : ∀ k, (∀ y0 y1 y2 y3 y4 y5, LeO (columbariumlaw10_TicksSpan.l0 k y0 y1 y2 y3 y4 y5) (columbariumlaw10_TicksSpan.l0 (k + 1) y0 y1 y2 y3 y4 y5))
  | 0 => fun _ _ _ _ _ _ r h => by simp [columbariumlaw10_TicksSpan.l0] at h
  | k + 1 => by
    have ih0 := columbariumlaw10_TicksSpan.mono_l k
    · intro y0 y1 y2 y3 y4 y5
      unfold columbariumlaw10_TicksSpan.l0
      repeat' first
      | (with_reducible exact ih0 _ _ _ _ _ _)
      | (with_reducible exact columbariumlaw10_known.mono _)
      | (with_reducible exact columbariumlaw10_rising.mono _ _ _)
      | (with_reducible exact ticks_Build.mono _ _)
      | (with_reducible exact ticks_Right.mono _ _ _ _)
      | (with_reducible exact ticks_Span.mono _ _ _ _ _ _)
      | (with_reducible exact LeO.refl _)
      | (with_reducible exact LeO.none _)
      | (with_reducible refine LeO.ite ?_ ?_)
      | (with_reducible refine LeO.bind ?_ (fun _ => ?_))
      | exact ih0 _ _ _ _ _ _
      | exact columbariumlaw10_known.mono _
      | exact columbariumlaw10_rising.mono _ _ _
      | exact ticks_Build.mono _ _
      | exact ticks_Right.mono _ _ _ _
      | exact ticks_Span.mono _ _ _ _ _ _
      | exact LeO.none _
      | refine LeO.ite ?_ ?_
      | refine LeO.bind ?_ (fun _ => ?_)
theorem columbariumlaw10_TicksSpan.mono : ∀ a0 a1 a2 a3 k, LeO (columbariumlaw10_TicksSpan.f k a0 a1 a2 a3) (columbariumlaw10_TicksSpan.f (k + 1) a0 a1 a2 a3) := by
  intro a0 a1 a2 a3 k
  have ih0 := columbariumlaw10_TicksSpan.mono_l k
  unfold columbariumlaw10_TicksSpan.f
  repeat' first
      | (with_reducible exact ih0 _ _ _ _ _ _)
      | (with_reducible exact columbariumlaw10_known.mono _)
      | (with_reducible exact columbariumlaw10_rising.mono _ _ _)
      | (with_reducible exact ticks_Build.mono _ _)
      | (with_reducible exact ticks_Right.mono _ _ _ _)
      | (with_reducible exact ticks_Span.mono _ _ _ _ _ _)
      | (with_reducible exact LeO.refl _)
      | (with_reducible exact LeO.none _)
      | (with_reducible refine LeO.ite ?_ ?_)
      | (with_reducible refine LeO.bind ?_ (fun _ => ?_))
      | exact ih0 _ _ _ _ _ _
      | exact columbariumlaw10_known.mono _
      | exact columbariumlaw10_rising.mono _ _ _
      | exact ticks_Build.mono _ _
      | exact ticks_Right.mono _ _ _ _
      | exact ticks_Span.mono _ _ _ _ _ _
      | exact LeO.none _
      | refine LeO.ite ?_ ?_
      | refine LeO.bind ?_ (fun _ => ?_)
set_option maxHeartbeats 8000000 in
set_option maxRecDepth 100000 in
theorem columbariumlaw10_TicksSpan.calls (k : Nat) (a0 : Int) (A1 : Option Addr) (c1 : Nat) (l1 : List Int) (a2 : Int) (a3 : Int) (r : Bool) (w : World) (hr1 : Kd.C (Kd.int .i64) w A1 l1.length l1) (hc1 : l1.length ≤ c1) (h : columbariumlaw10_TicksSpan.f k a0 l1 a2 a3 = some r) (hr_ : Aside0 (r = true)) :
    Calls Try.prog 9 #[.int .i64 a0, .slice A1 l1.length c1, .int .i64 a2, .int .i64 a3] w fun e w' => e = .returned (.bool r) ∧ Below w.heap.size w w' := by
  have hu61 := Try.underlying61
  have HR1 := Aside0.mk hr1
  have HC1 := Aside0.mk hc1
  clear hr1 hc1
  have HB := Aside0.mk (Below.refl w.heap.size w)
  have H : ((columbariumlaw10_rising.f k a0 l1).bind fun t370 => ((ticks_Build.f k t370).bind fun bt373 => (if bt373.2.2.2 = 0 then ((ticks_Right.f k bt373.1 bt373.2.1 bt373.2.2.1).bind fun t380 => (if t380 = true then ((columbariumbook_Within.f a2 0 300).bind fun t381 => ((columbariumbook_Within.f a3 0 300).bind fun t382 => ((ticks_Span.f k bt373.1 bt373.2.1 bt373.2.2.1 (wrap64 ((wrap64 ((Int.tmod a0 1099511627776) + t381)) - 20)) (wrap64 ((wrap64 ((Int.tmod a0 1099511627776) + t382)) - 20))).bind fun bt383 => (if bt383.1 < 0 then (some false) else (if bt383.1 > bt383.2 then (some false) else (if bt383.2 > (t370.length : Int) then (some false) else (columbariumlaw10_TicksSpan.l0 k t370 (wrap64 ((wrap64 ((Int.tmod a0 1099511627776) + t381)) - 20)) (wrap64 ((wrap64 ((Int.tmod a0 1099511627776) + t382)) - 20)) bt383.1 bt383.2 0))))))) else (some false))) else (some false)))) = some r := h
  clear h
  replace H := Option.bind_eq_some_iff.mp H
  obtain ⟨t370, A50, H⟩ := H
  replace H : ((ticks_Build.f k t370).bind fun bt373 => (if bt373.2.2.2 = 0 then ((ticks_Right.f k bt373.1 bt373.2.1 bt373.2.2.1).bind fun t380 => (if t380 = true then ((columbariumbook_Within.f a2 0 300).bind fun t381 => ((columbariumbook_Within.f a3 0 300).bind fun t382 => ((ticks_Span.f k bt373.1 bt373.2.1 bt373.2.2.1 (wrap64 ((wrap64 ((Int.tmod a0 1099511627776) + t381)) - 20)) (wrap64 ((wrap64 ((Int.tmod a0 1099511627776) + t382)) - 20))).bind fun bt383 => (if bt383.1 < 0 then (some false) else (if bt383.1 > bt383.2 then (some false) else (if bt383.2 > (t370.length : Int) then (some false) else (columbariumlaw10_TicksSpan.l0 k t370 (wrap64 ((wrap64 ((Int.tmod a0 1099511627776) + t381)) - 20)) (wrap64 ((wrap64 ((Int.tmod a0 1099511627776) + t382)) - 20)) bt383.1 bt383.2 0))))))) else (some false))) else (some false))) = some r := H
  have A5 := Aside0.mk A50
  clear A50
  replace H := Option.bind_eq_some_iff.mp H
  obtain ⟨⟨t373, t374, t375, t378⟩, A60, H⟩ := H
  replace H : (if t378 = 0 then ((ticks_Right.f k t373 t374 t375).bind fun t380 => (if t380 = true then ((columbariumbook_Within.f a2 0 300).bind fun t381 => ((columbariumbook_Within.f a3 0 300).bind fun t382 => ((ticks_Span.f k t373 t374 t375 (wrap64 ((wrap64 ((Int.tmod a0 1099511627776) + t381)) - 20)) (wrap64 ((wrap64 ((Int.tmod a0 1099511627776) + t382)) - 20))).bind fun bt383 => (if bt383.1 < 0 then (some false) else (if bt383.1 > bt383.2 then (some false) else (if bt383.2 > (t370.length : Int) then (some false) else (columbariumlaw10_TicksSpan.l0 k t370 (wrap64 ((wrap64 ((Int.tmod a0 1099511627776) + t381)) - 20)) (wrap64 ((wrap64 ((Int.tmod a0 1099511627776) + t382)) - 20)) bt383.1 bt383.2 0))))))) else (some false))) else (some false)) = some r := H
  have A6 := Aside0.mk A60
  clear A60
  by_cases c7 : t378 = 0
  · rw [if_pos c7] at H
    have c7b0 : (t378 == 0) = true := beq_iff_eq.mpr c7
    have c7b1 : (t378 != 0) = false := bne_eq_false_iff_eq.mpr c7
    clear c7
    replace H := Option.bind_eq_some_iff.mp H
    obtain ⟨t380, A80, H⟩ := H
    replace H : (if t380 = true then ((columbariumbook_Within.f a2 0 300).bind fun t381 => ((columbariumbook_Within.f a3 0 300).bind fun t382 => ((ticks_Span.f k t373 t374 t375 (wrap64 ((wrap64 ((Int.tmod a0 1099511627776) + t381)) - 20)) (wrap64 ((wrap64 ((Int.tmod a0 1099511627776) + t382)) - 20))).bind fun bt383 => (if bt383.1 < 0 then (some false) else (if bt383.1 > bt383.2 then (some false) else (if bt383.2 > (t370.length : Int) then (some false) else (columbariumlaw10_TicksSpan.l0 k t370 (wrap64 ((wrap64 ((Int.tmod a0 1099511627776) + t381)) - 20)) (wrap64 ((wrap64 ((Int.tmod a0 1099511627776) + t382)) - 20)) bt383.1 bt383.2 0))))))) else (some false)) = some r := H
    have A8 := Aside0.mk A80
    clear A80
    by_cases c9 : t380 = true
    · subst c9
      have H1 : ((columbariumbook_Within.f a2 0 300).bind fun t381 => ((columbariumbook_Within.f a3 0 300).bind fun t382 => ((ticks_Span.f k t373 t374 t375 (wrap64 ((wrap64 ((Int.tmod a0 1099511627776) + t381)) - 20)) (wrap64 ((wrap64 ((Int.tmod a0 1099511627776) + t382)) - 20))).bind fun bt383 => (if bt383.1 < 0 then (some false) else (if bt383.1 > bt383.2 then (some false) else (if bt383.2 > (t370.length : Int) then (some false) else (columbariumlaw10_TicksSpan.l0 k t370 (wrap64 ((wrap64 ((Int.tmod a0 1099511627776) + t381)) - 20)) (wrap64 ((wrap64 ((Int.tmod a0 1099511627776) + t382)) - 20)) bt383.1 bt383.2 0))))))) = some r := by rw [if_pos rfl] at H; exact H
      clear H
      have H := H1
      clear H1
      replace H := Option.bind_eq_some_iff.mp H
      obtain ⟨t381, A100, H⟩ := H
      replace H : ((columbariumbook_Within.f a3 0 300).bind fun t382 => ((ticks_Span.f k t373 t374 t375 (wrap64 ((wrap64 ((Int.tmod a0 1099511627776) + t381)) - 20)) (wrap64 ((wrap64 ((Int.tmod a0 1099511627776) + t382)) - 20))).bind fun bt383 => (if bt383.1 < 0 then (some false) else (if bt383.1 > bt383.2 then (some false) else (if bt383.2 > (t370.length : Int) then (some false) else (columbariumlaw10_TicksSpan.l0 k t370 (wrap64 ((wrap64 ((Int.tmod a0 1099511627776) + t381)) - 20)) (wrap64 ((wrap64 ((Int.tmod a0 1099511627776) + t382)) - 20)) bt383.1 bt383.2 0)))))) = some r := H
      have A10 := Aside0.mk A100
      clear A100
      replace H := Option.bind_eq_some_iff.mp H
      obtain ⟨t382, A110, H⟩ := H
      replace H : ((ticks_Span.f k t373 t374 t375 (wrap64 ((wrap64 ((Int.tmod a0 1099511627776) + t381)) - 20)) (wrap64 ((wrap64 ((Int.tmod a0 1099511627776) + t382)) - 20))).bind fun bt383 => (if bt383.1 < 0 then (some false) else (if bt383.1 > bt383.2 then (some false) else (if bt383.2 > (t370.length : Int) then (some false) else (columbariumlaw10_TicksSpan.l0 k t370 (wrap64 ((wrap64 ((Int.tmod a0 1099511627776) + t381)) - 20)) (wrap64 ((wrap64 ((Int.tmod a0 1099511627776) + t382)) - 20)) bt383.1 bt383.2 0))))) = some r := H
      have A11 := Aside0.mk A110
      clear A110
      replace H := Option.bind_eq_some_iff.mp H
      obtain ⟨⟨t383, t384⟩, A120, H⟩ := H
      replace H : (if t383 < 0 then (some false) else (if t383 > t384 then (some false) else (if t384 > (t370.length : Int) then (some false) else (columbariumlaw10_TicksSpan.l0 k t370 (wrap64 ((wrap64 ((Int.tmod a0 1099511627776) + t381)) - 20)) (wrap64 ((wrap64 ((Int.tmod a0 1099511627776) + t382)) - 20)) t383 t384 0)))) = some r := H
      have A12 := Aside0.mk A120
      clear A120
      by_cases c13 : t383 < 0
      · rw [if_pos c13] at H
        have c13b0 : decide (t383 < 0) = true := decide_eq_true c13
        clear c13
        exact absurd ((Option.some.inj H).trans hr_.out) (by decide)
      · rw [if_neg c13] at H
        have c13b0 : decide (t383 < 0) = false := decide_eq_false c13
        clear c13
        by_cases c14 : t383 > t384
        · rw [if_pos c14] at H
          have c14b0 : decide (t384 < t383) = true := decide_eq_true c14
          clear c14
          exact absurd ((Option.some.inj H).trans hr_.out) (by decide)
        · rw [if_neg c14] at H
          have c14b0 : decide (t384 < t383) = false := decide_eq_false c14
          clear c14
          by_cases c15 : t384 > (t370.length : Int)
          · rw [if_pos c15] at H
            have c15b0 : decide ((t370.length : Int) < t384) = true := decide_eq_true c15
            clear c15
            exact absurd ((Option.some.inj H).trans hr_.out) (by decide)
          · rw [if_neg c15] at H
            have c15b0 : decide ((t370.length : Int) < t384) = false := decide_eq_false c15
            clear c15
            have H' := Aside0.mk H
            clear H
            go_enter Try.func9, Try.ntmps9
            go_wp2_with (first | ((with_reducible refine gate_callee (f := 29) rfl ?_); refine goesL_ (some 20) rfl rfl Try.func29 (by kernel_rfl) rfl #[.int .i64 a0, .slice A1 l1.length c1] rfl (by (try simp only [List.map_toArray, List.map_cons, List.map_nil]); first | done | rfl | (simp only [List.length_drop, List.length_take]; rfl)) ?_; (with_reducible refine (columbariumlaw10_rising.calls k a0 _ _ l1 t370 _ ?side1 ?side2 A5.out).mono ?_); (case side1 => repeat (first | exact HR1.out | (with_reducible refine Kd.C_alloc ?_ _) | (with_reducible refine Kd.C_drewN ?_ _) | (with_reducible refine Kd.C_drew ?_))); (case side2 => exact HC1.out); rintro e w16 ⟨v371, rfl, ho0, hb⟩; refine ⟨_, rfl, ?_⟩; have n0_ := Aside0.mk (Kd.R_lower ho0 (below_size (by repeat (first | (with_reducible first | exact HB.out | apply below_alloc | apply pw_below_drewN | apply below_drew1) | exact HB.out)))); have n1_ := Aside0.mk (below_step (by repeat (first | (with_reducible first | exact HB.out | apply below_alloc | apply pw_below_drewN | apply below_drew1) | exact HB.out)) hb); clear HB; have HO372 := n0_; have HB := n1_; clear n0_ n1_; (try clear hb); (try clear hb2); (try clear hk); (try clear hi); (try clear ho0); obtain ⟨Ao17, co17, eo17⟩ := Kd.R_slice HO372.out; subst eo17) | ((with_reducible refine gate_callee (f := 30) rfl ?_); refine goesL_ (some 23) rfl rfl Try.func30 (by kernel_rfl) rfl #[.slice Ao17 t370.length co17] rfl (by (try simp only [List.map_toArray, List.map_cons, List.map_nil]); first | done | rfl | (simp only [List.length_drop, List.length_take]; rfl)) ?_; (with_reducible refine (ticks_Build.calls k _ _ t370 t373 t374 t375 t378 _ ?side1 ?side2 A6.out).mono ?_); (case side1 => repeat (first | exact (Kd.R_reads' HO372.out).2.2 | (with_reducible refine Kd.C_alloc ?_ _) | (with_reducible refine Kd.C_drewN ?_ _) | (with_reducible refine Kd.C_drew ?_))); (case side2 => exact (Kd.R_reads' HO372.out).2.1); rintro e w18 ⟨v376, rfl, ho0, hb⟩; refine ⟨_, rfl, ?_⟩; have n0_ := Aside0.mk (Kd.R_elder' (by (with_reducible repeat (first | apply Kd.R_alloc | apply Kd.R_drewN | apply Kd.R_drew)); exact HO372.out) (Kd.R_base ho0) hb); have n1_ := Aside0.mk (Kd.R_lower (Kd.R_new' ho0 (Kd.R_lt (by (with_reducible repeat (first | apply Kd.R_alloc | apply Kd.R_drewN | apply Kd.R_drew)); exact HO372.out))) (below_size (by repeat (first | (with_reducible first | exact HB.out | apply below_alloc | apply pw_below_drewN | apply below_drew1) | exact HB.out)))); have n2_ := Aside0.mk (below_step (by repeat (first | (with_reducible first | exact HB.out | apply below_alloc | apply pw_below_drewN | apply below_drew1) | exact HB.out)) hb); clear HO372; clear HB; have HO372 := n0_; have HO377 := n1_; have HB := n2_; clear n0_ n1_ n2_; (try clear hb); (try clear hb2); (try clear hk); (try clear hi); (try clear ho0)) | ((with_reducible refine gate_dst (N := 10) rfl ?_); (try (refine gate_guard (by rfl) ?_; dsimp only)); refine box_event ?hg (N := 10) ?hd (cs := #[.int .i64 0, .int .i64 0, .slice none 0 0]) (t := 61) ?hr ?_; (case hd => rfl); (case hg => rfl); (case hr => first | (go_simp; done) | (go_simp; rfl)); intro gb379 hg w19 hbox hb; have n0_ := Aside0.mk (Kd.R_below (by (with_reducible repeat (first | apply Kd.R_alloc | apply Kd.R_drewN | apply Kd.R_drew)); exact HO372.out) hb); have n1_ := Aside0.mk (Kd.R_below (by (with_reducible repeat (first | apply Kd.R_alloc | apply Kd.R_drewN | apply Kd.R_drew)); exact HO377.out) hb); have n2_ := Aside0.mk (below_step (by repeat (first | (with_reducible first | exact HB.out | apply below_alloc | apply pw_below_drewN | apply below_drew1) | exact HB.out)) hb); have n3_ := Aside0.mk (hbox); have n4_ := Aside0.mk ((by rw [hg]; exact (below_size (by repeat (first | (with_reducible first | exact HB.out | apply below_alloc | apply pw_below_drewN | apply below_drew1) | exact HB.out))) : w.heap.size ≤ gb379)); have n5_ := Aside0.mk ((by rw [hg]; exact (below_size (by repeat (first | (with_reducible first | exact HB.out | apply below_alloc | apply pw_below_drewN | apply below_drew1) | exact HB.out))) : w.heap.size ≤ gb379)); clear HO372; clear HO377; clear HB; have HO372 := n0_; have HO377 := n1_; have HB := n2_; have BK379 := n3_; have GW379 := n4_; have GE379 := n5_; clear n0_ n1_ n2_ n3_ n4_ n5_; clear hb hbox hg; have hcz20_0 : w19.cell? ⟨gb379, 0, none⟩ = some (.int .i64 0) := (blk_cell BK379.out 0).trans rfl; have hcz20_1 : w19.cell? ⟨gb379, 1, none⟩ = some (.int .i64 0) := (blk_cell BK379.out 1).trans rfl; have hcz20_2 : w19.cell? ⟨gb379, 2, none⟩ = some (.slice none 0 0) := (blk_cell BK379.out 2).trans rfl; have hfz20_0 := blk_frozen BK379.out 0; have hfz20_1 := blk_frozen BK379.out 1; have hfz20_2 := blk_frozen BK379.out 2; obtain ⟨Ao21, co21, eo21⟩ := Kd.R_slice HO377.out; subst eo21) | (go_at_call 31; (with_reducible refine (ticks_Right.calls k t373 t374 _ _ t375 true _ ?side1 ?side2 A8.out).mono ?_); (case side1 => refine (Kd.R_reads' (e := 2) (base := w.heap.size) (ok := fun k_ => (True ∧ some k_ ≠ (.slice Ao17 t370.length co17 : Value).ownBlock)) (n := t375.length) (c := co21) ?_).2.2; exact (by (with_reducible repeat (first | apply Kd.R_alloc | apply Kd.R_drewN | apply Kd.R_drew)); exact (Kd.R_mono (Kd.R_far (p := ⟨gb379, 2, none⟩) (Kd.R_far (p := ⟨gb379, 1, none⟩) (Kd.R_far (p := ⟨gb379, 0, none⟩) (Kd.R_types HO377.out BK379.out (by decide)) (fun _ hk => hk.2) (.int .i64 t373)) (fun _ hk => hk.2) (.int .i64 t374)) (fun _ hk => hk.2) (.slice Ao21 t375.length co21)) (fun _ h_ => h_.1)))); (case side2 => exact (Kd.R_reads' HO377.out).2.1); rintro e w22 ⟨rfl, hb⟩; have n0_ := Aside0.mk (Kd.R_below (by (with_reducible repeat (first | apply Kd.R_alloc | apply Kd.R_drewN | apply Kd.R_drew)); exact (Kd.R_mono (Kd.R_far (p := ⟨gb379, 2, none⟩) (Kd.R_far (p := ⟨gb379, 1, none⟩) (Kd.R_far (p := ⟨gb379, 0, none⟩) (Kd.R_types HO372.out BK379.out (by decide)) (fun _ hk => hk.2) (.int .i64 t373)) (fun _ hk => hk.2) (.int .i64 t374)) (fun _ hk => hk.2) (.slice Ao21 t375.length co21)) (fun _ h_ => h_.1))) hb); have n1_ := Aside0.mk (Kd.R_below (by (with_reducible repeat (first | apply Kd.R_alloc | apply Kd.R_drewN | apply Kd.R_drew)); exact (Kd.R_mono (Kd.R_far (p := ⟨gb379, 2, none⟩) (Kd.R_far (p := ⟨gb379, 1, none⟩) (Kd.R_far (p := ⟨gb379, 0, none⟩) (Kd.R_types HO377.out BK379.out (by decide)) (fun _ hk => hk.2) (.int .i64 t373)) (fun _ hk => hk.2) (.int .i64 t374)) (fun _ hk => hk.2) (.slice Ao21 t375.length co21)) (fun _ h_ => h_.1))) hb); have n2_ := Aside0.mk (blk_below (g := gb379) (o := .cells #[.int .i64 t373, .int .i64 t374, .slice Ao21 t375.length co21] 61 (0, 0)) (by (with_reducible repeat (first | refine blk_drewN ?_ _ | refine blk_drew ?_ | refine blk_alloc ?_ _)); refine blk_put (cs := #[.int .i64 t373, .int .i64 t374, .slice none 0 0]) ?_ 2 _ rfl; (with_reducible repeat (first | refine blk_drewN ?_ _ | refine blk_drew ?_ | refine blk_alloc ?_ _)); refine blk_put (cs := #[.int .i64 t373, .int .i64 0, .slice none 0 0]) ?_ 1 _ rfl; (with_reducible repeat (first | refine blk_drewN ?_ _ | refine blk_drew ?_ | refine blk_alloc ?_ _)); refine blk_put (cs := #[.int .i64 0, .int .i64 0, .slice none 0 0]) ?_ 0 _ rfl; (with_reducible repeat (first | refine blk_drewN ?_ _ | refine blk_drew ?_ | refine blk_alloc ?_ _)); exact BK379.out) hb); have n3_ := Aside0.mk (below_step (by repeat (first | (with_reducible first | exact HB.out | apply below_alloc | apply pw_below_drewN | apply below_drew1 | refine below_set ?_ GE379.out) | exact HB.out)) hb); clear HO372; clear HO377; clear BK379; clear HB; have HO372 := n0_; have HO377 := n1_; have BK379 := n2_; have HB := n3_; clear n0_ n1_ n2_ n3_; (try clear hb); (try clear hb2); (try clear hk); (try clear hi)) | ((with_reducible refine gate_callee (f := 15) rfl ?_); refine goesL_ (some 37) rfl rfl Try.func15 (by kernel_rfl) rfl #[.int .i64 a2, .int .i64 0, .int .i64 300] rfl (by (try simp only [List.map_toArray, List.map_cons, List.map_nil]); first | done | rfl | (simp only [List.length_drop, List.length_take]; rfl)) ?_; (with_reducible refine (columbariumbook_Within.calls a2 0 300 t381 _ A10.out).mono ?_); rintro e w' ⟨rfl, ⟨nd, rfl⟩⟩; refine ⟨_, rfl, ?_⟩) | ((with_reducible refine gate_callee (f := 15) rfl ?_); refine goesL_ (some 42) rfl rfl Try.func15 (by kernel_rfl) rfl #[.int .i64 a3, .int .i64 0, .int .i64 300] rfl (by (try simp only [List.map_toArray, List.map_cons, List.map_nil]); first | done | rfl | (simp only [List.length_drop, List.length_take]; rfl)) ?_; (with_reducible refine (columbariumbook_Within.calls a3 0 300 t382 _ A11.out).mono ?_); rintro e w' ⟨rfl, ⟨nd, rfl⟩⟩; refine ⟨_, rfl, ?_⟩; have hcz23_0 : w22.cell? ⟨gb379, 0, none⟩ = some (.int .i64 t373) := (blk_cell BK379.out 0).trans rfl; have hcz23_1 : w22.cell? ⟨gb379, 1, none⟩ = some (.int .i64 t374) := (blk_cell BK379.out 1).trans rfl; have hcz23_2 : w22.cell? ⟨gb379, 2, none⟩ = some (.slice Ao21 t375.length co21) := (blk_cell BK379.out 2).trans rfl; have hfz23_0 := blk_frozen BK379.out 0; have hfz23_1 := blk_frozen BK379.out 1; have hfz23_2 := blk_frozen BK379.out 2) | ((with_reducible refine gate_callee (f := 32) rfl ?_); refine goesL_ (some 49) rfl rfl Try.func32 (by kernel_rfl) rfl #[.agg #[.int .i64 t373, .int .i64 t374, .slice Ao21 t375.length co21], .int .i64 (wrap64 ((wrap64 ((Int.tmod a0 1099511627776) + t381)) - 20)), .int .i64 (wrap64 ((wrap64 ((Int.tmod a0 1099511627776) + t382)) - 20))] rfl (by (try simp only [List.map_toArray, List.map_cons, List.map_nil]); first | done | rfl | (simp only [List.length_drop, List.length_take]; rfl)) ?_; (with_reducible refine (ticks_Span.calls k t373 t374 _ _ t375 (wrap64 ((wrap64 ((Int.tmod a0 1099511627776) + t381)) - 20)) (wrap64 ((wrap64 ((Int.tmod a0 1099511627776) + t382)) - 20)) t383 t384 _ ?side1 ?side2 A12.out).mono ?_); (case side1 => repeat (first | exact (Kd.R_reads' HO377.out).2.2 | (with_reducible refine Kd.C_alloc ?_ _) | (with_reducible refine Kd.C_drewN ?_ _) | (with_reducible refine Kd.C_drew ?_))); (case side2 => exact (Kd.R_reads' HO377.out).2.1); rintro e w24 ⟨rfl, hb⟩; refine ⟨_, rfl, ?_⟩; have n0_ := Aside0.mk (Kd.R_below (by (with_reducible repeat (first | apply Kd.R_alloc | apply Kd.R_drewN | apply Kd.R_drew)); exact HO372.out) hb); have n1_ := Aside0.mk (Kd.R_below (by (with_reducible repeat (first | apply Kd.R_alloc | apply Kd.R_drewN | apply Kd.R_drew)); exact HO377.out) hb); have n2_ := Aside0.mk (blk_below (g := gb379) (o := .cells #[.int .i64 t373, .int .i64 t374, .slice Ao21 t375.length co21] 61 (0, 0)) (by (with_reducible repeat (first | refine blk_drewN ?_ _ | refine blk_drew ?_ | refine blk_alloc ?_ _)); exact BK379.out) hb); have n3_ := Aside0.mk (below_step (by repeat (first | (with_reducible first | exact HB.out | apply below_alloc | apply pw_below_drewN | apply below_drew1 | refine below_set ?_ GE379.out) | exact HB.out)) hb); clear HO372; clear HO377; clear BK379; clear HB; have HO372 := n0_; have HO377 := n1_; have BK379 := n2_; have HB := n3_; clear n0_ n1_ n2_ n3_; (try clear hb); (try clear hb2); (try clear hk); (try clear hi)))
            go_loopg [17] k (fun kq v17 w' => ∃ (x17_1 : Int), v17 = .int .i64 x17_1 ∧ Aside0 (columbariumlaw10_TicksSpan.l0 kq t370 (wrap64 ((wrap64 ((Int.tmod a0 1099511627776) + t381)) - 20)) (wrap64 ((wrap64 ((Int.tmod a0 1099511627776) + t382)) - 20)) t383 t384 x17_1 = some r) ∧ Aside0 (kq ≤ k) ∧ Aside0 (Kd.R (Kd.int .i64) 2 w' w.heap.size (fun k_ => some k_ ≠ ((.slice Ao21 t375.length co21) : Value).ownBlock) (.slice Ao17 t370.length co17) t370) ∧ Aside0 (Kd.R (Kd.int .i64) 2 w' w.heap.size (fun k_ => some k_ ≠ ((.slice Ao17 t370.length co17) : Value).ownBlock) (.slice Ao21 t375.length co21) t375) ∧ Aside0 (w'.heap[gb379]? = some (.cells #[.int .i64 t373, .int .i64 t374, (.slice Ao21 t375.length co21)] 61 (0, 0))) ∧ Aside0 (Below w.heap.size w w'))
            case atStart => exact ⟨(0), (by first | rfl | (simp; done) | (simp [*]; done) | (refine congrArg (Value.int .i64) ?_; (try simp only [decide_eq_true_eq, decide_eq_false_iff_not] at *) <;> (unfold wrap64; omega))), H', ⟨Nat.le_refl _⟩, ⟨by (with_reducible repeat (first | apply Kd.R_alloc | apply Kd.R_drewN | apply Kd.R_drew)); exact Kd.R_mono HO372.out (fun _ hk => hk.2)⟩, ⟨by (with_reducible repeat (first | apply Kd.R_alloc | apply Kd.R_drewN | apply Kd.R_drew)); exact Kd.R_mono HO377.out (fun _ hk => hk.2)⟩, ⟨by (with_reducible repeat (first | refine blk_drewN ?_ _ | refine blk_drew ?_ | refine blk_alloc ?_ _)); exact BK379.out⟩, ⟨by repeat (first | (with_reducible first | exact HB.out | apply below_alloc | apply pw_below_drewN | apply below_drew1 | refine below_set ?_ GE379.out) | exact HB.out)⟩⟩
            case round =>
              clear H'
              try clear c1
              try clear c2
              try clear p2
              try clear c3
              try clear p6
              try clear c7
              try clear c7b0
              try clear c7b1
              try clear c9
              try clear c13
              try clear c13b0
              try clear c14
              try clear c14b0
              try clear c15
              try clear c15b0
              try clear hcz20_0
              try clear hcz20_1
              try clear hcz20_2
              try clear hcz23_0
              try clear hcz23_1
              try clear hcz23_2
              try clear hfz20_0
              try clear hfz20_1
              try clear hfz20_2
              try clear hfz23_0
              try clear hfz23_1
              try clear hfz23_2
              obtain ⟨x17_1, rfl, HA, HK1, HO_9, HO_380002, BK379, HB⟩ := hrel
              cases gk with
              | zero => exact absurd HA.out (by simp [columbariumlaw10_TicksSpan.l0])
              | succ k1 =>
                have H := HA.out
                clear HA
                simp only [columbariumlaw10_TicksSpan.l0] at H
                by_cases c25 : x17_1 < (t370.length : Int)
                · rw [if_pos c25] at H
                  have c25b0 : decide (x17_1 < (t370.length : Int)) = true := decide_eq_true c25
                  clear c25
                  by_cases c26 : 0 ≤ x17_1
                  · rw [if_pos c26] at H
                    have c26b0 : decide (0 ≤ x17_1) = true := decide_eq_true c26
                    clear c26
                    by_cases c27 : (rd t370 x17_1) ≥ (wrap64 ((wrap64 ((Int.tmod a0 1099511627776) + t381)) - 20))
                    · rw [if_pos c27] at H
                      have c27b0 : decide ((wrap64 ((wrap64 ((Int.tmod a0 1099511627776) + t381)) - 20)) ≤ (rd t370 x17_1)) = true := decide_eq_true c27
                      clear c27
                      by_cases c28 : (rd t370 x17_1) ≤ (wrap64 ((wrap64 ((Int.tmod a0 1099511627776) + t382)) - 20))
                      · rw [if_pos c28] at H
                        have c28b0 : decide ((rd t370 x17_1) ≤ (wrap64 ((wrap64 ((Int.tmod a0 1099511627776) + t382)) - 20))) = true := decide_eq_true c28
                        clear c28
                        by_cases c29 : x17_1 < t383
                        · rw [if_pos c29] at H
                          have c29b0 : decide (x17_1 < t383) = true := decide_eq_true c29
                          clear c29
                          exact absurd ((Option.some.inj H).trans hr_.out) (by decide)
                        · rw [if_neg c29] at H
                          have c29b0 : decide (x17_1 < t383) = false := decide_eq_false c29
                          clear c29
                          by_cases c30 : x17_1 ≥ t384
                          · rw [if_pos c30] at H
                            have c30b0 : decide (t384 ≤ x17_1) = true := decide_eq_true c30
                            clear c30
                            exact absurd ((Option.some.inj H).trans hr_.out) (by decide)
                          · rw [if_neg c30] at H
                            have c30b0 : decide (t384 ≤ x17_1) = false := decide_eq_false c30
                            clear c30
                            have H' := Aside0.mk H
                            clear H
                            have p385 : 0 ≤ (x17_1 : Int) := of_decide_eq_true (by first | (with_reducible assumption) | assumption)
                            have q385 : x17_1 < (t370.length : Int) := of_decide_eq_true (by first | (with_reducible assumption) | assumption)
                            obtain ⟨ad385, e385, hx385_0⟩ := Kd.at_int (Kd.R_reads' HO_9.out).2.2 x17_1 p385 q385
                            cases e385
                            replace p385 := eq_true p385
                            replace q385 := eq_true q385
                            have p386 : 0 ≤ (x17_1 : Int) := of_decide_eq_true (by first | (with_reducible assumption) | assumption)
                            have q386 : x17_1 < (t370.length : Int) := of_decide_eq_true (by first | (with_reducible assumption) | assumption)
                            obtain ⟨ad386, e386, hx386_0⟩ := Kd.at_int (Kd.R_reads' HO_9.out).2.2 x17_1 p386 q386
                            obtain rfl : ad385 = ad386 := (by injection e386)
                            replace p386 := eq_true p386
                            replace q386 := eq_true q386
                            go_wp2
                            go_roundg k1
                            case measure => have := HK1.out; omega
                            case rel => exact ⟨(wrap64 (x17_1 + 1)), (by first | rfl | (simp; done) | (simp [*]; done) | (refine congrArg (Value.int .i64) ?_; (try simp only [decide_eq_true_eq, decide_eq_false_iff_not] at *) <;> (unfold wrap64; omega))), H', ⟨by have := HK1.out; omega⟩, ⟨by (with_reducible repeat (first | apply Kd.R_alloc | apply Kd.R_drewN | apply Kd.R_drew)); exact HO_9.out⟩, ⟨by (with_reducible repeat (first | apply Kd.R_alloc | apply Kd.R_drewN | apply Kd.R_drew)); exact HO_380002.out⟩, ⟨by (with_reducible repeat (first | refine blk_drewN ?_ _ | refine blk_drew ?_ | refine blk_alloc ?_ _)); exact BK379.out⟩, ⟨by repeat (first | (with_reducible first | exact HB.out | apply below_alloc | apply pw_below_drewN | apply below_drew1 | refine below_set ?_ GE379.out) | exact HB.out)⟩⟩
                      · rw [if_neg c28] at H
                        have c28b0 : decide ((rd t370 x17_1) ≤ (wrap64 ((wrap64 ((Int.tmod a0 1099511627776) + t382)) - 20))) = false := decide_eq_false c28
                        clear c28
                        have H' := Aside0.mk H
                        clear H
                        have p385 : 0 ≤ (x17_1 : Int) := of_decide_eq_true (by first | (with_reducible assumption) | assumption)
                        have q385 : x17_1 < (t370.length : Int) := of_decide_eq_true (by first | (with_reducible assumption) | assumption)
                        obtain ⟨ad385, e385, hx385_0⟩ := Kd.at_int (Kd.R_reads' HO_9.out).2.2 x17_1 p385 q385
                        cases e385
                        replace p385 := eq_true p385
                        replace q385 := eq_true q385
                        have p386 : 0 ≤ (x17_1 : Int) := of_decide_eq_true (by first | (with_reducible assumption) | assumption)
                        have q386 : x17_1 < (t370.length : Int) := of_decide_eq_true (by first | (with_reducible assumption) | assumption)
                        obtain ⟨ad386, e386, hx386_0⟩ := Kd.at_int (Kd.R_reads' HO_9.out).2.2 x17_1 p386 q386
                        obtain rfl : ad385 = ad386 := (by injection e386)
                        replace p386 := eq_true p386
                        replace q386 := eq_true q386
                        go_wp2
                        go_roundg k1
                        case measure => have := HK1.out; omega
                        case rel => exact ⟨(wrap64 (x17_1 + 1)), (by first | rfl | (simp; done) | (simp [*]; done) | (refine congrArg (Value.int .i64) ?_; (try simp only [decide_eq_true_eq, decide_eq_false_iff_not] at *) <;> (unfold wrap64; omega))), H', ⟨by have := HK1.out; omega⟩, ⟨by (with_reducible repeat (first | apply Kd.R_alloc | apply Kd.R_drewN | apply Kd.R_drew)); exact HO_9.out⟩, ⟨by (with_reducible repeat (first | apply Kd.R_alloc | apply Kd.R_drewN | apply Kd.R_drew)); exact HO_380002.out⟩, ⟨by (with_reducible repeat (first | refine blk_drewN ?_ _ | refine blk_drew ?_ | refine blk_alloc ?_ _)); exact BK379.out⟩, ⟨by repeat (first | (with_reducible first | exact HB.out | apply below_alloc | apply pw_below_drewN | apply below_drew1 | refine below_set ?_ GE379.out) | exact HB.out)⟩⟩
                    · rw [if_neg c27] at H
                      have c27b0 : decide ((wrap64 ((wrap64 ((Int.tmod a0 1099511627776) + t381)) - 20)) ≤ (rd t370 x17_1)) = false := decide_eq_false c27
                      clear c27
                      have H' := Aside0.mk H
                      clear H
                      have p385 : 0 ≤ (x17_1 : Int) := of_decide_eq_true (by first | (with_reducible assumption) | assumption)
                      have q385 : x17_1 < (t370.length : Int) := of_decide_eq_true (by first | (with_reducible assumption) | assumption)
                      obtain ⟨ad385, e385, hx385_0⟩ := Kd.at_int (Kd.R_reads' HO_9.out).2.2 x17_1 p385 q385
                      cases e385
                      replace p385 := eq_true p385
                      replace q385 := eq_true q385
                      go_wp2
                      go_roundg k1
                      case measure => have := HK1.out; omega
                      case rel => exact ⟨(wrap64 (x17_1 + 1)), (by first | rfl | (simp; done) | (simp [*]; done) | (refine congrArg (Value.int .i64) ?_; (try simp only [decide_eq_true_eq, decide_eq_false_iff_not] at *) <;> (unfold wrap64; omega))), H', ⟨by have := HK1.out; omega⟩, ⟨by (with_reducible repeat (first | apply Kd.R_alloc | apply Kd.R_drewN | apply Kd.R_drew)); exact HO_9.out⟩, ⟨by (with_reducible repeat (first | apply Kd.R_alloc | apply Kd.R_drewN | apply Kd.R_drew)); exact HO_380002.out⟩, ⟨by (with_reducible repeat (first | refine blk_drewN ?_ _ | refine blk_drew ?_ | refine blk_alloc ?_ _)); exact BK379.out⟩, ⟨by repeat (first | (with_reducible first | exact HB.out | apply below_alloc | apply pw_below_drewN | apply below_drew1 | refine below_set ?_ GE379.out) | exact HB.out)⟩⟩
                  · rw [if_neg c26] at H
                    exact absurd H (by simp)
                · rw [if_neg c25] at H
                  have c25b0 : decide (x17_1 < (t370.length : Int)) = false := decide_eq_false c25
                  clear c25
                  replace H := Option.bind_eq_some_iff.mp H
                  obtain ⟨t387, A310, H⟩ := H
                  replace H : (some t387) = some r := H
                  have A31 := Aside0.mk A310
                  clear A310
                  obtain rfl := Option.some.inj H
                  go_wp2_with (first | ((with_reducible refine gate_callee (f := 33) rfl ?_); refine goesL_ (some 95) rfl rfl Try.func33 (by kernel_rfl) rfl #[] rfl (by (try simp only [List.map_toArray, List.map_cons, List.map_nil]); first | done | rfl | (simp only [List.length_drop, List.length_take]; rfl)) ?_; (with_reducible refine (columbariumlaw10_known.calls k1  t387 _ A31.out).mono ?_); rintro e w32 ⟨rfl, hb⟩; refine ⟨_, rfl, ?_⟩; have n0_ := Aside0.mk (Kd.R_below (by (with_reducible repeat (first | apply Kd.R_alloc | apply Kd.R_drewN | apply Kd.R_drew)); exact HO_9.out) hb); have n1_ := Aside0.mk (Kd.R_below (by (with_reducible repeat (first | apply Kd.R_alloc | apply Kd.R_drewN | apply Kd.R_drew)); exact HO_380002.out) hb); have n2_ := Aside0.mk (blk_below (g := gb379) (o := .cells #[.int .i64 t373, .int .i64 t374, .slice Ao21 t375.length co21] 61 (0, 0)) (by (with_reducible repeat (first | refine blk_drewN ?_ _ | refine blk_drew ?_ | refine blk_alloc ?_ _)); exact BK379.out) hb); have n3_ := Aside0.mk (below_step (by repeat (first | (with_reducible first | exact HB.out | apply below_alloc | apply pw_below_drewN | apply below_drew1 | refine below_set ?_ GE379.out) | exact HB.out)) hb); clear HO_9; clear HO_380002; clear BK379; clear HB; have HO_9 := n0_; have HO_380002 := n1_; have BK379 := n2_; have HB := n3_; clear n0_ n1_ n2_ n3_; (try clear hb); (try clear hb2); (try clear hk); (try clear hi)))
                  go_ret
                  exact ⟨by first | rfl | (simp [errW_none, errW_some] <;> rfl) | (simp [*, errW_none, errW_some] <;> rfl), by repeat (first | (with_reducible first | exact HB.out | apply below_alloc | apply pw_below_drewN | apply below_drew1 | refine below_set ?_ GE379.out) | exact HB.out)⟩
    · replace c9 := Bool.eq_false_iff.mpr c9
      subst c9
      have H1 : (some false) = some r := by rw [if_neg (show ¬ (false = true) by decide)] at H; exact H
      clear H
      have H := H1
      clear H1
      exact absurd ((Option.some.inj H).trans hr_.out) (by decide)
  · rw [if_neg c7] at H
    have c7b0 : (t378 == 0) = false := beq_eq_false_iff_ne.mpr c7
    have c7b1 : (t378 != 0) = true := bne_iff_ne.mpr c7
    exact absurd ((Option.some.inj H).trans hr_.out) (by decide)

/-- THE ONE PURE STATEMENT of columbariumlaw10_TicksSpan: yours. -/
def columbariumlaw10_TicksSpan.Pure : Prop := ∀ (a0 : Int) (l1 : List Int) (a2 : Int) (a3 : Int), (Lit.int .i64 a0).wf = true → l1.length ≤ maxLen → l1.length * 8 ≤ 140737488351232 → (∀ x ∈ l1, (Lit.int .i64 x).wf = true) → (Lit.int .i64 a2).wf = true → (Lit.int .i64 a3).wf = true → ∃ k, columbariumlaw10_TicksSpan.f k a0 l1 a2 a3 = some true
theorem columbariumlaw10_TicksSpan.walk (P : columbariumlaw10_TicksSpan.Pure) (a0 : Int) (a1 : Option Addr) (len1 cap1 : Nat) (z1 : List Int) (a2 : Int) (a3 : Int) (w : World) (w0 : (Lit.int .i64 a0).wf = true) (w1 : (a1 = none ∧ len1 = 0 ∧ cap1 = 0 ∧ z1 = []) ∨ ∃ x, a1 = some x ∧ len1 ≤ cap1 ∧ cap1 ≤ maxLen ∧ z1.length = cap1 ∧ (∀ i, i < z1.length → w.cell? (x.add i) = some (.int .i64 (z1.getD i 0))) ∧ ∀ n ∈ z1, (Lit.int .i64 n).wf = true) (y1 : len1 * 8 ≤ 140737488351232) (w2 : (Lit.int .i64 a2).wf = true) (w3 : (Lit.int .i64 a3).wf = true) :
    Calls Try.prog 9 #[.int .i64 a0, .slice a1 len1 cap1, .int .i64 a2, .int .i64 a3] w fun e w' => e = .returned (.bool true) ∧ Below w.heap.size w w' := by
  obtain ⟨l1, rfl, hr1, hm1, hw1, hc1⟩ := ReadsInt.ofRowC w1
  obtain ⟨k, h⟩ := P a0 l1 a2 a3 w0 hm1 y1 hw1 w2 w3
  refine (columbariumlaw10_TicksSpan.calls k a0 _ _ l1 a2 a3 true w (Kd.C_of_reads (d := (0 : Int)) (h1 := fun _ => rfl) hr1) hc1 h ⟨rfl⟩).mono ?_
  rintro e w' ⟨rfl, hd⟩
  exact ⟨rfl, hd⟩

end Go.Proofs.Ytjpeojohakhmdaa.PS
