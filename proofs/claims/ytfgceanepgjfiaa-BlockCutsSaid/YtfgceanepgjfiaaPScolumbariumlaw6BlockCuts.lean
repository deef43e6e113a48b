-- Written by a program of this session, out of the translation; Lean checks it.
import Derived.Test.YtfgceanepgjfiaaPSx0
import Derived.Test.YtfgceanepgjfiaaPScolumbariumbookWithin
import Derived.Test.YtfgceanepgjfiaaPScolumbariumlaw6few
import Derived.Test.YtfgceanepgjfiaaPScolumbariumlaw6known
import Derived.Test.YtfgceanepgjfiaaPSblockAll
import Derived.Test.YtfgceanepgjfiaaPScolumbariumlaw6written
namespace Go.Proofs.Ytfgceanepgjfiaa.PS
open Go.RowKit Go.Proofs.YtfgceanepgjfiaaW.PrintWords Go.Proofs.YtfgceanepgjfiaaW.PrintLast Go.Proofs.YtfgceanepgjfiaaW.PrintMore
attribute [local go_sem] pw_us8 pw_us32 pw_us64 max2_int min2_int max_two min_two max_three min_three max_four min_four   -- for this text's walks alone
set_option linter.unusedVariables false
set_option linter.unusedSimpArgs false

/-! ### columbariumlaw6_BlockCuts: function 13 -/
def columbariumlaw6_BlockCuts.l0 : Nat → List ByteArray → Int → List (List Int) → Int → Int → Int → Int → Option (Bool)
  | 0, _, _, _, _, _, _, _ => none
  | k + 1, x0, x6, x7, x8, x9, x10, x11 => if x11 < (x7.length : Int) then (if 0 ≤ x11 then (if x11 < (x0.length : Int) then ((columbariumlaw6_few.f (rdOf ByteArray.empty x0 x11)).bind fun t850 => (if (strOfNums (rd_L2 x7 x11)).toList = t850.toList then (columbariumlaw6_BlockCuts.l0 k x0 x6 x7 x8 x9 (wrap64 ((wrap64 (x10 + 12)) + ((rd_L2 x7 x11).length : Int))) (wrap64 (x11 + 1))) else (some false))) else (none)) else (none)) else (if x10 = x8 then (if x9 = 0 then (if x8 = x6 then ((columbariumlaw6_known.f k).bind fun t852 => (some t852)) else (some false)) else (if x8 = x6 then (some false) else (if x9 = 10 then ((columbariumlaw6_known.f k).bind fun t853 => (some t853)) else (some false)))) else (some false))
def columbariumlaw6_BlockCuts.f (k : Nat) (l0 : List ByteArray) (a1 : Int) : Option (Bool) := (columbariumlaw6_written.f k l0).bind fun t835 => ((columbariumbook_Within.f a1 0 (t835.length : Int)).bind fun t838 => (if 0 ≤ t838 then (if t838 ≤ (t835.length : Int) then ((block_All.f k (t835.take (t838 : Int).toNat)).bind fun bt843 => (if bt843.2.1 > t838 then (some false) else (if (bt843.1.length : Int) > (l0.length : Int) then (some false) else (columbariumlaw6_BlockCuts.l0 k l0 t838 bt843.1 bt843.2.1 bt843.2.2 0 0)))) else (none)) else (none)))
theorem columbariumlaw6_BlockCuts.mono_l : ∀ k, (∀ y0 y1 y2 y3 y4 y5 y6, LeO (columbariumlaw6_BlockCuts.l0 k y0 y1 y2 y3 y4 y5 y6) (columbariumlaw6_BlockCuts.l0 (k + 1) y0 y1 y2 y3 y4 y5 y6))
  | 0 => fun _ _ _ _ _ _ _ r h => by simp [columbariumlaw6_BlockCuts.l0] at h
  | k + 1 => by
    have ih0 := columbariumlaw6_BlockCuts.mono_l k
    · intro y0 y1 y2 y3 y4 y5 y6
      unfold columbariumlaw6_BlockCuts.l0
      repeat' first
      | (with_reducible exact ih0 _ _ _ _ _ _ _)
      | (with_reducible exact block_All.mono _ _)
      | (with_reducible exact columbariumlaw6_known.mono _)
      | (with_reducible exact columbariumlaw6_written.mono _ _)
      | (with_reducible exact LeO.refl _)
      | (with_reducible exact LeO.none _)
      | (with_reducible refine LeO.ite ?_ ?_)
      | (with_reducible refine LeO.bind ?_ (fun _ => ?_))
      | exact ih0 _ _ _ _ _ _ _
      | exact block_All.mono _ _
      | exact columbariumlaw6_known.mono _
      | exact columbariumlaw6_written.mono _ _
      | exact LeO.none _
      | refine LeO.ite ?_ ?_
      | refine LeO.bind ?_ (fun _ => ?_)
theorem columbariumlaw6_BlockCuts.mono : ∀ a0 a1 k, LeO (columbariumlaw6_BlockCuts.f k a0 a1) (columbariumlaw6_BlockCuts.f (k + 1) a0 a1) := by
  intro a0 a1 k
  have ih0 := columbariumlaw6_BlockCuts.mono_l k
  unfold columbariumlaw6_BlockCuts.f
  repeat' first
      | (with_reducible exact ih0 _ _ _ _ _ _ _)
      | (with_reducible exact block_All.mono _ _)
      | (with_reducible exact columbariumlaw6_known.mono _)
      | (with_reducible exact columbariumlaw6_written.mono _ _)
      | (with_reducible exact LeO.refl _)
      | (with_reducible exact LeO.none _)
      | (with_reducible refine LeO.ite ?_ ?_)
      | (with_reducible refine LeO.bind ?_ (fun _ => ?_))
      | exact ih0 _ _ _ _ _ _ _
      | exact block_All.mono _ _
      | exact columbariumlaw6_known.mono _
      | exact columbariumlaw6_written.mono _ _
      | exact LeO.none _
      | refine LeO.ite ?_ ?_
      | refine LeO.bind ?_ (fun _ => ?_)
set_option maxHeartbeats 8000000 in
set_option maxRecDepth 100000 in
theorem columbariumlaw6_BlockCuts.calls (k : Nat) (A0 : Option Addr) (c0 : Nat) (l0 : List ByteArray) (a1 : Int) (r : Bool) (w : World) (hr0 : Kd.C Kd.string w A0 l0.length l0) (hc0 : l0.length ≤ c0) (h : columbariumlaw6_BlockCuts.f k l0 a1 = some r) (hr_ : Aside0 (r = true)) :
    Calls Try.prog 13 #[.slice A0 l0.length c0, .int .i64 a1] w fun e w' => e = .returned (.bool r) ∧ Below w.heap.size w w' := by
  have HR0 := Aside0.mk hr0
  have HC0 := Aside0.mk hc0
  clear hr0 hc0
  have HB := Aside0.mk (Below.refl w.heap.size w)
  have H : ((columbariumlaw6_written.f k l0).bind fun t835 => ((columbariumbook_Within.f a1 0 (t835.length : Int)).bind fun t838 => (if 0 ≤ t838 then (if t838 ≤ (t835.length : Int) then ((block_All.f k (t835.take (t838 : Int).toNat)).bind fun bt843 => (if bt843.2.1 > t838 then (some false) else (if (bt843.1.length : Int) > (l0.length : Int) then (some false) else (columbariumlaw6_BlockCuts.l0 k l0 t838 bt843.1 bt843.2.1 bt843.2.2 0 0)))) else (none)) else (none)))) = some r := h
  clear h
  replace H := Option.bind_eq_some_iff.mp H
  obtain ⟨t835, A30, H⟩ := H
  replace H : ((columbariumbook_Within.f a1 0 (t835.length : Int)).bind fun t838 => (if 0 ≤ t838 then (if t838 ≤ (t835.length : Int) then ((block_All.f k (t835.take (t838 : Int).toNat)).bind fun bt843 => (if bt843.2.1 > t838 then (some false) else (if (bt843.1.length : Int) > (l0.length : Int) then (some false) else (columbariumlaw6_BlockCuts.l0 k l0 t838 bt843.1 bt843.2.1 bt843.2.2 0 0)))) else (none)) else (none))) = some r := H
  have A3 := Aside0.mk A30
  clear A30
  replace H := Option.bind_eq_some_iff.mp H
  obtain ⟨t838, A40, H⟩ := H
  replace H : (if 0 ≤ t838 then (if t838 ≤ (t835.length : Int) then ((block_All.f k (t835.take (t838 : Int).toNat)).bind fun bt843 => (if bt843.2.1 > t838 then (some false) else (if (bt843.1.length : Int) > (l0.length : Int) then (some false) else (columbariumlaw6_BlockCuts.l0 k l0 t838 bt843.1 bt843.2.1 bt843.2.2 0 0)))) else (none)) else (none)) = some r := H
  have A4 := Aside0.mk A40
  clear A40
  by_cases c5 : 0 ≤ t838
  · rw [if_pos c5] at H
    have c5b0 := eq_true c5
    have c5b1 : decide (0 ≤ t838) = true := decide_eq_true c5
    clear c5
    by_cases c6 : t838 ≤ (t835.length : Int)
    · rw [if_pos c6] at H
      have c6b0 := eq_true c6
      have c6b1 : decide (t838 ≤ (t835.length : Int)) = true := decide_eq_true c6
      clear c6
      obtain ⟨y839, hy839⟩ : ∃ y_ : List Int, y_ = (t835.take (t838 : Int).toNat) := ⟨_, rfl⟩
      replace H : ((block_All.f k y839).bind fun bt843 => (if bt843.2.1 > t838 then (some false) else (if (bt843.1.length : Int) > (l0.length : Int) then (some false) else (columbariumlaw6_BlockCuts.l0 k l0 t838 bt843.1 bt843.2.1 bt843.2.2 0 0)))) = some r := by first | (rw [hy839]; with_reducible exact H) | (have H2_ := (Option.bind_some _ _).symm.trans H; rw [hy839]; with_reducible exact H2_) | (have H2_ := (Option.bind_some _ _).symm.trans H; with_reducible exact H2_) | with_reducible exact H | (rw [hy839]; exact H) | exact H
      have Ny839 := Aside0.mk hy839
      clear hy839
      replace H := Option.bind_eq_some_iff.mp H
      obtain ⟨⟨t843, t844, t845⟩, A70, H⟩ := H
      replace H : (if t844 > t838 then (some false) else (if (t843.length : Int) > (l0.length : Int) then (some false) else (columbariumlaw6_BlockCuts.l0 k l0 t838 t843 t844 t845 0 0))) = some r := H
      have A7 := Aside0.mk A70
      clear A70
      by_cases c8 : t844 > t838
      · rw [if_pos c8] at H
        have c8b0 : decide (t838 < t844) = true := decide_eq_true c8
        clear c8
        exact absurd ((Option.some.inj H).trans hr_.out) (by decide)
      · rw [if_neg c8] at H
        have c8b0 : decide (t838 < t844) = false := decide_eq_false c8
        clear c8
        by_cases c9 : (t843.length : Int) > (l0.length : Int)
        · rw [if_pos c9] at H
          have c9b0 : decide ((l0.length : Int) < (t843.length : Int)) = true := decide_eq_true c9
          have c9b1 : decide (l0.length < t843.length) = true := decide_eq_true (Int.ofNat_lt.mp c9)
          clear c9
          exact absurd ((Option.some.inj H).trans hr_.out) (by decide)
        · rw [if_neg c9] at H
          have c9b0 : decide ((l0.length : Int) < (t843.length : Int)) = false := decide_eq_false c9
          have c9b1 : decide (l0.length < t843.length) = false := decide_eq_false (fun h => c9 (Int.ofNat_lt.mpr h))
          clear c9
          have H' := Aside0.mk H
          clear H
          go_enter Try.func13, Try.ntmps13
          go_wp2_with (first | (go_at_call 30; (with_reducible refine (columbariumlaw6_written.calls k _ _ l0 t835 _ ?side1 ?side2 A3.out).mono ?_); (case side1 => repeat (first | exact HR0.out | (with_reducible refine Kd.C_alloc ?_ _) | (with_reducible refine Kd.C_drewN ?_ _) | (with_reducible refine Kd.C_drew ?_))); (case side2 => exact HC0.out); rintro e w10 ⟨v836, rfl, ho0, hb⟩; have n0_ := Aside0.mk (Kd.R_lower ho0 (below_size (by repeat (first | (with_reducible first | exact HB.out | apply below_alloc | apply pw_below_drewN | apply below_drew1) | exact HB.out)))); have n1_ := Aside0.mk (below_step (by repeat (first | (with_reducible first | exact HB.out | apply below_alloc | apply pw_below_drewN | apply below_drew1) | exact HB.out)) hb); clear HB; have HO837 := n0_; have HB := n1_; clear n0_ n1_; (try clear hb); (try clear hb2); (try clear hk); (try clear hi); (try clear ho0); obtain ⟨Ao11, co11, eo11⟩ := Kd.R_slice HO837.out; subst eo11) | (go_at_call 15; (with_reducible refine (columbariumbook_Within.calls a1 0 (t835.length : Int) t838 _ A4.out).mono ?_); rintro e w' ⟨rfl, ⟨nd, rfl⟩⟩; (try first | exact ⟨rfl, _, World.drewN_drewN _ _ _⟩ | exact ⟨rfl, _, Eq.trans (World.drewN_drewN _ _ _) (congrArg (World.drewN _) (Nat.add_assoc _ _ _))⟩); have q12 : (t838 : Int) ≤ ((t835.length : Int) : Int) := of_decide_eq_true (by first | (with_reducible assumption) | assumption); obtain ⟨i012, hi012, _, hsz12, _⟩ := info_parts info5; have hroom12 : t835.length ≤ co11 := (Kd.R_reads' HO837.out).2.1; have hC12 : Kd.C (Kd.int .u8) _ Ao11 t835.length t835 := (Kd.R_reads' HO837.out).2.2; have hcut12 := cut_to (P := Try.prog) 24 5 .i64 Try.underlying24 hi012 Ao11 t835.length co11 t838 (of_decide_eq_true (by first | (with_reducible assumption) | assumption)) q12 hroom12; have hr12 := Kd.C_take (m := (t838 : Int).toNat) hC12 (by omega); have hy12 : y839.length = (t838 : Int).toNat := (by rw [Ny839.out, List.length_take]; omega); rw [← Ny839.out] at hr12; rw [← hy12] at hcut12; have HR842 := Aside0.mk hr12; have HC842 := Aside0.mk (show y839.length ≤ co11 from by omega); clear hr12 hC12 hroom12 hi012 hsz12; have KY12 := Aside0.mk hy12; clear hy12; have KL12 := Aside0.mk (show (t838 : Int).toNat ≤ t835.length from by omega); replace q12 := eq_true q12) | (go_at_call 29; (with_reducible refine (block_All.calls k _ _ y839 t843 t844 t845 _ ?side1 ?side2 A7.out).mono ?_); (case side1 => repeat (first | exact (by repeat (first | (with_reducible exact HR842.out) | (with_reducible refine Kd.C_alloc ?_ _) | (with_reducible refine Kd.C_drewN ?_ _) | (with_reducible refine Kd.C_drew ?_) | exact HR842.out)) | (with_reducible refine Kd.C_alloc ?_ _) | (with_reducible refine Kd.C_drewN ?_ _) | (with_reducible refine Kd.C_drew ?_))); (case side2 => exact HC842.out); rintro e w13 ⟨v846, rfl, ho0, hb⟩; have n0_ := Aside0.mk (Kd.R_below (by (with_reducible repeat (first | apply Kd.R_alloc | apply Kd.R_drewN | apply Kd.R_drew)); exact HO837.out) hb); have n1_ := Aside0.mk (Kd.S_lower (Kd.S_new' ho0 (Kd.R_lt (by (with_reducible repeat (first | apply Kd.R_alloc | apply Kd.R_drewN | apply Kd.R_drew)); exact HO837.out))) (below_size (by repeat (first | (with_reducible first | exact HB.out | apply below_alloc | apply pw_below_drewN | apply below_drew1) | exact HB.out)))); have n2_ := Aside0.mk (Kd.C_below (by repeat (first | (with_reducible exact HR842.out) | (with_reducible refine Kd.C_alloc ?_ _) | (with_reducible refine Kd.C_drewN ?_ _) | (with_reducible refine Kd.C_drew ?_) | exact HR842.out)) hb); have n3_ := Aside0.mk (below_step (by repeat (first | (with_reducible first | exact HB.out | apply below_alloc | apply pw_below_drewN | apply below_drew1) | exact HB.out)) hb); clear HO837; clear HR842; clear HB; have HO837 := n0_; have HO847 := n1_; have HR842 := n2_; have HB := n3_; clear n0_ n1_ n2_ n3_; (try clear hb); (try clear hb2); (try clear hk); (try clear hi); (try clear ho0); obtain ⟨Ao14, co14, eo14⟩ := Kd.S_slice HO847.out; subst eo14))
          repeat (go_quiet (first | (go_at_call 30; (with_reducible refine (columbariumlaw6_written.calls k _ _ l0 t835 _ ?side1 ?side2 A3.out).mono ?_); (case side1 => repeat (first | exact HR0.out | (with_reducible refine Kd.C_alloc ?_ _) | (with_reducible refine Kd.C_drewN ?_ _) | (with_reducible refine Kd.C_drew ?_))); (case side2 => exact HC0.out); rintro e w10 ⟨v836, rfl, ho0, hb⟩; have n0_ := Aside0.mk (Kd.R_lower ho0 (below_size (by repeat (first | (with_reducible first | exact HB.out | apply below_alloc | apply pw_below_drewN | apply below_drew1) | exact HB.out)))); have n1_ := Aside0.mk (below_step (by repeat (first | (with_reducible first | exact HB.out | apply below_alloc | apply pw_below_drewN | apply below_drew1) | exact HB.out)) hb); clear HB; have HO837 := n0_; have HB := n1_; clear n0_ n1_; (try clear hb); (try clear hb2); (try clear hk); (try clear hi); (try clear ho0); obtain ⟨Ao11, co11, eo11⟩ := Kd.R_slice HO837.out; subst eo11) | (go_at_call 15; (with_reducible refine (columbariumbook_Within.calls a1 0 (t835.length : Int) t838 _ A4.out).mono ?_); rintro e w' ⟨rfl, ⟨nd, rfl⟩⟩; (try first | exact ⟨rfl, _, World.drewN_drewN _ _ _⟩ | exact ⟨rfl, _, Eq.trans (World.drewN_drewN _ _ _) (congrArg (World.drewN _) (Nat.add_assoc _ _ _))⟩); have q12 : (t838 : Int) ≤ ((t835.length : Int) : Int) := of_decide_eq_true (by first | (with_reducible assumption) | assumption); obtain ⟨i012, hi012, _, hsz12, _⟩ := info_parts info5; have hroom12 : t835.length ≤ co11 := (Kd.R_reads' HO837.out).2.1; have hC12 : Kd.C (Kd.int .u8) _ Ao11 t835.length t835 := (Kd.R_reads' HO837.out).2.2; have hcut12 := cut_to (P := Try.prog) 24 5 .i64 Try.underlying24 hi012 Ao11 t835.length co11 t838 (of_decide_eq_true (by first | (with_reducible assumption) | assumption)) q12 hroom12; have hr12 := Kd.C_take (m := (t838 : Int).toNat) hC12 (by omega); have hy12 : y839.length = (t838 : Int).toNat := (by rw [Ny839.out, List.length_take]; omega); rw [← Ny839.out] at hr12; rw [← hy12] at hcut12; have HR842 := Aside0.mk hr12; have HC842 := Aside0.mk (show y839.length ≤ co11 from by omega); clear hr12 hC12 hroom12 hi012 hsz12; have KY12 := Aside0.mk hy12; clear hy12; have KL12 := Aside0.mk (show (t838 : Int).toNat ≤ t835.length from by omega); replace q12 := eq_true q12) | (go_at_call 29; (with_reducible refine (block_All.calls k _ _ y839 t843 t844 t845 _ ?side1 ?side2 A7.out).mono ?_); (case side1 => repeat (first | exact (by repeat (first | (with_reducible exact HR842.out) | (with_reducible refine Kd.C_alloc ?_ _) | (with_reducible refine Kd.C_drewN ?_ _) | (with_reducible refine Kd.C_drew ?_) | exact HR842.out)) | (with_reducible refine Kd.C_alloc ?_ _) | (with_reducible refine Kd.C_drewN ?_ _) | (with_reducible refine Kd.C_drew ?_))); (case side2 => exact HC842.out); rintro e w13 ⟨v846, rfl, ho0, hb⟩; have n0_ := Aside0.mk (Kd.R_below (by (with_reducible repeat (first | apply Kd.R_alloc | apply Kd.R_drewN | apply Kd.R_drew)); exact HO837.out) hb); have n1_ := Aside0.mk (Kd.S_lower (Kd.S_new' ho0 (Kd.R_lt (by (with_reducible repeat (first | apply Kd.R_alloc | apply Kd.R_drewN | apply Kd.R_drew)); exact HO837.out))) (below_size (by repeat (first | (with_reducible first | exact HB.out | apply below_alloc | apply pw_below_drewN | apply below_drew1) | exact HB.out)))); have n2_ := Aside0.mk (Kd.C_below (by repeat (first | (with_reducible exact HR842.out) | (with_reducible refine Kd.C_alloc ?_ _) | (with_reducible refine Kd.C_drewN ?_ _) | (with_reducible refine Kd.C_drew ?_) | exact HR842.out)) hb); have n3_ := Aside0.mk (below_step (by repeat (first | (with_reducible first | exact HB.out | apply below_alloc | apply pw_below_drewN | apply below_drew1) | exact HB.out)) hb); clear HO837; clear HR842; clear HB; have HO837 := n0_; have HO847 := n1_; have HR842 := n2_; have HB := n3_; clear n0_ n1_ n2_ n3_; (try clear hb); (try clear hb2); (try clear hk); (try clear hi); (try clear ho0); obtain ⟨Ao14, co14, eo14⟩ := Kd.S_slice HO847.out; subst eo14)); try go_wp2_with (first | (go_at_call 30; (with_reducible refine (columbariumlaw6_written.calls k _ _ l0 t835 _ ?side1 ?side2 A3.out).mono ?_); (case side1 => repeat (first | exact HR0.out | (with_reducible refine Kd.C_alloc ?_ _) | (with_reducible refine Kd.C_drewN ?_ _) | (with_reducible refine Kd.C_drew ?_))); (case side2 => exact HC0.out); rintro e w10 ⟨v836, rfl, ho0, hb⟩; have n0_ := Aside0.mk (Kd.R_lower ho0 (below_size (by repeat (first | (with_reducible first | exact HB.out | apply below_alloc | apply pw_below_drewN | apply below_drew1) | exact HB.out)))); have n1_ := Aside0.mk (below_step (by repeat (first | (with_reducible first | exact HB.out | apply below_alloc | apply pw_below_drewN | apply below_drew1) | exact HB.out)) hb); clear HB; have HO837 := n0_; have HB := n1_; clear n0_ n1_; (try clear hb); (try clear hb2); (try clear hk); (try clear hi); (try clear ho0); obtain ⟨Ao11, co11, eo11⟩ := Kd.R_slice HO837.out; subst eo11) | (go_at_call 15; (with_reducible refine (columbariumbook_Within.calls a1 0 (t835.length : Int) t838 _ A4.out).mono ?_); rintro e w' ⟨rfl, ⟨nd, rfl⟩⟩; (try first | exact ⟨rfl, _, World.drewN_drewN _ _ _⟩ | exact ⟨rfl, _, Eq.trans (World.drewN_drewN _ _ _) (congrArg (World.drewN _) (Nat.add_assoc _ _ _))⟩); have q12 : (t838 : Int) ≤ ((t835.length : Int) : Int) := of_decide_eq_true (by first | (with_reducible assumption) | assumption); obtain ⟨i012, hi012, _, hsz12, _⟩ := info_parts info5; have hroom12 : t835.length ≤ co11 := (Kd.R_reads' HO837.out).2.1; have hC12 : Kd.C (Kd.int .u8) _ Ao11 t835.length t835 := (Kd.R_reads' HO837.out).2.2; have hcut12 := cut_to (P := Try.prog) 24 5 .i64 Try.underlying24 hi012 Ao11 t835.length co11 t838 (of_decide_eq_true (by first | (with_reducible assumption) | assumption)) q12 hroom12; have hr12 := Kd.C_take (m := (t838 : Int).toNat) hC12 (by omega); have hy12 : y839.length = (t838 : Int).toNat := (by rw [Ny839.out, List.length_take]; omega); rw [← Ny839.out] at hr12; rw [← hy12] at hcut12; have HR842 := Aside0.mk hr12; have HC842 := Aside0.mk (show y839.length ≤ co11 from by omega); clear hr12 hC12 hroom12 hi012 hsz12; have KY12 := Aside0.mk hy12; clear hy12; have KL12 := Aside0.mk (show (t838 : Int).toNat ≤ t835.length from by omega); replace q12 := eq_true q12) | (go_at_call 29; (with_reducible refine (block_All.calls k _ _ y839 t843 t844 t845 _ ?side1 ?side2 A7.out).mono ?_); (case side1 => repeat (first | exact (by repeat (first | (with_reducible exact HR842.out) | (with_reducible refine Kd.C_alloc ?_ _) | (with_reducible refine Kd.C_drewN ?_ _) | (with_reducible refine Kd.C_drew ?_) | exact HR842.out)) | (with_reducible refine Kd.C_alloc ?_ _) | (with_reducible refine Kd.C_drewN ?_ _) | (with_reducible refine Kd.C_drew ?_))); (case side2 => exact HC842.out); rintro e w13 ⟨v846, rfl, ho0, hb⟩; have n0_ := Aside0.mk (Kd.R_below (by (with_reducible repeat (first | apply Kd.R_alloc | apply Kd.R_drewN | apply Kd.R_drew)); exact HO837.out) hb); have n1_ := Aside0.mk (Kd.S_lower (Kd.S_new' ho0 (Kd.R_lt (by (with_reducible repeat (first | apply Kd.R_alloc | apply Kd.R_drewN | apply Kd.R_drew)); exact HO837.out))) (below_size (by repeat (first | (with_reducible first | exact HB.out | apply below_alloc | apply pw_below_drewN | apply below_drew1) | exact HB.out)))); have n2_ := Aside0.mk (Kd.C_below (by repeat (first | (with_reducible exact HR842.out) | (with_reducible refine Kd.C_alloc ?_ _) | (with_reducible refine Kd.C_drewN ?_ _) | (with_reducible refine Kd.C_drew ?_) | exact HR842.out)) hb); have n3_ := Aside0.mk (below_step (by repeat (first | (with_reducible first | exact HB.out | apply below_alloc | apply pw_below_drewN | apply below_drew1) | exact HB.out)) hb); clear HO837; clear HR842; clear HB; have HO837 := n0_; have HO847 := n1_; have HR842 := n2_; have HB := n3_; clear n0_ n1_ n2_ n3_; (try clear hb); (try clear hb2); (try clear hk); (try clear hi); (try clear ho0); obtain ⟨Ao14, co14, eo14⟩ := Kd.S_slice HO847.out; subst eo14)))
          go_loopg [10, 11] k (fun kq v10 v11 w' => ∃ (x10_1 : Int) (x11_1 : Int), v10 = .int .i64 x10_1 ∧ v11 = .int .i64 x11_1 ∧ Aside0 (columbariumlaw6_BlockCuts.l0 kq l0 t838 t843 t844 t845 x10_1 x11_1 = some r) ∧ Aside0 (kq ≤ k) ∧ Aside0 (Kd.S (Kd.slice 5 (Kd.int .u8)) 24 w' w.heap.size (fun _ => True) (.slice Ao14 t843.length co14) t843) ∧ Aside0 (Kd.C (Kd.int .u8) w' Ao11 y839.length y839) ∧ Aside0 (Below w.heap.size w w'))
          case atStart => exact ⟨(0), (0), (by first | rfl | (simp; done) | (simp [*]; done) | (refine congrArg (Value.int .i64) ?_; (try simp only [decide_eq_true_eq, decide_eq_false_iff_not] at *) <;> (unfold wrap64; omega))), (by first | rfl | (simp; done) | (simp [*]; done) | (refine congrArg (Value.int .i64) ?_; (try simp only [decide_eq_true_eq, decide_eq_false_iff_not] at *) <;> (unfold wrap64; omega))), H', ⟨Nat.le_refl _⟩, ⟨by (with_reducible repeat (first | apply Kd.S_alloc | apply Kd.S_drewN | apply Kd.S_drew)); exact Kd.S_mono HO847.out (fun _ hk => trivial)⟩, ⟨by repeat (first | (with_reducible exact HR842.out) | (with_reducible refine Kd.C_alloc ?_ _) | (with_reducible refine Kd.C_drewN ?_ _) | (with_reducible refine Kd.C_drew ?_) | exact HR842.out)⟩, ⟨by repeat (first | (with_reducible first | exact HB.out | apply below_alloc | apply pw_below_drewN | apply below_drew1) | exact HB.out)⟩⟩
          case round =>
            clear H'
            try clear c1
            try clear q1
            try clear p2
            try clear c5
            try clear c5b0
            try clear c5b1
            try clear c6
            try clear c6b0
            try clear c6b1
            try clear p6
            try clear c8
            try clear c8b0
            try clear c9
            try clear c9b0
            try clear c9b1
            try clear q12
            try clear c13
            try clear q12
            obtain ⟨x10_1, x11_1, rfl, rfl, HA, HK1, HO_7, HR842, HB⟩ := hrel
            cases gk with
            | zero => exact absurd HA.out (by simp [columbariumlaw6_BlockCuts.l0])
            | succ k1 =>
              have H := HA.out
              clear HA
              simp only [columbariumlaw6_BlockCuts.l0] at H
              by_cases c15 : x11_1 < (t843.length : Int)
              · rw [if_pos c15] at H
                have c15b0 : decide (x11_1 < (t843.length : Int)) = true := decide_eq_true c15
                clear c15
                by_cases c16 : 0 ≤ x11_1
                · rw [if_pos c16] at H
                  have c16b0 : decide (0 ≤ x11_1) = true := decide_eq_true c16
                  clear c16
                  by_cases c17 : x11_1 < (l0.length : Int)
                  · rw [if_pos c17] at H
                    have c17b0 : decide (x11_1 < (l0.length : Int)) = true := decide_eq_true c17
                    clear c17
                    replace H := Option.bind_eq_some_iff.mp H
                    obtain ⟨t850, A180, H⟩ := H
                    replace H : (if (strOfNums (rd_L2 t843 x11_1)).toList = t850.toList then (columbariumlaw6_BlockCuts.l0 k1 l0 t838 t843 t844 t845 (wrap64 ((wrap64 (x10_1 + 12)) + ((rd_L2 t843 x11_1).length : Int))) (wrap64 (x11_1 + 1))) else (some false)) = some r := H
                    have A18 := Aside0.mk A180
                    clear A180
                    by_cases c19 : (strOfNums (rd_L2 t843 x11_1)).toList = t850.toList
                    · rw [if_pos c19] at H
                      have c19b0 : ((strOfNums (rd_L2 t843 x11_1)).toList == t850.toList) = true := beq_iff_eq.mpr c19
                      have c19b1 : ((strOfNums (rd_L2 t843 x11_1)).toList != t850.toList) = false := bne_eq_false_iff_eq.mpr c19
                      clear c19
                      have H' := Aside0.mk H
                      clear H
                      have p848 : 0 ≤ (x11_1 : Int) := of_decide_eq_true (by first | (with_reducible assumption) | assumption)
                      have q848 : x11_1 < (t843.length : Int) := of_decide_eq_true (by first | (with_reducible assumption) | assumption)
                      obtain ⟨ad848, A848_0, c848_0, e848, hx848_0, hl848_0, hi848_0⟩ := at_L2 (Kd.S_reads' HO_7.out).2.2 x11_1 p848 q848
                      cases e848
                      obtain ⟨ce848, hce848, hMe848, hcc848⟩ := Kd.S_get HO_7.out [] x11_1 p848 (by first | exact q848 | exact of_decide_eq_true (by first | (with_reducible assumption) | assumption) | (have e_ := (Kd.S_reads' HO_7.out).1; omega))
                      obtain ⟨ve848_0, rfl, ge848_0⟩ := hMe848
                      have hv848_0 := hcc848 0 _ rfl
                      rw [Nat.add_zero, show ((Kd.slice 5 (Kd.int .u8))).sz = 1 from rfl, Nat.mul_one] at hv848_0
                      replace hv848_0 := Option.some.inj (hv848_0.symm.trans hx848_0)
                      rw [hv848_0] at ge848_0
                      have HL848_0 := Aside0.mk (show Kd.R (Kd.int .u8) 5 _ _ _ _ (rd_L2 t843 x11_1) from ge848_0)
                      clear hv848_0 ge848_0
                      clear hcc848 hce848
                      have HR848_0 := Aside0.mk hi848_0
                      have HC848_0 := Aside0.mk hl848_0
                      clear hi848_0 hl848_0
                      replace p848 := eq_true p848
                      replace q848 := eq_true q848
                      have hcv20 := pw_C_string_len (P := Try.prog) (A := A848_0) (c := c848_0) Try.underlying24 Try.underlying5 Try.underlying9 (by repeat (first | (with_reducible exact HR848_0.out) | (with_reducible refine Kd.C_alloc ?_ _) | (with_reducible refine Kd.C_drewN ?_ _) | (with_reducible refine Kd.C_drew ?_) | exact HR848_0.out))
                      have p849 : 0 ≤ (x11_1 : Int) := of_decide_eq_true (by first | (with_reducible assumption) | assumption)
                      have q849 : x11_1 < (l0.length : Int) := of_decide_eq_true (by first | (with_reducible assumption) | assumption)
                      obtain ⟨ad849, e849, hx849_0⟩ := Kd.at_string HR0.out x11_1 p849 q849
                      cases e849
                      replace hx849_0 := (HB.out.cell (World.block_lt_of_cell? w _ hx849_0)).trans hx849_0
                      replace p849 := eq_true p849
                      replace q849 := eq_true q849
                      go_wp2_with (first | (go_at_call 25; (with_reducible refine (columbariumlaw6_few.calls (rdOf ByteArray.empty l0 x11_1) t850 _ A18.out).mono ?_); rintro e w' ⟨rfl, ⟨nd, rfl⟩⟩; (try first | exact ⟨rfl, _, World.drewN_drewN _ _ _⟩ | exact ⟨rfl, _, Eq.trans (World.drewN_drewN _ _ _) (congrArg (World.drewN _) (Nat.add_assoc _ _ _))⟩); have p851 : 0 ≤ (x11_1 : Int) := of_decide_eq_true (by first | (with_reducible assumption) | assumption); have q851 : x11_1 < (t843.length : Int) := of_decide_eq_true (by first | (with_reducible assumption) | assumption); obtain ⟨ad851, A851_0, c851_0, e851, hx851_0, hl851_0, hi851_0⟩ := at_L2 (Kd.S_reads' HO_7.out).2.2 x11_1 p851 q851; obtain rfl : ad848 = ad851 := (by injection e851); obtain ⟨ce851, hce851, hMe851, hcc851⟩ := Kd.S_get HO_7.out [] x11_1 p851 (by first | exact q851 | exact of_decide_eq_true (by first | (with_reducible assumption) | assumption) | (have e_ := (Kd.S_reads' HO_7.out).1; omega)); obtain ⟨ve851_0, rfl, ge851_0⟩ := hMe851; have hv851_0 := hcc851 0 _ rfl; rw [Nat.add_zero, show ((Kd.slice 5 (Kd.int .u8))).sz = 1 from rfl, Nat.mul_one] at hv851_0; replace hv851_0 := Option.some.inj (hv851_0.symm.trans hx851_0); rw [hv851_0] at ge851_0; have HL851_0 := Aside0.mk (show Kd.R (Kd.int .u8) 5 _ _ _ _ (rd_L2 t843 x11_1) from ge851_0); clear hv851_0 ge851_0; clear hcc851 hce851; have HR851_0 := Aside0.mk hi851_0; have HC851_0 := Aside0.mk hl851_0; clear hi851_0 hl851_0; replace p851 := eq_true p851; replace q851 := eq_true q851; have ea_ := Option.some.inj (hx848_0.symm.trans hx851_0); injection ea_ with ea_ en_ ec_; subst ea_; subst ec_; clear en_))
                      repeat (go_quiet (first | (go_at_call 25; (with_reducible refine (columbariumlaw6_few.calls (rdOf ByteArray.empty l0 x11_1) t850 _ A18.out).mono ?_); rintro e w' ⟨rfl, ⟨nd, rfl⟩⟩; (try first | exact ⟨rfl, _, World.drewN_drewN _ _ _⟩ | exact ⟨rfl, _, Eq.trans (World.drewN_drewN _ _ _) (congrArg (World.drewN _) (Nat.add_assoc _ _ _))⟩); have p851 : 0 ≤ (x11_1 : Int) := of_decide_eq_true (by first | (with_reducible assumption) | assumption); have q851 : x11_1 < (t843.length : Int) := of_decide_eq_true (by first | (with_reducible assumption) | assumption); obtain ⟨ad851, A851_0, c851_0, e851, hx851_0, hl851_0, hi851_0⟩ := at_L2 (Kd.S_reads' HO_7.out).2.2 x11_1 p851 q851; obtain rfl : ad848 = ad851 := (by injection e851); obtain ⟨ce851, hce851, hMe851, hcc851⟩ := Kd.S_get HO_7.out [] x11_1 p851 (by first | exact q851 | exact of_decide_eq_true (by first | (with_reducible assumption) | assumption) | (have e_ := (Kd.S_reads' HO_7.out).1; omega)); obtain ⟨ve851_0, rfl, ge851_0⟩ := hMe851; have hv851_0 := hcc851 0 _ rfl; rw [Nat.add_zero, show ((Kd.slice 5 (Kd.int .u8))).sz = 1 from rfl, Nat.mul_one] at hv851_0; replace hv851_0 := Option.some.inj (hv851_0.symm.trans hx851_0); rw [hv851_0] at ge851_0; have HL851_0 := Aside0.mk (show Kd.R (Kd.int .u8) 5 _ _ _ _ (rd_L2 t843 x11_1) from ge851_0); clear hv851_0 ge851_0; clear hcc851 hce851; have HR851_0 := Aside0.mk hi851_0; have HC851_0 := Aside0.mk hl851_0; clear hi851_0 hl851_0; replace p851 := eq_true p851; replace q851 := eq_true q851; have ea_ := Option.some.inj (hx848_0.symm.trans hx851_0); injection ea_ with ea_ en_ ec_; subst ea_; subst ec_; clear en_)); try go_wp2_with (first | (go_at_call 25; (with_reducible refine (columbariumlaw6_few.calls (rdOf ByteArray.empty l0 x11_1) t850 _ A18.out).mono ?_); rintro e w' ⟨rfl, ⟨nd, rfl⟩⟩; (try first | exact ⟨rfl, _, World.drewN_drewN _ _ _⟩ | exact ⟨rfl, _, Eq.trans (World.drewN_drewN _ _ _) (congrArg (World.drewN _) (Nat.add_assoc _ _ _))⟩); have p851 : 0 ≤ (x11_1 : Int) := of_decide_eq_true (by first | (with_reducible assumption) | assumption); have q851 : x11_1 < (t843.length : Int) := of_decide_eq_true (by first | (with_reducible assumption) | assumption); obtain ⟨ad851, A851_0, c851_0, e851, hx851_0, hl851_0, hi851_0⟩ := at_L2 (Kd.S_reads' HO_7.out).2.2 x11_1 p851 q851; obtain rfl : ad848 = ad851 := (by injection e851); obtain ⟨ce851, hce851, hMe851, hcc851⟩ := Kd.S_get HO_7.out [] x11_1 p851 (by first | exact q851 | exact of_decide_eq_true (by first | (with_reducible assumption) | assumption) | (have e_ := (Kd.S_reads' HO_7.out).1; omega)); obtain ⟨ve851_0, rfl, ge851_0⟩ := hMe851; have hv851_0 := hcc851 0 _ rfl; rw [Nat.add_zero, show ((Kd.slice 5 (Kd.int .u8))).sz = 1 from rfl, Nat.mul_one] at hv851_0; replace hv851_0 := Option.some.inj (hv851_0.symm.trans hx851_0); rw [hv851_0] at ge851_0; have HL851_0 := Aside0.mk (show Kd.R (Kd.int .u8) 5 _ _ _ _ (rd_L2 t843 x11_1) from ge851_0); clear hv851_0 ge851_0; clear hcc851 hce851; have HR851_0 := Aside0.mk hi851_0; have HC851_0 := Aside0.mk hl851_0; clear hi851_0 hl851_0; replace p851 := eq_true p851; replace q851 := eq_true q851; have ea_ := Option.some.inj (hx848_0.symm.trans hx851_0); injection ea_ with ea_ en_ ec_; subst ea_; subst ec_; clear en_)))
                      go_roundg k1
                      case measure => have := HK1.out; omega
                      case rel => exact ⟨(wrap64 ((wrap64 (x10_1 + 12)) + ((rd_L2 t843 x11_1).length : Int))), (wrap64 (x11_1 + 1)), (by first | rfl | (simp; done) | (simp [*]; done) | (refine congrArg (Value.int .i64) ?_; (try simp only [decide_eq_true_eq, decide_eq_false_iff_not] at *) <;> (unfold wrap64; omega))), (by first | rfl | (simp; done) | (simp [*]; done) | (refine congrArg (Value.int .i64) ?_; (try simp only [decide_eq_true_eq, decide_eq_false_iff_not] at *) <;> (unfold wrap64; omega))), H', ⟨by have := HK1.out; omega⟩, ⟨by (with_reducible repeat (first | apply Kd.S_alloc | apply Kd.S_drewN | apply Kd.S_drew)); exact HO_7.out⟩, ⟨by repeat (first | (with_reducible exact HR842.out) | (with_reducible refine Kd.C_alloc ?_ _) | (with_reducible refine Kd.C_drewN ?_ _) | (with_reducible refine Kd.C_drew ?_) | exact HR842.out)⟩, ⟨by repeat (first | (with_reducible first | exact HB.out | apply below_alloc | apply pw_below_drewN | apply below_drew1) | exact HB.out)⟩⟩
                    · rw [if_neg c19] at H
                      have c19b0 : ((strOfNums (rd_L2 t843 x11_1)).toList == t850.toList) = false := beq_eq_false_iff_ne.mpr c19
                      have c19b1 : ((strOfNums (rd_L2 t843 x11_1)).toList != t850.toList) = true := bne_iff_ne.mpr c19
                      exact absurd ((Option.some.inj H).trans hr_.out) (by decide)
                  · rw [if_neg c17] at H
                    exact absurd H (by simp)
                · rw [if_neg c16] at H
                  exact absurd H (by simp)
              · rw [if_neg c15] at H
                have c15b0 : decide (x11_1 < (t843.length : Int)) = false := decide_eq_false c15
                clear c15
                by_cases c21 : x10_1 = t844
                · rw [if_pos c21] at H
                  have c21b0 : (x10_1 == t844) = true := beq_iff_eq.mpr c21
                  have c21b1 : (x10_1 != t844) = false := bne_eq_false_iff_eq.mpr c21
                  clear c21
                  by_cases c22 : t845 = 0
                  · rw [if_pos c22] at H
                    have c22b0 : (t845 == 0) = true := beq_iff_eq.mpr c22
                    have c22b1 : (t845 != 0) = false := bne_eq_false_iff_eq.mpr c22
                    clear c22
                    by_cases c23 : t844 = t838
                    · rw [if_pos c23] at H
                      have c23b0 : (t844 == t838) = true := beq_iff_eq.mpr c23
                      have c23b1 : (t844 != t838) = false := bne_eq_false_iff_eq.mpr c23
                      clear c23
                      replace H := Option.bind_eq_some_iff.mp H
                      obtain ⟨t852, A240, H⟩ := H
                      replace H : (some t852) = some r := H
                      have A24 := Aside0.mk A240
                      clear A240
                      obtain rfl := Option.some.inj H
                      go_wp2_with (first | (go_at_call 27; (with_reducible refine (columbariumlaw6_known.calls k1  t852 _ A24.out).mono ?_); rintro e w25 ⟨rfl, hb⟩; have n0_ := Aside0.mk (Kd.S_below (by (with_reducible repeat (first | apply Kd.S_alloc | apply Kd.S_drewN | apply Kd.S_drew)); exact HO_7.out) hb); have n1_ := Aside0.mk (Kd.C_below (by repeat (first | (with_reducible exact HR842.out) | (with_reducible refine Kd.C_alloc ?_ _) | (with_reducible refine Kd.C_drewN ?_ _) | (with_reducible refine Kd.C_drew ?_) | exact HR842.out)) hb); have n2_ := Aside0.mk (below_step (by repeat (first | (with_reducible first | exact HB.out | apply below_alloc | apply pw_below_drewN | apply below_drew1) | exact HB.out)) hb); clear HO_7; clear HR842; clear HB; have HO_7 := n0_; have HR842 := n1_; have HB := n2_; clear n0_ n1_ n2_; (try clear hb); (try clear hb2); (try clear hk); (try clear hi)))
                      repeat (go_quiet (first | (go_at_call 27; (with_reducible refine (columbariumlaw6_known.calls k1  t852 _ A24.out).mono ?_); rintro e w25 ⟨rfl, hb⟩; have n0_ := Aside0.mk (Kd.S_below (by (with_reducible repeat (first | apply Kd.S_alloc | apply Kd.S_drewN | apply Kd.S_drew)); exact HO_7.out) hb); have n1_ := Aside0.mk (Kd.C_below (by repeat (first | (with_reducible exact HR842.out) | (with_reducible refine Kd.C_alloc ?_ _) | (with_reducible refine Kd.C_drewN ?_ _) | (with_reducible refine Kd.C_drew ?_) | exact HR842.out)) hb); have n2_ := Aside0.mk (below_step (by repeat (first | (with_reducible first | exact HB.out | apply below_alloc | apply pw_below_drewN | apply below_drew1) | exact HB.out)) hb); clear HO_7; clear HR842; clear HB; have HO_7 := n0_; have HR842 := n1_; have HB := n2_; clear n0_ n1_ n2_; (try clear hb); (try clear hb2); (try clear hk); (try clear hi))); try go_wp2_with (first | (go_at_call 27; (with_reducible refine (columbariumlaw6_known.calls k1  t852 _ A24.out).mono ?_); rintro e w25 ⟨rfl, hb⟩; have n0_ := Aside0.mk (Kd.S_below (by (with_reducible repeat (first | apply Kd.S_alloc | apply Kd.S_drewN | apply Kd.S_drew)); exact HO_7.out) hb); have n1_ := Aside0.mk (Kd.C_below (by repeat (first | (with_reducible exact HR842.out) | (with_reducible refine Kd.C_alloc ?_ _) | (with_reducible refine Kd.C_drewN ?_ _) | (with_reducible refine Kd.C_drew ?_) | exact HR842.out)) hb); have n2_ := Aside0.mk (below_step (by repeat (first | (with_reducible first | exact HB.out | apply below_alloc | apply pw_below_drewN | apply below_drew1) | exact HB.out)) hb); clear HO_7; clear HR842; clear HB; have HO_7 := n0_; have HR842 := n1_; have HB := n2_; clear n0_ n1_ n2_; (try clear hb); (try clear hb2); (try clear hk); (try clear hi))))
                      go_ret
                      exact ⟨by first | rfl | (simp [errW_none, errW_some] <;> rfl) | (simp [*, errW_none, errW_some] <;> rfl), by repeat (first | (with_reducible first | exact HB.out | apply below_alloc | apply pw_below_drewN | apply below_drew1) | exact HB.out)⟩
                    · rw [if_neg c23] at H
                      have c23b0 : (t844 == t838) = false := beq_eq_false_iff_ne.mpr c23
                      have c23b1 : (t844 != t838) = true := bne_iff_ne.mpr c23
                      exact absurd ((Option.some.inj H).trans hr_.out) (by decide)
                  · rw [if_neg c22] at H
                    have c22b0 : (t845 == 0) = false := beq_eq_false_iff_ne.mpr c22
                    have c22b1 : (t845 != 0) = true := bne_iff_ne.mpr c22
                    by_cases c26 : t844 = t838
                    · rw [if_pos c26] at H
                      have c26b0 : (t844 == t838) = true := beq_iff_eq.mpr c26
                      have c26b1 : (t844 != t838) = false := bne_eq_false_iff_eq.mpr c26
                      clear c26
                      exact absurd ((Option.some.inj H).trans hr_.out) (by decide)
                    · rw [if_neg c26] at H
                      have c26b0 : (t844 == t838) = false := beq_eq_false_iff_ne.mpr c26
                      have c26b1 : (t844 != t838) = true := bne_iff_ne.mpr c26
                      by_cases c27 : t845 = 10
                      · rw [if_pos c27] at H
                        have c27b0 : (t845 == 10) = true := beq_iff_eq.mpr c27
                        have c27b1 : (t845 != 10) = false := bne_eq_false_iff_eq.mpr c27
                        clear c27
                        replace H := Option.bind_eq_some_iff.mp H
                        obtain ⟨t853, A280, H⟩ := H
                        replace H : (some t853) = some r := H
                        have A28 := Aside0.mk A280
                        clear A280
                        obtain rfl := Option.some.inj H
                        go_wp2_with (first | (go_at_call 27; (with_reducible refine (columbariumlaw6_known.calls k1  t853 _ A28.out).mono ?_); rintro e w29 ⟨rfl, hb⟩; have n0_ := Aside0.mk (Kd.S_below (by (with_reducible repeat (first | apply Kd.S_alloc | apply Kd.S_drewN | apply Kd.S_drew)); exact HO_7.out) hb); have n1_ := Aside0.mk (Kd.C_below (by repeat (first | (with_reducible exact HR842.out) | (with_reducible refine Kd.C_alloc ?_ _) | (with_reducible refine Kd.C_drewN ?_ _) | (with_reducible refine Kd.C_drew ?_) | exact HR842.out)) hb); have n2_ := Aside0.mk (below_step (by repeat (first | (with_reducible first | exact HB.out | apply below_alloc | apply pw_below_drewN | apply below_drew1) | exact HB.out)) hb); clear HO_7; clear HR842; clear HB; have HO_7 := n0_; have HR842 := n1_; have HB := n2_; clear n0_ n1_ n2_; (try clear hb); (try clear hb2); (try clear hk); (try clear hi)))
                        repeat (go_quiet (first | (go_at_call 27; (with_reducible refine (columbariumlaw6_known.calls k1  t853 _ A28.out).mono ?_); rintro e w29 ⟨rfl, hb⟩; have n0_ := Aside0.mk (Kd.S_below (by (with_reducible repeat (first | apply Kd.S_alloc | apply Kd.S_drewN | apply Kd.S_drew)); exact HO_7.out) hb); have n1_ := Aside0.mk (Kd.C_below (by repeat (first | (with_reducible exact HR842.out) | (with_reducible refine Kd.C_alloc ?_ _) | (with_reducible refine Kd.C_drewN ?_ _) | (with_reducible refine Kd.C_drew ?_) | exact HR842.out)) hb); have n2_ := Aside0.mk (below_step (by repeat (first | (with_reducible first | exact HB.out | apply below_alloc | apply pw_below_drewN | apply below_drew1) | exact HB.out)) hb); clear HO_7; clear HR842; clear HB; have HO_7 := n0_; have HR842 := n1_; have HB := n2_; clear n0_ n1_ n2_; (try clear hb); (try clear hb2); (try clear hk); (try clear hi))); try go_wp2_with (first | (go_at_call 27; (with_reducible refine (columbariumlaw6_known.calls k1  t853 _ A28.out).mono ?_); rintro e w29 ⟨rfl, hb⟩; have n0_ := Aside0.mk (Kd.S_below (by (with_reducible repeat (first | apply Kd.S_alloc | apply Kd.S_drewN | apply Kd.S_drew)); exact HO_7.out) hb); have n1_ := Aside0.mk (Kd.C_below (by repeat (first | (with_reducible exact HR842.out) | (with_reducible refine Kd.C_alloc ?_ _) | (with_reducible refine Kd.C_drewN ?_ _) | (with_reducible refine Kd.C_drew ?_) | exact HR842.out)) hb); have n2_ := Aside0.mk (below_step (by repeat (first | (with_reducible first | exact HB.out | apply below_alloc | apply pw_below_drewN | apply below_drew1) | exact HB.out)) hb); clear HO_7; clear HR842; clear HB; have HO_7 := n0_; have HR842 := n1_; have HB := n2_; clear n0_ n1_ n2_; (try clear hb); (try clear hb2); (try clear hk); (try clear hi))))
                        go_ret
                        exact ⟨by first | rfl | (simp [errW_none, errW_some] <;> rfl) | (simp [*, errW_none, errW_some] <;> rfl), by repeat (first | (with_reducible first | exact HB.out | apply below_alloc | apply pw_below_drewN | apply below_drew1) | exact HB.out)⟩
                      · rw [if_neg c27] at H
                        have c27b0 : (t845 == 10) = false := beq_eq_false_iff_ne.mpr c27
                        have c27b1 : (t845 != 10) = true := bne_iff_ne.mpr c27
                        exact absurd ((Option.some.inj H).trans hr_.out) (by decide)
                · rw [if_neg c21] at H
                  have c21b0 : (x10_1 == t844) = false := beq_eq_false_iff_ne.mpr c21
                  have c21b1 : (x10_1 != t844) = true := bne_iff_ne.mpr c21
                  exact absurd ((Option.some.inj H).trans hr_.out) (by decide)
    · rw [if_neg c6] at H
      exact absurd H (by simp)
  · rw [if_neg c5] at H
    exact absurd H (by simp)

/-- THE ONE PURE STATEMENT of columbariumlaw6_BlockCuts: yours. -/
def columbariumlaw6_BlockCuts.Pure : Prop := ∀ (l0 : List ByteArray) (a1 : Int), l0.length * 16 ≤ 140737488351232 → (∀ x ∈ l0, x.size ≤ maxLen) → (Lit.int .i64 a1).wf = true → ∃ k, columbariumlaw6_BlockCuts.f k l0 a1 = some true
theorem columbariumlaw6_BlockCuts.walk (P : columbariumlaw6_BlockCuts.Pure) (a0 : Option Addr) (len0 cap0 : Nat) (z0 : List ByteArray) (a1 : Int) (w : World) (w0 : z0.length = len0 ∧ len0 ≤ cap0 ∧ Kd.string.C w a0 len0 z0 ∧ ∀ x ∈ z0, x.size ≤ maxLen) (y0 : len0 * 16 ≤ 140737488351232) (w1 : (Lit.int .i64 a1).wf = true) :
    Calls Try.prog 13 #[.slice a0 len0 cap0, .int .i64 a1] w fun e w' => e = .returned (.bool true) ∧ Below w.heap.size w w' := by
  obtain ⟨rfl, hc0, hr0, hw0⟩ := w0
  obtain ⟨k, h⟩ := P z0 a1 y0 hw0 w1
  refine (columbariumlaw6_BlockCuts.calls k _ _ z0 a1 true w hr0 hc0 h ⟨rfl⟩).mono ?_
  rintro e w' ⟨rfl, hd⟩
  exact ⟨rfl, hd⟩

end Go.Proofs.Ytfgceanepgjfiaa.PS
