-- Written by a program of this session, out of the translation; Lean checks it.
import Derived.Test.YtfgceanepgjfiaaPSx0
import Derived.Test.YtfgceanepgjfiaaPScolumbariumbookWithin
import Derived.Test.YtfgceanepgjfiaaPScolumbariumbookRoomybyte
import Derived.Test.YtfgceanepgjfiaaPScolumbariumbookIntactbyte
import Derived.Test.YtfgceanepgjfiaaPScolumbariumlaw6few
import Derived.Test.YtfgceanepgjfiaaPSblockSeal
import Derived.Test.YtfgceanepgjfiaaPSblockOpen
import Derived.Test.YtfgceanepgjfiaaPScolumbariumlaw6known
import Derived.Test.YtfgceanepgjfiaaPSblockAll
import Derived.Test.YtfgceanepgjfiaaPScolumbariumref6Seal
import Derived.Test.YtfgceanepgjfiaaPScolumbariumlaw6written
import Derived.Test.YtfgceanepgjfiaaPScolumbariumref6Open
import Derived.Test.YtfgceanepgjfiaaPScolumbariumref6All
import Derived.Test.YtfgceanepgjfiaaPScolumbariumlaw6alike
namespace Go.Proofs.Ytfgceanepgjfiaa.PS
open Go.RowKit Go.Proofs.YtfgceanepgjfiaaW.PrintWords Go.Proofs.YtfgceanepgjfiaaW.PrintLast Go.Proofs.YtfgceanepgjfiaaW.PrintMore
attribute [local go_sem high] pw_str_leq pw_str_gtr
attribute [local go_sem] pw_us8 pw_us32 pw_us64 pw_max2_str pw_min2_str max2_int min2_int max_two min_two max_three min_three max_four min_four   -- for this text's walks alone
set_option linter.unusedVariables false
set_option linter.unusedSimpArgs false

/-! ### columbariumlaw6_BlockTells: function 11 -/
def columbariumlaw6_BlockTells.j0 : Nat → ByteArray → List Int → Int → List Int → Option (Bool)
  | 0, _, _, _, _ => none
  | k + 1, x0, x2, x5, x13 => if x13.length + x2.length < 140737488355328 then ((some (x13 ++ x2 : List Int)).bind fun y24007 => ((columbariumbook_Roomy_byte.f k y24007 165).bind fun t24010 => (if 0 ≤ (y24007.length : Int) then (if (y24007.length : Int) ≤ (t24010.length : Int) then ((some (t24010.take ((y24007.length : Int) : Int).toNat : List Int)).bind fun y24013 => ((columbariumlaw6_few.f x0).bind fun t24018 => (if t24018.size ≤ 9223372036854775807 then ((block_Seal.f k (bytesOf t24018)).bind fun bt24022 => ((columbariumlaw6_few.f x0).bind fun t24026 => (if t24026.size ≤ 9223372036854775807 then ((columbariumref6_Seal.f k (bytesOf t24026)).bind fun bt24030 => ((block_Open.f k y24013 x5).bind fun bt24034 => ((columbariumref6_Open.f k y24007 x5).bind fun bt24039 => ((block_All.f k y24013).bind fun bt24044 => ((columbariumref6_All.f k y24007).bind fun bt24049 => (if (strOfNums bt24022.1).toList = (strOfNums bt24030.1).toList then (if bt24022.2 = bt24030.2 then (if (strOfNums bt24034.1).toList = (strOfNums bt24039.1).toList then (if bt24034.2.1 = bt24039.2.1 then (if bt24034.2.2 = bt24039.2.2 then ((columbariumlaw6_alike.f k bt24044.1 bt24049.1).bind fun t24054 => (if t24054 = true then (if bt24044.2.1 = bt24049.2.1 then (if bt24044.2.2 = bt24049.2.2 then ((columbariumbook_Intact_byte.f k t24010 y24007 165).bind fun t24055 => (if t24055 = true then ((columbariumlaw6_known.f k).bind fun t24056 => (some t24056)) else (some false))) else (some false)) else (some false)) else (some false))) else (some false)) else (some false)) else (some false)) else (some false)) else (some false))))))) else (none)))) else (none)))) else (none)) else (none)))) else (none)
def columbariumlaw6_BlockTells.f (k : Nat) (a0 : ByteArray) (l1 : List ByteArray) (l2 : List Int) (a3 : Int) (a4 : Int) (a5 : Int) : Option (Bool) := (columbariumlaw6_written.f k l1).bind fun t24001 => (if (t24001.length : Int) > 0 then ((columbariumbook_Within.f a3 0 (wrap64 ((t24001.length : Int) - 1))).bind fun t24004 => (if 0 ≤ t24004 then (if t24004 < (t24001.length : Int) then (columbariumlaw6_BlockTells.j0 k a0 l2 a5 (t24001.set (t24004 : Int).toNat (Go.bits .xor .u8 (rd t24001 t24004) a4))) else (none)) else (none))) else (columbariumlaw6_BlockTells.j0 k a0 l2 a5 t24001))
theorem columbariumlaw6_BlockTells.mono_l : ∀ k, (∀ y0 y1 y2 y3, LeO (columbariumlaw6_BlockTells.j0 k y0 y1 y2 y3) (columbariumlaw6_BlockTells.j0 (k + 1) y0 y1 y2 y3))
  | 0 => fun _ _ _ _ r h => by simp [columbariumlaw6_BlockTells.j0] at h
  | k + 1 => by
    have ih0 := columbariumlaw6_BlockTells.mono_l k
    · intro y0 y1 y2 y3
      unfold columbariumlaw6_BlockTells.j0
      repeat' first
      | (with_reducible exact ih0 _ _ _ _)
      | (with_reducible exact block_All.mono _ _)
      | (with_reducible exact block_Open.mono _ _ _)
      | (with_reducible exact block_Seal.mono _ _)
      | (with_reducible exact columbariumbook_Intact_byte.mono _ _ _ _)
      | (with_reducible exact columbariumbook_Roomy_byte.mono _ _ _)
      | (with_reducible exact columbariumlaw6_alike.mono _ _ _)
      | (with_reducible exact columbariumlaw6_known.mono _)
      | (with_reducible exact columbariumlaw6_written.mono _ _)
      | (with_reducible exact columbariumref6_All.mono _ _)
      | (with_reducible exact columbariumref6_Open.mono _ _ _)
      | (with_reducible exact columbariumref6_Seal.mono _ _)
      | (with_reducible exact LeO.refl _)
      | (with_reducible exact LeO.none _)
      | (with_reducible refine LeO.ite ?_ ?_)
      | (with_reducible refine LeO.bind ?_ (fun _ => ?_))
      | exact ih0 _ _ _ _
      | exact block_All.mono _ _
      | exact block_Open.mono _ _ _
      | exact block_Seal.mono _ _
      | exact columbariumbook_Intact_byte.mono _ _ _ _
      | exact columbariumbook_Roomy_byte.mono _ _ _
      | exact columbariumlaw6_alike.mono _ _ _
      | exact columbariumlaw6_known.mono _
      | exact columbariumlaw6_written.mono _ _
      | exact columbariumref6_All.mono _ _
      | exact columbariumref6_Open.mono _ _ _
      | exact columbariumref6_Seal.mono _ _
      | exact LeO.none _
      | refine LeO.ite ?_ ?_
      | refine LeO.bind ?_ (fun _ => ?_)
theorem columbariumlaw6_BlockTells.mono : ∀ a0 a1 a2 a3 a4 a5 k, LeO (columbariumlaw6_BlockTells.f k a0 a1 a2 a3 a4 a5) (columbariumlaw6_BlockTells.f (k + 1) a0 a1 a2 a3 a4 a5) := by
  intro a0 a1 a2 a3 a4 a5 k
  have ih0 := columbariumlaw6_BlockTells.mono_l k
  unfold columbariumlaw6_BlockTells.f
  repeat' first
      | (with_reducible exact ih0 _ _ _ _)
      | (with_reducible exact block_All.mono _ _)
      | (with_reducible exact block_Open.mono _ _ _)
      | (with_reducible exact block_Seal.mono _ _)
      | (with_reducible exact columbariumbook_Intact_byte.mono _ _ _ _)
      | (with_reducible exact columbariumbook_Roomy_byte.mono _ _ _)
      | (with_reducible exact columbariumlaw6_alike.mono _ _ _)
      | (with_reducible exact columbariumlaw6_known.mono _)
      | (with_reducible exact columbariumlaw6_written.mono _ _)
      | (with_reducible exact columbariumref6_All.mono _ _)
      | (with_reducible exact columbariumref6_Open.mono _ _ _)
      | (with_reducible exact columbariumref6_Seal.mono _ _)
      | (with_reducible exact LeO.refl _)
      | (with_reducible exact LeO.none _)
      | (with_reducible refine LeO.ite ?_ ?_)
      | (with_reducible refine LeO.bind ?_ (fun _ => ?_))
      | exact ih0 _ _ _ _
      | exact block_All.mono _ _
      | exact block_Open.mono _ _ _
      | exact block_Seal.mono _ _
      | exact columbariumbook_Intact_byte.mono _ _ _ _
      | exact columbariumbook_Roomy_byte.mono _ _ _
      | exact columbariumlaw6_alike.mono _ _ _
      | exact columbariumlaw6_known.mono _
      | exact columbariumlaw6_written.mono _ _
      | exact columbariumref6_All.mono _ _
      | exact columbariumref6_Open.mono _ _ _
      | exact columbariumref6_Seal.mono _ _
      | exact LeO.none _
      | refine LeO.ite ?_ ?_
      | refine LeO.bind ?_ (fun _ => ?_)
set_option maxHeartbeats 8000000 in
set_option maxRecDepth 100000 in
theorem columbariumlaw6_BlockTells.calls (k : Nat) (a0 : ByteArray) (A1 : Option Addr) (c1 : Nat) (l1 : List ByteArray) (A2 : Option Addr) (c2 : Nat) (l2 : List Int) (a3 : Int) (a4 : Int) (a5 : Int) (r : Bool) (w : World) (hr1 : Kd.C Kd.string w A1 l1.length l1) (hc1 : l1.length ≤ c1) (hr2 : Kd.C (Kd.int .u8) w A2 l2.length l2) (hc2 : l2.length ≤ c2) (h : columbariumlaw6_BlockTells.f k a0 l1 l2 a3 a4 a5 = some r) (hr_ : Aside0 (r = true)) :
    Calls Try.prog 11 #[.string a0, .slice A1 l1.length c1, .slice A2 l2.length c2, .int .i64 a3, .int .u8 a4, .int .i64 a5] w fun e w' => e = .returned (.bool r) ∧ Below w.heap.size w w' := by
  have HR1 := Aside0.mk hr1
  have HC1 := Aside0.mk hc1
  clear hr1 hc1
  have HR2 := Aside0.mk hr2
  have HC2 := Aside0.mk hc2
  clear hr2 hc2
  have HB := Aside0.mk (Below.refl w.heap.size w)
  have H : ((columbariumlaw6_written.f k l1).bind fun t24001 => (if (t24001.length : Int) > 0 then ((columbariumbook_Within.f a3 0 (wrap64 ((t24001.length : Int) - 1))).bind fun t24004 => (if 0 ≤ t24004 then (if t24004 < (t24001.length : Int) then (columbariumlaw6_BlockTells.j0 k a0 l2 a5 (t24001.set (t24004 : Int).toNat (Go.bits .xor .u8 (rd t24001 t24004) a4))) else (none)) else (none))) else (columbariumlaw6_BlockTells.j0 k a0 l2 a5 t24001))) = some r := h
  clear h
  replace H := Option.bind_eq_some_iff.mp H
  obtain ⟨t24001, A70, H⟩ := H
  replace H : (if (t24001.length : Int) > 0 then ((columbariumbook_Within.f a3 0 (wrap64 ((t24001.length : Int) - 1))).bind fun t24004 => (if 0 ≤ t24004 then (if t24004 < (t24001.length : Int) then (columbariumlaw6_BlockTells.j0 k a0 l2 a5 (t24001.set (t24004 : Int).toNat (Go.bits .xor .u8 (rd t24001 t24004) a4))) else (none)) else (none))) else (columbariumlaw6_BlockTells.j0 k a0 l2 a5 t24001)) = some r := H
  have A7 := Aside0.mk A70
  clear A70
  have HC8 := Aside0.mk H
  clear H
  go_enter Try.func11, Try.ntmps11
  go_upto_if 37 with (first | ((with_reducible refine gate_callee (f := 30) rfl ?_); refine goesL_ (some 34) rfl rfl Try.func30 (by kernel_rfl) rfl #[.slice A1 l1.length c1] rfl (by (try simp only [List.map_toArray, List.map_cons, List.map_nil]); first | done | rfl | (simp only [List.length_drop, List.length_take]; rfl)) ?_; (with_reducible refine (columbariumlaw6_written.calls k _ _ l1 t24001 _ ?side1 ?side2 A7.out).mono ?_); (case side1 => repeat (first | exact HR1.out | (with_reducible refine Kd.C_alloc ?_ _) | (with_reducible refine Kd.C_drewN ?_ _) | (with_reducible refine Kd.C_drew ?_))); (case side2 => exact HC1.out); rintro e w9 ⟨v24002, rfl, ho0, hb⟩; refine ⟨_, rfl, ?_⟩; have n0_ := Aside0.mk (Kd.R_lower ho0 (below_size (by repeat (first | (with_reducible first | exact HB.out | apply below_alloc | apply pw_below_drewN | apply below_drew1) | exact HB.out)))); have n1_ := Aside0.mk (below_step (by repeat (first | (with_reducible first | exact HB.out | apply below_alloc | apply pw_below_drewN | apply below_drew1) | exact HB.out)) hb); clear HB; have HO24003 := n0_; have HB := n1_; clear n0_ n1_; (try clear hb); (try clear hb2); (try clear hk); (try clear hi); (try clear ho0); obtain ⟨Ao10, co10, eo10⟩ := Kd.R_slice HO24003.out; subst eo10))
  (try simp only [Act.put, List.setIfInBounds_toArray, List.set_cons_zero, List.set_cons_succ])
  go_cut [] (fun wc => ∃ (kq : Nat) (x13_7 : List Int), Aside0 (columbariumlaw6_BlockTells.j0 kq a0 l2 a5 x13_7 = some r) ∧ Aside0 (kq ≤ k) ∧ Aside0 (Kd.R (Kd.int .u8) 5 wc w.heap.size (fun _ => True) (.slice Ao10 t24001.length co10) x13_7) ∧ Aside0 (Below w.heap.size w wc))
  case first =>
    have H := HC8.out
    clear HC8
    by_cases c11 : (t24001.length : Int) > 0
    · rw [if_pos c11] at H
      have c11b0 : decide (0 < (t24001.length : Int)) = true := decide_eq_true c11
      have c11b1 : decide (0 < t24001.length) = true := decide_eq_true (by omega)
      clear c11
      (first | rw [c11b0] | (simp only [i64_w, i32_w]; rw [c11b0]) | rw [c11b1] | skip)
      replace H := Option.bind_eq_some_iff.mp H
      obtain ⟨t24004, A120, H⟩ := H
      replace H : (if 0 ≤ t24004 then (if t24004 < (t24001.length : Int) then (columbariumlaw6_BlockTells.j0 k a0 l2 a5 (t24001.set (t24004 : Int).toNat (Go.bits .xor .u8 (rd t24001 t24004) a4))) else (none)) else (none)) = some r := H
      have A12 := Aside0.mk A120
      clear A120
      by_cases c13 : 0 ≤ t24004
      · rw [if_pos c13] at H
        have c13b0 : decide (0 ≤ t24004) = true := decide_eq_true c13
        clear c13
        by_cases c14 : t24004 < (t24001.length : Int)
        · rw [if_pos c14] at H
          have c14b0 : decide (t24004 < (t24001.length : Int)) = true := decide_eq_true c14
          clear c14
          obtain ⟨y24006, hy24006⟩ : ∃ y_ : List Int, y_ = (t24001.set (t24004 : Int).toNat (Go.bits .xor .u8 (rd t24001 t24004) a4)) := ⟨_, rfl⟩
          replace H : (columbariumlaw6_BlockTells.j0 k a0 l2 a5 y24006) = some r := by first | (rw [hy24006]; with_reducible exact H) | (have H2_ := (Option.bind_some _ _).symm.trans H; rw [hy24006]; with_reducible exact H2_) | (have H2_ := (Option.bind_some _ _).symm.trans H; with_reducible exact H2_) | with_reducible exact H | (rw [hy24006]; exact H) | exact H
          have Ny24006 := Aside0.mk hy24006
          clear hy24006
          have H' := Aside0.mk H
          clear H
          go_wp2_with (first | ((with_reducible refine gate_callee (f := 15) rfl ?_); refine goesL_ (some 42) rfl rfl Try.func15 (by kernel_rfl) rfl #[.int .i64 a3, .int .i64 0, .int .i64 (wrap64 ((t24001.length : Int) - 1))] rfl (by (try simp only [List.map_toArray, List.map_cons, List.map_nil]); first | done | rfl | (simp only [List.length_drop, List.length_take]; rfl)) ?_; (with_reducible refine (columbariumbook_Within.calls a3 0 (wrap64 ((t24001.length : Int) - 1)) t24004 _ A12.out).mono ?_); rintro e w' ⟨rfl, ⟨nd, rfl⟩⟩; refine ⟨_, rfl, ?_⟩; (try (rw [drewN_self w9]; generalize hq_ : World.drewN w9 _ = w9; have n0_ : Aside0 (Kd.R (Kd.int .u8) 5 w9 w.heap.size (fun _ => True) (.slice Ao10 t24001.length co10) t24001) := ⟨by rw [← hq_]; exact (by (with_reducible repeat (first | apply Kd.R_alloc | apply Kd.R_drewN | apply Kd.R_drew)); exact HO24003.out)⟩; have n1_ : Aside0 (Below w.heap.size w w9) := ⟨by rw [← hq_]; exact (by repeat (first | (with_reducible first | exact HB.out | apply below_alloc | apply pw_below_drewN | apply below_drew1) | exact HB.out))⟩; clear HO24003 HB hq_; have HO24003 := n0_; have HB := n1_; clear n0_ n1_)); have p24005 : 0 ≤ (t24004 : Int) := of_decide_eq_true (by first | (with_reducible assumption) | assumption); have q24005 : t24004 < (t24001.length : Int) := of_decide_eq_true (by first | (with_reducible assumption) | assumption); obtain ⟨ad24005, e24005, hx24005_0⟩ := Kd.at_int (Kd.R_reads' HO24003.out).2.2 t24004 p24005 q24005; cases e24005; replace p24005 := eq_true p24005; replace q24005 := eq_true q24005; have p15 : 0 ≤ (t24004 : Int) := of_decide_eq_true (by first | (with_reducible assumption) | assumption); have q15 : (t24004 : Int) < ((t24001.length : Int) : Int) := of_decide_eq_true (by first | (with_reducible assumption) | assumption); obtain ⟨go15, co15, eo15, gb15, gl15, cl15, HG15⟩ := Kd.R_form HO24003.out (by omega); (first | cases eo15 | (injection eo15 with ea_ en_ ec_; (first | subst ea_ | (injection ea_ with ea_; subst ea_)); subst ec_; clear en_)); have GB15 := Aside0.mk gb15; have GG15 := Aside0.mk HG15; clear gb15 gl15 HG15; (first | simp only [add_plain] at hx24005_0 | skip); obtain ⟨hx15_0, hf15_0⟩ := Kd.R_celln 0 HO24003.out (t24004 : Int) p15 q15; replace p15 := eq_true p15; replace q15 := eq_true q15; obtain ⟨hy16_, hz16_⟩ := Kd.R_celln 0 HO24003.out (t24004 : Int) (of_decide_eq_true (by first | (with_reducible assumption) | assumption)) (of_decide_eq_true (by first | (with_reducible assumption) | assumption)); have HP16 := Kd.R_putg HO24003.out (t24004 : Int) (Go.bits .xor .u8 (rd t24001 t24004) a4)) | ((with_reducible refine gate_store (t := 5) (p := 51) rfl ?_); refine store_event (t := 5) (p := 51) (v := ?vo_w17) (w1 := (w9.setCell ⟨go15, (t24004 : Int).toNat, none⟩ (.int .u8 (Go.bits .xor .u8 (rd t24001 t24004) a4)))) ?hg ?ho ?hn ?hr ?_; (case ho => rfl); (case hg => rfl); (case hn => rfl); (case hr => first | (go_simp; done) | (go_simp; rfl)); intro w17 hw; have hg : w9.grownBy w17 (some go15) := (by rw [hw]; exact HP16.2); have hp_ : Kd.R (Kd.int .u8) 5 w17 w.heap.size (fun _ => True) (.slice (some ⟨go15, 0, none⟩) t24001.length co10) y24006 := (by rw [hw, Ny24006.out]; exact HP16.1); clear HP16; have n0_ := Aside0.mk (hp_); have n1_ := Aside0.mk ((by rw [hw]; exact below_set (HB.out) GB15.out : Below w.heap.size w w17)); clear HO24003; clear HB; have HO24003 := n0_; have HB := n1_; clear n0_ n1_; clear hg hw hp_))
          go_meet
          case rel => exact ⟨_, (y24006), H', ⟨by first | omega | exact Nat.le_refl _⟩, ⟨by (with_reducible repeat (first | apply Kd.R_alloc | apply Kd.R_drewN | apply Kd.R_drew)); exact HO24003.out⟩, ⟨by repeat (first | (with_reducible first | exact HB.out | apply below_alloc | apply pw_below_drewN | apply below_drew1) | exact HB.out)⟩⟩
        · rw [if_neg c14] at H
          exact absurd H (by simp)
      · rw [if_neg c13] at H
        exact absurd H (by simp)
    · rw [if_neg c11] at H
      have c11b0 : decide (0 < (t24001.length : Int)) = false := decide_eq_false c11
      have c11b1 : decide (0 < t24001.length) = false := decide_eq_false (by omega)
      clear c11
      (first | rw [c11b0] | (simp only [i64_w, i32_w]; rw [c11b0]) | rw [c11b1] | skip)
      have H' := Aside0.mk H
      clear H
      go_wp2
      go_meet
      case rel => exact ⟨_, (t24001), H', ⟨by first | omega | exact Nat.le_refl _⟩, ⟨by (with_reducible repeat (first | apply Kd.R_alloc | apply Kd.R_drewN | apply Kd.R_drew)); exact HO24003.out⟩, ⟨by repeat (first | (with_reducible first | exact HB.out | apply below_alloc | apply pw_below_drewN | apply below_drew1) | exact HB.out)⟩⟩
  case rest =>
    clear HC8
    try clear c1
    try clear p1
    try clear q1
    try clear hx1
    try clear c2
    try clear p2
    try clear q2
    try clear hx2
    try clear c3
    try clear p6
    try clear c11
    try clear c11b0
    try clear c11b1
    try clear c13
    try clear c13b0
    try clear c14
    try clear c14b0
    try clear c15
    try clear p15
    try clear q15
    try clear hx15
    try clear hf15
    try clear hx15_0
    try clear hx24005_0
    try clear p15
    try clear p24005
    try clear q15
    try clear q24005
    obtain ⟨kq, x13_7, HA, HJ7, HO_13, HB⟩ := hcut
    have hl13_7 := (Kd.R_reads' HO_13.out).1
    rw [hl13_7] at HO_13
    (try simp only [hl13_7])
    cases kq with
    | zero => exact absurd HA.out (by simp [columbariumlaw6_BlockTells.j0])
    | succ kj7 =>
      have H := HA.out
      clear HA
      simp only [columbariumlaw6_BlockTells.j0] at H
      by_cases c18 : x13_7.length + l2.length < 140737488355328
      · rw [if_pos c18] at H
        have LMc18 := Aside0.mk c18
        clear c18
        obtain ⟨y24007, hy24007⟩ : ∃ y_ : List Int, y_ = (x13_7 ++ l2) := ⟨_, rfl⟩
        replace H : ((columbariumbook_Roomy_byte.f kj7 y24007 165).bind fun t24010 => (if 0 ≤ (y24007.length : Int) then (if (y24007.length : Int) ≤ (t24010.length : Int) then ((some (t24010.take ((y24007.length : Int) : Int).toNat : List Int)).bind fun y24013 => ((columbariumlaw6_few.f a0).bind fun t24018 => (if t24018.size ≤ 9223372036854775807 then ((block_Seal.f kj7 (bytesOf t24018)).bind fun bt24022 => ((columbariumlaw6_few.f a0).bind fun t24026 => (if t24026.size ≤ 9223372036854775807 then ((columbariumref6_Seal.f kj7 (bytesOf t24026)).bind fun bt24030 => ((block_Open.f kj7 y24013 a5).bind fun bt24034 => ((columbariumref6_Open.f kj7 y24007 a5).bind fun bt24039 => ((block_All.f kj7 y24013).bind fun bt24044 => ((columbariumref6_All.f kj7 y24007).bind fun bt24049 => (if (strOfNums bt24022.1).toList = (strOfNums bt24030.1).toList then (if bt24022.2 = bt24030.2 then (if (strOfNums bt24034.1).toList = (strOfNums bt24039.1).toList then (if bt24034.2.1 = bt24039.2.1 then (if bt24034.2.2 = bt24039.2.2 then ((columbariumlaw6_alike.f kj7 bt24044.1 bt24049.1).bind fun t24054 => (if t24054 = true then (if bt24044.2.1 = bt24049.2.1 then (if bt24044.2.2 = bt24049.2.2 then ((columbariumbook_Intact_byte.f kj7 t24010 y24007 165).bind fun t24055 => (if t24055 = true then ((columbariumlaw6_known.f kj7).bind fun t24056 => (some t24056)) else (some false))) else (some false)) else (some false)) else (some false))) else (some false)) else (some false)) else (some false)) else (some false)) else (some false))))))) else (none)))) else (none)))) else (none)) else (none))) = some r := by first | (rw [hy24007]; with_reducible exact H) | (have H2_ := (Option.bind_some _ _).symm.trans H; rw [hy24007]; with_reducible exact H2_) | (have H2_ := (Option.bind_some _ _).symm.trans H; with_reducible exact H2_) | with_reducible exact H | (rw [hy24007]; exact H) | exact H
        have Ny24007 := Aside0.mk hy24007
        clear hy24007
        replace H := Option.bind_eq_some_iff.mp H
        obtain ⟨t24010, A190, H⟩ := H
        replace H : (if 0 ≤ (y24007.length : Int) then (if (y24007.length : Int) ≤ (t24010.length : Int) then ((some (t24010.take ((y24007.length : Int) : Int).toNat : List Int)).bind fun y24013 => ((columbariumlaw6_few.f a0).bind fun t24018 => (if t24018.size ≤ 9223372036854775807 then ((block_Seal.f kj7 (bytesOf t24018)).bind fun bt24022 => ((columbariumlaw6_few.f a0).bind fun t24026 => (if t24026.size ≤ 9223372036854775807 then ((columbariumref6_Seal.f kj7 (bytesOf t24026)).bind fun bt24030 => ((block_Open.f kj7 y24013 a5).bind fun bt24034 => ((columbariumref6_Open.f kj7 y24007 a5).bind fun bt24039 => ((block_All.f kj7 y24013).bind fun bt24044 => ((columbariumref6_All.f kj7 y24007).bind fun bt24049 => (if (strOfNums bt24022.1).toList = (strOfNums bt24030.1).toList then (if bt24022.2 = bt24030.2 then (if (strOfNums bt24034.1).toList = (strOfNums bt24039.1).toList then (if bt24034.2.1 = bt24039.2.1 then (if bt24034.2.2 = bt24039.2.2 then ((columbariumlaw6_alike.f kj7 bt24044.1 bt24049.1).bind fun t24054 => (if t24054 = true then (if bt24044.2.1 = bt24049.2.1 then (if bt24044.2.2 = bt24049.2.2 then ((columbariumbook_Intact_byte.f kj7 t24010 y24007 165).bind fun t24055 => (if t24055 = true then ((columbariumlaw6_known.f kj7).bind fun t24056 => (some t24056)) else (some false))) else (some false)) else (some false)) else (some false))) else (some false)) else (some false)) else (some false)) else (some false)) else (some false))))))) else (none)))) else (none)))) else (none)) else (none)) = some r := H
        have A19 := Aside0.mk A190
        clear A190
        by_cases c20 : 0 ≤ (y24007.length : Int)
        · rw [if_pos c20] at H
          have c20b0 := eq_true c20
          have c20b1 : decide (0 ≤ (y24007.length : Int)) = true := decide_eq_true c20
          clear c20
          by_cases c21 : (y24007.length : Int) ≤ (t24010.length : Int)
          · rw [if_pos c21] at H
            have c21b0 := eq_true c21
            have c21b1 : decide ((y24007.length : Int) ≤ (t24010.length : Int)) = true := decide_eq_true c21
            clear c21
            obtain ⟨y24013, hy24013⟩ : ∃ y_ : List Int, y_ = (t24010.take ((y24007.length : Int) : Int).toNat) := ⟨_, rfl⟩
            replace H : ((columbariumlaw6_few.f a0).bind fun t24018 => (if t24018.size ≤ 9223372036854775807 then ((block_Seal.f kj7 (bytesOf t24018)).bind fun bt24022 => ((columbariumlaw6_few.f a0).bind fun t24026 => (if t24026.size ≤ 9223372036854775807 then ((columbariumref6_Seal.f kj7 (bytesOf t24026)).bind fun bt24030 => ((block_Open.f kj7 y24013 a5).bind fun bt24034 => ((columbariumref6_Open.f kj7 y24007 a5).bind fun bt24039 => ((block_All.f kj7 y24013).bind fun bt24044 => ((columbariumref6_All.f kj7 y24007).bind fun bt24049 => (if (strOfNums bt24022.1).toList = (strOfNums bt24030.1).toList then (if bt24022.2 = bt24030.2 then (if (strOfNums bt24034.1).toList = (strOfNums bt24039.1).toList then (if bt24034.2.1 = bt24039.2.1 then (if bt24034.2.2 = bt24039.2.2 then ((columbariumlaw6_alike.f kj7 bt24044.1 bt24049.1).bind fun t24054 => (if t24054 = true then (if bt24044.2.1 = bt24049.2.1 then (if bt24044.2.2 = bt24049.2.2 then ((columbariumbook_Intact_byte.f kj7 t24010 y24007 165).bind fun t24055 => (if t24055 = true then ((columbariumlaw6_known.f kj7).bind fun t24056 => (some t24056)) else (some false))) else (some false)) else (some false)) else (some false))) else (some false)) else (some false)) else (some false)) else (some false)) else (some false))))))) else (none)))) else (none))) = some r := by first | (rw [hy24013]; with_reducible exact H) | (have H2_ := (Option.bind_some _ _).symm.trans H; rw [hy24013]; with_reducible exact H2_) | (have H2_ := (Option.bind_some _ _).symm.trans H; with_reducible exact H2_) | with_reducible exact H | (rw [hy24013]; exact H) | exact H
            have Ny24013 := Aside0.mk hy24013
            clear hy24013
            replace H := Option.bind_eq_some_iff.mp H
            obtain ⟨t24018, A220, H⟩ := H
            replace H : (if t24018.size ≤ 9223372036854775807 then ((block_Seal.f kj7 (bytesOf t24018)).bind fun bt24022 => ((columbariumlaw6_few.f a0).bind fun t24026 => (if t24026.size ≤ 9223372036854775807 then ((columbariumref6_Seal.f kj7 (bytesOf t24026)).bind fun bt24030 => ((block_Open.f kj7 y24013 a5).bind fun bt24034 => ((columbariumref6_Open.f kj7 y24007 a5).bind fun bt24039 => ((block_All.f kj7 y24013).bind fun bt24044 => ((columbariumref6_All.f kj7 y24007).bind fun bt24049 => (if (strOfNums bt24022.1).toList = (strOfNums bt24030.1).toList then (if bt24022.2 = bt24030.2 then (if (strOfNums bt24034.1).toList = (strOfNums bt24039.1).toList then (if bt24034.2.1 = bt24039.2.1 then (if bt24034.2.2 = bt24039.2.2 then ((columbariumlaw6_alike.f kj7 bt24044.1 bt24049.1).bind fun t24054 => (if t24054 = true then (if bt24044.2.1 = bt24049.2.1 then (if bt24044.2.2 = bt24049.2.2 then ((columbariumbook_Intact_byte.f kj7 t24010 y24007 165).bind fun t24055 => (if t24055 = true then ((columbariumlaw6_known.f kj7).bind fun t24056 => (some t24056)) else (some false))) else (some false)) else (some false)) else (some false))) else (some false)) else (some false)) else (some false)) else (some false)) else (some false))))))) else (none)))) else (none)) = some r := H
            have A22 := Aside0.mk A220
            clear A220
            by_cases c23 : t24018.size ≤ 9223372036854775807
            · rw [if_pos c23] at H
              have c23b0 := eq_true c23
              have c23b1 : decide (t24018.size ≤ 9223372036854775807) = true := decide_eq_true c23
              try have c23b2 : (9223372036854775807 < t24018.size) = False := eq_false (Nat.not_lt.2 c23)
              clear c23
              obtain ⟨y24019, hy24019⟩ : ∃ y_ : List Int, y_ = (bytesOf t24018) := ⟨_, rfl⟩
              replace H : ((block_Seal.f kj7 y24019).bind fun bt24022 => ((columbariumlaw6_few.f a0).bind fun t24026 => (if t24026.size ≤ 9223372036854775807 then ((columbariumref6_Seal.f kj7 (bytesOf t24026)).bind fun bt24030 => ((block_Open.f kj7 y24013 a5).bind fun bt24034 => ((columbariumref6_Open.f kj7 y24007 a5).bind fun bt24039 => ((block_All.f kj7 y24013).bind fun bt24044 => ((columbariumref6_All.f kj7 y24007).bind fun bt24049 => (if (strOfNums bt24022.1).toList = (strOfNums bt24030.1).toList then (if bt24022.2 = bt24030.2 then (if (strOfNums bt24034.1).toList = (strOfNums bt24039.1).toList then (if bt24034.2.1 = bt24039.2.1 then (if bt24034.2.2 = bt24039.2.2 then ((columbariumlaw6_alike.f kj7 bt24044.1 bt24049.1).bind fun t24054 => (if t24054 = true then (if bt24044.2.1 = bt24049.2.1 then (if bt24044.2.2 = bt24049.2.2 then ((columbariumbook_Intact_byte.f kj7 t24010 y24007 165).bind fun t24055 => (if t24055 = true then ((columbariumlaw6_known.f kj7).bind fun t24056 => (some t24056)) else (some false))) else (some false)) else (some false)) else (some false))) else (some false)) else (some false)) else (some false)) else (some false)) else (some false))))))) else (none)))) = some r := by first | (rw [hy24019]; with_reducible exact H) | (have H2_ := (Option.bind_some _ _).symm.trans H; rw [hy24019]; with_reducible exact H2_) | (have H2_ := (Option.bind_some _ _).symm.trans H; with_reducible exact H2_) | with_reducible exact H | (rw [hy24019]; exact H) | exact H
              have Ny24019 := Aside0.mk hy24019
              clear hy24019
              replace H := Option.bind_eq_some_iff.mp H
              obtain ⟨⟨t24022, t24023⟩, A240, H⟩ := H
              replace H : ((columbariumlaw6_few.f a0).bind fun t24026 => (if t24026.size ≤ 9223372036854775807 then ((columbariumref6_Seal.f kj7 (bytesOf t24026)).bind fun bt24030 => ((block_Open.f kj7 y24013 a5).bind fun bt24034 => ((columbariumref6_Open.f kj7 y24007 a5).bind fun bt24039 => ((block_All.f kj7 y24013).bind fun bt24044 => ((columbariumref6_All.f kj7 y24007).bind fun bt24049 => (if (strOfNums t24022).toList = (strOfNums bt24030.1).toList then (if t24023 = bt24030.2 then (if (strOfNums bt24034.1).toList = (strOfNums bt24039.1).toList then (if bt24034.2.1 = bt24039.2.1 then (if bt24034.2.2 = bt24039.2.2 then ((columbariumlaw6_alike.f kj7 bt24044.1 bt24049.1).bind fun t24054 => (if t24054 = true then (if bt24044.2.1 = bt24049.2.1 then (if bt24044.2.2 = bt24049.2.2 then ((columbariumbook_Intact_byte.f kj7 t24010 y24007 165).bind fun t24055 => (if t24055 = true then ((columbariumlaw6_known.f kj7).bind fun t24056 => (some t24056)) else (some false))) else (some false)) else (some false)) else (some false))) else (some false)) else (some false)) else (some false)) else (some false)) else (some false))))))) else (none))) = some r := H
              have A24 := Aside0.mk A240
              clear A240
              replace H := Option.bind_eq_some_iff.mp H
              obtain ⟨t24026, A250, H⟩ := H
              replace H : (if t24026.size ≤ 9223372036854775807 then ((columbariumref6_Seal.f kj7 (bytesOf t24026)).bind fun bt24030 => ((block_Open.f kj7 y24013 a5).bind fun bt24034 => ((columbariumref6_Open.f kj7 y24007 a5).bind fun bt24039 => ((block_All.f kj7 y24013).bind fun bt24044 => ((columbariumref6_All.f kj7 y24007).bind fun bt24049 => (if (strOfNums t24022).toList = (strOfNums bt24030.1).toList then (if t24023 = bt24030.2 then (if (strOfNums bt24034.1).toList = (strOfNums bt24039.1).toList then (if bt24034.2.1 = bt24039.2.1 then (if bt24034.2.2 = bt24039.2.2 then ((columbariumlaw6_alike.f kj7 bt24044.1 bt24049.1).bind fun t24054 => (if t24054 = true then (if bt24044.2.1 = bt24049.2.1 then (if bt24044.2.2 = bt24049.2.2 then ((columbariumbook_Intact_byte.f kj7 t24010 y24007 165).bind fun t24055 => (if t24055 = true then ((columbariumlaw6_known.f kj7).bind fun t24056 => (some t24056)) else (some false))) else (some false)) else (some false)) else (some false))) else (some false)) else (some false)) else (some false)) else (some false)) else (some false))))))) else (none)) = some r := H
              have A25 := Aside0.mk A250
              clear A250
              by_cases c26 : t24026.size ≤ 9223372036854775807
              · rw [if_pos c26] at H
                have c26b0 := eq_true c26
                have c26b1 : decide (t24026.size ≤ 9223372036854775807) = true := decide_eq_true c26
                try have c26b2 : (9223372036854775807 < t24026.size) = False := eq_false (Nat.not_lt.2 c26)
                clear c26
                obtain ⟨y24027, hy24027⟩ : ∃ y_ : List Int, y_ = (bytesOf t24026) := ⟨_, rfl⟩
                replace H : ((columbariumref6_Seal.f kj7 y24027).bind fun bt24030 => ((block_Open.f kj7 y24013 a5).bind fun bt24034 => ((columbariumref6_Open.f kj7 y24007 a5).bind fun bt24039 => ((block_All.f kj7 y24013).bind fun bt24044 => ((columbariumref6_All.f kj7 y24007).bind fun bt24049 => (if (strOfNums t24022).toList = (strOfNums bt24030.1).toList then (if t24023 = bt24030.2 then (if (strOfNums bt24034.1).toList = (strOfNums bt24039.1).toList then (if bt24034.2.1 = bt24039.2.1 then (if bt24034.2.2 = bt24039.2.2 then ((columbariumlaw6_alike.f kj7 bt24044.1 bt24049.1).bind fun t24054 => (if t24054 = true then (if bt24044.2.1 = bt24049.2.1 then (if bt24044.2.2 = bt24049.2.2 then ((columbariumbook_Intact_byte.f kj7 t24010 y24007 165).bind fun t24055 => (if t24055 = true then ((columbariumlaw6_known.f kj7).bind fun t24056 => (some t24056)) else (some false))) else (some false)) else (some false)) else (some false))) else (some false)) else (some false)) else (some false)) else (some false)) else (some false))))))) = some r := by first | (rw [hy24027]; with_reducible exact H) | (have H2_ := (Option.bind_some _ _).symm.trans H; rw [hy24027]; with_reducible exact H2_) | (have H2_ := (Option.bind_some _ _).symm.trans H; with_reducible exact H2_) | with_reducible exact H | (rw [hy24027]; exact H) | exact H
                have Ny24027 := Aside0.mk hy24027
                clear hy24027
                replace H := Option.bind_eq_some_iff.mp H
                obtain ⟨⟨t24030, t24031⟩, A270, H⟩ := H
                replace H : ((block_Open.f kj7 y24013 a5).bind fun bt24034 => ((columbariumref6_Open.f kj7 y24007 a5).bind fun bt24039 => ((block_All.f kj7 y24013).bind fun bt24044 => ((columbariumref6_All.f kj7 y24007).bind fun bt24049 => (if (strOfNums t24022).toList = (strOfNums t24030).toList then (if t24023 = t24031 then (if (strOfNums bt24034.1).toList = (strOfNums bt24039.1).toList then (if bt24034.2.1 = bt24039.2.1 then (if bt24034.2.2 = bt24039.2.2 then ((columbariumlaw6_alike.f kj7 bt24044.1 bt24049.1).bind fun t24054 => (if t24054 = true then (if bt24044.2.1 = bt24049.2.1 then (if bt24044.2.2 = bt24049.2.2 then ((columbariumbook_Intact_byte.f kj7 t24010 y24007 165).bind fun t24055 => (if t24055 = true then ((columbariumlaw6_known.f kj7).bind fun t24056 => (some t24056)) else (some false))) else (some false)) else (some false)) else (some false))) else (some false)) else (some false)) else (some false)) else (some false)) else (some false)))))) = some r := H
                have A27 := Aside0.mk A270
                clear A270
                replace H := Option.bind_eq_some_iff.mp H
                obtain ⟨⟨t24034, t24035, t24036⟩, A280, H⟩ := H
                replace H : ((columbariumref6_Open.f kj7 y24007 a5).bind fun bt24039 => ((block_All.f kj7 y24013).bind fun bt24044 => ((columbariumref6_All.f kj7 y24007).bind fun bt24049 => (if (strOfNums t24022).toList = (strOfNums t24030).toList then (if t24023 = t24031 then (if (strOfNums t24034).toList = (strOfNums bt24039.1).toList then (if t24035 = bt24039.2.1 then (if t24036 = bt24039.2.2 then ((columbariumlaw6_alike.f kj7 bt24044.1 bt24049.1).bind fun t24054 => (if t24054 = true then (if bt24044.2.1 = bt24049.2.1 then (if bt24044.2.2 = bt24049.2.2 then ((columbariumbook_Intact_byte.f kj7 t24010 y24007 165).bind fun t24055 => (if t24055 = true then ((columbariumlaw6_known.f kj7).bind fun t24056 => (some t24056)) else (some false))) else (some false)) else (some false)) else (some false))) else (some false)) else (some false)) else (some false)) else (some false)) else (some false))))) = some r := H
                have A28 := Aside0.mk A280
                clear A280
                replace H := Option.bind_eq_some_iff.mp H
                obtain ⟨⟨t24039, t24040, t24041⟩, A290, H⟩ := H
                replace H : ((block_All.f kj7 y24013).bind fun bt24044 => ((columbariumref6_All.f kj7 y24007).bind fun bt24049 => (if (strOfNums t24022).toList = (strOfNums t24030).toList then (if t24023 = t24031 then (if (strOfNums t24034).toList = (strOfNums t24039).toList then (if t24035 = t24040 then (if t24036 = t24041 then ((columbariumlaw6_alike.f kj7 bt24044.1 bt24049.1).bind fun t24054 => (if t24054 = true then (if bt24044.2.1 = bt24049.2.1 then (if bt24044.2.2 = bt24049.2.2 then ((columbariumbook_Intact_byte.f kj7 t24010 y24007 165).bind fun t24055 => (if t24055 = true then ((columbariumlaw6_known.f kj7).bind fun t24056 => (some t24056)) else (some false))) else (some false)) else (some false)) else (some false))) else (some false)) else (some false)) else (some false)) else (some false)) else (some false)))) = some r := H
                have A29 := Aside0.mk A290
                clear A290
                replace H := Option.bind_eq_some_iff.mp H
                obtain ⟨⟨t24044, t24047, t24048⟩, A300, H⟩ := H
                replace H : ((columbariumref6_All.f kj7 y24007).bind fun bt24049 => (if (strOfNums t24022).toList = (strOfNums t24030).toList then (if t24023 = t24031 then (if (strOfNums t24034).toList = (strOfNums t24039).toList then (if t24035 = t24040 then (if t24036 = t24041 then ((columbariumlaw6_alike.f kj7 t24044 bt24049.1).bind fun t24054 => (if t24054 = true then (if t24047 = bt24049.2.1 then (if t24048 = bt24049.2.2 then ((columbariumbook_Intact_byte.f kj7 t24010 y24007 165).bind fun t24055 => (if t24055 = true then ((columbariumlaw6_known.f kj7).bind fun t24056 => (some t24056)) else (some false))) else (some false)) else (some false)) else (some false))) else (some false)) else (some false)) else (some false)) else (some false)) else (some false))) = some r := H
                have A30 := Aside0.mk A300
                clear A300
                replace H := Option.bind_eq_some_iff.mp H
                obtain ⟨⟨t24049, t24052, t24053⟩, A310, H⟩ := H
                replace H : (if (strOfNums t24022).toList = (strOfNums t24030).toList then (if t24023 = t24031 then (if (strOfNums t24034).toList = (strOfNums t24039).toList then (if t24035 = t24040 then (if t24036 = t24041 then ((columbariumlaw6_alike.f kj7 t24044 t24049).bind fun t24054 => (if t24054 = true then (if t24047 = t24052 then (if t24048 = t24053 then ((columbariumbook_Intact_byte.f kj7 t24010 y24007 165).bind fun t24055 => (if t24055 = true then ((columbariumlaw6_known.f kj7).bind fun t24056 => (some t24056)) else (some false))) else (some false)) else (some false)) else (some false))) else (some false)) else (some false)) else (some false)) else (some false)) else (some false)) = some r := H
                have A31 := Aside0.mk A310
                clear A310
                by_cases c32 : (strOfNums t24022).toList = (strOfNums t24030).toList
                · rw [if_pos c32] at H
                  have c32b0 : ((strOfNums t24022).toList == (strOfNums t24030).toList) = true := beq_iff_eq.mpr c32
                  have c32b1 : ((strOfNums t24022).toList != (strOfNums t24030).toList) = false := bne_eq_false_iff_eq.mpr c32
                  clear c32
                  by_cases c33 : t24023 = t24031
                  · rw [if_pos c33] at H
                    have c33b0 : (t24023 == t24031) = true := beq_iff_eq.mpr c33
                    have c33b1 : (t24023 != t24031) = false := bne_eq_false_iff_eq.mpr c33
                    clear c33
                    by_cases c34 : (strOfNums t24034).toList = (strOfNums t24039).toList
                    · rw [if_pos c34] at H
                      have c34b0 : ((strOfNums t24034).toList == (strOfNums t24039).toList) = true := beq_iff_eq.mpr c34
                      have c34b1 : ((strOfNums t24034).toList != (strOfNums t24039).toList) = false := bne_eq_false_iff_eq.mpr c34
                      clear c34
                      by_cases c35 : t24035 = t24040
                      · rw [if_pos c35] at H
                        have c35b0 : (t24035 == t24040) = true := beq_iff_eq.mpr c35
                        have c35b1 : (t24035 != t24040) = false := bne_eq_false_iff_eq.mpr c35
                        clear c35
                        by_cases c36 : t24036 = t24041
                        · rw [if_pos c36] at H
                          have c36b0 : (t24036 == t24041) = true := beq_iff_eq.mpr c36
                          have c36b1 : (t24036 != t24041) = false := bne_eq_false_iff_eq.mpr c36
                          clear c36
                          replace H := Option.bind_eq_some_iff.mp H
                          obtain ⟨t24054, A370, H⟩ := H
                          replace H : (if t24054 = true then (if t24047 = t24052 then (if t24048 = t24053 then ((columbariumbook_Intact_byte.f kj7 t24010 y24007 165).bind fun t24055 => (if t24055 = true then ((columbariumlaw6_known.f kj7).bind fun t24056 => (some t24056)) else (some false))) else (some false)) else (some false)) else (some false)) = some r := H
                          have A37 := Aside0.mk A370
                          clear A370
                          by_cases c38 : t24054 = true
                          · subst c38
                            have H1 : (if t24047 = t24052 then (if t24048 = t24053 then ((columbariumbook_Intact_byte.f kj7 t24010 y24007 165).bind fun t24055 => (if t24055 = true then ((columbariumlaw6_known.f kj7).bind fun t24056 => (some t24056)) else (some false))) else (some false)) else (some false)) = some r := by rw [if_pos rfl] at H; exact H
                            clear H
                            have H := H1
                            clear H1
                            by_cases c39 : t24047 = t24052
                            · rw [if_pos c39] at H
                              have c39b0 : (t24047 == t24052) = true := beq_iff_eq.mpr c39
                              have c39b1 : (t24047 != t24052) = false := bne_eq_false_iff_eq.mpr c39
                              clear c39
                              by_cases c40 : t24048 = t24053
                              · rw [if_pos c40] at H
                                have c40b0 : (t24048 == t24053) = true := beq_iff_eq.mpr c40
                                have c40b1 : (t24048 != t24053) = false := bne_eq_false_iff_eq.mpr c40
                                clear c40
                                replace H := Option.bind_eq_some_iff.mp H
                                obtain ⟨t24055, A410, H⟩ := H
                                replace H : (if t24055 = true then ((columbariumlaw6_known.f kj7).bind fun t24056 => (some t24056)) else (some false)) = some r := H
                                have A41 := Aside0.mk A410
                                clear A410
                                by_cases c42 : t24055 = true
                                · subst c42
                                  have H1 : ((columbariumlaw6_known.f kj7).bind fun t24056 => (some t24056)) = some r := by rw [if_pos rfl] at H; exact H
                                  clear H
                                  have H := H1
                                  clear H1
                                  replace H := Option.bind_eq_some_iff.mp H
                                  obtain ⟨t24056, A430, H⟩ := H
                                  replace H : (some t24056) = some r := H
                                  have A43 := Aside0.mk A430
                                  clear A430
                                  obtain rfl := Option.some.inj H
                                  go_wp2_with (first | ((with_reducible refine gate_builtin (b := .append) (xs := #[.tmp 52, .tmp 53]) rfl ?_); at_builtin; refine Kd.R_append_rows (Kd.int .u8) (w0 := w) w.heap.size rfl (.tmp 52) (.tmp 53) 24 5 (.int .u8 0) 1 rfl Try.underlying24 info5 rfl (by decide) (by omega) (.slice Ao10 x13_7.length co10) x13_7 l2 _ _ _ (fun _ => True) (fun _ => False) rfl rfl ?aO ?aR (fun _ _ h => h) (fun _ h => h.elim) ?aF ?aB ?aS ?aL ?_; (case aR => repeat (first | exact (Kd.C_below HR2.out HB.out) | (with_reducible refine Kd.C_alloc ?_ _) | (with_reducible refine Kd.C_drewN ?_ _) | (with_reducible refine Kd.C_drew ?_))); (case aB => exact (by repeat (first | (with_reducible first | exact HB.out | apply below_alloc | apply pw_below_drewN | apply below_drew1) | exact HB.out))); (case aF => exact (fun _ _ => trivial)); (case aO => exact (by (with_reducible repeat (first | apply Kd.R_alloc | apply Kd.R_drewN | apply Kd.R_drew)); exact HO_13.out)); (case aS => exact (below_size (by repeat (first | (with_reducible first | exact HB.out | apply below_alloc | apply pw_below_drewN | apply below_drew1) | exact HB.out)))); (case aL => have := LMc18.out; omega); intro v24008 w44 ho hb hg hat; rw [← Ny24007.out] at ho; have n0_ := Aside0.mk (hb); have n1_ := Aside0.mk (ho); clear HB; clear HO_13; have HB := n0_; have HO24009 := n1_; clear n0_ n1_; clear ho hb hg hat; obtain ⟨Ao45, co45, eo45⟩ := Kd.R_slice HO24009.out; subst eo45) | ((with_reducible refine gate_callee (f := 21) rfl ?_); refine goesL_ (some 56) rfl rfl Try.func21 (by kernel_rfl) rfl #[.slice Ao45 y24007.length co45, .int .u8 165] rfl (by (try simp only [List.map_toArray, List.map_cons, List.map_nil]); first | done | rfl | (simp only [List.length_drop, List.length_take]; rfl)) ?_; (with_reducible refine (columbariumbook_Roomy_byte.calls kj7 _ _ y24007 165 t24010 _ ?side1 ?side2 A19.out).mono ?_); (case side1 => repeat (first | exact (Kd.R_reads' HO24009.out).2.2 | (with_reducible refine Kd.C_alloc ?_ _) | (with_reducible refine Kd.C_drewN ?_ _) | (with_reducible refine Kd.C_drew ?_))); (case side2 => exact (Kd.R_reads' HO24009.out).2.1); rintro e w46 ⟨v24011, rfl, ho0, hb⟩; refine ⟨_, rfl, ?_⟩; have n0_ := Aside0.mk (Kd.R_elder' (by (with_reducible repeat (first | apply Kd.R_alloc | apply Kd.R_drewN | apply Kd.R_drew)); exact HO24009.out) (Kd.R_base ho0) hb); have n1_ := Aside0.mk (Kd.R_lower (Kd.R_new' ho0 (Kd.R_lt (by (with_reducible repeat (first | apply Kd.R_alloc | apply Kd.R_drewN | apply Kd.R_drew)); exact HO24009.out))) (below_size (by repeat (first | (with_reducible first | exact HB.out | apply below_alloc | apply pw_below_drewN | apply below_drew1) | exact HB.out)))); have n2_ := Aside0.mk (below_step (by repeat (first | (with_reducible first | exact HB.out | apply below_alloc | apply pw_below_drewN | apply below_drew1) | exact HB.out)) hb); clear HO24009; clear HB; have HO24009 := n0_; have HO24012 := n1_; have HB := n2_; clear n0_ n1_ n2_; (try clear hb); (try clear hb2); (try clear hk); (try clear hi); (try clear ho0); obtain ⟨Ao48, co48, eo48⟩ := Kd.R_slice HO24012.out; subst eo48; have q47 : ((y24007.length : Int) : Int) ≤ ((t24010.length : Int) : Int) := of_decide_eq_true (by first | (with_reducible assumption) | assumption); obtain ⟨i047, hi047, _, hsz47, _⟩ := info_parts info5; have hroom47 : t24010.length ≤ co48 := (Kd.R_reads' HO24012.out).2.1; have hC47 : Kd.F (Kd.int .u8) _ _ Ao48 t24010.length t24010 := (Kd.V_at (base := w.heap.size) (Kd.R_V HO24012.out)).2.2; have hcut47 := cut_to (P := Try.prog) 24 5 .i64 Try.underlying24 hi047 Ao48 t24010.length co48 (y24007.length : Int) (of_decide_eq_true (by first | (with_reducible assumption) | assumption)) q47 hroom47; have hr47 := Kd.F_take (m := ((y24007.length : Int) : Int).toNat) hC47 (by omega); have hy47 : y24013.length = ((y24007.length : Int) : Int).toNat := (by rw [Ny24013.out, List.length_take]; omega); rw [← Ny24013.out] at hr47; rw [← hy47] at hcut47; have HO24017 := Aside0.mk (show Kd.V (Kd.int .u8) 5 _ w.heap.size _ (.slice Ao48 y24013.length co48) y24013 from Kd.V_mk (by omega) hr47); have HC24017 := Aside0.mk (show y24013.length ≤ co48 from by omega); clear hr47 hC47 hroom47 hi047 hsz47; have KY47 := Aside0.mk hy47; clear hy47; replace q47 := eq_true q47) | ((with_reducible refine gate_callee (f := 25) rfl ?_); refine goesL_ (some 63) rfl rfl Try.func25 (by kernel_rfl) rfl #[.string a0] rfl (by (try simp only [List.map_toArray, List.map_cons, List.map_nil]); first | done | rfl | (simp only [List.length_drop, List.length_take]; rfl)) ?_; (with_reducible refine (columbariumlaw6_few.calls a0 t24018 _ A22.out).mono ?_); rintro e w' ⟨rfl, ⟨nd, rfl⟩⟩; refine ⟨_, rfl, ?_⟩) | ((with_reducible refine gate_dst (N := 64) rfl ?_); refine pw_tobytes (w0 := w) w.heap.size rfl (.tmp 63) 24 9 5 rfl Try.underlying24 Try.underlying9 Try.underlying5 t24018 rfl (fun k_ => some k_ ≠ (.slice Ao45 y24007.length co45 : Value).ownBlock ∧ some k_ ≠ (.slice Ao48 t24010.length co48 : Value).ownBlock) ?aN ?aF ?aB ?aS ?_; (case aN => exact of_decide_eq_true (by first | (with_reducible assumption) | assumption)); (case aB => exact (by repeat (first | (with_reducible first | exact HB.out | apply below_alloc | apply pw_below_drewN | apply below_drew1) | exact HB.out))); (case aF => exact (fun k_ hk => ⟨Kd.fresh' (Kd.R_lt (by (with_reducible repeat (first | apply Kd.R_alloc | apply Kd.R_drewN | apply Kd.R_drew)); exact HO24009.out)) k_ hk, Kd.fresh' (Kd.R_lt (by (with_reducible repeat (first | apply Kd.R_alloc | apply Kd.R_drewN | apply Kd.R_drew)); exact HO24012.out)) k_ hk⟩)); (case aS => exact (below_size (by repeat (first | (with_reducible first | exact HB.out | apply below_alloc | apply pw_below_drewN | apply below_drew1) | exact HB.out)))); intro v24020 w49 ho hb hg hat; rw [← Ny24019.out] at ho; have n0_ := Aside0.mk (Kd.R_grown (by (with_reducible repeat (first | apply Kd.R_alloc | apply Kd.R_drewN | apply Kd.R_drew)); exact HO24009.out) hg (fun _ _ => by simp [Value.ownBlock])); have n1_ := Aside0.mk (Kd.R_grown (by (with_reducible repeat (first | apply Kd.R_alloc | apply Kd.R_drewN | apply Kd.R_drew)); exact HO24012.out) hg (fun _ _ => by simp [Value.ownBlock])); have n2_ := Aside0.mk (Kd.V_grown (by (with_reducible repeat (first | apply Kd.V_alloc | apply Kd.V_drewN | apply Kd.V_drew)); exact HO24017.out) hg (fun _ _ => by simp [Value.ownBlock])); have n3_ := Aside0.mk (hb); have n4_ := Aside0.mk (ho); clear HO24009; clear HO24012; clear HO24017; clear HB; have HO24009 := n0_; have HO24012 := n1_; have HO24017 := n2_; have HB := n3_; have HO24021 := n4_; clear n0_ n1_ n2_ n3_ n4_; clear ho hb hg hat; obtain ⟨Ao50, co50, eo50⟩ := Kd.V_slice HO24021.out; subst eo50) | ((with_reducible refine gate_callee (f := 26) rfl ?_); refine goesL_ (some 65) rfl rfl Try.func26 (by kernel_rfl) rfl #[.slice Ao50 y24019.length co50] rfl (by (try simp only [List.map_toArray, List.map_cons, List.map_nil]); first | done | rfl | (simp only [List.length_drop, List.length_take]; rfl)) ?_; (with_reducible refine (block_Seal.calls kj7 _ _ y24019 t24022 t24023 _ ?side1 ?side2 A24.out).mono ?_); (case side1 => repeat (first | exact (Kd.V_reads' HO24021.out).2.2 | (with_reducible refine Kd.C_alloc ?_ _) | (with_reducible refine Kd.C_drewN ?_ _) | (with_reducible refine Kd.C_drew ?_))); (case side2 => exact (Kd.V_reads' HO24021.out).2.1); rintro e w51 ⟨v24024, rfl, ho0, hb⟩; refine ⟨_, rfl, ?_⟩; have n0_ := Aside0.mk (Kd.R_elder' (by (with_reducible repeat (first | apply Kd.R_alloc | apply Kd.R_drewN | apply Kd.R_drew)); exact HO24009.out) (Kd.R_base ho0) hb); have n1_ := Aside0.mk (Kd.R_elder' (by (with_reducible repeat (first | apply Kd.R_alloc | apply Kd.R_drewN | apply Kd.R_drew)); exact HO24012.out) (Kd.R_base ho0) hb); have n2_ := Aside0.mk (Kd.V_elder' (by (with_reducible repeat (first | apply Kd.V_alloc | apply Kd.V_drewN | apply Kd.V_drew)); exact HO24017.out) (Kd.R_base ho0) hb); have n3_ := Aside0.mk (Kd.V_elder' (by (with_reducible repeat (first | apply Kd.V_alloc | apply Kd.V_drewN | apply Kd.V_drew)); exact HO24021.out) (Kd.R_base ho0) hb); have n4_ := Aside0.mk (Kd.R_lower (Kd.R_new' (Kd.R_new' ho0 (Kd.R_lt (by (with_reducible repeat (first | apply Kd.R_alloc | apply Kd.R_drewN | apply Kd.R_drew)); exact HO24009.out))) (Kd.R_lt (by (with_reducible repeat (first | apply Kd.R_alloc | apply Kd.R_drewN | apply Kd.R_drew)); exact HO24012.out))) (below_size (by repeat (first | (with_reducible first | exact HB.out | apply below_alloc | apply pw_below_drewN | apply below_drew1) | exact HB.out)))); have n5_ := Aside0.mk (below_step (by repeat (first | (with_reducible first | exact HB.out | apply below_alloc | apply pw_below_drewN | apply below_drew1) | exact HB.out)) hb); clear HO24009; clear HO24012; clear HO24017; clear HO24021; clear HB; have HO24009 := n0_; have HO24012 := n1_; have HO24017 := n2_; have HO24021 := n3_; have HO24025 := n4_; have HB := n5_; clear n0_ n1_ n2_ n3_ n4_ n5_; (try clear hb); (try clear hb2); (try clear hk); (try clear hi); (try clear ho0)) | ((with_reducible refine gate_callee (f := 25) rfl ?_); refine goesL_ (some 70) rfl rfl Try.func25 (by kernel_rfl) rfl #[.string a0] rfl (by (try simp only [List.map_toArray, List.map_cons, List.map_nil]); first | done | rfl | (simp only [List.length_drop, List.length_take]; rfl)) ?_; (with_reducible refine (columbariumlaw6_few.calls a0 t24026 _ A25.out).mono ?_); rintro e w' ⟨rfl, ⟨nd, rfl⟩⟩; refine ⟨_, rfl, ?_⟩) | ((with_reducible refine gate_dst (N := 71) rfl ?_); refine pw_tobytes (w0 := w) w.heap.size rfl (.tmp 70) 24 9 5 rfl Try.underlying24 Try.underlying9 Try.underlying5 t24026 rfl (fun k_ => some k_ ≠ (.slice Ao45 y24007.length co45 : Value).ownBlock ∧ some k_ ≠ (.slice Ao48 t24010.length co48 : Value).ownBlock ∧ some k_ ≠ (v24024 : Value).ownBlock) ?aN ?aF ?aB ?aS ?_; (case aN => exact of_decide_eq_true (by first | (with_reducible assumption) | assumption)); (case aB => exact (by repeat (first | (with_reducible first | exact HB.out | apply below_alloc | apply pw_below_drewN | apply below_drew1) | exact HB.out))); (case aF => exact (fun k_ hk => ⟨Kd.fresh' (Kd.R_lt (by (with_reducible repeat (first | apply Kd.R_alloc | apply Kd.R_drewN | apply Kd.R_drew)); exact HO24009.out)) k_ hk, Kd.fresh' (Kd.R_lt (by (with_reducible repeat (first | apply Kd.R_alloc | apply Kd.R_drewN | apply Kd.R_drew)); exact HO24012.out)) k_ hk, Kd.fresh' (Kd.R_lt (by (with_reducible repeat (first | apply Kd.R_alloc | apply Kd.R_drewN | apply Kd.R_drew)); exact HO24025.out)) k_ hk⟩)); (case aS => exact (below_size (by repeat (first | (with_reducible first | exact HB.out | apply below_alloc | apply pw_below_drewN | apply below_drew1) | exact HB.out)))); intro v24028 w52 ho hb hg hat; rw [← Ny24027.out] at ho; have n0_ := Aside0.mk (Kd.R_grown (by (with_reducible repeat (first | apply Kd.R_alloc | apply Kd.R_drewN | apply Kd.R_drew)); exact HO24009.out) hg (fun _ _ => by simp [Value.ownBlock])); have n1_ := Aside0.mk (Kd.R_grown (by (with_reducible repeat (first | apply Kd.R_alloc | apply Kd.R_drewN | apply Kd.R_drew)); exact HO24012.out) hg (fun _ _ => by simp [Value.ownBlock])); have n2_ := Aside0.mk (Kd.V_grown (by (with_reducible repeat (first | apply Kd.V_alloc | apply Kd.V_drewN | apply Kd.V_drew)); exact HO24017.out) hg (fun _ _ => by simp [Value.ownBlock])); have n3_ := Aside0.mk (Kd.V_grown (by (with_reducible repeat (first | apply Kd.V_alloc | apply Kd.V_drewN | apply Kd.V_drew)); exact HO24021.out) hg (fun _ _ => by simp [Value.ownBlock])); have n4_ := Aside0.mk (Kd.R_grown (by (with_reducible repeat (first | apply Kd.R_alloc | apply Kd.R_drewN | apply Kd.R_drew)); exact HO24025.out) hg (fun _ _ => by simp [Value.ownBlock])); have n5_ := Aside0.mk (hb); have n6_ := Aside0.mk (ho); clear HO24009; clear HO24012; clear HO24017; clear HO24021; clear HO24025; clear HB; have HO24009 := n0_; have HO24012 := n1_; have HO24017 := n2_; have HO24021 := n3_; have HO24025 := n4_; have HB := n5_; have HO24029 := n6_; clear n0_ n1_ n2_ n3_ n4_ n5_ n6_; clear ho hb hg hat; obtain ⟨Ao53, co53, eo53⟩ := Kd.V_slice HO24029.out; subst eo53) | ((with_reducible refine gate_callee (f := 31) rfl ?_); refine goesL_ (some 72) rfl rfl Try.func31 (by kernel_rfl) rfl #[.slice Ao53 y24027.length co53] rfl (by (try simp only [List.map_toArray, List.map_cons, List.map_nil]); first | done | rfl | (simp only [List.length_drop, List.length_take]; rfl)) ?_; (with_reducible refine (columbariumref6_Seal.calls kj7 _ _ y24027 t24030 t24031 _ ?side1 ?side2 A27.out).mono ?_); (case side1 => repeat (first | exact (Kd.V_reads' HO24029.out).2.2 | (with_reducible refine Kd.C_alloc ?_ _) | (with_reducible refine Kd.C_drewN ?_ _) | (with_reducible refine Kd.C_drew ?_))); (case side2 => exact (Kd.V_reads' HO24029.out).2.1); rintro e w54 ⟨v24032, rfl, ho0, hb⟩; refine ⟨_, rfl, ?_⟩; have n0_ := Aside0.mk (Kd.R_elder' (by (with_reducible repeat (first | apply Kd.R_alloc | apply Kd.R_drewN | apply Kd.R_drew)); exact HO24009.out) (Kd.R_base ho0) hb); have n1_ := Aside0.mk (Kd.R_elder' (by (with_reducible repeat (first | apply Kd.R_alloc | apply Kd.R_drewN | apply Kd.R_drew)); exact HO24012.out) (Kd.R_base ho0) hb); have n2_ := Aside0.mk (Kd.V_elder' (by (with_reducible repeat (first | apply Kd.V_alloc | apply Kd.V_drewN | apply Kd.V_drew)); exact HO24017.out) (Kd.R_base ho0) hb); have n3_ := Aside0.mk (Kd.V_elder' (by (with_reducible repeat (first | apply Kd.V_alloc | apply Kd.V_drewN | apply Kd.V_drew)); exact HO24021.out) (Kd.R_base ho0) hb); have n4_ := Aside0.mk (Kd.R_elder' (by (with_reducible repeat (first | apply Kd.R_alloc | apply Kd.R_drewN | apply Kd.R_drew)); exact HO24025.out) (Kd.R_base ho0) hb); have n5_ := Aside0.mk (Kd.V_elder' (by (with_reducible repeat (first | apply Kd.V_alloc | apply Kd.V_drewN | apply Kd.V_drew)); exact HO24029.out) (Kd.R_base ho0) hb); have n6_ := Aside0.mk (Kd.R_lower (Kd.R_new' (Kd.R_new' (Kd.R_new' ho0 (Kd.R_lt (by (with_reducible repeat (first | apply Kd.R_alloc | apply Kd.R_drewN | apply Kd.R_drew)); exact HO24009.out))) (Kd.R_lt (by (with_reducible repeat (first | apply Kd.R_alloc | apply Kd.R_drewN | apply Kd.R_drew)); exact HO24012.out))) (Kd.R_lt (by (with_reducible repeat (first | apply Kd.R_alloc | apply Kd.R_drewN | apply Kd.R_drew)); exact HO24025.out))) (below_size (by repeat (first | (with_reducible first | exact HB.out | apply below_alloc | apply pw_below_drewN | apply below_drew1) | exact HB.out)))); have n7_ := Aside0.mk (below_step (by repeat (first | (with_reducible first | exact HB.out | apply below_alloc | apply pw_below_drewN | apply below_drew1) | exact HB.out)) hb); clear HO24009; clear HO24012; clear HO24017; clear HO24021; clear HO24025; clear HO24029; clear HB; have HO24009 := n0_; have HO24012 := n1_; have HO24017 := n2_; have HO24021 := n3_; have HO24025 := n4_; have HO24029 := n5_; have HO24033 := n6_; have HB := n7_; clear n0_ n1_ n2_ n3_ n4_ n5_ n6_ n7_; (try clear hb); (try clear hb2); (try clear hk); (try clear hi); (try clear ho0)) | ((with_reducible refine gate_callee (f := 28) rfl ?_); refine goesL_ (some 78) rfl rfl Try.func28 (by kernel_rfl) rfl #[.slice Ao48 y24013.length co48, .int .i64 a5] rfl (by (try simp only [List.map_toArray, List.map_cons, List.map_nil]); first | done | rfl | (simp only [List.length_drop, List.length_take]; rfl)) ?_; (with_reducible refine (block_Open.calls kj7 _ _ y24013 a5 t24034 t24035 t24036 _ ?side1 ?side2 A28.out).mono ?_); (case side1 => repeat (first | exact (Kd.V_reads' HO24017.out).2.2 | (with_reducible refine Kd.C_alloc ?_ _) | (with_reducible refine Kd.C_drewN ?_ _) | (with_reducible refine Kd.C_drew ?_))); (case side2 => exact (Kd.V_reads' HO24017.out).2.1); rintro e w55 ⟨v24037, rfl, ho0, hb⟩; refine ⟨_, rfl, ?_⟩; have n0_ := Aside0.mk (Kd.R_elder' (by (with_reducible repeat (first | apply Kd.R_alloc | apply Kd.R_drewN | apply Kd.R_drew)); exact HO24009.out) (Kd.R_base ho0) hb); have n1_ := Aside0.mk (Kd.R_elder' (by (with_reducible repeat (first | apply Kd.R_alloc | apply Kd.R_drewN | apply Kd.R_drew)); exact HO24012.out) (Kd.R_base ho0) hb); have n2_ := Aside0.mk (Kd.V_elder' (by (with_reducible repeat (first | apply Kd.V_alloc | apply Kd.V_drewN | apply Kd.V_drew)); exact HO24017.out) (Kd.R_base ho0) hb); have n3_ := Aside0.mk (Kd.V_elder' (by (with_reducible repeat (first | apply Kd.V_alloc | apply Kd.V_drewN | apply Kd.V_drew)); exact HO24021.out) (Kd.R_base ho0) hb); have n4_ := Aside0.mk (Kd.R_elder' (by (with_reducible repeat (first | apply Kd.R_alloc | apply Kd.R_drewN | apply Kd.R_drew)); exact HO24025.out) (Kd.R_base ho0) hb); have n5_ := Aside0.mk (Kd.V_elder' (by (with_reducible repeat (first | apply Kd.V_alloc | apply Kd.V_drewN | apply Kd.V_drew)); exact HO24029.out) (Kd.R_base ho0) hb); have n6_ := Aside0.mk (Kd.R_elder' (by (with_reducible repeat (first | apply Kd.R_alloc | apply Kd.R_drewN | apply Kd.R_drew)); exact HO24033.out) (Kd.R_base ho0) hb); have n7_ := Aside0.mk (Kd.R_lower (Kd.R_new' (Kd.R_new' (Kd.R_new' (Kd.R_new' ho0 (Kd.R_lt (by (with_reducible repeat (first | apply Kd.R_alloc | apply Kd.R_drewN | apply Kd.R_drew)); exact HO24009.out))) (Kd.R_lt (by (with_reducible repeat (first | apply Kd.R_alloc | apply Kd.R_drewN | apply Kd.R_drew)); exact HO24012.out))) (Kd.R_lt (by (with_reducible repeat (first | apply Kd.R_alloc | apply Kd.R_drewN | apply Kd.R_drew)); exact HO24025.out))) (Kd.R_lt (by (with_reducible repeat (first | apply Kd.R_alloc | apply Kd.R_drewN | apply Kd.R_drew)); exact HO24033.out))) (below_size (by repeat (first | (with_reducible first | exact HB.out | apply below_alloc | apply pw_below_drewN | apply below_drew1) | exact HB.out)))); have n8_ := Aside0.mk (below_step (by repeat (first | (with_reducible first | exact HB.out | apply below_alloc | apply pw_below_drewN | apply below_drew1) | exact HB.out)) hb); clear HO24009; clear HO24012; clear HO24017; clear HO24021; clear HO24025; clear HO24029; clear HO24033; clear HB; have HO24009 := n0_; have HO24012 := n1_; have HO24017 := n2_; have HO24021 := n3_; have HO24025 := n4_; have HO24029 := n5_; have HO24033 := n6_; have HO24038 := n7_; have HB := n8_; clear n0_ n1_ n2_ n3_ n4_ n5_ n6_ n7_ n8_; (try clear hb); (try clear hb2); (try clear hk); (try clear hi); (try clear ho0)) | ((with_reducible refine gate_callee (f := 32) rfl ?_); refine goesL_ (some 85) rfl rfl Try.func32 (by kernel_rfl) rfl #[.slice Ao45 y24007.length co45, .int .i64 a5] rfl (by (try simp only [List.map_toArray, List.map_cons, List.map_nil]); first | done | rfl | (simp only [List.length_drop, List.length_take]; rfl)) ?_; (with_reducible refine (columbariumref6_Open.calls kj7 _ _ y24007 a5 t24039 t24040 t24041 _ ?side1 ?side2 A29.out).mono ?_); (case side1 => repeat (first | exact (Kd.R_reads' HO24009.out).2.2 | (with_reducible refine Kd.C_alloc ?_ _) | (with_reducible refine Kd.C_drewN ?_ _) | (with_reducible refine Kd.C_drew ?_))); (case side2 => exact (Kd.R_reads' HO24009.out).2.1); rintro e w56 ⟨v24042, rfl, ho0, hb⟩; refine ⟨_, rfl, ?_⟩; have n0_ := Aside0.mk (Kd.R_elder' (by (with_reducible repeat (first | apply Kd.R_alloc | apply Kd.R_drewN | apply Kd.R_drew)); exact HO24009.out) (Kd.R_base ho0) hb); have n1_ := Aside0.mk (Kd.R_elder' (by (with_reducible repeat (first | apply Kd.R_alloc | apply Kd.R_drewN | apply Kd.R_drew)); exact HO24012.out) (Kd.R_base ho0) hb); have n2_ := Aside0.mk (Kd.V_elder' (by (with_reducible repeat (first | apply Kd.V_alloc | apply Kd.V_drewN | apply Kd.V_drew)); exact HO24017.out) (Kd.R_base ho0) hb); have n3_ := Aside0.mk (Kd.V_elder' (by (with_reducible repeat (first | apply Kd.V_alloc | apply Kd.V_drewN | apply Kd.V_drew)); exact HO24021.out) (Kd.R_base ho0) hb); have n4_ := Aside0.mk (Kd.R_elder' (by (with_reducible repeat (first | apply Kd.R_alloc | apply Kd.R_drewN | apply Kd.R_drew)); exact HO24025.out) (Kd.R_base ho0) hb); have n5_ := Aside0.mk (Kd.V_elder' (by (with_reducible repeat (first | apply Kd.V_alloc | apply Kd.V_drewN | apply Kd.V_drew)); exact HO24029.out) (Kd.R_base ho0) hb); have n6_ := Aside0.mk (Kd.R_elder' (by (with_reducible repeat (first | apply Kd.R_alloc | apply Kd.R_drewN | apply Kd.R_drew)); exact HO24033.out) (Kd.R_base ho0) hb); have n7_ := Aside0.mk (Kd.R_elder' (by (with_reducible repeat (first | apply Kd.R_alloc | apply Kd.R_drewN | apply Kd.R_drew)); exact HO24038.out) (Kd.R_base ho0) hb); have n8_ := Aside0.mk (Kd.R_lower (Kd.R_new' (Kd.R_new' (Kd.R_new' (Kd.R_new' (Kd.R_new' ho0 (Kd.R_lt (by (with_reducible repeat (first | apply Kd.R_alloc | apply Kd.R_drewN | apply Kd.R_drew)); exact HO24009.out))) (Kd.R_lt (by (with_reducible repeat (first | apply Kd.R_alloc | apply Kd.R_drewN | apply Kd.R_drew)); exact HO24012.out))) (Kd.R_lt (by (with_reducible repeat (first | apply Kd.R_alloc | apply Kd.R_drewN | apply Kd.R_drew)); exact HO24025.out))) (Kd.R_lt (by (with_reducible repeat (first | apply Kd.R_alloc | apply Kd.R_drewN | apply Kd.R_drew)); exact HO24033.out))) (Kd.R_lt (by (with_reducible repeat (first | apply Kd.R_alloc | apply Kd.R_drewN | apply Kd.R_drew)); exact HO24038.out))) (below_size (by repeat (first | (with_reducible first | exact HB.out | apply below_alloc | apply pw_below_drewN | apply below_drew1) | exact HB.out)))); have n9_ := Aside0.mk (below_step (by repeat (first | (with_reducible first | exact HB.out | apply below_alloc | apply pw_below_drewN | apply below_drew1) | exact HB.out)) hb); clear HO24009; clear HO24012; clear HO24017; clear HO24021; clear HO24025; clear HO24029; clear HO24033; clear HO24038; clear HB; have HO24009 := n0_; have HO24012 := n1_; have HO24017 := n2_; have HO24021 := n3_; have HO24025 := n4_; have HO24029 := n5_; have HO24033 := n6_; have HO24038 := n7_; have HO24043 := n8_; have HB := n9_; clear n0_ n1_ n2_ n3_ n4_ n5_ n6_ n7_ n8_ n9_; (try clear hb); (try clear hb2); (try clear hk); (try clear hi); (try clear ho0)) | ((with_reducible refine gate_callee (f := 29) rfl ?_); refine goesL_ (some 91) rfl rfl Try.func29 (by kernel_rfl) rfl #[.slice Ao48 y24013.length co48] rfl (by (try simp only [List.map_toArray, List.map_cons, List.map_nil]); first | done | rfl | (simp only [List.length_drop, List.length_take]; rfl)) ?_; (with_reducible refine (block_All.calls kj7 _ _ y24013 t24044 t24047 t24048 _ ?side1 ?side2 A30.out).mono ?_); (case side1 => repeat (first | exact (Kd.V_reads' HO24017.out).2.2 | (with_reducible refine Kd.C_alloc ?_ _) | (with_reducible refine Kd.C_drewN ?_ _) | (with_reducible refine Kd.C_drew ?_))); (case side2 => exact (Kd.V_reads' HO24017.out).2.1); rintro e w57 ⟨v24045, rfl, ho0, hb⟩; refine ⟨_, rfl, ?_⟩; have n0_ := Aside0.mk (Kd.R_below (by (with_reducible repeat (first | apply Kd.R_alloc | apply Kd.R_drewN | apply Kd.R_drew)); exact HO24009.out) hb); have n1_ := Aside0.mk (Kd.R_below (by (with_reducible repeat (first | apply Kd.R_alloc | apply Kd.R_drewN | apply Kd.R_drew)); exact HO24012.out) hb); have n2_ := Aside0.mk (Kd.V_elder' (by (with_reducible repeat (first | apply Kd.V_alloc | apply Kd.V_drewN | apply Kd.V_drew)); exact HO24017.out) (Kd.N_base ho0) hb); have n3_ := Aside0.mk (Kd.V_elder' (by (with_reducible repeat (first | apply Kd.V_alloc | apply Kd.V_drewN | apply Kd.V_drew)); exact HO24021.out) (Kd.N_base ho0) hb); have n4_ := Aside0.mk (Kd.R_below (by (with_reducible repeat (first | apply Kd.R_alloc | apply Kd.R_drewN | apply Kd.R_drew)); exact HO24025.out) hb); have n5_ := Aside0.mk (Kd.V_elder' (by (with_reducible repeat (first | apply Kd.V_alloc | apply Kd.V_drewN | apply Kd.V_drew)); exact HO24029.out) (Kd.N_base ho0) hb); have n6_ := Aside0.mk (Kd.R_below (by (with_reducible repeat (first | apply Kd.R_alloc | apply Kd.R_drewN | apply Kd.R_drew)); exact HO24033.out) hb); have n7_ := Aside0.mk (Kd.R_below (by (with_reducible repeat (first | apply Kd.R_alloc | apply Kd.R_drewN | apply Kd.R_drew)); exact HO24038.out) hb); have n8_ := Aside0.mk (Kd.R_below (by (with_reducible repeat (first | apply Kd.R_alloc | apply Kd.R_drewN | apply Kd.R_drew)); exact HO24043.out) hb); have n9_ := Aside0.mk (Kd.N_lower (Kd.N_mono (ok' := fun k_ => some k_ ≠ (.slice Ao45 y24007.length co45 : Value).ownBlock ∧ some k_ ≠ (.slice Ao48 t24010.length co48 : Value).ownBlock ∧ some k_ ≠ (v24024 : Value).ownBlock ∧ some k_ ≠ (v24032 : Value).ownBlock ∧ some k_ ≠ (v24037 : Value).ownBlock ∧ some k_ ≠ (v24042 : Value).ownBlock) ho0 (fun k_ hk_ => ⟨(Kd.fresh' (Kd.R_lt (by (with_reducible repeat (first | apply Kd.R_alloc | apply Kd.R_drewN | apply Kd.R_drew)); exact HO24009.out)) k_ hk_), (Kd.fresh' (Kd.R_lt (by (with_reducible repeat (first | apply Kd.R_alloc | apply Kd.R_drewN | apply Kd.R_drew)); exact HO24012.out)) k_ hk_), (Kd.fresh' (Kd.R_lt (by (with_reducible repeat (first | apply Kd.R_alloc | apply Kd.R_drewN | apply Kd.R_drew)); exact HO24025.out)) k_ hk_), (Kd.fresh' (Kd.R_lt (by (with_reducible repeat (first | apply Kd.R_alloc | apply Kd.R_drewN | apply Kd.R_drew)); exact HO24033.out)) k_ hk_), (Kd.fresh' (Kd.R_lt (by (with_reducible repeat (first | apply Kd.R_alloc | apply Kd.R_drewN | apply Kd.R_drew)); exact HO24038.out)) k_ hk_), (Kd.fresh' (Kd.R_lt (by (with_reducible repeat (first | apply Kd.R_alloc | apply Kd.R_drewN | apply Kd.R_drew)); exact HO24043.out)) k_ hk_)⟩)) (below_size (by repeat (first | (with_reducible first | exact HB.out | apply below_alloc | apply pw_below_drewN | apply below_drew1) | exact HB.out)))); have n10_ := Aside0.mk (below_step (by repeat (first | (with_reducible first | exact HB.out | apply below_alloc | apply pw_below_drewN | apply below_drew1) | exact HB.out)) hb); clear HO24009; clear HO24012; clear HO24017; clear HO24021; clear HO24025; clear HO24029; clear HO24033; clear HO24038; clear HO24043; clear HB; have HO24009 := n0_; have HO24012 := n1_; have HO24017 := n2_; have HO24021 := n3_; have HO24025 := n4_; have HO24029 := n5_; have HO24033 := n6_; have HO24038 := n7_; have HO24043 := n8_; have HO24046 := n9_; have HB := n10_; clear n0_ n1_ n2_ n3_ n4_ n5_ n6_ n7_ n8_ n9_ n10_; (try clear hb); (try clear hb2); (try clear hk); (try clear hi); (try clear ho0)) | ((with_reducible refine gate_callee (f := 33) rfl ?_); refine goesL_ (some 97) rfl rfl Try.func33 (by kernel_rfl) rfl #[.slice Ao45 y24007.length co45] rfl (by (try simp only [List.map_toArray, List.map_cons, List.map_nil]); first | done | rfl | (simp only [List.length_drop, List.length_take]; rfl)) ?_; (with_reducible refine (columbariumref6_All.calls kj7 _ _ y24007 t24049 t24052 t24053 _ ?side1 ?side2 A31.out).mono ?_); (case side1 => repeat (first | exact (Kd.R_reads' HO24009.out).2.2 | (with_reducible refine Kd.C_alloc ?_ _) | (with_reducible refine Kd.C_drewN ?_ _) | (with_reducible refine Kd.C_drew ?_))); (case side2 => exact (Kd.R_reads' HO24009.out).2.1); rintro e w58 ⟨v24050, rfl, ho0, hb⟩; refine ⟨_, rfl, ?_⟩; have n0_ := Aside0.mk (Kd.R_below (by (with_reducible repeat (first | apply Kd.R_alloc | apply Kd.R_drewN | apply Kd.R_drew)); exact HO24009.out) hb); have n1_ := Aside0.mk (Kd.R_below (by (with_reducible repeat (first | apply Kd.R_alloc | apply Kd.R_drewN | apply Kd.R_drew)); exact HO24012.out) hb); have n2_ := Aside0.mk (Kd.V_elder' (by (with_reducible repeat (first | apply Kd.V_alloc | apply Kd.V_drewN | apply Kd.V_drew)); exact HO24017.out) (Kd.N_base ho0) hb); have n3_ := Aside0.mk (Kd.V_elder' (by (with_reducible repeat (first | apply Kd.V_alloc | apply Kd.V_drewN | apply Kd.V_drew)); exact HO24021.out) (Kd.N_base ho0) hb); have n4_ := Aside0.mk (Kd.R_below (by (with_reducible repeat (first | apply Kd.R_alloc | apply Kd.R_drewN | apply Kd.R_drew)); exact HO24025.out) hb); have n5_ := Aside0.mk (Kd.V_elder' (by (with_reducible repeat (first | apply Kd.V_alloc | apply Kd.V_drewN | apply Kd.V_drew)); exact HO24029.out) (Kd.N_base ho0) hb); have n6_ := Aside0.mk (Kd.R_below (by (with_reducible repeat (first | apply Kd.R_alloc | apply Kd.R_drewN | apply Kd.R_drew)); exact HO24033.out) hb); have n7_ := Aside0.mk (Kd.R_below (by (with_reducible repeat (first | apply Kd.R_alloc | apply Kd.R_drewN | apply Kd.R_drew)); exact HO24038.out) hb); have n8_ := Aside0.mk (Kd.R_below (by (with_reducible repeat (first | apply Kd.R_alloc | apply Kd.R_drewN | apply Kd.R_drew)); exact HO24043.out) hb); have n9_ := Aside0.mk (Kd.N_elder' (by (with_reducible repeat (first | apply Kd.N_alloc | apply Kd.N_drewN | apply Kd.N_drew)); exact HO24046.out) (Kd.N_base ho0) hb); have n10_ := Aside0.mk (Kd.N_lower (Kd.N_mono (ok' := fun k_ => some k_ ≠ (.slice Ao45 y24007.length co45 : Value).ownBlock ∧ some k_ ≠ (.slice Ao48 t24010.length co48 : Value).ownBlock ∧ some k_ ≠ (v24024 : Value).ownBlock ∧ some k_ ≠ (v24032 : Value).ownBlock ∧ some k_ ≠ (v24037 : Value).ownBlock ∧ some k_ ≠ (v24042 : Value).ownBlock ∧ some k_ ≠ (v24045 : Value).ownBlock) ho0 (fun k_ hk_ => ⟨(Kd.fresh' (Kd.R_lt (by (with_reducible repeat (first | apply Kd.R_alloc | apply Kd.R_drewN | apply Kd.R_drew)); exact HO24009.out)) k_ hk_), (Kd.fresh' (Kd.R_lt (by (with_reducible repeat (first | apply Kd.R_alloc | apply Kd.R_drewN | apply Kd.R_drew)); exact HO24012.out)) k_ hk_), (Kd.fresh' (Kd.R_lt (by (with_reducible repeat (first | apply Kd.R_alloc | apply Kd.R_drewN | apply Kd.R_drew)); exact HO24025.out)) k_ hk_), (Kd.fresh' (Kd.R_lt (by (with_reducible repeat (first | apply Kd.R_alloc | apply Kd.R_drewN | apply Kd.R_drew)); exact HO24033.out)) k_ hk_), (Kd.fresh' (Kd.R_lt (by (with_reducible repeat (first | apply Kd.R_alloc | apply Kd.R_drewN | apply Kd.R_drew)); exact HO24038.out)) k_ hk_), (Kd.fresh' (Kd.R_lt (by (with_reducible repeat (first | apply Kd.R_alloc | apply Kd.R_drewN | apply Kd.R_drew)); exact HO24043.out)) k_ hk_), (Kd.fresh' (Kd.N_lt (by (with_reducible repeat (first | apply Kd.N_alloc | apply Kd.N_drewN | apply Kd.N_drew)); exact HO24046.out)) k_ hk_)⟩)) (below_size (by repeat (first | (with_reducible first | exact HB.out | apply below_alloc | apply pw_below_drewN | apply below_drew1) | exact HB.out)))); have n11_ := Aside0.mk (below_step (by repeat (first | (with_reducible first | exact HB.out | apply below_alloc | apply pw_below_drewN | apply below_drew1) | exact HB.out)) hb); clear HO24009; clear HO24012; clear HO24017; clear HO24021; clear HO24025; clear HO24029; clear HO24033; clear HO24038; clear HO24043; clear HO24046; clear HB; have HO24009 := n0_; have HO24012 := n1_; have HO24017 := n2_; have HO24021 := n3_; have HO24025 := n4_; have HO24029 := n5_; have HO24033 := n6_; have HO24038 := n7_; have HO24043 := n8_; have HO24046 := n9_; have HO24051 := n10_; have HB := n11_; clear n0_ n1_ n2_ n3_ n4_ n5_ n6_ n7_ n8_ n9_ n10_ n11_; (try clear hb); (try clear hb2); (try clear hk); (try clear hi); (try clear ho0); have hcv59 := own_string (P := Try.prog) Try.underlying24 Try.underlying5 Try.underlying9 (Kd.own_of_R HO24025.out); have hcv60 := own_string (P := Try.prog) Try.underlying24 Try.underlying5 Try.underlying9 (Kd.own_of_R HO24033.out); have hcv61 := own_string (P := Try.prog) Try.underlying24 Try.underlying5 Try.underlying9 (Kd.own_of_R HO24038.out); have hcv62 := own_string (P := Try.prog) Try.underlying24 Try.underlying5 Try.underlying9 (Kd.own_of_R HO24043.out); obtain ⟨Ao63, co63, eo63⟩ := Kd.N_slice HO24046.out; subst eo63; obtain ⟨Ao64, co64, eo64⟩ := Kd.N_slice HO24051.out; subst eo64) | (go_at_call 34; (with_reducible refine (columbariumlaw6_alike.calls kj7 _ _ t24044 _ _ t24049 true _ ?side1 ?side2 ?side3 ?side4 A37.out).mono ?_); (case side1 => repeat (first | exact (Kd.N_reads' HO24046.out).2.2 | (with_reducible refine Kd.C_alloc ?_ _) | (with_reducible refine Kd.C_drewN ?_ _) | (with_reducible refine Kd.C_drew ?_))); (case side2 => exact (Kd.N_reads' HO24046.out).2.1); (case side3 => repeat (first | exact (Kd.N_reads' HO24051.out).2.2 | (with_reducible refine Kd.C_alloc ?_ _) | (with_reducible refine Kd.C_drewN ?_ _) | (with_reducible refine Kd.C_drew ?_))); (case side4 => exact (Kd.N_reads' HO24051.out).2.1); rintro e w' ⟨rfl, ⟨nd, rfl⟩⟩) | (go_at_call 24; (with_reducible refine (columbariumbook_Intact_byte.calls kj7 _ _ t24010 _ _ y24007 165 true _ ?side1 ?side2 ?side3 ?side4 A41.out).mono ?_); (case side1 => repeat (first | exact (Kd.R_reads' HO24012.out).2.2 | (with_reducible refine Kd.C_alloc ?_ _) | (with_reducible refine Kd.C_drewN ?_ _) | (with_reducible refine Kd.C_drew ?_))); (case side2 => exact (Kd.R_reads' HO24012.out).2.1); (case side3 => repeat (first | exact (Kd.R_reads' HO24009.out).2.2 | (with_reducible refine Kd.C_alloc ?_ _) | (with_reducible refine Kd.C_drewN ?_ _) | (with_reducible refine Kd.C_drew ?_))); (case side4 => exact (Kd.R_reads' HO24009.out).2.1); rintro e w' ⟨rfl, ⟨nd, rfl⟩⟩) | (go_at_call 27; (with_reducible refine (columbariumlaw6_known.calls kj7  t24056 _ A43.out).mono ?_); rintro e w65 ⟨rfl, hb⟩; have n0_ := Aside0.mk (Kd.R_below (by (with_reducible repeat (first | apply Kd.R_alloc | apply Kd.R_drewN | apply Kd.R_drew)); exact HO24009.out) hb); have n1_ := Aside0.mk (Kd.R_below (by (with_reducible repeat (first | apply Kd.R_alloc | apply Kd.R_drewN | apply Kd.R_drew)); exact HO24012.out) hb); have n2_ := Aside0.mk (Kd.V_below (by (with_reducible repeat (first | apply Kd.V_alloc | apply Kd.V_drewN | apply Kd.V_drew)); exact HO24017.out) hb); have n3_ := Aside0.mk (Kd.V_below (by (with_reducible repeat (first | apply Kd.V_alloc | apply Kd.V_drewN | apply Kd.V_drew)); exact HO24021.out) hb); have n4_ := Aside0.mk (Kd.R_below (by (with_reducible repeat (first | apply Kd.R_alloc | apply Kd.R_drewN | apply Kd.R_drew)); exact HO24025.out) hb); have n5_ := Aside0.mk (Kd.V_below (by (with_reducible repeat (first | apply Kd.V_alloc | apply Kd.V_drewN | apply Kd.V_drew)); exact HO24029.out) hb); have n6_ := Aside0.mk (Kd.R_below (by (with_reducible repeat (first | apply Kd.R_alloc | apply Kd.R_drewN | apply Kd.R_drew)); exact HO24033.out) hb); have n7_ := Aside0.mk (Kd.R_below (by (with_reducible repeat (first | apply Kd.R_alloc | apply Kd.R_drewN | apply Kd.R_drew)); exact HO24038.out) hb); have n8_ := Aside0.mk (Kd.R_below (by (with_reducible repeat (first | apply Kd.R_alloc | apply Kd.R_drewN | apply Kd.R_drew)); exact HO24043.out) hb); have n9_ := Aside0.mk (Kd.N_below (by (with_reducible repeat (first | apply Kd.N_alloc | apply Kd.N_drewN | apply Kd.N_drew)); exact HO24046.out) hb); have n10_ := Aside0.mk (Kd.N_below (by (with_reducible repeat (first | apply Kd.N_alloc | apply Kd.N_drewN | apply Kd.N_drew)); exact HO24051.out) hb); have n11_ := Aside0.mk (below_step (by repeat (first | (with_reducible first | exact HB.out | apply below_alloc | apply pw_below_drewN | apply below_drew1) | exact HB.out)) hb); clear HO24009; clear HO24012; clear HO24017; clear HO24021; clear HO24025; clear HO24029; clear HO24033; clear HO24038; clear HO24043; clear HO24046; clear HO24051; clear HB; have HO24009 := n0_; have HO24012 := n1_; have HO24017 := n2_; have HO24021 := n3_; have HO24025 := n4_; have HO24029 := n5_; have HO24033 := n6_; have HO24038 := n7_; have HO24043 := n8_; have HO24046 := n9_; have HO24051 := n10_; have HB := n11_; clear n0_ n1_ n2_ n3_ n4_ n5_ n6_ n7_ n8_ n9_ n10_ n11_; (try clear hb); (try clear hb2); (try clear hk); (try clear hi)))
                                  go_ret
                                  exact ⟨by first | rfl | (simp [errW_none, errW_some] <;> rfl) | (simp [*, errW_none, errW_some] <;> rfl), by repeat (first | (with_reducible first | exact HB.out | apply below_alloc | apply pw_below_drewN | apply below_drew1) | exact HB.out)⟩
                                · replace c42 := Bool.eq_false_iff.mpr c42
                                  subst c42
                                  have H1 : (some false) = some r := by rw [if_neg (show ¬ (false = true) by decide)] at H; exact H
                                  clear H
                                  have H := H1
                                  clear H1
                                  exact absurd ((Option.some.inj H).trans hr_.out) (by decide)
                              · rw [if_neg c40] at H
                                have c40b0 : (t24048 == t24053) = false := beq_eq_false_iff_ne.mpr c40
                                have c40b1 : (t24048 != t24053) = true := bne_iff_ne.mpr c40
                                exact absurd ((Option.some.inj H).trans hr_.out) (by decide)
                            · rw [if_neg c39] at H
                              have c39b0 : (t24047 == t24052) = false := beq_eq_false_iff_ne.mpr c39
                              have c39b1 : (t24047 != t24052) = true := bne_iff_ne.mpr c39
                              exact absurd ((Option.some.inj H).trans hr_.out) (by decide)
                          · replace c38 := Bool.eq_false_iff.mpr c38
                            subst c38
                            have H1 : (some false) = some r := by rw [if_neg (show ¬ (false = true) by decide)] at H; exact H
                            clear H
                            have H := H1
                            clear H1
                            exact absurd ((Option.some.inj H).trans hr_.out) (by decide)
                        · rw [if_neg c36] at H
                          have c36b0 : (t24036 == t24041) = false := beq_eq_false_iff_ne.mpr c36
                          have c36b1 : (t24036 != t24041) = true := bne_iff_ne.mpr c36
                          exact absurd ((Option.some.inj H).trans hr_.out) (by decide)
                      · rw [if_neg c35] at H
                        have c35b0 : (t24035 == t24040) = false := beq_eq_false_iff_ne.mpr c35
                        have c35b1 : (t24035 != t24040) = true := bne_iff_ne.mpr c35
                        exact absurd ((Option.some.inj H).trans hr_.out) (by decide)
                    · rw [if_neg c34] at H
                      have c34b0 : ((strOfNums t24034).toList == (strOfNums t24039).toList) = false := beq_eq_false_iff_ne.mpr c34
                      have c34b1 : ((strOfNums t24034).toList != (strOfNums t24039).toList) = true := bne_iff_ne.mpr c34
                      exact absurd ((Option.some.inj H).trans hr_.out) (by decide)
                  · rw [if_neg c33] at H
                    have c33b0 : (t24023 == t24031) = false := beq_eq_false_iff_ne.mpr c33
                    have c33b1 : (t24023 != t24031) = true := bne_iff_ne.mpr c33
                    exact absurd ((Option.some.inj H).trans hr_.out) (by decide)
                · rw [if_neg c32] at H
                  have c32b0 : ((strOfNums t24022).toList == (strOfNums t24030).toList) = false := beq_eq_false_iff_ne.mpr c32
                  have c32b1 : ((strOfNums t24022).toList != (strOfNums t24030).toList) = true := bne_iff_ne.mpr c32
                  exact absurd ((Option.some.inj H).trans hr_.out) (by decide)
              · rw [if_neg c26] at H
                exact absurd H (by simp)
            · rw [if_neg c23] at H
              exact absurd H (by simp)
          · rw [if_neg c21] at H
            exact absurd H (by simp)
        · rw [if_neg c20] at H
          exact absurd H (by simp)
      · rw [if_neg c18] at H
        exact absurd H (by simp)

/-- THE ONE PURE STATEMENT of columbariumlaw6_BlockTells: yours. -/
def columbariumlaw6_BlockTells.Pure : Prop := ∀ (a0 : ByteArray) (l1 : List ByteArray) (l2 : List Int) (a3 : Int) (a4 : Int) (a5 : Int), a0.size ≤ 140737488351232 → l1.length * 16 ≤ 140737488351232 → (∀ x ∈ l1, x.size ≤ maxLen) → l2.length ≤ maxLen → l2.length * 1 ≤ 140737488351232 → (∀ x ∈ l2, (Lit.int .u8 x).wf = true) → (Lit.int .i64 a3).wf = true → (Lit.int .u8 a4).wf = true → (Lit.int .i64 a5).wf = true → ∃ k, columbariumlaw6_BlockTells.f k a0 l1 l2 a3 a4 a5 = some true
theorem columbariumlaw6_BlockTells.walk (P : columbariumlaw6_BlockTells.Pure) (a0 : ByteArray) (a1 : Option Addr) (len1 cap1 : Nat) (z1 : List ByteArray) (a2 : Option Addr) (len2 cap2 : Nat) (z2 : List Int) (a3 : Int) (a4 : Int) (a5 : Int) (w : World) (w0 : a0.size ≤ 140737488351232) (w1 : z1.length = len1 ∧ len1 ≤ cap1 ∧ Kd.string.C w a1 len1 z1 ∧ ∀ x ∈ z1, x.size ≤ maxLen) (y1 : len1 * 16 ≤ 140737488351232) (w2 : (a2 = none ∧ len2 = 0 ∧ cap2 = 0 ∧ z2 = []) ∨ ∃ x, a2 = some x ∧ len2 ≤ cap2 ∧ cap2 ≤ maxLen ∧ z2.length = cap2 ∧ (∀ i, i < z2.length → w.cell? (x.add i) = some (.int .u8 (z2.getD i 0))) ∧ ∀ n ∈ z2, (Lit.int .u8 n).wf = true) (y2 : len2 * 1 ≤ 140737488351232) (w3 : (Lit.int .i64 a3).wf = true) (w4 : (Lit.int .u8 a4).wf = true) (w5 : (Lit.int .i64 a5).wf = true) :
    Calls Try.prog 11 #[.string a0, .slice a1 len1 cap1, .slice a2 len2 cap2, .int .i64 a3, .int .u8 a4, .int .i64 a5] w fun e w' => e = .returned (.bool true) ∧ Below w.heap.size w w' := by
  obtain ⟨rfl, hc1, hr1, hw1⟩ := w1
  obtain ⟨l2, rfl, hr2, hm2, hw2, hc2⟩ := ReadsInt.ofRowC w2
  obtain ⟨k, h⟩ := P a0 z1 l2 a3 a4 a5 w0 y1 hw1 hm2 y2 hw2 w3 w4 w5
  refine (columbariumlaw6_BlockTells.calls k a0 _ _ z1 _ _ l2 a3 a4 a5 true w hr1 hc1 (Kd.C_of_reads (d := (0 : Int)) (h1 := fun _ => rfl) hr2) hc2 h ⟨rfl⟩).mono ?_
  rintro e w' ⟨rfl, hd⟩
  exact ⟨rfl, hd⟩

end Go.Proofs.Ytfgceanepgjfiaa.PS
