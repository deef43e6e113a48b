-- Written by a program of this session, out of the translation; Lean checks it.
import Derived.Test.YtfgceanepgjfiaaPSx0
import Derived.Test.YtfgceanepgjfiaaPScolumbariumbookWithin
import Derived.Test.YtfgceanepgjfiaaPScolumbariumlaw6few
import Derived.Test.YtfgceanepgjfiaaPSblockSeal
import Derived.Test.YtfgceanepgjfiaaPScolumbariumlaw6known
import Derived.Test.YtfgceanepgjfiaaPSblockAll
namespace Go.Proofs.Ytfgceanepgjfiaa.PS
open Go.RowKit Go.Proofs.YtfgceanepgjfiaaW.PrintWords Go.Proofs.YtfgceanepgjfiaaW.PrintLast Go.Proofs.YtfgceanepgjfiaaW.PrintMore
attribute [local go_sem] pw_us8 pw_us32 pw_us64 max2_int min2_int max_two min_two max_three min_three max_four min_four   -- for this text's walks alone
set_option linter.unusedVariables false
set_option linter.unusedSimpArgs false

/-! ### columbariumlaw6_BlockBack: function 12 -/
mutual
def columbariumlaw6_BlockBack.j1 : Nat → List ByteArray → Int → Int → List Int → List Int → Option (Bool)
  | 0, _, _, _, _, _ => none
  | k + 1, x0, x1, x2, x7, x8 => (block_All.f k x7).bind fun bt811 => (if (bt811.1.length : Int) = (x8.length : Int) then (if bt811.2.1 = (x7.length : Int) then (if bt811.2.2 = 0 then (columbariumlaw6_BlockBack.l1 k x0 x1 x2 x7 x8 bt811.1 0) else (some false)) else (some false)) else (some false))
def columbariumlaw6_BlockBack.l1 : Nat → List ByteArray → Int → Int → List Int → List Int → List (List Int) → Int → Option (Bool)
  | 0, _, _, _, _, _, _, _ => none
  | k + 1, x0, x1, x2, x7, x8, x12, x15 => if x15 < (x12.length : Int) then (if 0 ≤ x15 then (if x15 < (x0.length : Int) then ((columbariumlaw6_few.f (rdOf ByteArray.empty x0 x15)).bind fun t818 => (if (strOfNums (rd_L2 x12 x15)).toList = t818.toList then (columbariumlaw6_BlockBack.l1 k x0 x1 x2 x7 x8 x12 (wrap64 (x15 + 1))) else (some false))) else (none)) else (none)) else (if (x7.length : Int) = 0 then ((columbariumlaw6_known.f k).bind fun t819 => (some t819)) else (if x2 = 0 then ((columbariumlaw6_known.f k).bind fun t820 => (some t820)) else ((columbariumbook_Within.f x1 0 (wrap64 ((x7.length : Int) - 1))).bind fun t821 => (if 0 ≤ t821 then (if t821 < (x7.length : Int) then (columbariumlaw6_BlockBack.l2 k x0 (x7.set (t821 : Int).toNat (Go.bits .xor .u8 (rd x7 t821) x2)) x8 t821 0) else (none)) else (none)))))
def columbariumlaw6_BlockBack.j4 : Nat → List ByteArray → List Int → List Int → Int → Option (Bool)
  | 0, _, _, _, _ => none
  | k + 1, x0, x7, x8, x17 => (block_All.f k x7).bind fun bt825 => (if (bt825.1.length : Int) = x17 then (if bt825.2.2 = 0 then (some false) else (if x17 > 0 then (if 0 ≤ (wrap64 (x17 - 1)) then (if (wrap64 (x17 - 1)) < (x8.length : Int) then (if bt825.2.1 = (rd x8 (wrap64 (x17 - 1))) then (if x17 = 0 then (if bt825.2.1 = 0 then (columbariumlaw6_BlockBack.l3 k x0 x17 bt825.1 0) else (some false)) else (columbariumlaw6_BlockBack.l3 k x0 x17 bt825.1 0)) else (some false)) else (none)) else (none)) else (if x17 = 0 then (if bt825.2.1 = 0 then (columbariumlaw6_BlockBack.l3 k x0 x17 bt825.1 0) else (some false)) else (columbariumlaw6_BlockBack.l3 k x0 x17 bt825.1 0)))) else (some false))
def columbariumlaw6_BlockBack.l3 : Nat → List ByteArray → Int → List (List Int) → Int → Option (Bool)
  | 0, _, _, _, _ => none
  | k + 1, x0, x17, x18, x21 => if x21 < x17 then (if 0 ≤ x21 then (if x21 < (x18.length : Int) then (if x21 < (x0.length : Int) then ((columbariumlaw6_few.f (rdOf ByteArray.empty x0 x21)).bind fun t833 => (if (strOfNums (rd_L2 x18 x21)).toList = t833.toList then (columbariumlaw6_BlockBack.l3 k x0 x17 x18 (wrap64 (x21 + 1))) else (some false))) else (none)) else (none)) else (none)) else ((columbariumlaw6_known.f k).bind fun t834 => (some t834))
def columbariumlaw6_BlockBack.l2 : Nat → List ByteArray → List Int → List Int → Int → Int → Option (Bool)
  | 0, _, _, _, _, _ => none
  | k + 1, x0, x7, x8, x16, x17 => if x17 < (x8.length : Int) then (if 0 ≤ x17 then (if (rd x8 x17) ≤ x16 then (columbariumlaw6_BlockBack.l2 k x0 x7 x8 x16 (wrap64 (x17 + 1))) else (columbariumlaw6_BlockBack.j4 k x0 x7 x8 x17)) else (none)) else (columbariumlaw6_BlockBack.j4 k x0 x7 x8 x17)
def columbariumlaw6_BlockBack.l0 : Nat → List ByteArray → Int → Int → List Int → List Int → Int → Option (Bool)
  | 0, _, _, _, _, _, _ => none
  | k + 1, x0, x1, x2, x7, x8, x9 => if x9 < (x0.length : Int) then (if x9 < 10 then (if 0 ≤ x9 then ((columbariumlaw6_few.f (rdOf ByteArray.empty x0 x9)).bind fun t797 => (if t797.size ≤ 9223372036854775807 then ((block_Seal.f k (bytesOf t797)).bind fun bt801 => (if bt801.2 = 0 then (if x7.length + bt801.1.length < 140737488355328 then ((some (x7 ++ bt801.1 : List Int)).bind fun y805 => (if x8.length < 17592186044416 then (columbariumlaw6_BlockBack.l0 k x0 x1 x2 y805 (x8 ++ [(y805.length : Int)]) (wrap64 (x9 + 1))) else (none))) else (none)) else (some false))) else (none))) else (none)) else (columbariumlaw6_BlockBack.j1 k x0 x1 x2 x7 x8)) else (columbariumlaw6_BlockBack.j1 k x0 x1 x2 x7 x8)
end
def columbariumlaw6_BlockBack.f (k : Nat) (l0 : List ByteArray) (a1 : Int) (a2 : Int) : Option (Bool) := columbariumlaw6_BlockBack.l0 k l0 a1 a2 ([] : List Int) ([] : List Int) 0
theorem columbariumlaw6_BlockBack.mono_l : ∀ k, (∀ y0 y1 y2 y3 y4, LeO (columbariumlaw6_BlockBack.j1 k y0 y1 y2 y3 y4) (columbariumlaw6_BlockBack.j1 (k + 1) y0 y1 y2 y3 y4)) ∧ (∀ y0 y1 y2 y3 y4 y5 y6, LeO (columbariumlaw6_BlockBack.l1 k y0 y1 y2 y3 y4 y5 y6) (columbariumlaw6_BlockBack.l1 (k + 1) y0 y1 y2 y3 y4 y5 y6)) ∧ (∀ y0 y1 y2 y3, LeO (columbariumlaw6_BlockBack.j4 k y0 y1 y2 y3) (columbariumlaw6_BlockBack.j4 (k + 1) y0 y1 y2 y3)) ∧ (∀ y0 y1 y2 y3, LeO (columbariumlaw6_BlockBack.l3 k y0 y1 y2 y3) (columbariumlaw6_BlockBack.l3 (k + 1) y0 y1 y2 y3)) ∧ (∀ y0 y1 y2 y3 y4, LeO (columbariumlaw6_BlockBack.l2 k y0 y1 y2 y3 y4) (columbariumlaw6_BlockBack.l2 (k + 1) y0 y1 y2 y3 y4)) ∧ (∀ y0 y1 y2 y3 y4 y5, LeO (columbariumlaw6_BlockBack.l0 k y0 y1 y2 y3 y4 y5) (columbariumlaw6_BlockBack.l0 (k + 1) y0 y1 y2 y3 y4 y5))
  | 0 => ⟨fun _ _ _ _ _ r h => by simp [columbariumlaw6_BlockBack.j1] at h, fun _ _ _ _ _ _ _ r h => by simp [columbariumlaw6_BlockBack.l1] at h, fun _ _ _ _ r h => by simp [columbariumlaw6_BlockBack.j4] at h, fun _ _ _ _ r h => by simp [columbariumlaw6_BlockBack.l3] at h, fun _ _ _ _ _ r h => by simp [columbariumlaw6_BlockBack.l2] at h, fun _ _ _ _ _ _ r h => by simp [columbariumlaw6_BlockBack.l0] at h⟩
  | k + 1 => by
    obtain ⟨ih0, ih1, ih2, ih3, ih4, ih5⟩ := columbariumlaw6_BlockBack.mono_l k
    refine ⟨?_, ?_, ?_, ?_, ?_, ?_⟩
    · intro y0 y1 y2 y3 y4
      unfold columbariumlaw6_BlockBack.j1
      repeat' first
      | (with_reducible exact ih0 _ _ _ _ _)
      | (with_reducible exact ih1 _ _ _ _ _ _ _)
      | (with_reducible exact ih2 _ _ _ _)
      | (with_reducible exact ih3 _ _ _ _)
      | (with_reducible exact ih4 _ _ _ _ _)
      | (with_reducible exact ih5 _ _ _ _ _ _)
      | (with_reducible exact block_All.mono _ _)
      | (with_reducible exact block_Seal.mono _ _)
      | (with_reducible exact columbariumlaw6_known.mono _)
      | (with_reducible exact LeO.refl _)
      | (with_reducible exact LeO.none _)
      | (with_reducible refine LeO.ite ?_ ?_)
      | (with_reducible refine LeO.bind ?_ (fun _ => ?_))
      | exact ih0 _ _ _ _ _
      | exact ih1 _ _ _ _ _ _ _
      | exact ih2 _ _ _ _
      | exact ih3 _ _ _ _
      | exact ih4 _ _ _ _ _
      | exact ih5 _ _ _ _ _ _
      | exact block_All.mono _ _
      | exact block_Seal.mono _ _
      | exact columbariumlaw6_known.mono _
      | exact LeO.none _
      | refine LeO.ite ?_ ?_
      | refine LeO.bind ?_ (fun _ => ?_)
    · intro y0 y1 y2 y3 y4 y5 y6
      unfold columbariumlaw6_BlockBack.l1
      repeat' first
      | (with_reducible exact ih0 _ _ _ _ _)
      | (with_reducible exact ih1 _ _ _ _ _ _ _)
      | (with_reducible exact ih2 _ _ _ _)
      | (with_reducible exact ih3 _ _ _ _)
      | (with_reducible exact ih4 _ _ _ _ _)
      | (with_reducible exact ih5 _ _ _ _ _ _)
      | (with_reducible exact block_All.mono _ _)
      | (with_reducible exact block_Seal.mono _ _)
      | (with_reducible exact columbariumlaw6_known.mono _)
      | (with_reducible exact LeO.refl _)
      | (with_reducible exact LeO.none _)
      | (with_reducible refine LeO.ite ?_ ?_)
      | (with_reducible refine LeO.bind ?_ (fun _ => ?_))
      | exact ih0 _ _ _ _ _
      | exact ih1 _ _ _ _ _ _ _
      | exact ih2 _ _ _ _
      | exact ih3 _ _ _ _
      | exact ih4 _ _ _ _ _
      | exact ih5 _ _ _ _ _ _
      | exact block_All.mono _ _
      | exact block_Seal.mono _ _
      | exact columbariumlaw6_known.mono _
      | exact LeO.none _
      | refine LeO.ite ?_ ?_
      | refine LeO.bind ?_ (fun _ => ?_)
    · intro y0 y1 y2 y3
      unfold columbariumlaw6_BlockBack.j4
      repeat' first
      | (with_reducible exact ih0 _ _ _ _ _)
      | (with_reducible exact ih1 _ _ _ _ _ _ _)
      | (with_reducible exact ih2 _ _ _ _)
      | (with_reducible exact ih3 _ _ _ _)
      | (with_reducible exact ih4 _ _ _ _ _)
      | (with_reducible exact ih5 _ _ _ _ _ _)
      | (with_reducible exact block_All.mono _ _)
      | (with_reducible exact block_Seal.mono _ _)
      | (with_reducible exact columbariumlaw6_known.mono _)
      | (with_reducible exact LeO.refl _)
      | (with_reducible exact LeO.none _)
      | (with_reducible refine LeO.ite ?_ ?_)
      | (with_reducible refine LeO.bind ?_ (fun _ => ?_))
      | exact ih0 _ _ _ _ _
      | exact ih1 _ _ _ _ _ _ _
      | exact ih2 _ _ _ _
      | exact ih3 _ _ _ _
      | exact ih4 _ _ _ _ _
      | exact ih5 _ _ _ _ _ _
      | exact block_All.mono _ _
      | exact block_Seal.mono _ _
      | exact columbariumlaw6_known.mono _
      | exact LeO.none _
      | refine LeO.ite ?_ ?_
      | refine LeO.bind ?_ (fun _ => ?_)
    · intro y0 y1 y2 y3
      unfold columbariumlaw6_BlockBack.l3
      repeat' first
      | (with_reducible exact ih0 _ _ _ _ _)
      | (with_reducible exact ih1 _ _ _ _ _ _ _)
      | (with_reducible exact ih2 _ _ _ _)
      | (with_reducible exact ih3 _ _ _ _)
      | (with_reducible exact ih4 _ _ _ _ _)
      | (with_reducible exact ih5 _ _ _ _ _ _)
      | (with_reducible exact block_All.mono _ _)
      | (with_reducible exact block_Seal.mono _ _)
      | (with_reducible exact columbariumlaw6_known.mono _)
      | (with_reducible exact LeO.refl _)
      | (with_reducible exact LeO.none _)
      | (with_reducible refine LeO.ite ?_ ?_)
      | (with_reducible refine LeO.bind ?_ (fun _ => ?_))
      | exact ih0 _ _ _ _ _
      | exact ih1 _ _ _ _ _ _ _
      | exact ih2 _ _ _ _
      | exact ih3 _ _ _ _
      | exact ih4 _ _ _ _ _
      | exact ih5 _ _ _ _ _ _
      | exact block_All.mono _ _
      | exact block_Seal.mono _ _
      | exact columbariumlaw6_known.mono _
      | exact LeO.none _
      | refine LeO.ite ?_ ?_
      | refine LeO.bind ?_ (fun _ => ?_)
    · intro y0 y1 y2 y3 y4
      unfold columbariumlaw6_BlockBack.l2
      repeat' first
      | (with_reducible exact ih0 _ _ _ _ _)
      | (with_reducible exact ih1 _ _ _ _ _ _ _)
      | (with_reducible exact ih2 _ _ _ _)
      | (with_reducible exact ih3 _ _ _ _)
      | (with_reducible exact ih4 _ _ _ _ _)
      | (with_reducible exact ih5 _ _ _ _ _ _)
      | (with_reducible exact block_All.mono _ _)
      | (with_reducible exact block_Seal.mono _ _)
      | (with_reducible exact columbariumlaw6_known.mono _)
      | (with_reducible exact LeO.refl _)
      | (with_reducible exact LeO.none _)
      | (with_reducible refine LeO.ite ?_ ?_)
      | (with_reducible refine LeO.bind ?_ (fun _ => ?_))
      | exact ih0 _ _ _ _ _
      | exact ih1 _ _ _ _ _ _ _
      | exact ih2 _ _ _ _
      | exact ih3 _ _ _ _
      | exact ih4 _ _ _ _ _
      | exact ih5 _ _ _ _ _ _
      | exact block_All.mono _ _
      | exact block_Seal.mono _ _
      | exact columbariumlaw6_known.mono _
      | exact LeO.none _
      | refine LeO.ite ?_ ?_
      | refine LeO.bind ?_ (fun _ => ?_)
    · intro y0 y1 y2 y3 y4 y5
      unfold columbariumlaw6_BlockBack.l0
      repeat' first
      | (with_reducible exact ih0 _ _ _ _ _)
      | (with_reducible exact ih1 _ _ _ _ _ _ _)
      | (with_reducible exact ih2 _ _ _ _)
      | (with_reducible exact ih3 _ _ _ _)
      | (with_reducible exact ih4 _ _ _ _ _)
      | (with_reducible exact ih5 _ _ _ _ _ _)
      | (with_reducible exact block_All.mono _ _)
      | (with_reducible exact block_Seal.mono _ _)
      | (with_reducible exact columbariumlaw6_known.mono _)
      | (with_reducible exact LeO.refl _)
      | (with_reducible exact LeO.none _)
      | (with_reducible refine LeO.ite ?_ ?_)
      | (with_reducible refine LeO.bind ?_ (fun _ => ?_))
      | exact ih0 _ _ _ _ _
      | exact ih1 _ _ _ _ _ _ _
      | exact ih2 _ _ _ _
      | exact ih3 _ _ _ _
      | exact ih4 _ _ _ _ _
      | exact ih5 _ _ _ _ _ _
      | exact block_All.mono _ _
      | exact block_Seal.mono _ _
      | exact columbariumlaw6_known.mono _
      | exact LeO.none _
      | refine LeO.ite ?_ ?_
      | refine LeO.bind ?_ (fun _ => ?_)
theorem columbariumlaw6_BlockBack.mono : ∀ a0 a1 a2 k, LeO (columbariumlaw6_BlockBack.f k a0 a1 a2) (columbariumlaw6_BlockBack.f (k + 1) a0 a1 a2) := by
  intro a0 a1 a2 k
  obtain ⟨ih0, ih1, ih2, ih3, ih4, ih5⟩ := columbariumlaw6_BlockBack.mono_l k
  unfold columbariumlaw6_BlockBack.f
  repeat' first
      | (with_reducible exact ih0 _ _ _ _ _)
      | (with_reducible exact ih1 _ _ _ _ _ _ _)
      | (with_reducible exact ih2 _ _ _ _)
      | (with_reducible exact ih3 _ _ _ _)
      | (with_reducible exact ih4 _ _ _ _ _)
      | (with_reducible exact ih5 _ _ _ _ _ _)
      | (with_reducible exact block_All.mono _ _)
      | (with_reducible exact block_Seal.mono _ _)
      | (with_reducible exact columbariumlaw6_known.mono _)
      | (with_reducible exact LeO.refl _)
      | (with_reducible exact LeO.none _)
      | (with_reducible refine LeO.ite ?_ ?_)
      | (with_reducible refine LeO.bind ?_ (fun _ => ?_))
      | exact ih0 _ _ _ _ _
      | exact ih1 _ _ _ _ _ _ _
      | exact ih2 _ _ _ _
      | exact ih3 _ _ _ _
      | exact ih4 _ _ _ _ _
      | exact ih5 _ _ _ _ _ _
      | exact block_All.mono _ _
      | exact block_Seal.mono _ _
      | exact columbariumlaw6_known.mono _
      | exact LeO.none _
      | refine LeO.ite ?_ ?_
      | refine LeO.bind ?_ (fun _ => ?_)
set_option maxHeartbeats 8000000 in
set_option maxRecDepth 100000 in
theorem columbariumlaw6_BlockBack.calls (k : Nat) (A0 : Option Addr) (c0 : Nat) (l0 : List ByteArray) (a1 : Int) (a2 : Int) (r : Bool) (w : World) (hr0 : Kd.C Kd.string w A0 l0.length l0) (hc0 : l0.length ≤ c0) (h : columbariumlaw6_BlockBack.f k l0 a1 a2 = some r) (hr_ : Aside0 (r = true)) :
    Calls Try.prog 12 #[.slice A0 l0.length c0, .int .i64 a1, .int .u8 a2] w fun e w' => e = .returned (.bool r) ∧ Below w.heap.size w w' := by
  have HR0 := Aside0.mk hr0
  have HC0 := Aside0.mk hc0
  clear hr0 hc0
  have HB := Aside0.mk (Below.refl w.heap.size w)
  have H : (columbariumlaw6_BlockBack.l0 k l0 a1 a2 ([] : List Int) ([] : List Int) 0) = some r := h
  clear h
  have HC4 := Aside0.mk H
  clear H
  go_enter Try.func12, Try.ntmps12
  go_upto_block 0 with (fail)
  repeat (go_quiet (fail); go_upto_block 0 with (fail))
  go_cut [7, 8] (fun v7 v8 wc => ∃ (kq : Nat) (x7_3 : List Int) (x8_3 : List Int), Aside0 (columbariumlaw6_BlockBack.j1 kq l0 a1 a2 x7_3 x8_3 = some r) ∧ Aside0 (kq ≤ k) ∧ Aside0 (Kd.R (Kd.int .u8) 5 wc w.heap.size (fun _ => True) v7 x7_3) ∧ Aside0 (Kd.R (Kd.int .i64) 3 wc w.heap.size (fun _ => True) v8 x8_3) ∧ Aside0 (Below w.heap.size w wc))
  case first =>
    have H := HC4.out
    clear HC4
    have H' := Aside0.mk H
    clear H
    go_wp2
    repeat (go_quiet (fail); try go_wp2)
    go_loopg [7, 8, 9] k (fun kq v7 v8 v9 w' => ∃ (x7_1 : List Int) (x8_1 : List Int) (x9_1 : Int), v9 = .int .i64 x9_1 ∧ Aside0 (columbariumlaw6_BlockBack.l0 kq l0 a1 a2 x7_1 x8_1 x9_1 = some r) ∧ Aside0 (kq ≤ k) ∧ Aside0 (Kd.R (Kd.int .u8) 5 w' w.heap.size (fun _ => True) v7 x7_1) ∧ Aside0 (Kd.R (Kd.int .i64) 3 w' w.heap.size (fun _ => True) v8 x8_1) ∧ Aside0 (Below w.heap.size w w'))
    case atStart => exact ⟨(([] : List Int)), (([] : List Int)), (0), (by first | rfl | (simp; done) | (simp [*]; done) | (refine congrArg (Value.int .i64) ?_; (try simp only [decide_eq_true_eq, decide_eq_false_iff_not] at *) <;> (unfold wrap64; omega))), H', ⟨Nat.le_refl _⟩, ⟨by first | exact Kd.R_nil _ _ _ _ _ | exact Kd.N_nil _ _ _ _ _ | exact Kd.V_nil _ _ _ _ _ | exact Kd.Q_nil _ _ _ _ _ | exact Kd.S_nil _ _ _ _ _⟩, ⟨by first | exact Kd.R_nil _ _ _ _ _ | exact Kd.N_nil _ _ _ _ _ | exact Kd.V_nil _ _ _ _ _ | exact Kd.Q_nil _ _ _ _ _ | exact Kd.S_nil _ _ _ _ _⟩, ⟨by repeat (first | (with_reducible first | exact HB.out | apply below_alloc | apply pw_below_drewN | apply below_drew1) | exact HB.out)⟩⟩
    case round =>
      clear H'
      try clear c1
      try clear p2
      obtain ⟨x7_1, x8_1, x9_1, rfl, HA, HK1, HO_7, HO_8, HB⟩ := hrel
      cases gk with
      | zero => exact absurd HA.out (by simp [columbariumlaw6_BlockBack.l0])
      | succ k1 =>
        have H := HA.out
        clear HA
        simp only [columbariumlaw6_BlockBack.l0] at H
        by_cases c5 : x9_1 < (l0.length : Int)
        · rw [if_pos c5] at H
          have c5b0 : decide (x9_1 < (l0.length : Int)) = true := decide_eq_true c5
          clear c5
          (first | rw [c5b0] | (simp only [i64_w, i32_w]; rw [c5b0]) | rw [c5b1] | skip)
          by_cases c6 : x9_1 < 10
          · rw [if_pos c6] at H
            have c6b0 : decide (x9_1 < 10) = true := decide_eq_true c6
            clear c6
            by_cases c7 : 0 ≤ x9_1
            · rw [if_pos c7] at H
              have c7b0 : decide (0 ≤ x9_1) = true := decide_eq_true c7
              clear c7
              replace H := Option.bind_eq_some_iff.mp H
              obtain ⟨t797, A80, H⟩ := H
              replace H : (if t797.size ≤ 9223372036854775807 then ((block_Seal.f k1 (bytesOf t797)).bind fun bt801 => (if bt801.2 = 0 then (if x7_1.length + bt801.1.length < 140737488355328 then ((some (x7_1 ++ bt801.1 : List Int)).bind fun y805 => (if x8_1.length < 17592186044416 then (columbariumlaw6_BlockBack.l0 k1 l0 a1 a2 y805 (x8_1 ++ [(y805.length : Int)]) (wrap64 (x9_1 + 1))) else (none))) else (none)) else (some false))) else (none)) = some r := H
              have A8 := Aside0.mk A80
              clear A80
              by_cases c9 : t797.size ≤ 9223372036854775807
              · rw [if_pos c9] at H
                have c9b0 := eq_true c9
                have c9b1 : decide (t797.size ≤ 9223372036854775807) = true := decide_eq_true c9
                try have c9b2 : (9223372036854775807 < t797.size) = False := eq_false (Nat.not_lt.2 c9)
                clear c9
                obtain ⟨y798, hy798⟩ : ∃ y_ : List Int, y_ = (bytesOf t797) := ⟨_, rfl⟩
                replace H : ((block_Seal.f k1 y798).bind fun bt801 => (if bt801.2 = 0 then (if x7_1.length + bt801.1.length < 140737488355328 then ((some (x7_1 ++ bt801.1 : List Int)).bind fun y805 => (if x8_1.length < 17592186044416 then (columbariumlaw6_BlockBack.l0 k1 l0 a1 a2 y805 (x8_1 ++ [(y805.length : Int)]) (wrap64 (x9_1 + 1))) else (none))) else (none)) else (some false))) = some r := by first | (rw [hy798]; with_reducible exact H) | (have H2_ := (Option.bind_some _ _).symm.trans H; rw [hy798]; with_reducible exact H2_) | (have H2_ := (Option.bind_some _ _).symm.trans H; with_reducible exact H2_) | with_reducible exact H | (rw [hy798]; exact H) | exact H
                have Ny798 := Aside0.mk hy798
                clear hy798
                replace H := Option.bind_eq_some_iff.mp H
                obtain ⟨⟨t801, t802⟩, A100, H⟩ := H
                replace H : (if t802 = 0 then (if x7_1.length + t801.length < 140737488355328 then ((some (x7_1 ++ t801 : List Int)).bind fun y805 => (if x8_1.length < 17592186044416 then (columbariumlaw6_BlockBack.l0 k1 l0 a1 a2 y805 (x8_1 ++ [(y805.length : Int)]) (wrap64 (x9_1 + 1))) else (none))) else (none)) else (some false)) = some r := H
                have A10 := Aside0.mk A100
                clear A100
                by_cases c11 : t802 = 0
                · rw [if_pos c11] at H
                  have c11b0 : (t802 == 0) = true := beq_iff_eq.mpr c11
                  have c11b1 : (t802 != 0) = false := bne_eq_false_iff_eq.mpr c11
                  clear c11
                  by_cases c12 : x7_1.length + t801.length < 140737488355328
                  · rw [if_pos c12] at H
                    have LMc12 := Aside0.mk c12
                    clear c12
                    obtain ⟨y805, hy805⟩ : ∃ y_ : List Int, y_ = (x7_1 ++ t801) := ⟨_, rfl⟩
                    replace H : (if x8_1.length < 17592186044416 then (columbariumlaw6_BlockBack.l0 k1 l0 a1 a2 y805 (x8_1 ++ [(y805.length : Int)]) (wrap64 (x9_1 + 1))) else (none)) = some r := by first | (rw [hy805]; with_reducible exact H) | (have H2_ := (Option.bind_some _ _).symm.trans H; rw [hy805]; with_reducible exact H2_) | (have H2_ := (Option.bind_some _ _).symm.trans H; with_reducible exact H2_) | with_reducible exact H | (rw [hy805]; exact H) | exact H
                    have Ny805 := Aside0.mk hy805
                    clear hy805
                    by_cases c13 : x8_1.length < 17592186044416
                    · rw [if_pos c13] at H
                      have LMc13 := Aside0.mk c13
                      clear c13
                      obtain ⟨y808, hy808⟩ : ∃ y_ : List Int, y_ = (x8_1 ++ [(y805.length : Int)]) := ⟨_, rfl⟩
                      replace H : (columbariumlaw6_BlockBack.l0 k1 l0 a1 a2 y805 y808 (wrap64 (x9_1 + 1))) = some r := by first | (rw [hy808]; with_reducible exact H) | (have H2_ := (Option.bind_some _ _).symm.trans H; rw [hy808]; with_reducible exact H2_) | (have H2_ := (Option.bind_some _ _).symm.trans H; with_reducible exact H2_) | with_reducible exact H | (rw [hy808]; exact H) | exact H
                      have Ny808 := Aside0.mk hy808
                      clear hy808
                      have H' := Aside0.mk H
                      clear H
                      have p796 : 0 ≤ (x9_1 : Int) := of_decide_eq_true (by first | (with_reducible assumption) | assumption)
                      have q796 : x9_1 < (l0.length : Int) := of_decide_eq_true (by first | (with_reducible assumption) | assumption)
                      obtain ⟨ad796, e796, hx796_0⟩ := Kd.at_string HR0.out x9_1 p796 q796
                      cases e796
                      replace hx796_0 := (HB.out.cell (World.block_lt_of_cell? w _ hx796_0)).trans hx796_0
                      replace p796 := eq_true p796
                      replace q796 := eq_true q796
                      go_wp2_with (first | (go_at_call 25; (with_reducible refine (columbariumlaw6_few.calls (rdOf ByteArray.empty l0 x9_1) t797 _ A8.out).mono ?_); rintro e w' ⟨rfl, ⟨nd, rfl⟩⟩; (try first | exact ⟨rfl, _, World.drewN_drewN _ _ _⟩ | exact ⟨rfl, _, Eq.trans (World.drewN_drewN _ _ _) (congrArg (World.drewN _) (Nat.add_assoc _ _ _))⟩)) | ((with_reducible refine gate_dst (N := 38) rfl ?_); (try (refine gate_guard (by rfl) ?_; dsimp only)); refine pw_tobytes (w0 := w) w.heap.size rfl (.tmp 37) 24 9 5 rfl Try.underlying24 Try.underlying9 Try.underlying5 t797 rfl (fun k_ => some k_ ≠ (u7 : Value).ownBlock ∧ some k_ ≠ (u8 : Value).ownBlock) ?aN ?aF ?aB ?aS ?_; (case aN => exact of_decide_eq_true (by first | (with_reducible assumption) | assumption)); (case aB => exact (by repeat (first | (with_reducible first | exact HB.out | apply below_alloc | apply pw_below_drewN | apply below_drew1) | exact HB.out))); (case aF => exact (fun k_ hk => ⟨Kd.fresh' (Kd.R_lt (by (with_reducible repeat (first | apply Kd.R_alloc | apply Kd.R_drewN | apply Kd.R_drew)); exact HO_7.out)) k_ hk, Kd.fresh' (Kd.R_lt (by (with_reducible repeat (first | apply Kd.R_alloc | apply Kd.R_drewN | apply Kd.R_drew)); exact HO_8.out)) k_ hk⟩)); (case aS => exact (below_size (by repeat (first | (with_reducible first | exact HB.out | apply below_alloc | apply pw_below_drewN | apply below_drew1) | exact HB.out)))); intro v799 w14 ho hb hg hat; rw [← Ny798.out] at ho; have n0_ := Aside0.mk (Kd.R_grown (by (with_reducible repeat (first | apply Kd.R_alloc | apply Kd.R_drewN | apply Kd.R_drew)); exact HO_7.out) hg (fun _ _ => by simp [Value.ownBlock])); have n1_ := Aside0.mk (Kd.R_grown (by (with_reducible repeat (first | apply Kd.R_alloc | apply Kd.R_drewN | apply Kd.R_drew)); exact HO_8.out) hg (fun _ _ => by simp [Value.ownBlock])); have n2_ := Aside0.mk (hb); have n3_ := Aside0.mk (ho); clear HO_7; clear HO_8; clear HB; have HO_7 := n0_; have HO_8 := n1_; have HB := n2_; have HO800 := n3_; clear n0_ n1_ n2_ n3_; clear ho hb hg hat; obtain ⟨Ao15, co15, eo15⟩ := Kd.V_slice HO800.out; subst eo15) | (go_at_call 26; (with_reducible refine (block_Seal.calls k1 _ _ y798 t801 t802 _ ?side1 ?side2 A10.out).mono ?_); (case side1 => repeat (first | exact (Kd.V_reads' HO800.out).2.2 | (with_reducible refine Kd.C_alloc ?_ _) | (with_reducible refine Kd.C_drewN ?_ _) | (with_reducible refine Kd.C_drew ?_))); (case side2 => exact (Kd.V_reads' HO800.out).2.1); rintro e w16 ⟨v803, rfl, ho0, hb⟩; have n0_ := Aside0.mk (Kd.R_elder' (by (with_reducible repeat (first | apply Kd.R_alloc | apply Kd.R_drewN | apply Kd.R_drew)); exact HO_7.out) (Kd.R_base ho0) hb); have n1_ := Aside0.mk (Kd.R_below (by (with_reducible repeat (first | apply Kd.R_alloc | apply Kd.R_drewN | apply Kd.R_drew)); exact HO_8.out) hb); have n2_ := Aside0.mk (Kd.V_elder' (by (with_reducible repeat (first | apply Kd.V_alloc | apply Kd.V_drewN | apply Kd.V_drew)); exact HO800.out) (Kd.R_base ho0) hb); have n3_ := Aside0.mk (Kd.R_lower (Kd.R_new' ho0 (Kd.R_lt (by (with_reducible repeat (first | apply Kd.R_alloc | apply Kd.R_drewN | apply Kd.R_drew)); exact HO_7.out))) (below_size (by repeat (first | (with_reducible first | exact HB.out | apply below_alloc | apply pw_below_drewN | apply below_drew1) | exact HB.out)))); have n4_ := Aside0.mk (below_step (by repeat (first | (with_reducible first | exact HB.out | apply below_alloc | apply pw_below_drewN | apply below_drew1) | exact HB.out)) hb); clear HO_7; clear HO_8; clear HO800; clear HB; have HO_7 := n0_; have HO_8 := n1_; have HO800 := n2_; have HO804 := n3_; have HB := n4_; clear n0_ n1_ n2_ n3_ n4_; (try clear hb); (try clear hb2); (try clear hk); (try clear hi); (try clear ho0); obtain ⟨Ao18, co18, eo18⟩ := Kd.R_slice HO804.out; subst eo18) | ((with_reducible refine gate_builtin (b := .append) (xs := #[.tmp 44, .tmp 45]) rfl ?_); (try (refine gate_guard (by rfl) ?_; dsimp only)); at_builtin; refine Kd.R_append_rows (Kd.int .u8) (w0 := w) w.heap.size rfl (.tmp 44) (.tmp 45) 24 5 (.int .u8 0) 1 rfl Try.underlying24 info5 rfl (by decide) (by omega) u7 x7_1 t801 _ _ _ (fun k_ => some k_ ≠ (.slice Ao18 t801.length co18 : Value).ownBlock) (fun _ => False) rfl rfl ?aO ?aR (fun _ _ h => h) (fun _ h => h.elim) ?aF ?aB ?aS ?aL ?_; (case aR => repeat (first | exact (Kd.R_reads' HO804.out).2.2 | (with_reducible refine Kd.C_alloc ?_ _) | (with_reducible refine Kd.C_drewN ?_ _) | (with_reducible refine Kd.C_drew ?_))); (case aB => exact (by repeat (first | (with_reducible first | exact HB.out | apply below_alloc | apply pw_below_drewN | apply below_drew1) | exact HB.out))); (case aF => exact (fun k_ hk => Kd.fresh' (Kd.R_lt (by (with_reducible repeat (first | apply Kd.R_alloc | apply Kd.R_drewN | apply Kd.R_drew)); exact HO804.out)) k_ hk)); (case aO => exact (by (with_reducible repeat (first | apply Kd.R_alloc | apply Kd.R_drewN | apply Kd.R_drew)); exact Kd.R_mono HO_7.out (fun _ hk => hk.2))); (case aS => exact (below_size (by repeat (first | (with_reducible first | exact HB.out | apply below_alloc | apply pw_below_drewN | apply below_drew1) | exact HB.out)))); (case aL => have := LMc12.out; omega); intro v806 w17 ho hb hg hat; rw [← Ny805.out] at ho; have n0_ := Aside0.mk (Kd.R_over' (by (with_reducible repeat (first | apply Kd.R_alloc | apply Kd.R_drewN | apply Kd.R_drew)); exact HO_8.out) (Kd.R_typed (by (with_reducible repeat (first | apply Kd.R_alloc | apply Kd.R_drewN | apply Kd.R_drew)); exact HO_7.out)) (by decide) hg); have n1_ := Aside0.mk (Kd.V_afterv (ok := (fun k_ => some k_ ≠ (u8 : Value).ownBlock ∧ some k_ ≠ (.slice Ao18 t801.length co18 : Value).ownBlock)) (by (with_reducible repeat (first | apply Kd.V_alloc | apply Kd.V_drewN | apply Kd.V_drew)); exact Kd.V_mono HO800.out (fun _ hk => ⟨⟨hk.1.2, hk.2⟩, hk.1.1⟩)) hg hat); have n2_ := Aside0.mk (Kd.R_after (ok := (fun _ => True)) (by (with_reducible repeat (first | apply Kd.R_alloc | apply Kd.R_drewN | apply Kd.R_drew)); exact HO804.out) hg hat); have n3_ := Aside0.mk (hb); have n4_ := Aside0.mk (ho); clear HO_8; clear HO800; clear HO804; clear HB; clear HO_7; have HO_8 := n0_; have HO800 := n1_; have HO804 := n2_; have HB := n3_; have HO807 := n4_; clear n0_ n1_ n2_ n3_ n4_; clear ho hb hg hat; obtain ⟨Ao19, co19, eo19⟩ := Kd.R_slice HO807.out; subst eo19) | ((with_reducible refine gate_builtin (b := .append) (xs := #[.tmp 47, .tmp 50]) rfl ?_); (try (refine gate_guard (by rfl) ?_; dsimp only)); at_builtin; refine Kd.R_append (Kd.int .i64) (w0 := w) w.heap.size rfl (.tmp 47) (.tmp 50) 60 3 (.int .i64 0) 8 rfl Try.underlying60 info3 rfl (by decide) (by omega) u8 x8_1 (y805.length : Int) [.int .i64 (y805.length : Int)] (fun _ => True) (fun _ => False) rfl rfl ?aP (fun _ hk => hk.elim) ?aF ?aO ?aB ?aS ?aL ?_; (case aP => exact rfl); (case aB => exact (by repeat (first | (with_reducible first | exact HB.out | apply below_alloc | apply pw_below_drewN | apply below_drew1) | exact HB.out))); (case aF => exact (fun _ _ => trivial)); (case aO => exact (by (with_reducible repeat (first | apply Kd.R_alloc | apply Kd.R_drewN | apply Kd.R_drew)); exact HO_8.out)); (case aS => exact (below_size (by repeat (first | (with_reducible first | exact HB.out | apply below_alloc | apply pw_below_drewN | apply below_drew1) | exact HB.out)))); (case aL => have := LMc13.out; omega); intro v809 w20 ho hb hg hat; rw [← Ny808.out] at ho; have n0_ := Aside0.mk (Kd.V_afterv (ok := (fun k_ => some k_ ≠ (.slice Ao18 t801.length co18 : Value).ownBlock ∧ some k_ ≠ (.slice Ao19 y805.length co19 : Value).ownBlock)) (by (with_reducible repeat (first | apply Kd.V_alloc | apply Kd.V_drewN | apply Kd.V_drew)); exact Kd.V_mono HO800.out (fun _ hk => ⟨⟨hk.1.2, hk.2⟩, hk.1.1⟩)) hg hat); have n1_ := Aside0.mk (Kd.R_over' (by (with_reducible repeat (first | apply Kd.R_alloc | apply Kd.R_drewN | apply Kd.R_drew)); exact HO804.out) (Kd.R_typed (by (with_reducible repeat (first | apply Kd.R_alloc | apply Kd.R_drewN | apply Kd.R_drew)); exact HO_8.out)) (by decide) hg); have n2_ := Aside0.mk (Kd.R_over' (by (with_reducible repeat (first | apply Kd.R_alloc | apply Kd.R_drewN | apply Kd.R_drew)); exact HO807.out) (Kd.R_typed (by (with_reducible repeat (first | apply Kd.R_alloc | apply Kd.R_drewN | apply Kd.R_drew)); exact HO_8.out)) (by decide) hg); have n3_ := Aside0.mk (hb); have n4_ := Aside0.mk (ho); clear HO800; clear HO804; clear HO807; clear HB; clear HO_8; have HO800 := n0_; have HO804 := n1_; have HO807 := n2_; have HB := n3_; have HO810 := n4_; clear n0_ n1_ n2_ n3_ n4_; clear ho hb hg hat))
                      repeat (go_quiet (first | (go_at_call 25; (with_reducible refine (columbariumlaw6_few.calls (rdOf ByteArray.empty l0 x9_1) t797 _ A8.out).mono ?_); rintro e w' ⟨rfl, ⟨nd, rfl⟩⟩; (try first | exact ⟨rfl, _, World.drewN_drewN _ _ _⟩ | exact ⟨rfl, _, Eq.trans (World.drewN_drewN _ _ _) (congrArg (World.drewN _) (Nat.add_assoc _ _ _))⟩)) | ((with_reducible refine gate_dst (N := 38) rfl ?_); (try (refine gate_guard (by rfl) ?_; dsimp only)); refine pw_tobytes (w0 := w) w.heap.size rfl (.tmp 37) 24 9 5 rfl Try.underlying24 Try.underlying9 Try.underlying5 t797 rfl (fun k_ => some k_ ≠ (u7 : Value).ownBlock ∧ some k_ ≠ (u8 : Value).ownBlock) ?aN ?aF ?aB ?aS ?_; (case aN => exact of_decide_eq_true (by first | (with_reducible assumption) | assumption)); (case aB => exact (by repeat (first | (with_reducible first | exact HB.out | apply below_alloc | apply pw_below_drewN | apply below_drew1) | exact HB.out))); (case aF => exact (fun k_ hk => ⟨Kd.fresh' (Kd.R_lt (by (with_reducible repeat (first | apply Kd.R_alloc | apply Kd.R_drewN | apply Kd.R_drew)); exact HO_7.out)) k_ hk, Kd.fresh' (Kd.R_lt (by (with_reducible repeat (first | apply Kd.R_alloc | apply Kd.R_drewN | apply Kd.R_drew)); exact HO_8.out)) k_ hk⟩)); (case aS => exact (below_size (by repeat (first | (with_reducible first | exact HB.out | apply below_alloc | apply pw_below_drewN | apply below_drew1) | exact HB.out)))); intro v799 w14 ho hb hg hat; rw [← Ny798.out] at ho; have n0_ := Aside0.mk (Kd.R_grown (by (with_reducible repeat (first | apply Kd.R_alloc | apply Kd.R_drewN | apply Kd.R_drew)); exact HO_7.out) hg (fun _ _ => by simp [Value.ownBlock])); have n1_ := Aside0.mk (Kd.R_grown (by (with_reducible repeat (first | apply Kd.R_alloc | apply Kd.R_drewN | apply Kd.R_drew)); exact HO_8.out) hg (fun _ _ => by simp [Value.ownBlock])); have n2_ := Aside0.mk (hb); have n3_ := Aside0.mk (ho); clear HO_7; clear HO_8; clear HB; have HO_7 := n0_; have HO_8 := n1_; have HB := n2_; have HO800 := n3_; clear n0_ n1_ n2_ n3_; clear ho hb hg hat; obtain ⟨Ao15, co15, eo15⟩ := Kd.V_slice HO800.out; subst eo15) | (go_at_call 26; (with_reducible refine (block_Seal.calls k1 _ _ y798 t801 t802 _ ?side1 ?side2 A10.out).mono ?_); (case side1 => repeat (first | exact (Kd.V_reads' HO800.out).2.2 | (with_reducible refine Kd.C_alloc ?_ _) | (with_reducible refine Kd.C_drewN ?_ _) | (with_reducible refine Kd.C_drew ?_))); (case side2 => exact (Kd.V_reads' HO800.out).2.1); rintro e w16 ⟨v803, rfl, ho0, hb⟩; have n0_ := Aside0.mk (Kd.R_elder' (by (with_reducible repeat (first | apply Kd.R_alloc | apply Kd.R_drewN | apply Kd.R_drew)); exact HO_7.out) (Kd.R_base ho0) hb); have n1_ := Aside0.mk (Kd.R_below (by (with_reducible repeat (first | apply Kd.R_alloc | apply Kd.R_drewN | apply Kd.R_drew)); exact HO_8.out) hb); have n2_ := Aside0.mk (Kd.V_elder' (by (with_reducible repeat (first | apply Kd.V_alloc | apply Kd.V_drewN | apply Kd.V_drew)); exact HO800.out) (Kd.R_base ho0) hb); have n3_ := Aside0.mk (Kd.R_lower (Kd.R_new' ho0 (Kd.R_lt (by (with_reducible repeat (first | apply Kd.R_alloc | apply Kd.R_drewN | apply Kd.R_drew)); exact HO_7.out))) (below_size (by repeat (first | (with_reducible first | exact HB.out | apply below_alloc | apply pw_below_drewN | apply below_drew1) | exact HB.out)))); have n4_ := Aside0.mk (below_step (by repeat (first | (with_reducible first | exact HB.out | apply below_alloc | apply pw_below_drewN | apply below_drew1) | exact HB.out)) hb); clear HO_7; clear HO_8; clear HO800; clear HB; have HO_7 := n0_; have HO_8 := n1_; have HO800 := n2_; have HO804 := n3_; have HB := n4_; clear n0_ n1_ n2_ n3_ n4_; (try clear hb); (try clear hb2); (try clear hk); (try clear hi); (try clear ho0); obtain ⟨Ao18, co18, eo18⟩ := Kd.R_slice HO804.out; subst eo18) | ((with_reducible refine gate_builtin (b := .append) (xs := #[.tmp 44, .tmp 45]) rfl ?_); (try (refine gate_guard (by rfl) ?_; dsimp only)); at_builtin; refine Kd.R_append_rows (Kd.int .u8) (w0 := w) w.heap.size rfl (.tmp 44) (.tmp 45) 24 5 (.int .u8 0) 1 rfl Try.underlying24 info5 rfl (by decide) (by omega) u7 x7_1 t801 _ _ _ (fun k_ => some k_ ≠ (.slice Ao18 t801.length co18 : Value).ownBlock) (fun _ => False) rfl rfl ?aO ?aR (fun _ _ h => h) (fun _ h => h.elim) ?aF ?aB ?aS ?aL ?_; (case aR => repeat (first | exact (Kd.R_reads' HO804.out).2.2 | (with_reducible refine Kd.C_alloc ?_ _) | (with_reducible refine Kd.C_drewN ?_ _) | (with_reducible refine Kd.C_drew ?_))); (case aB => exact (by repeat (first | (with_reducible first | exact HB.out | apply below_alloc | apply pw_below_drewN | apply below_drew1) | exact HB.out))); (case aF => exact (fun k_ hk => Kd.fresh' (Kd.R_lt (by (with_reducible repeat (first | apply Kd.R_alloc | apply Kd.R_drewN | apply Kd.R_drew)); exact HO804.out)) k_ hk)); (case aO => exact (by (with_reducible repeat (first | apply Kd.R_alloc | apply Kd.R_drewN | apply Kd.R_drew)); exact Kd.R_mono HO_7.out (fun _ hk => hk.2))); (case aS => exact (below_size (by repeat (first | (with_reducible first | exact HB.out | apply below_alloc | apply pw_below_drewN | apply below_drew1) | exact HB.out)))); (case aL => have := LMc12.out; omega); intro v806 w17 ho hb hg hat; rw [← Ny805.out] at ho; have n0_ := Aside0.mk (Kd.R_over' (by (with_reducible repeat (first | apply Kd.R_alloc | apply Kd.R_drewN | apply Kd.R_drew)); exact HO_8.out) (Kd.R_typed (by (with_reducible repeat (first | apply Kd.R_alloc | apply Kd.R_drewN | apply Kd.R_drew)); exact HO_7.out)) (by decide) hg); have n1_ := Aside0.mk (Kd.V_afterv (ok := (fun k_ => some k_ ≠ (u8 : Value).ownBlock ∧ some k_ ≠ (.slice Ao18 t801.length co18 : Value).ownBlock)) (by (with_reducible repeat (first | apply Kd.V_alloc | apply Kd.V_drewN | apply Kd.V_drew)); exact Kd.V_mono HO800.out (fun _ hk => ⟨⟨hk.1.2, hk.2⟩, hk.1.1⟩)) hg hat); have n2_ := Aside0.mk (Kd.R_after (ok := (fun _ => True)) (by (with_reducible repeat (first | apply Kd.R_alloc | apply Kd.R_drewN | apply Kd.R_drew)); exact HO804.out) hg hat); have n3_ := Aside0.mk (hb); have n4_ := Aside0.mk (ho); clear HO_8; clear HO800; clear HO804; clear HB; clear HO_7; have HO_8 := n0_; have HO800 := n1_; have HO804 := n2_; have HB := n3_; have HO807 := n4_; clear n0_ n1_ n2_ n3_ n4_; clear ho hb hg hat; obtain ⟨Ao19, co19, eo19⟩ := Kd.R_slice HO807.out; subst eo19) | ((with_reducible refine gate_builtin (b := .append) (xs := #[.tmp 47, .tmp 50]) rfl ?_); (try (refine gate_guard (by rfl) ?_; dsimp only)); at_builtin; refine Kd.R_append (Kd.int .i64) (w0 := w) w.heap.size rfl (.tmp 47) (.tmp 50) 60 3 (.int .i64 0) 8 rfl Try.underlying60 info3 rfl (by decide) (by omega) u8 x8_1 (y805.length : Int) [.int .i64 (y805.length : Int)] (fun _ => True) (fun _ => False) rfl rfl ?aP (fun _ hk => hk.elim) ?aF ?aO ?aB ?aS ?aL ?_; (case aP => exact rfl); (case aB => exact (by repeat (first | (with_reducible first | exact HB.out | apply below_alloc | apply pw_below_drewN | apply below_drew1) | exact HB.out))); (case aF => exact (fun _ _ => trivial)); (case aO => exact (by (with_reducible repeat (first | apply Kd.R_alloc | apply Kd.R_drewN | apply Kd.R_drew)); exact HO_8.out)); (case aS => exact (below_size (by repeat (first | (with_reducible first | exact HB.out | apply below_alloc | apply pw_below_drewN | apply below_drew1) | exact HB.out)))); (case aL => have := LMc13.out; omega); intro v809 w20 ho hb hg hat; rw [← Ny808.out] at ho; have n0_ := Aside0.mk (Kd.V_afterv (ok := (fun k_ => some k_ ≠ (.slice Ao18 t801.length co18 : Value).ownBlock ∧ some k_ ≠ (.slice Ao19 y805.length co19 : Value).ownBlock)) (by (with_reducible repeat (first | apply Kd.V_alloc | apply Kd.V_drewN | apply Kd.V_drew)); exact Kd.V_mono HO800.out (fun _ hk => ⟨⟨hk.1.2, hk.2⟩, hk.1.1⟩)) hg hat); have n1_ := Aside0.mk (Kd.R_over' (by (with_reducible repeat (first | apply Kd.R_alloc | apply Kd.R_drewN | apply Kd.R_drew)); exact HO804.out) (Kd.R_typed (by (with_reducible repeat (first | apply Kd.R_alloc | apply Kd.R_drewN | apply Kd.R_drew)); exact HO_8.out)) (by decide) hg); have n2_ := Aside0.mk (Kd.R_over' (by (with_reducible repeat (first | apply Kd.R_alloc | apply Kd.R_drewN | apply Kd.R_drew)); exact HO807.out) (Kd.R_typed (by (with_reducible repeat (first | apply Kd.R_alloc | apply Kd.R_drewN | apply Kd.R_drew)); exact HO_8.out)) (by decide) hg); have n3_ := Aside0.mk (hb); have n4_ := Aside0.mk (ho); clear HO800; clear HO804; clear HO807; clear HB; clear HO_8; have HO800 := n0_; have HO804 := n1_; have HO807 := n2_; have HB := n3_; have HO810 := n4_; clear n0_ n1_ n2_ n3_ n4_; clear ho hb hg hat)); try go_wp2_with (first | (go_at_call 25; (with_reducible refine (columbariumlaw6_few.calls (rdOf ByteArray.empty l0 x9_1) t797 _ A8.out).mono ?_); rintro e w' ⟨rfl, ⟨nd, rfl⟩⟩; (try first | exact ⟨rfl, _, World.drewN_drewN _ _ _⟩ | exact ⟨rfl, _, Eq.trans (World.drewN_drewN _ _ _) (congrArg (World.drewN _) (Nat.add_assoc _ _ _))⟩)) | ((with_reducible refine gate_dst (N := 38) rfl ?_); (try (refine gate_guard (by rfl) ?_; dsimp only)); refine pw_tobytes (w0 := w) w.heap.size rfl (.tmp 37) 24 9 5 rfl Try.underlying24 Try.underlying9 Try.underlying5 t797 rfl (fun k_ => some k_ ≠ (u7 : Value).ownBlock ∧ some k_ ≠ (u8 : Value).ownBlock) ?aN ?aF ?aB ?aS ?_; (case aN => exact of_decide_eq_true (by first | (with_reducible assumption) | assumption)); (case aB => exact (by repeat (first | (with_reducible first | exact HB.out | apply below_alloc | apply pw_below_drewN | apply below_drew1) | exact HB.out))); (case aF => exact (fun k_ hk => ⟨Kd.fresh' (Kd.R_lt (by (with_reducible repeat (first | apply Kd.R_alloc | apply Kd.R_drewN | apply Kd.R_drew)); exact HO_7.out)) k_ hk, Kd.fresh' (Kd.R_lt (by (with_reducible repeat (first | apply Kd.R_alloc | apply Kd.R_drewN | apply Kd.R_drew)); exact HO_8.out)) k_ hk⟩)); (case aS => exact (below_size (by repeat (first | (with_reducible first | exact HB.out | apply below_alloc | apply pw_below_drewN | apply below_drew1) | exact HB.out)))); intro v799 w14 ho hb hg hat; rw [← Ny798.out] at ho; have n0_ := Aside0.mk (Kd.R_grown (by (with_reducible repeat (first | apply Kd.R_alloc | apply Kd.R_drewN | apply Kd.R_drew)); exact HO_7.out) hg (fun _ _ => by simp [Value.ownBlock])); have n1_ := Aside0.mk (Kd.R_grown (by (with_reducible repeat (first | apply Kd.R_alloc | apply Kd.R_drewN | apply Kd.R_drew)); exact HO_8.out) hg (fun _ _ => by simp [Value.ownBlock])); have n2_ := Aside0.mk (hb); have n3_ := Aside0.mk (ho); clear HO_7; clear HO_8; clear HB; have HO_7 := n0_; have HO_8 := n1_; have HB := n2_; have HO800 := n3_; clear n0_ n1_ n2_ n3_; clear ho hb hg hat; obtain ⟨Ao15, co15, eo15⟩ := Kd.V_slice HO800.out; subst eo15) | (go_at_call 26; (with_reducible refine (block_Seal.calls k1 _ _ y798 t801 t802 _ ?side1 ?side2 A10.out).mono ?_); (case side1 => repeat (first | exact (Kd.V_reads' HO800.out).2.2 | (with_reducible refine Kd.C_alloc ?_ _) | (with_reducible refine Kd.C_drewN ?_ _) | (with_reducible refine Kd.C_drew ?_))); (case side2 => exact (Kd.V_reads' HO800.out).2.1); rintro e w16 ⟨v803, rfl, ho0, hb⟩; have n0_ := Aside0.mk (Kd.R_elder' (by (with_reducible repeat (first | apply Kd.R_alloc | apply Kd.R_drewN | apply Kd.R_drew)); exact HO_7.out) (Kd.R_base ho0) hb); have n1_ := Aside0.mk (Kd.R_below (by (with_reducible repeat (first | apply Kd.R_alloc | apply Kd.R_drewN | apply Kd.R_drew)); exact HO_8.out) hb); have n2_ := Aside0.mk (Kd.V_elder' (by (with_reducible repeat (first | apply Kd.V_alloc | apply Kd.V_drewN | apply Kd.V_drew)); exact HO800.out) (Kd.R_base ho0) hb); have n3_ := Aside0.mk (Kd.R_lower (Kd.R_new' ho0 (Kd.R_lt (by (with_reducible repeat (first | apply Kd.R_alloc | apply Kd.R_drewN | apply Kd.R_drew)); exact HO_7.out))) (below_size (by repeat (first | (with_reducible first | exact HB.out | apply below_alloc | apply pw_below_drewN | apply below_drew1) | exact HB.out)))); have n4_ := Aside0.mk (below_step (by repeat (first | (with_reducible first | exact HB.out | apply below_alloc | apply pw_below_drewN | apply below_drew1) | exact HB.out)) hb); clear HO_7; clear HO_8; clear HO800; clear HB; have HO_7 := n0_; have HO_8 := n1_; have HO800 := n2_; have HO804 := n3_; have HB := n4_; clear n0_ n1_ n2_ n3_ n4_; (try clear hb); (try clear hb2); (try clear hk); (try clear hi); (try clear ho0); obtain ⟨Ao18, co18, eo18⟩ := Kd.R_slice HO804.out; subst eo18) | ((with_reducible refine gate_builtin (b := .append) (xs := #[.tmp 44, .tmp 45]) rfl ?_); (try (refine gate_guard (by rfl) ?_; dsimp only)); at_builtin; refine Kd.R_append_rows (Kd.int .u8) (w0 := w) w.heap.size rfl (.tmp 44) (.tmp 45) 24 5 (.int .u8 0) 1 rfl Try.underlying24 info5 rfl (by decide) (by omega) u7 x7_1 t801 _ _ _ (fun k_ => some k_ ≠ (.slice Ao18 t801.length co18 : Value).ownBlock) (fun _ => False) rfl rfl ?aO ?aR (fun _ _ h => h) (fun _ h => h.elim) ?aF ?aB ?aS ?aL ?_; (case aR => repeat (first | exact (Kd.R_reads' HO804.out).2.2 | (with_reducible refine Kd.C_alloc ?_ _) | (with_reducible refine Kd.C_drewN ?_ _) | (with_reducible refine Kd.C_drew ?_))); (case aB => exact (by repeat (first | (with_reducible first | exact HB.out | apply below_alloc | apply pw_below_drewN | apply below_drew1) | exact HB.out))); (case aF => exact (fun k_ hk => Kd.fresh' (Kd.R_lt (by (with_reducible repeat (first | apply Kd.R_alloc | apply Kd.R_drewN | apply Kd.R_drew)); exact HO804.out)) k_ hk)); (case aO => exact (by (with_reducible repeat (first | apply Kd.R_alloc | apply Kd.R_drewN | apply Kd.R_drew)); exact Kd.R_mono HO_7.out (fun _ hk => hk.2))); (case aS => exact (below_size (by repeat (first | (with_reducible first | exact HB.out | apply below_alloc | apply pw_below_drewN | apply below_drew1) | exact HB.out)))); (case aL => have := LMc12.out; omega); intro v806 w17 ho hb hg hat; rw [← Ny805.out] at ho; have n0_ := Aside0.mk (Kd.R_over' (by (with_reducible repeat (first | apply Kd.R_alloc | apply Kd.R_drewN | apply Kd.R_drew)); exact HO_8.out) (Kd.R_typed (by (with_reducible repeat (first | apply Kd.R_alloc | apply Kd.R_drewN | apply Kd.R_drew)); exact HO_7.out)) (by decide) hg); have n1_ := Aside0.mk (Kd.V_afterv (ok := (fun k_ => some k_ ≠ (u8 : Value).ownBlock ∧ some k_ ≠ (.slice Ao18 t801.length co18 : Value).ownBlock)) (by (with_reducible repeat (first | apply Kd.V_alloc | apply Kd.V_drewN | apply Kd.V_drew)); exact Kd.V_mono HO800.out (fun _ hk => ⟨⟨hk.1.2, hk.2⟩, hk.1.1⟩)) hg hat); have n2_ := Aside0.mk (Kd.R_after (ok := (fun _ => True)) (by (with_reducible repeat (first | apply Kd.R_alloc | apply Kd.R_drewN | apply Kd.R_drew)); exact HO804.out) hg hat); have n3_ := Aside0.mk (hb); have n4_ := Aside0.mk (ho); clear HO_8; clear HO800; clear HO804; clear HB; clear HO_7; have HO_8 := n0_; have HO800 := n1_; have HO804 := n2_; have HB := n3_; have HO807 := n4_; clear n0_ n1_ n2_ n3_ n4_; clear ho hb hg hat; obtain ⟨Ao19, co19, eo19⟩ := Kd.R_slice HO807.out; subst eo19) | ((with_reducible refine gate_builtin (b := .append) (xs := #[.tmp 47, .tmp 50]) rfl ?_); (try (refine gate_guard (by rfl) ?_; dsimp only)); at_builtin; refine Kd.R_append (Kd.int .i64) (w0 := w) w.heap.size rfl (.tmp 47) (.tmp 50) 60 3 (.int .i64 0) 8 rfl Try.underlying60 info3 rfl (by decide) (by omega) u8 x8_1 (y805.length : Int) [.int .i64 (y805.length : Int)] (fun _ => True) (fun _ => False) rfl rfl ?aP (fun _ hk => hk.elim) ?aF ?aO ?aB ?aS ?aL ?_; (case aP => exact rfl); (case aB => exact (by repeat (first | (with_reducible first | exact HB.out | apply below_alloc | apply pw_below_drewN | apply below_drew1) | exact HB.out))); (case aF => exact (fun _ _ => trivial)); (case aO => exact (by (with_reducible repeat (first | apply Kd.R_alloc | apply Kd.R_drewN | apply Kd.R_drew)); exact HO_8.out)); (case aS => exact (below_size (by repeat (first | (with_reducible first | exact HB.out | apply below_alloc | apply pw_below_drewN | apply below_drew1) | exact HB.out)))); (case aL => have := LMc13.out; omega); intro v809 w20 ho hb hg hat; rw [← Ny808.out] at ho; have n0_ := Aside0.mk (Kd.V_afterv (ok := (fun k_ => some k_ ≠ (.slice Ao18 t801.length co18 : Value).ownBlock ∧ some k_ ≠ (.slice Ao19 y805.length co19 : Value).ownBlock)) (by (with_reducible repeat (first | apply Kd.V_alloc | apply Kd.V_drewN | apply Kd.V_drew)); exact Kd.V_mono HO800.out (fun _ hk => ⟨⟨hk.1.2, hk.2⟩, hk.1.1⟩)) hg hat); have n1_ := Aside0.mk (Kd.R_over' (by (with_reducible repeat (first | apply Kd.R_alloc | apply Kd.R_drewN | apply Kd.R_drew)); exact HO804.out) (Kd.R_typed (by (with_reducible repeat (first | apply Kd.R_alloc | apply Kd.R_drewN | apply Kd.R_drew)); exact HO_8.out)) (by decide) hg); have n2_ := Aside0.mk (Kd.R_over' (by (with_reducible repeat (first | apply Kd.R_alloc | apply Kd.R_drewN | apply Kd.R_drew)); exact HO807.out) (Kd.R_typed (by (with_reducible repeat (first | apply Kd.R_alloc | apply Kd.R_drewN | apply Kd.R_drew)); exact HO_8.out)) (by decide) hg); have n3_ := Aside0.mk (hb); have n4_ := Aside0.mk (ho); clear HO800; clear HO804; clear HO807; clear HB; clear HO_8; have HO800 := n0_; have HO804 := n1_; have HO807 := n2_; have HB := n3_; have HO810 := n4_; clear n0_ n1_ n2_ n3_ n4_; clear ho hb hg hat)))
                      go_roundg k1
                      case measure => have := HK1.out; omega
                      case rel => exact ⟨(y805), (y808), (wrap64 (x9_1 + 1)), (by first | rfl | (simp; done) | (simp [*]; done) | (refine congrArg (Value.int .i64) ?_; (try simp only [decide_eq_true_eq, decide_eq_false_iff_not] at *) <;> (unfold wrap64; omega))), H', ⟨by have := HK1.out; omega⟩, ⟨by (with_reducible repeat (first | apply Kd.R_alloc | apply Kd.R_drewN | apply Kd.R_drew)); exact Kd.R_mono HO807.out (fun _ hk => trivial)⟩, ⟨by (with_reducible repeat (first | apply Kd.R_alloc | apply Kd.R_drewN | apply Kd.R_drew)); exact HO810.out⟩, ⟨by repeat (first | (with_reducible first | exact HB.out | apply below_alloc | apply pw_below_drewN | apply below_drew1) | exact HB.out)⟩⟩
                    · rw [if_neg c13] at H
                      exact absurd H (by simp)
                  · rw [if_neg c12] at H
                    exact absurd H (by simp)
                · rw [if_neg c11] at H
                  have c11b0 : (t802 == 0) = false := beq_eq_false_iff_ne.mpr c11
                  have c11b1 : (t802 != 0) = true := bne_iff_ne.mpr c11
                  exact absurd ((Option.some.inj H).trans hr_.out) (by decide)
              · rw [if_neg c9] at H
                exact absurd H (by simp)
            · rw [if_neg c7] at H
              exact absurd H (by simp)
          · rw [if_neg c6] at H
            have c6b0 : decide (x9_1 < 10) = false := decide_eq_false c6
            clear c6
            have H' := Aside0.mk H
            clear H
            go_wp2
            repeat (go_quiet (fail); try go_wp2)
            go_meet
            case rel => exact ⟨_, (x7_1), (x8_1), H', ⟨by have := HK1.out; first | omega | exact Nat.le_refl _⟩, ⟨by (with_reducible repeat (first | apply Kd.R_alloc | apply Kd.R_drewN | apply Kd.R_drew)); exact HO_7.out⟩, ⟨by (with_reducible repeat (first | apply Kd.R_alloc | apply Kd.R_drewN | apply Kd.R_drew)); exact HO_8.out⟩, ⟨by repeat (first | (with_reducible first | exact HB.out | apply below_alloc | apply pw_below_drewN | apply below_drew1) | exact HB.out)⟩⟩
        · rw [if_neg c5] at H
          have c5b0 : decide (x9_1 < (l0.length : Int)) = false := decide_eq_false c5
          clear c5
          (first | rw [c5b0] | (simp only [i64_w, i32_w]; rw [c5b0]) | rw [c5b1] | skip)
          have H' := Aside0.mk H
          clear H
          go_wp2
          repeat (go_quiet (fail); try go_wp2)
          go_meet
          case rel => exact ⟨_, (x7_1), (x8_1), H', ⟨by have := HK1.out; first | omega | exact Nat.le_refl _⟩, ⟨by (with_reducible repeat (first | apply Kd.R_alloc | apply Kd.R_drewN | apply Kd.R_drew)); exact HO_7.out⟩, ⟨by (with_reducible repeat (first | apply Kd.R_alloc | apply Kd.R_drewN | apply Kd.R_drew)); exact HO_8.out⟩, ⟨by repeat (first | (with_reducible first | exact HB.out | apply below_alloc | apply pw_below_drewN | apply below_drew1) | exact HB.out)⟩⟩
  case rest =>
    clear HC4
    try clear c1
    try clear p2
    try clear c5
    try clear c5b0
    try clear c5b1
    try clear c6
    try clear c6b0
    try clear p6
    try clear c7
    try clear c7b0
    try clear p7
    try clear q7
    try clear hx7
    try clear c9
    try clear c9b0
    try clear c9b1
    try clear c9b2
    try clear c11
    try clear c11b0
    try clear c11b1
    try clear c12
    try clear c13
    try clear hx796_0
    try clear p2
    try clear p796
    try clear q796
    obtain ⟨kq, x7_3, x8_3, HA, HJ3, HO_7, HO_8, HB⟩ := hcut
    cases kq with
    | zero => exact absurd HA.out (by simp [columbariumlaw6_BlockBack.j1])
    | succ kj3 =>
      have H := HA.out
      clear HA
      simp only [columbariumlaw6_BlockBack.j1] at H
      replace H := Option.bind_eq_some_iff.mp H
      obtain ⟨⟨t811, t812, t813⟩, A210, H⟩ := H
      replace H : (if (t811.length : Int) = (x8_3.length : Int) then (if t812 = (x7_3.length : Int) then (if t813 = 0 then (columbariumlaw6_BlockBack.l1 kj3 l0 a1 a2 x7_3 x8_3 t811 0) else (some false)) else (some false)) else (some false)) = some r := H
      have A21 := Aside0.mk A210
      clear A210
      by_cases c22 : (t811.length : Int) = (x8_3.length : Int)
      · rw [if_pos c22] at H
        have c22b0 : ((t811.length : Int) == (x8_3.length : Int)) = true := beq_iff_eq.mpr c22
        have c22b1 : ((t811.length : Int) != (x8_3.length : Int)) = false := bne_eq_false_iff_eq.mpr c22
        have c22b2 : (t811.length == x8_3.length) = true := by first | simpa using c22 | (simp at c22 ⊢; omega)
        clear c22
        by_cases c23 : t812 = (x7_3.length : Int)
        · rw [if_pos c23] at H
          have c23b0 : (t812 == (x7_3.length : Int)) = true := beq_iff_eq.mpr c23
          have c23b1 : (t812 != (x7_3.length : Int)) = false := bne_eq_false_iff_eq.mpr c23
          clear c23
          by_cases c24 : t813 = 0
          · rw [if_pos c24] at H
            have c24b0 : (t813 == 0) = true := beq_iff_eq.mpr c24
            have c24b1 : (t813 != 0) = false := bne_eq_false_iff_eq.mpr c24
            clear c24
            have H' := Aside0.mk H
            clear H
            obtain ⟨Ao25, co25, eo25⟩ := Kd.R_slice HO_7.out
            subst eo25
            go_wp2_with (first | (go_at_call 29; (with_reducible refine (block_All.calls kj3 _ _ x7_3 t811 t812 t813 _ ?side1 ?side2 A21.out).mono ?_); (case side1 => repeat (first | exact (Kd.R_reads' HO_7.out).2.2 | (with_reducible refine Kd.C_alloc ?_ _) | (with_reducible refine Kd.C_drewN ?_ _) | (with_reducible refine Kd.C_drew ?_))); (case side2 => exact (Kd.R_reads' HO_7.out).2.1); rintro e w26 ⟨v814, rfl, ho0, hb⟩; have n0_ := Aside0.mk (Kd.R_below (by (with_reducible repeat (first | apply Kd.R_alloc | apply Kd.R_drewN | apply Kd.R_drew)); exact HO_7.out) hb); have n1_ := Aside0.mk (Kd.R_below (by (with_reducible repeat (first | apply Kd.R_alloc | apply Kd.R_drewN | apply Kd.R_drew)); exact HO_8.out) hb); have n2_ := Aside0.mk (Kd.S_lower (Kd.S_new' ho0 (Kd.R_lt (by (with_reducible repeat (first | apply Kd.R_alloc | apply Kd.R_drewN | apply Kd.R_drew)); exact HO_7.out))) (below_size (by repeat (first | (with_reducible first | exact HB.out | apply below_alloc | apply pw_below_drewN | apply below_drew1) | exact HB.out)))); have n3_ := Aside0.mk (below_step (by repeat (first | (with_reducible first | exact HB.out | apply below_alloc | apply pw_below_drewN | apply below_drew1) | exact HB.out)) hb); clear HO_7; clear HO_8; clear HB; have HO_7 := n0_; have HO_8 := n1_; have HO815 := n2_; have HB := n3_; clear n0_ n1_ n2_ n3_; (try clear hb); (try clear hb2); (try clear hk); (try clear hi); (try clear ho0); obtain ⟨Ao27, co27, eo27⟩ := Kd.S_slice HO815.out; subst eo27; obtain ⟨Ao28, co28, eo28⟩ := Kd.R_slice HO_8.out; subst eo28))
            repeat (go_quiet (first | (go_at_call 29; (with_reducible refine (block_All.calls kj3 _ _ x7_3 t811 t812 t813 _ ?side1 ?side2 A21.out).mono ?_); (case side1 => repeat (first | exact (Kd.R_reads' HO_7.out).2.2 | (with_reducible refine Kd.C_alloc ?_ _) | (with_reducible refine Kd.C_drewN ?_ _) | (with_reducible refine Kd.C_drew ?_))); (case side2 => exact (Kd.R_reads' HO_7.out).2.1); rintro e w26 ⟨v814, rfl, ho0, hb⟩; have n0_ := Aside0.mk (Kd.R_below (by (with_reducible repeat (first | apply Kd.R_alloc | apply Kd.R_drewN | apply Kd.R_drew)); exact HO_7.out) hb); have n1_ := Aside0.mk (Kd.R_below (by (with_reducible repeat (first | apply Kd.R_alloc | apply Kd.R_drewN | apply Kd.R_drew)); exact HO_8.out) hb); have n2_ := Aside0.mk (Kd.S_lower (Kd.S_new' ho0 (Kd.R_lt (by (with_reducible repeat (first | apply Kd.R_alloc | apply Kd.R_drewN | apply Kd.R_drew)); exact HO_7.out))) (below_size (by repeat (first | (with_reducible first | exact HB.out | apply below_alloc | apply pw_below_drewN | apply below_drew1) | exact HB.out)))); have n3_ := Aside0.mk (below_step (by repeat (first | (with_reducible first | exact HB.out | apply below_alloc | apply pw_below_drewN | apply below_drew1) | exact HB.out)) hb); clear HO_7; clear HO_8; clear HB; have HO_7 := n0_; have HO_8 := n1_; have HO815 := n2_; have HB := n3_; clear n0_ n1_ n2_ n3_; (try clear hb); (try clear hb2); (try clear hk); (try clear hi); (try clear ho0); obtain ⟨Ao27, co27, eo27⟩ := Kd.S_slice HO815.out; subst eo27; obtain ⟨Ao28, co28, eo28⟩ := Kd.R_slice HO_8.out; subst eo28)); try go_wp2_with (first | (go_at_call 29; (with_reducible refine (block_All.calls kj3 _ _ x7_3 t811 t812 t813 _ ?side1 ?side2 A21.out).mono ?_); (case side1 => repeat (first | exact (Kd.R_reads' HO_7.out).2.2 | (with_reducible refine Kd.C_alloc ?_ _) | (with_reducible refine Kd.C_drewN ?_ _) | (with_reducible refine Kd.C_drew ?_))); (case side2 => exact (Kd.R_reads' HO_7.out).2.1); rintro e w26 ⟨v814, rfl, ho0, hb⟩; have n0_ := Aside0.mk (Kd.R_below (by (with_reducible repeat (first | apply Kd.R_alloc | apply Kd.R_drewN | apply Kd.R_drew)); exact HO_7.out) hb); have n1_ := Aside0.mk (Kd.R_below (by (with_reducible repeat (first | apply Kd.R_alloc | apply Kd.R_drewN | apply Kd.R_drew)); exact HO_8.out) hb); have n2_ := Aside0.mk (Kd.S_lower (Kd.S_new' ho0 (Kd.R_lt (by (with_reducible repeat (first | apply Kd.R_alloc | apply Kd.R_drewN | apply Kd.R_drew)); exact HO_7.out))) (below_size (by repeat (first | (with_reducible first | exact HB.out | apply below_alloc | apply pw_below_drewN | apply below_drew1) | exact HB.out)))); have n3_ := Aside0.mk (below_step (by repeat (first | (with_reducible first | exact HB.out | apply below_alloc | apply pw_below_drewN | apply below_drew1) | exact HB.out)) hb); clear HO_7; clear HO_8; clear HB; have HO_7 := n0_; have HO_8 := n1_; have HO815 := n2_; have HB := n3_; clear n0_ n1_ n2_ n3_; (try clear hb); (try clear hb2); (try clear hk); (try clear hi); (try clear ho0); obtain ⟨Ao27, co27, eo27⟩ := Kd.S_slice HO815.out; subst eo27; obtain ⟨Ao28, co28, eo28⟩ := Kd.R_slice HO_8.out; subst eo28)))
            go_loopg [15] kj3 (fun kq v15 w' => ∃ (x15_2 : Int), v15 = .int .i64 x15_2 ∧ Aside0 (columbariumlaw6_BlockBack.l1 kq l0 a1 a2 x7_3 x8_3 t811 x15_2 = some r) ∧ Aside0 (kq ≤ kj3) ∧ Aside0 (Kd.R (Kd.int .u8) 5 w' w.heap.size (fun _ => True) (.slice Ao25 x7_3.length co25) x7_3) ∧ Aside0 (Kd.R (Kd.int .i64) 3 w' w.heap.size (fun _ => True) (.slice Ao28 x8_3.length co28) x8_3) ∧ Aside0 (Kd.S (Kd.slice 5 (Kd.int .u8)) 24 w' w.heap.size (fun k_ => some k_ ≠ ((.slice Ao25 x7_3.length co25) : Value).ownBlock) (.slice Ao27 t811.length co27) t811) ∧ Aside0 (Below w.heap.size w w'))
            case atStart => exact ⟨(0), (by first | rfl | (simp; done) | (simp [*]; done) | (refine congrArg (Value.int .i64) ?_; (try simp only [decide_eq_true_eq, decide_eq_false_iff_not] at *) <;> (unfold wrap64; omega))), H', ⟨Nat.le_refl _⟩, ⟨by (with_reducible repeat (first | apply Kd.R_alloc | apply Kd.R_drewN | apply Kd.R_drew)); exact HO_7.out⟩, ⟨by (with_reducible repeat (first | apply Kd.R_alloc | apply Kd.R_drewN | apply Kd.R_drew)); exact HO_8.out⟩, ⟨by (with_reducible repeat (first | apply Kd.S_alloc | apply Kd.S_drewN | apply Kd.S_drew)); exact Kd.S_mono HO815.out (fun _ hk => hk.2)⟩, ⟨by repeat (first | (with_reducible first | exact HB.out | apply below_alloc | apply pw_below_drewN | apply below_drew1) | exact HB.out)⟩⟩
            case round =>
              clear H'
              try clear c1
              try clear c2
              try clear p2
              try clear c5
              try clear c5b0
              try clear c5b1
              try clear c6
              try clear c6b0
              try clear p6
              try clear c7
              try clear c7b0
              try clear p7
              try clear q7
              try clear hx7
              try clear c9
              try clear c9b0
              try clear c9b1
              try clear c9b2
              try clear c11
              try clear c11b0
              try clear c11b1
              try clear c12
              try clear c13
              try clear c22
              try clear c22b0
              try clear c22b1
              try clear c22b2
              try clear c23
              try clear c23b0
              try clear c23b1
              try clear c24
              try clear c24b0
              try clear c24b1
              try clear hx796_0
              try clear p2
              try clear p6
              try clear p7
              try clear p796
              try clear q7
              try clear q796
              obtain ⟨x15_2, rfl, HA, HK2, HO_7, HO_8, HO_12, HB⟩ := hrel
              cases gk with
              | zero => exact absurd HA.out (by simp [columbariumlaw6_BlockBack.l1])
              | succ k2 =>
                have H := HA.out
                clear HA
                simp only [columbariumlaw6_BlockBack.l1] at H
                by_cases c29 : x15_2 < (t811.length : Int)
                · rw [if_pos c29] at H
                  have c29b0 : decide (x15_2 < (t811.length : Int)) = true := decide_eq_true c29
                  clear c29
                  by_cases c30 : 0 ≤ x15_2
                  · rw [if_pos c30] at H
                    have c30b0 : decide (0 ≤ x15_2) = true := decide_eq_true c30
                    clear c30
                    by_cases c31 : x15_2 < (l0.length : Int)
                    · rw [if_pos c31] at H
                      have c31b0 : decide (x15_2 < (l0.length : Int)) = true := decide_eq_true c31
                      clear c31
                      replace H := Option.bind_eq_some_iff.mp H
                      obtain ⟨t818, A320, H⟩ := H
                      replace H : (if (strOfNums (rd_L2 t811 x15_2)).toList = t818.toList then (columbariumlaw6_BlockBack.l1 k2 l0 a1 a2 x7_3 x8_3 t811 (wrap64 (x15_2 + 1))) else (some false)) = some r := H
                      have A32 := Aside0.mk A320
                      clear A320
                      by_cases c33 : (strOfNums (rd_L2 t811 x15_2)).toList = t818.toList
                      · rw [if_pos c33] at H
                        have c33b0 : ((strOfNums (rd_L2 t811 x15_2)).toList == t818.toList) = true := beq_iff_eq.mpr c33
                        have c33b1 : ((strOfNums (rd_L2 t811 x15_2)).toList != t818.toList) = false := bne_eq_false_iff_eq.mpr c33
                        clear c33
                        have H' := Aside0.mk H
                        clear H
                        have p816 : 0 ≤ (x15_2 : Int) := of_decide_eq_true (by first | (with_reducible assumption) | assumption)
                        have q816 : x15_2 < (t811.length : Int) := of_decide_eq_true (by first | (with_reducible assumption) | assumption)
                        obtain ⟨ad816, A816_0, c816_0, e816, hx816_0, hl816_0, hi816_0⟩ := at_L2 (Kd.S_reads' HO_12.out).2.2 x15_2 p816 q816
                        cases e816
                        obtain ⟨ce816, hce816, hMe816, hcc816⟩ := Kd.S_get HO_12.out [] x15_2 p816 (by first | exact q816 | exact of_decide_eq_true (by first | (with_reducible assumption) | assumption) | (have e_ := (Kd.S_reads' HO_12.out).1; omega))
                        obtain ⟨ve816_0, rfl, ge816_0⟩ := hMe816
                        have hv816_0 := hcc816 0 _ rfl
                        rw [Nat.add_zero, show ((Kd.slice 5 (Kd.int .u8))).sz = 1 from rfl, Nat.mul_one] at hv816_0
                        replace hv816_0 := Option.some.inj (hv816_0.symm.trans hx816_0)
                        rw [hv816_0] at ge816_0
                        have HL816_0 := Aside0.mk (show Kd.R (Kd.int .u8) 5 _ _ _ _ (rd_L2 t811 x15_2) from ge816_0)
                        clear hv816_0 ge816_0
                        clear hcc816 hce816
                        have HR816_0 := Aside0.mk hi816_0
                        have HC816_0 := Aside0.mk hl816_0
                        clear hi816_0 hl816_0
                        replace p816 := eq_true p816
                        replace q816 := eq_true q816
                        have hcv34 := pw_C_string_len (P := Try.prog) (A := A816_0) (c := c816_0) Try.underlying24 Try.underlying5 Try.underlying9 (by repeat (first | (with_reducible exact HR816_0.out) | (with_reducible refine Kd.C_alloc ?_ _) | (with_reducible refine Kd.C_drewN ?_ _) | (with_reducible refine Kd.C_drew ?_) | exact HR816_0.out))
                        have p817 : 0 ≤ (x15_2 : Int) := of_decide_eq_true (by first | (with_reducible assumption) | assumption)
                        have q817 : x15_2 < (l0.length : Int) := of_decide_eq_true (by first | (with_reducible assumption) | assumption)
                        obtain ⟨ad817, e817, hx817_0⟩ := Kd.at_string HR0.out x15_2 p817 q817
                        cases e817
                        replace hx817_0 := (HB.out.cell (World.block_lt_of_cell? w _ hx817_0)).trans hx817_0
                        replace p817 := eq_true p817
                        replace q817 := eq_true q817
                        go_wp2_with (first | (go_at_call 25; (with_reducible refine (columbariumlaw6_few.calls (rdOf ByteArray.empty l0 x15_2) t818 _ A32.out).mono ?_); rintro e w' ⟨rfl, ⟨nd, rfl⟩⟩; (try first | exact ⟨rfl, _, World.drewN_drewN _ _ _⟩ | exact ⟨rfl, _, Eq.trans (World.drewN_drewN _ _ _) (congrArg (World.drewN _) (Nat.add_assoc _ _ _))⟩)))
                        repeat (go_quiet (first | (go_at_call 25; (with_reducible refine (columbariumlaw6_few.calls (rdOf ByteArray.empty l0 x15_2) t818 _ A32.out).mono ?_); rintro e w' ⟨rfl, ⟨nd, rfl⟩⟩; (try first | exact ⟨rfl, _, World.drewN_drewN _ _ _⟩ | exact ⟨rfl, _, Eq.trans (World.drewN_drewN _ _ _) (congrArg (World.drewN _) (Nat.add_assoc _ _ _))⟩))); try go_wp2_with (first | (go_at_call 25; (with_reducible refine (columbariumlaw6_few.calls (rdOf ByteArray.empty l0 x15_2) t818 _ A32.out).mono ?_); rintro e w' ⟨rfl, ⟨nd, rfl⟩⟩; (try first | exact ⟨rfl, _, World.drewN_drewN _ _ _⟩ | exact ⟨rfl, _, Eq.trans (World.drewN_drewN _ _ _) (congrArg (World.drewN _) (Nat.add_assoc _ _ _))⟩))))
                        go_roundg k2
                        case measure => have := HJ3.out; have := HK2.out; omega
                        case rel => exact ⟨(wrap64 (x15_2 + 1)), (by first | rfl | (simp; done) | (simp [*]; done) | (refine congrArg (Value.int .i64) ?_; (try simp only [decide_eq_true_eq, decide_eq_false_iff_not] at *) <;> (unfold wrap64; omega))), H', ⟨by have := HJ3.out; have := HK2.out; omega⟩, ⟨by (with_reducible repeat (first | apply Kd.R_alloc | apply Kd.R_drewN | apply Kd.R_drew)); exact HO_7.out⟩, ⟨by (with_reducible repeat (first | apply Kd.R_alloc | apply Kd.R_drewN | apply Kd.R_drew)); exact HO_8.out⟩, ⟨by (with_reducible repeat (first | apply Kd.S_alloc | apply Kd.S_drewN | apply Kd.S_drew)); exact HO_12.out⟩, ⟨by repeat (first | (with_reducible first | exact HB.out | apply below_alloc | apply pw_below_drewN | apply below_drew1) | exact HB.out)⟩⟩
                      · rw [if_neg c33] at H
                        have c33b0 : ((strOfNums (rd_L2 t811 x15_2)).toList == t818.toList) = false := beq_eq_false_iff_ne.mpr c33
                        have c33b1 : ((strOfNums (rd_L2 t811 x15_2)).toList != t818.toList) = true := bne_iff_ne.mpr c33
                        exact absurd ((Option.some.inj H).trans hr_.out) (by decide)
                    · rw [if_neg c31] at H
                      exact absurd H (by simp)
                  · rw [if_neg c30] at H
                    exact absurd H (by simp)
                · rw [if_neg c29] at H
                  have c29b0 : decide (x15_2 < (t811.length : Int)) = false := decide_eq_false c29
                  clear c29
                  by_cases c35 : (x7_3.length : Int) = 0
                  · rw [if_pos c35] at H
                    have c35b0 : ((x7_3.length : Int) == 0) = true := beq_iff_eq.mpr c35
                    have c35b1 : ((x7_3.length : Int) != 0) = false := bne_eq_false_iff_eq.mpr c35
                    clear c35
                    replace H := Option.bind_eq_some_iff.mp H
                    obtain ⟨t819, A360, H⟩ := H
                    replace H : (some t819) = some r := H
                    have A36 := Aside0.mk A360
                    clear A360
                    obtain rfl := Option.some.inj H
                    go_wp2_with (first | (go_at_call 27; (with_reducible refine (columbariumlaw6_known.calls k2  t819 _ A36.out).mono ?_); rintro e w37 ⟨rfl, hb⟩; have n0_ := Aside0.mk (Kd.R_below (by (with_reducible repeat (first | apply Kd.R_alloc | apply Kd.R_drewN | apply Kd.R_drew)); exact HO_7.out) hb); have n1_ := Aside0.mk (Kd.R_below (by (with_reducible repeat (first | apply Kd.R_alloc | apply Kd.R_drewN | apply Kd.R_drew)); exact HO_8.out) hb); have n2_ := Aside0.mk (Kd.S_below (by (with_reducible repeat (first | apply Kd.S_alloc | apply Kd.S_drewN | apply Kd.S_drew)); exact HO_12.out) hb); have n3_ := Aside0.mk (below_step (by repeat (first | (with_reducible first | exact HB.out | apply below_alloc | apply pw_below_drewN | apply below_drew1) | exact HB.out)) hb); clear HO_7; clear HO_8; clear HO_12; clear HB; have HO_7 := n0_; have HO_8 := n1_; have HO_12 := n2_; have HB := n3_; clear n0_ n1_ n2_ n3_; (try clear hb); (try clear hb2); (try clear hk); (try clear hi)))
                    repeat (go_quiet (first | (go_at_call 27; (with_reducible refine (columbariumlaw6_known.calls k2  t819 _ A36.out).mono ?_); rintro e w37 ⟨rfl, hb⟩; have n0_ := Aside0.mk (Kd.R_below (by (with_reducible repeat (first | apply Kd.R_alloc | apply Kd.R_drewN | apply Kd.R_drew)); exact HO_7.out) hb); have n1_ := Aside0.mk (Kd.R_below (by (with_reducible repeat (first | apply Kd.R_alloc | apply Kd.R_drewN | apply Kd.R_drew)); exact HO_8.out) hb); have n2_ := Aside0.mk (Kd.S_below (by (with_reducible repeat (first | apply Kd.S_alloc | apply Kd.S_drewN | apply Kd.S_drew)); exact HO_12.out) hb); have n3_ := Aside0.mk (below_step (by repeat (first | (with_reducible first | exact HB.out | apply below_alloc | apply pw_below_drewN | apply below_drew1) | exact HB.out)) hb); clear HO_7; clear HO_8; clear HO_12; clear HB; have HO_7 := n0_; have HO_8 := n1_; have HO_12 := n2_; have HB := n3_; clear n0_ n1_ n2_ n3_; (try clear hb); (try clear hb2); (try clear hk); (try clear hi))); try go_wp2_with (first | (go_at_call 27; (with_reducible refine (columbariumlaw6_known.calls k2  t819 _ A36.out).mono ?_); rintro e w37 ⟨rfl, hb⟩; have n0_ := Aside0.mk (Kd.R_below (by (with_reducible repeat (first | apply Kd.R_alloc | apply Kd.R_drewN | apply Kd.R_drew)); exact HO_7.out) hb); have n1_ := Aside0.mk (Kd.R_below (by (with_reducible repeat (first | apply Kd.R_alloc | apply Kd.R_drewN | apply Kd.R_drew)); exact HO_8.out) hb); have n2_ := Aside0.mk (Kd.S_below (by (with_reducible repeat (first | apply Kd.S_alloc | apply Kd.S_drewN | apply Kd.S_drew)); exact HO_12.out) hb); have n3_ := Aside0.mk (below_step (by repeat (first | (with_reducible first | exact HB.out | apply below_alloc | apply pw_below_drewN | apply below_drew1) | exact HB.out)) hb); clear HO_7; clear HO_8; clear HO_12; clear HB; have HO_7 := n0_; have HO_8 := n1_; have HO_12 := n2_; have HB := n3_; clear n0_ n1_ n2_ n3_; (try clear hb); (try clear hb2); (try clear hk); (try clear hi))))
                    go_ret
                    exact ⟨by first | rfl | (simp [errW_none, errW_some] <;> rfl) | (simp [*, errW_none, errW_some] <;> rfl), by repeat (first | (with_reducible first | exact HB.out | apply below_alloc | apply pw_below_drewN | apply below_drew1) | exact HB.out)⟩
                  · rw [if_neg c35] at H
                    have c35b0 : ((x7_3.length : Int) == 0) = false := beq_eq_false_iff_ne.mpr c35
                    have c35b1 : ((x7_3.length : Int) != 0) = true := bne_iff_ne.mpr c35
                    have c35b2 : ¬ (x7_3 = []) := fun h_ => c35 (by rw [h_]; rfl)
                    by_cases c38 : a2 = 0
                    · rw [if_pos c38] at H
                      have c38b0 : (a2 == 0) = true := beq_iff_eq.mpr c38
                      have c38b1 : (a2 != 0) = false := bne_eq_false_iff_eq.mpr c38
                      clear c38
                      replace H := Option.bind_eq_some_iff.mp H
                      obtain ⟨t820, A390, H⟩ := H
                      replace H : (some t820) = some r := H
                      have A39 := Aside0.mk A390
                      clear A390
                      obtain rfl := Option.some.inj H
                      go_wp2_with (first | (go_at_call 27; (with_reducible refine (columbariumlaw6_known.calls k2  t820 _ A39.out).mono ?_); rintro e w40 ⟨rfl, hb⟩; have n0_ := Aside0.mk (Kd.R_below (by (with_reducible repeat (first | apply Kd.R_alloc | apply Kd.R_drewN | apply Kd.R_drew)); exact HO_7.out) hb); have n1_ := Aside0.mk (Kd.R_below (by (with_reducible repeat (first | apply Kd.R_alloc | apply Kd.R_drewN | apply Kd.R_drew)); exact HO_8.out) hb); have n2_ := Aside0.mk (Kd.S_below (by (with_reducible repeat (first | apply Kd.S_alloc | apply Kd.S_drewN | apply Kd.S_drew)); exact HO_12.out) hb); have n3_ := Aside0.mk (below_step (by repeat (first | (with_reducible first | exact HB.out | apply below_alloc | apply pw_below_drewN | apply below_drew1) | exact HB.out)) hb); clear HO_7; clear HO_8; clear HO_12; clear HB; have HO_7 := n0_; have HO_8 := n1_; have HO_12 := n2_; have HB := n3_; clear n0_ n1_ n2_ n3_; (try clear hb); (try clear hb2); (try clear hk); (try clear hi)))
                      repeat (go_quiet (first | (go_at_call 27; (with_reducible refine (columbariumlaw6_known.calls k2  t820 _ A39.out).mono ?_); rintro e w40 ⟨rfl, hb⟩; have n0_ := Aside0.mk (Kd.R_below (by (with_reducible repeat (first | apply Kd.R_alloc | apply Kd.R_drewN | apply Kd.R_drew)); exact HO_7.out) hb); have n1_ := Aside0.mk (Kd.R_below (by (with_reducible repeat (first | apply Kd.R_alloc | apply Kd.R_drewN | apply Kd.R_drew)); exact HO_8.out) hb); have n2_ := Aside0.mk (Kd.S_below (by (with_reducible repeat (first | apply Kd.S_alloc | apply Kd.S_drewN | apply Kd.S_drew)); exact HO_12.out) hb); have n3_ := Aside0.mk (below_step (by repeat (first | (with_reducible first | exact HB.out | apply below_alloc | apply pw_below_drewN | apply below_drew1) | exact HB.out)) hb); clear HO_7; clear HO_8; clear HO_12; clear HB; have HO_7 := n0_; have HO_8 := n1_; have HO_12 := n2_; have HB := n3_; clear n0_ n1_ n2_ n3_; (try clear hb); (try clear hb2); (try clear hk); (try clear hi))); try go_wp2_with (first | (go_at_call 27; (with_reducible refine (columbariumlaw6_known.calls k2  t820 _ A39.out).mono ?_); rintro e w40 ⟨rfl, hb⟩; have n0_ := Aside0.mk (Kd.R_below (by (with_reducible repeat (first | apply Kd.R_alloc | apply Kd.R_drewN | apply Kd.R_drew)); exact HO_7.out) hb); have n1_ := Aside0.mk (Kd.R_below (by (with_reducible repeat (first | apply Kd.R_alloc | apply Kd.R_drewN | apply Kd.R_drew)); exact HO_8.out) hb); have n2_ := Aside0.mk (Kd.S_below (by (with_reducible repeat (first | apply Kd.S_alloc | apply Kd.S_drewN | apply Kd.S_drew)); exact HO_12.out) hb); have n3_ := Aside0.mk (below_step (by repeat (first | (with_reducible first | exact HB.out | apply below_alloc | apply pw_below_drewN | apply below_drew1) | exact HB.out)) hb); clear HO_7; clear HO_8; clear HO_12; clear HB; have HO_7 := n0_; have HO_8 := n1_; have HO_12 := n2_; have HB := n3_; clear n0_ n1_ n2_ n3_; (try clear hb); (try clear hb2); (try clear hk); (try clear hi))))
                      go_ret
                      exact ⟨by first | rfl | (simp [errW_none, errW_some] <;> rfl) | (simp [*, errW_none, errW_some] <;> rfl), by repeat (first | (with_reducible first | exact HB.out | apply below_alloc | apply pw_below_drewN | apply below_drew1) | exact HB.out)⟩
                    · rw [if_neg c38] at H
                      have c38b0 : (a2 == 0) = false := beq_eq_false_iff_ne.mpr c38
                      have c38b1 : (a2 != 0) = true := bne_iff_ne.mpr c38
                      replace H := Option.bind_eq_some_iff.mp H
                      obtain ⟨t821, A410, H⟩ := H
                      replace H : (if 0 ≤ t821 then (if t821 < (x7_3.length : Int) then (columbariumlaw6_BlockBack.l2 k2 l0 (x7_3.set (t821 : Int).toNat (Go.bits .xor .u8 (rd x7_3 t821) a2)) x8_3 t821 0) else (none)) else (none)) = some r := H
                      have A41 := Aside0.mk A410
                      clear A410
                      by_cases c42 : 0 ≤ t821
                      · rw [if_pos c42] at H
                        have c42b0 : decide (0 ≤ t821) = true := decide_eq_true c42
                        clear c42
                        by_cases c43 : t821 < (x7_3.length : Int)
                        · rw [if_pos c43] at H
                          have c43b0 : decide (t821 < (x7_3.length : Int)) = true := decide_eq_true c43
                          clear c43
                          obtain ⟨y823, hy823⟩ : ∃ y_ : List Int, y_ = (x7_3.set (t821 : Int).toNat (Go.bits .xor .u8 (rd x7_3 t821) a2)) := ⟨_, rfl⟩
                          replace H : (columbariumlaw6_BlockBack.l2 k2 l0 y823 x8_3 t821 0) = some r := by first | (rw [hy823]; with_reducible exact H) | (have H2_ := (Option.bind_some _ _).symm.trans H; rw [hy823]; with_reducible exact H2_) | (have H2_ := (Option.bind_some _ _).symm.trans H; with_reducible exact H2_) | with_reducible exact H | (rw [hy823]; exact H) | exact H
                          have Ny823 := Aside0.mk hy823
                          clear hy823
                          have HC45 := Aside0.mk H
                          clear H
                          go_upto_block 4 with (first | (go_at_call 15; (with_reducible refine (columbariumbook_Within.calls a1 0 (wrap64 ((x7_3.length : Int) - 1)) t821 _ A41.out).mono ?_); rintro e w' ⟨rfl, ⟨nd, rfl⟩⟩; (try first | exact ⟨rfl, _, World.drewN_drewN _ _ _⟩ | exact ⟨rfl, _, Eq.trans (World.drewN_drewN _ _ _) (congrArg (World.drewN _) (Nat.add_assoc _ _ _))⟩); have p822 : 0 ≤ (t821 : Int) := of_decide_eq_true (by first | (with_reducible assumption) | assumption); have q822 : t821 < (x7_3.length : Int) := of_decide_eq_true (by first | (with_reducible assumption) | assumption); obtain ⟨ad822, e822, hx822_0⟩ := Kd.at_int (Kd.R_reads' HO_7.out).2.2 t821 p822 q822; cases e822; replace p822 := eq_true p822; replace q822 := eq_true q822; have p44 : 0 ≤ (t821 : Int) := of_decide_eq_true (by first | (with_reducible assumption) | assumption); have q44 : (t821 : Int) < ((x7_3.length : Int) : Int) := of_decide_eq_true (by first | (with_reducible assumption) | assumption); obtain ⟨go44, co44, eo44, gb44, gl44, cl44, HG44⟩ := Kd.R_form HO_7.out (by omega); (first | cases eo44 | (injection eo44 with ea_ en_ ec_; (first | subst ea_ | (injection ea_ with ea_; subst ea_)); subst ec_; clear en_)); have GB44 := Aside0.mk gb44; have GG44 := Aside0.mk HG44; clear gb44 gl44 HG44; (first | simp only [add_plain] at hx822_0 | skip); obtain ⟨hx44_0, hf44_0⟩ := Kd.R_celln 0 HO_7.out (t821 : Int) p44 q44; replace p44 := eq_true p44; replace q44 := eq_true q44; obtain ⟨hy46_, hz46_⟩ := Kd.R_celln 0 HO_7.out (t821 : Int) (of_decide_eq_true (by first | (with_reducible assumption) | assumption)) (of_decide_eq_true (by first | (with_reducible assumption) | assumption)); have HP46 := Kd.R_putg HO_7.out (t821 : Int) (Go.bits .xor .u8 (rd x7_3 t821) a2)) | ((with_reducible refine gate_store (t := 5) (p := 111) rfl ?_); (try (rw [drewN_self wr]; generalize hq_ : World.drewN wr _ = wr; have n0_ := Aside0.mk (Kd.R_at hq_ HO_7.out); have n1_ := Aside0.mk (Kd.R_at hq_ HO_8.out); have n2_ := Aside0.mk (Kd.S_at hq_ HO_12.out); have n3_ := Aside0.mk (below_at hq_ HB.out); clear hq_ HO_7 HO_8 HO_12 HB; have HO_7 := n0_; have HO_8 := n1_; have HO_12 := n2_; have HB := n3_; clear n0_ n1_ n2_ n3_; (try (obtain ⟨hy46_, hz46_⟩ := Kd.R_celln 0 HO_7.out (t821 : Int) (of_decide_eq_true (by first | (with_reducible assumption) | assumption)) (of_decide_eq_true (by first | (with_reducible assumption) | assumption)))); (try (have HP46 := Kd.R_putg HO_7.out (t821 : Int) (Go.bits .xor .u8 (rd x7_3 t821) a2))))); refine store_event (t := 5) (p := 111) (v := ?vo_w47) (w1 := (wr.setCell ⟨go44, (t821 : Int).toNat, none⟩ (.int .u8 (Go.bits .xor .u8 (rd x7_3 t821) a2)))) ?hg ?ho ?hn ?hr ?_; (case ho => rfl); (case hg => rfl); (case hn => rfl); (case hr => first | (go_simp; done) | (go_simp; rfl)); intro w47 hw; have hg : wr.grownBy w47 (some go44) := (by rw [hw]; exact HP46.2); have hp_ : Kd.R (Kd.int .u8) 5 w47 w.heap.size (fun _ => True) (.slice (some ⟨go44, 0, none⟩) x7_3.length co25) y823 := (by rw [hw, Ny823.out]; exact HP46.1); clear HP46; have n0_ := Aside0.mk (hp_); have n1_ := Aside0.mk (Kd.R_over' (v := (.slice (some ⟨go44, 0, none⟩) x7_3.length co25)) (by (with_reducible repeat (first | apply Kd.R_alloc | apply Kd.R_drewN | apply Kd.R_drew)); exact HO_8.out) (Kd.R_typed HO_7.out) (by decide) hg); have n2_ := Aside0.mk (Kd.S_after (v := (.slice (some ⟨go44, 0, none⟩) x7_3.length co25)) (v1 := (.slice (some ⟨go44, 0, none⟩) x7_3.length co25)) (ok := (fun _ => True)) (by (with_reducible repeat (first | apply Kd.S_alloc | apply Kd.S_drewN | apply Kd.S_drew)); exact Kd.S_mono HO_12.out (fun _ hk => ⟨trivial, hk⟩)) hg (.inl rfl)); have n3_ := Aside0.mk ((by rw [hw]; exact below_set (HB.out) GB44.out : Below w.heap.size w w47)); clear HO_7; clear HO_8; clear HO_12; clear HB; have HO_7 := n0_; have HO_8 := n1_; have HO_12 := n2_; have HB := n3_; clear n0_ n1_ n2_ n3_; clear hg hw hp_))
                          repeat (go_quiet (first | (go_at_call 15; (with_reducible refine (columbariumbook_Within.calls a1 0 (wrap64 ((x7_3.length : Int) - 1)) t821 _ A41.out).mono ?_); rintro e w' ⟨rfl, ⟨nd, rfl⟩⟩; (try first | exact ⟨rfl, _, World.drewN_drewN _ _ _⟩ | exact ⟨rfl, _, Eq.trans (World.drewN_drewN _ _ _) (congrArg (World.drewN _) (Nat.add_assoc _ _ _))⟩); have p822 : 0 ≤ (t821 : Int) := of_decide_eq_true (by first | (with_reducible assumption) | assumption); have q822 : t821 < (x7_3.length : Int) := of_decide_eq_true (by first | (with_reducible assumption) | assumption); obtain ⟨ad822, e822, hx822_0⟩ := Kd.at_int (Kd.R_reads' HO_7.out).2.2 t821 p822 q822; cases e822; replace p822 := eq_true p822; replace q822 := eq_true q822; have p44 : 0 ≤ (t821 : Int) := of_decide_eq_true (by first | (with_reducible assumption) | assumption); have q44 : (t821 : Int) < ((x7_3.length : Int) : Int) := of_decide_eq_true (by first | (with_reducible assumption) | assumption); obtain ⟨go44, co44, eo44, gb44, gl44, cl44, HG44⟩ := Kd.R_form HO_7.out (by omega); (first | cases eo44 | (injection eo44 with ea_ en_ ec_; (first | subst ea_ | (injection ea_ with ea_; subst ea_)); subst ec_; clear en_)); have GB44 := Aside0.mk gb44; have GG44 := Aside0.mk HG44; clear gb44 gl44 HG44; (first | simp only [add_plain] at hx822_0 | skip); obtain ⟨hx44_0, hf44_0⟩ := Kd.R_celln 0 HO_7.out (t821 : Int) p44 q44; replace p44 := eq_true p44; replace q44 := eq_true q44; obtain ⟨hy46_, hz46_⟩ := Kd.R_celln 0 HO_7.out (t821 : Int) (of_decide_eq_true (by first | (with_reducible assumption) | assumption)) (of_decide_eq_true (by first | (with_reducible assumption) | assumption)); have HP46 := Kd.R_putg HO_7.out (t821 : Int) (Go.bits .xor .u8 (rd x7_3 t821) a2)) | ((with_reducible refine gate_store (t := 5) (p := 111) rfl ?_); (try (rw [drewN_self wr]; generalize hq_ : World.drewN wr _ = wr; have n0_ := Aside0.mk (Kd.R_at hq_ HO_7.out); have n1_ := Aside0.mk (Kd.R_at hq_ HO_8.out); have n2_ := Aside0.mk (Kd.S_at hq_ HO_12.out); have n3_ := Aside0.mk (below_at hq_ HB.out); clear hq_ HO_7 HO_8 HO_12 HB; have HO_7 := n0_; have HO_8 := n1_; have HO_12 := n2_; have HB := n3_; clear n0_ n1_ n2_ n3_; (try (obtain ⟨hy46_, hz46_⟩ := Kd.R_celln 0 HO_7.out (t821 : Int) (of_decide_eq_true (by first | (with_reducible assumption) | assumption)) (of_decide_eq_true (by first | (with_reducible assumption) | assumption)))); (try (have HP46 := Kd.R_putg HO_7.out (t821 : Int) (Go.bits .xor .u8 (rd x7_3 t821) a2))))); refine store_event (t := 5) (p := 111) (v := ?vo_w47) (w1 := (wr.setCell ⟨go44, (t821 : Int).toNat, none⟩ (.int .u8 (Go.bits .xor .u8 (rd x7_3 t821) a2)))) ?hg ?ho ?hn ?hr ?_; (case ho => rfl); (case hg => rfl); (case hn => rfl); (case hr => first | (go_simp; done) | (go_simp; rfl)); intro w47 hw; have hg : wr.grownBy w47 (some go44) := (by rw [hw]; exact HP46.2); have hp_ : Kd.R (Kd.int .u8) 5 w47 w.heap.size (fun _ => True) (.slice (some ⟨go44, 0, none⟩) x7_3.length co25) y823 := (by rw [hw, Ny823.out]; exact HP46.1); clear HP46; have n0_ := Aside0.mk (hp_); have n1_ := Aside0.mk (Kd.R_over' (v := (.slice (some ⟨go44, 0, none⟩) x7_3.length co25)) (by (with_reducible repeat (first | apply Kd.R_alloc | apply Kd.R_drewN | apply Kd.R_drew)); exact HO_8.out) (Kd.R_typed HO_7.out) (by decide) hg); have n2_ := Aside0.mk (Kd.S_after (v := (.slice (some ⟨go44, 0, none⟩) x7_3.length co25)) (v1 := (.slice (some ⟨go44, 0, none⟩) x7_3.length co25)) (ok := (fun _ => True)) (by (with_reducible repeat (first | apply Kd.S_alloc | apply Kd.S_drewN | apply Kd.S_drew)); exact Kd.S_mono HO_12.out (fun _ hk => ⟨trivial, hk⟩)) hg (.inl rfl)); have n3_ := Aside0.mk ((by rw [hw]; exact below_set (HB.out) GB44.out : Below w.heap.size w w47)); clear HO_7; clear HO_8; clear HO_12; clear HB; have HO_7 := n0_; have HO_8 := n1_; have HO_12 := n2_; have HB := n3_; clear n0_ n1_ n2_ n3_; clear hg hw hp_)); go_upto_block 4 with (first | (go_at_call 15; (with_reducible refine (columbariumbook_Within.calls a1 0 (wrap64 ((x7_3.length : Int) - 1)) t821 _ A41.out).mono ?_); rintro e w' ⟨rfl, ⟨nd, rfl⟩⟩; (try first | exact ⟨rfl, _, World.drewN_drewN _ _ _⟩ | exact ⟨rfl, _, Eq.trans (World.drewN_drewN _ _ _) (congrArg (World.drewN _) (Nat.add_assoc _ _ _))⟩); have p822 : 0 ≤ (t821 : Int) := of_decide_eq_true (by first | (with_reducible assumption) | assumption); have q822 : t821 < (x7_3.length : Int) := of_decide_eq_true (by first | (with_reducible assumption) | assumption); obtain ⟨ad822, e822, hx822_0⟩ := Kd.at_int (Kd.R_reads' HO_7.out).2.2 t821 p822 q822; cases e822; replace p822 := eq_true p822; replace q822 := eq_true q822; have p44 : 0 ≤ (t821 : Int) := of_decide_eq_true (by first | (with_reducible assumption) | assumption); have q44 : (t821 : Int) < ((x7_3.length : Int) : Int) := of_decide_eq_true (by first | (with_reducible assumption) | assumption); obtain ⟨go44, co44, eo44, gb44, gl44, cl44, HG44⟩ := Kd.R_form HO_7.out (by omega); (first | cases eo44 | (injection eo44 with ea_ en_ ec_; (first | subst ea_ | (injection ea_ with ea_; subst ea_)); subst ec_; clear en_)); have GB44 := Aside0.mk gb44; have GG44 := Aside0.mk HG44; clear gb44 gl44 HG44; (first | simp only [add_plain] at hx822_0 | skip); obtain ⟨hx44_0, hf44_0⟩ := Kd.R_celln 0 HO_7.out (t821 : Int) p44 q44; replace p44 := eq_true p44; replace q44 := eq_true q44; obtain ⟨hy46_, hz46_⟩ := Kd.R_celln 0 HO_7.out (t821 : Int) (of_decide_eq_true (by first | (with_reducible assumption) | assumption)) (of_decide_eq_true (by first | (with_reducible assumption) | assumption)); have HP46 := Kd.R_putg HO_7.out (t821 : Int) (Go.bits .xor .u8 (rd x7_3 t821) a2)) | ((with_reducible refine gate_store (t := 5) (p := 111) rfl ?_); (try (rw [drewN_self wr]; generalize hq_ : World.drewN wr _ = wr; have n0_ := Aside0.mk (Kd.R_at hq_ HO_7.out); have n1_ := Aside0.mk (Kd.R_at hq_ HO_8.out); have n2_ := Aside0.mk (Kd.S_at hq_ HO_12.out); have n3_ := Aside0.mk (below_at hq_ HB.out); clear hq_ HO_7 HO_8 HO_12 HB; have HO_7 := n0_; have HO_8 := n1_; have HO_12 := n2_; have HB := n3_; clear n0_ n1_ n2_ n3_; (try (obtain ⟨hy46_, hz46_⟩ := Kd.R_celln 0 HO_7.out (t821 : Int) (of_decide_eq_true (by first | (with_reducible assumption) | assumption)) (of_decide_eq_true (by first | (with_reducible assumption) | assumption)))); (try (have HP46 := Kd.R_putg HO_7.out (t821 : Int) (Go.bits .xor .u8 (rd x7_3 t821) a2))))); refine store_event (t := 5) (p := 111) (v := ?vo_w47) (w1 := (wr.setCell ⟨go44, (t821 : Int).toNat, none⟩ (.int .u8 (Go.bits .xor .u8 (rd x7_3 t821) a2)))) ?hg ?ho ?hn ?hr ?_; (case ho => rfl); (case hg => rfl); (case hn => rfl); (case hr => first | (go_simp; done) | (go_simp; rfl)); intro w47 hw; have hg : wr.grownBy w47 (some go44) := (by rw [hw]; exact HP46.2); have hp_ : Kd.R (Kd.int .u8) 5 w47 w.heap.size (fun _ => True) (.slice (some ⟨go44, 0, none⟩) x7_3.length co25) y823 := (by rw [hw, Ny823.out]; exact HP46.1); clear HP46; have n0_ := Aside0.mk (hp_); have n1_ := Aside0.mk (Kd.R_over' (v := (.slice (some ⟨go44, 0, none⟩) x7_3.length co25)) (by (with_reducible repeat (first | apply Kd.R_alloc | apply Kd.R_drewN | apply Kd.R_drew)); exact HO_8.out) (Kd.R_typed HO_7.out) (by decide) hg); have n2_ := Aside0.mk (Kd.S_after (v := (.slice (some ⟨go44, 0, none⟩) x7_3.length co25)) (v1 := (.slice (some ⟨go44, 0, none⟩) x7_3.length co25)) (ok := (fun _ => True)) (by (with_reducible repeat (first | apply Kd.S_alloc | apply Kd.S_drewN | apply Kd.S_drew)); exact Kd.S_mono HO_12.out (fun _ hk => ⟨trivial, hk⟩)) hg (.inl rfl)); have n3_ := Aside0.mk ((by rw [hw]; exact below_set (HB.out) GB44.out : Below w.heap.size w w47)); clear HO_7; clear HO_8; clear HO_12; clear HB; have HO_7 := n0_; have HO_8 := n1_; have HO_12 := n2_; have HB := n3_; clear n0_ n1_ n2_ n3_; clear hg hw hp_)))
                          (try simp only [Act.put, List.setIfInBounds_toArray, List.set_cons_zero, List.set_cons_succ])
                          go_cut [17] (fun v17 wc => ∃ (kq : Nat) (x17_44 : Int), v17 = .int .i64 x17_44 ∧ Aside0 (columbariumlaw6_BlockBack.j4 kq l0 y823 x8_3 x17_44 = some r) ∧ Aside0 (kq ≤ k2) ∧ Aside0 (Kd.R (Kd.int .u8) 5 wc w.heap.size (fun _ => True) (.slice (some ⟨go44, 0, none⟩) x7_3.length co25) y823) ∧ Aside0 (Kd.R (Kd.int .i64) 3 wc w.heap.size (fun _ => True) (.slice Ao28 x8_3.length co28) x8_3) ∧ Aside0 (Below w.heap.size w wc))
                          case first =>
                            have H := HC45.out
                            clear HC45
                            have H' := Aside0.mk H
                            clear H
                            go_wp2
                            repeat (go_quiet (fail); try go_wp2)
                            go_loopg [17] k2 (fun kq v17 w' => ∃ (x17_3 : Int), v17 = .int .i64 x17_3 ∧ Aside0 (columbariumlaw6_BlockBack.l2 kq l0 y823 x8_3 t821 x17_3 = some r) ∧ Aside0 (kq ≤ k2) ∧ Aside0 (Kd.R (Kd.int .u8) 5 w' w.heap.size (fun _ => True) (.slice (some ⟨go44, 0, none⟩) x7_3.length co25) y823) ∧ Aside0 (Kd.R (Kd.int .i64) 3 w' w.heap.size (fun _ => True) (.slice Ao28 x8_3.length co28) x8_3) ∧ Aside0 (Below w.heap.size w w'))
                            case atStart => exact ⟨(0), (by first | rfl | (simp; done) | (simp [*]; done) | (refine congrArg (Value.int .i64) ?_; (try simp only [decide_eq_true_eq, decide_eq_false_iff_not] at *) <;> (unfold wrap64; omega))), H', ⟨Nat.le_refl _⟩, ⟨by (with_reducible repeat (first | apply Kd.R_alloc | apply Kd.R_drewN | apply Kd.R_drew)); exact HO_7.out⟩, ⟨by (with_reducible repeat (first | apply Kd.R_alloc | apply Kd.R_drewN | apply Kd.R_drew)); exact HO_8.out⟩, ⟨by repeat (first | (with_reducible first | exact HB.out | apply below_alloc | apply pw_below_drewN | apply below_drew1) | exact HB.out)⟩⟩
                            case round =>
                              clear H'
                              try clear c1
                              try clear c2
                              try clear p2
                              try clear c3
                              try clear hcv3
                              try clear c4
                              try clear p4
                              try clear q4
                              try clear hx4
                              try clear hf4
                              try clear c5
                              try clear c5b0
                              try clear c5b1
                              try clear c6
                              try clear c6b0
                              try clear p6
                              try clear c7
                              try clear c7b0
                              try clear p7
                              try clear q7
                              try clear hx7
                              try clear c8
                              try clear p8
                              try clear q8
                              try clear hx8
                              try clear c9
                              try clear c9b0
                              try clear c9b1
                              try clear c9b2
                              try clear c11
                              try clear c11b0
                              try clear c11b1
                              try clear c12
                              try clear c13
                              try clear c22
                              try clear c22b0
                              try clear c22b1
                              try clear c22b2
                              try clear c23
                              try clear c23b0
                              try clear c23b1
                              try clear c24
                              try clear c24b0
                              try clear c24b1
                              try clear c29
                              try clear c29b0
                              try clear c30
                              try clear c30b0
                              try clear c31
                              try clear c31b0
                              try clear c33
                              try clear c33b0
                              try clear c33b1
                              try clear hcv34
                              try clear c35
                              try clear c35b0
                              try clear c35b1
                              try clear c35b2
                              try clear c38
                              try clear c38b0
                              try clear c38b1
                              try clear c42
                              try clear c42b0
                              try clear c43
                              try clear c43b0
                              try clear p44
                              try clear q44
                              try clear hx44
                              try clear hf44
                              try clear hx44_0
                              try clear hx796_0
                              try clear hx816_0
                              try clear hx817_0
                              try clear hx822_0
                              try clear p2
                              try clear p44
                              try clear p6
                              try clear p7
                              try clear p796
                              try clear p816
                              try clear p817
                              try clear p822
                              try clear q44
                              try clear q7
                              try clear q796
                              try clear q816
                              try clear q817
                              try clear q822
                              obtain ⟨x17_3, rfl, HA, HK3, HO_7, HO_8, HB⟩ := hrel
                              have hl7_3 := (Kd.R_reads' HO_7.out).1
                              rw [hl7_3] at HO_7
                              (try simp only [hl7_3])
                              (try simp only [hl7_3] at HO_8)
                              cases gk with
                              | zero => exact absurd HA.out (by simp [columbariumlaw6_BlockBack.l2])
                              | succ k3 =>
                                have H := HA.out
                                clear HA
                                simp only [columbariumlaw6_BlockBack.l2] at H
                                by_cases c48 : x17_3 < (x8_3.length : Int)
                                · rw [if_pos c48] at H
                                  have c48b0 : decide (x17_3 < (x8_3.length : Int)) = true := decide_eq_true c48
                                  clear c48
                                  (first | rw [c48b0] | (simp only [i64_w, i32_w]; rw [c48b0]) | rw [c48b1] | skip)
                                  by_cases c49 : 0 ≤ x17_3
                                  · rw [if_pos c49] at H
                                    have c49b0 : decide (0 ≤ x17_3) = true := decide_eq_true c49
                                    clear c49
                                    by_cases c50 : (rd x8_3 x17_3) ≤ t821
                                    · rw [if_pos c50] at H
                                      have c50b0 : decide ((rd x8_3 x17_3) ≤ t821) = true := decide_eq_true c50
                                      clear c50
                                      have H' := Aside0.mk H
                                      clear H
                                      have p824 : 0 ≤ (x17_3 : Int) := of_decide_eq_true (by first | (with_reducible assumption) | assumption)
                                      have q824 : x17_3 < (x8_3.length : Int) := of_decide_eq_true (by first | (with_reducible assumption) | assumption)
                                      obtain ⟨ad824, e824, hx824_0⟩ := Kd.at_int (Kd.R_reads' HO_8.out).2.2 x17_3 p824 q824
                                      cases e824
                                      replace p824 := eq_true p824
                                      replace q824 := eq_true q824
                                      go_wp2
                                      repeat (go_quiet (fail); try go_wp2)
                                      (try simp only [← hl7_3])
                                      go_roundg k3
                                      case measure => have := HJ3.out; have := HK2.out; have := HK3.out; omega
                                      case rel => exact ⟨(wrap64 (x17_3 + 1)), (by first | rfl | (simp; done) | (simp [*]; done) | (refine congrArg (Value.int .i64) ?_; (try simp only [decide_eq_true_eq, decide_eq_false_iff_not] at *) <;> (unfold wrap64; omega))), H', ⟨by have := HJ3.out; have := HK2.out; have := HK3.out; omega⟩, ⟨by (try simp only [hl7_3]); (with_reducible repeat (first | apply Kd.R_alloc | apply Kd.R_drewN | apply Kd.R_drew)); exact HO_7.out⟩, ⟨by (try simp only [hl7_3]); (with_reducible repeat (first | apply Kd.R_alloc | apply Kd.R_drewN | apply Kd.R_drew)); exact HO_8.out⟩, ⟨by repeat (first | (with_reducible first | exact HB.out | apply below_alloc | apply pw_below_drewN | apply below_drew1) | exact HB.out)⟩⟩
                                    · rw [if_neg c50] at H
                                      have c50b0 : decide ((rd x8_3 x17_3) ≤ t821) = false := decide_eq_false c50
                                      clear c50
                                      have H' := Aside0.mk H
                                      clear H
                                      have p824 : 0 ≤ (x17_3 : Int) := of_decide_eq_true (by first | (with_reducible assumption) | assumption)
                                      have q824 : x17_3 < (x8_3.length : Int) := of_decide_eq_true (by first | (with_reducible assumption) | assumption)
                                      obtain ⟨ad824, e824, hx824_0⟩ := Kd.at_int (Kd.R_reads' HO_8.out).2.2 x17_3 p824 q824
                                      cases e824
                                      replace p824 := eq_true p824
                                      replace q824 := eq_true q824
                                      go_wp2
                                      repeat (go_quiet (fail); try go_wp2)
                                      (try simp only [← hl7_3])
                                      go_meet
                                      case rel => exact ⟨_, (x17_3), (by first | rfl | (simp; done) | (simp [*]; done) | (refine congrArg (Value.int .i64) ?_; (try simp only [decide_eq_true_eq, decide_eq_false_iff_not] at *) <;> (unfold wrap64; omega))), H', ⟨by have := HJ3.out; have := HK2.out; have := HK3.out; first | omega | exact Nat.le_refl _⟩, ⟨by (try simp only [hl7_3]); (with_reducible repeat (first | apply Kd.R_alloc | apply Kd.R_drewN | apply Kd.R_drew)); exact HO_7.out⟩, ⟨by (try simp only [hl7_3]); (with_reducible repeat (first | apply Kd.R_alloc | apply Kd.R_drewN | apply Kd.R_drew)); exact HO_8.out⟩, ⟨by repeat (first | (with_reducible first | exact HB.out | apply below_alloc | apply pw_below_drewN | apply below_drew1) | exact HB.out)⟩⟩
                                  · rw [if_neg c49] at H
                                    exact absurd H (by simp)
                                · rw [if_neg c48] at H
                                  have c48b0 : decide (x17_3 < (x8_3.length : Int)) = false := decide_eq_false c48
                                  clear c48
                                  (first | rw [c48b0] | (simp only [i64_w, i32_w]; rw [c48b0]) | rw [c48b1] | skip)
                                  have H' := Aside0.mk H
                                  clear H
                                  go_wp2
                                  repeat (go_quiet (fail); try go_wp2)
                                  (try simp only [← hl7_3])
                                  go_meet
                                  case rel => exact ⟨_, (x17_3), (by first | rfl | (simp; done) | (simp [*]; done) | (refine congrArg (Value.int .i64) ?_; (try simp only [decide_eq_true_eq, decide_eq_false_iff_not] at *) <;> (unfold wrap64; omega))), H', ⟨by have := HJ3.out; have := HK2.out; have := HK3.out; first | omega | exact Nat.le_refl _⟩, ⟨by (try simp only [hl7_3]); (with_reducible repeat (first | apply Kd.R_alloc | apply Kd.R_drewN | apply Kd.R_drew)); exact HO_7.out⟩, ⟨by (try simp only [hl7_3]); (with_reducible repeat (first | apply Kd.R_alloc | apply Kd.R_drewN | apply Kd.R_drew)); exact HO_8.out⟩, ⟨by repeat (first | (with_reducible first | exact HB.out | apply below_alloc | apply pw_below_drewN | apply below_drew1) | exact HB.out)⟩⟩
                          case rest =>
                            clear HC45
                            try clear c1
                            try clear c2
                            try clear p2
                            try clear c3
                            try clear hcv3
                            try clear c4
                            try clear p4
                            try clear q4
                            try clear hx4
                            try clear hf4
                            try clear c5
                            try clear c5b0
                            try clear c5b1
                            try clear c6
                            try clear c6b0
                            try clear p6
                            try clear c7
                            try clear c7b0
                            try clear p7
                            try clear q7
                            try clear hx7
                            try clear c8
                            try clear p8
                            try clear q8
                            try clear hx8
                            try clear c9
                            try clear c9b0
                            try clear c9b1
                            try clear c9b2
                            try clear c11
                            try clear c11b0
                            try clear c11b1
                            try clear c12
                            try clear c13
                            try clear c22
                            try clear c22b0
                            try clear c22b1
                            try clear c22b2
                            try clear c23
                            try clear c23b0
                            try clear c23b1
                            try clear c24
                            try clear c24b0
                            try clear c24b1
                            try clear c29
                            try clear c29b0
                            try clear c30
                            try clear c30b0
                            try clear c31
                            try clear c31b0
                            try clear c33
                            try clear c33b0
                            try clear c33b1
                            try clear hcv34
                            try clear c35
                            try clear c35b0
                            try clear c35b1
                            try clear c35b2
                            try clear c38
                            try clear c38b0
                            try clear c38b1
                            try clear c42
                            try clear c42b0
                            try clear c43
                            try clear c43b0
                            try clear p44
                            try clear q44
                            try clear hx44
                            try clear hf44
                            try clear c48
                            try clear c48b0
                            try clear c48b1
                            try clear c49
                            try clear c49b0
                            try clear c50
                            try clear c50b0
                            try clear hx44_0
                            try clear hx796_0
                            try clear hx816_0
                            try clear hx817_0
                            try clear hx822_0
                            try clear hx824_0
                            try clear p2
                            try clear p4
                            try clear p44
                            try clear p6
                            try clear p7
                            try clear p796
                            try clear p8
                            try clear p816
                            try clear p817
                            try clear p822
                            try clear p824
                            try clear q4
                            try clear q44
                            try clear q7
                            try clear q796
                            try clear q8
                            try clear q816
                            try clear q817
                            try clear q822
                            try clear q824
                            obtain ⟨kq, x17_44, rfl, HA, HJ44, HO_7, HO_8, HB⟩ := hcut
                            have hl7_44 := (Kd.R_reads' HO_7.out).1
                            rw [hl7_44] at HO_7
                            (try simp only [hl7_44])
                            (try simp only [hl7_44] at HO_8)
                            cases kq with
                            | zero => exact absurd HA.out (by simp [columbariumlaw6_BlockBack.j4])
                            | succ kj44 =>
                              have H := HA.out
                              clear HA
                              simp only [columbariumlaw6_BlockBack.j4] at H
                              replace H := Option.bind_eq_some_iff.mp H
                              obtain ⟨⟨t825, t826, t827⟩, A510, H⟩ := H
                              replace H : (if (t825.length : Int) = x17_44 then (if t827 = 0 then (some false) else (if x17_44 > 0 then (if 0 ≤ (wrap64 (x17_44 - 1)) then (if (wrap64 (x17_44 - 1)) < (x8_3.length : Int) then (if t826 = (rd x8_3 (wrap64 (x17_44 - 1))) then (if x17_44 = 0 then (if t826 = 0 then (columbariumlaw6_BlockBack.l3 kj44 l0 x17_44 t825 0) else (some false)) else (columbariumlaw6_BlockBack.l3 kj44 l0 x17_44 t825 0)) else (some false)) else (none)) else (none)) else (if x17_44 = 0 then (if t826 = 0 then (columbariumlaw6_BlockBack.l3 kj44 l0 x17_44 t825 0) else (some false)) else (columbariumlaw6_BlockBack.l3 kj44 l0 x17_44 t825 0)))) else (some false)) = some r := H
                              have A51 := Aside0.mk A510
                              clear A510
                              by_cases c52 : (t825.length : Int) = x17_44
                              · rw [if_pos c52] at H
                                have c52b0 : ((t825.length : Int) == x17_44) = true := beq_iff_eq.mpr c52
                                have c52b1 : ((t825.length : Int) != x17_44) = false := bne_eq_false_iff_eq.mpr c52
                                clear c52
                                by_cases c53 : t827 = 0
                                · rw [if_pos c53] at H
                                  have c53b0 : (t827 == 0) = true := beq_iff_eq.mpr c53
                                  have c53b1 : (t827 != 0) = false := bne_eq_false_iff_eq.mpr c53
                                  clear c53
                                  exact absurd ((Option.some.inj H).trans hr_.out) (by decide)
                                · rw [if_neg c53] at H
                                  have c53b0 : (t827 == 0) = false := beq_eq_false_iff_ne.mpr c53
                                  have c53b1 : (t827 != 0) = true := bne_iff_ne.mpr c53
                                  by_cases c54 : x17_44 > 0
                                  · rw [if_pos c54] at H
                                    have c54b0 : decide (0 < x17_44) = true := decide_eq_true c54
                                    clear c54
                                    obtain ⟨ji55, hji55⟩ : ∃ j_ : Int, (wrap64 (x17_44 - 1)) = j_ := ⟨_, rfl⟩
                                    replace H : (if 0 ≤ (ji55) then (if (ji55) < (x8_3.length : Int) then (if t826 = (rd x8_3 (ji55)) then (if x17_44 = 0 then (if t826 = 0 then (columbariumlaw6_BlockBack.l3 kj44 l0 x17_44 t825 0) else (some false)) else (columbariumlaw6_BlockBack.l3 kj44 l0 x17_44 t825 0)) else (some false)) else (none)) else (none)) = some r := by first | (rw [hji55] at H; exact H) | (simp only [hji55] at H ⊢; exact H)
                                    (try rw [hji55] at A51)
                                    have hji55w : (IntKind.i64.wrap (x17_44 - 1)) = ji55 := (i64_w _).trans hji55
                                    (try ((have hji55v : (x17_44 - 1) = ji55 := by ((have h_ := hji55); ((try simp only [decide_eq_true_eq] at *) <;> (unfold wrap64 at h_; omega)))); (have hji55l : 0 ≤ ji55 := by ((have h_ := hji55); ((try simp only [decide_eq_true_eq] at *) <;> (unfold wrap64 at h_; omega)))); (have hji55u : ji55 ≤ 64 := by ((have h_ := hji55); ((try simp only [decide_eq_true_eq] at *) <;> (unfold wrap64 at h_; omega))))))
                                    by_cases c56 : 0 ≤ (ji55)
                                    · rw [if_pos c56] at H
                                      have c56b0 : decide (0 ≤ (ji55)) = true := decide_eq_true c56
                                      clear c56
                                      by_cases c57 : (ji55) < (x8_3.length : Int)
                                      · rw [if_pos c57] at H
                                        have c57b0 : decide ((ji55) < (x8_3.length : Int)) = true := decide_eq_true c57
                                        clear c57
                                        by_cases c58 : t826 = (rd x8_3 (ji55))
                                        · rw [if_pos c58] at H
                                          have c58b0 : (t826 == (rd x8_3 (ji55))) = true := beq_iff_eq.mpr c58
                                          have c58b1 : (t826 != (rd x8_3 (ji55))) = false := bne_eq_false_iff_eq.mpr c58
                                          clear c58
                                          by_cases c59 : x17_44 = 0
                                          · rw [if_pos c59] at H
                                            have c59b0 : (x17_44 == 0) = true := beq_iff_eq.mpr c59
                                            have c59b1 : (x17_44 != 0) = false := bne_eq_false_iff_eq.mpr c59
                                            clear c59
                                            by_cases c60 : t826 = 0
                                            · rw [if_pos c60] at H
                                              have c60b0 : (t826 == 0) = true := beq_iff_eq.mpr c60
                                              have c60b1 : (t826 != 0) = false := bne_eq_false_iff_eq.mpr c60
                                              clear c60
                                              have H' := Aside0.mk H
                                              clear H
                                              go_wp2_with (first | (go_at_call 29; (with_reducible refine (block_All.calls kj44 _ _ y823 t825 t826 t827 _ ?side1 ?side2 A51.out).mono ?_); (case side1 => repeat (first | exact (Kd.R_reads' HO_7.out).2.2 | (with_reducible refine Kd.C_alloc ?_ _) | (with_reducible refine Kd.C_drewN ?_ _) | (with_reducible refine Kd.C_drew ?_))); (case side2 => exact (Kd.R_reads' HO_7.out).2.1); rintro e w61 ⟨v828, rfl, ho0, hb⟩; have n0_ := Aside0.mk (Kd.R_below (by (with_reducible repeat (first | apply Kd.R_alloc | apply Kd.R_drewN | apply Kd.R_drew)); exact HO_7.out) hb); have n1_ := Aside0.mk (Kd.R_below (by (with_reducible repeat (first | apply Kd.R_alloc | apply Kd.R_drewN | apply Kd.R_drew)); exact HO_8.out) hb); have n2_ := Aside0.mk (Kd.S_lower (Kd.S_new' ho0 (Kd.R_lt (by (with_reducible repeat (first | apply Kd.R_alloc | apply Kd.R_drewN | apply Kd.R_drew)); exact HO_7.out))) (below_size (by repeat (first | (with_reducible first | exact HB.out | apply below_alloc | apply pw_below_drewN | apply below_drew1) | exact HB.out)))); have n3_ := Aside0.mk (below_step (by repeat (first | (with_reducible first | exact HB.out | apply below_alloc | apply pw_below_drewN | apply below_drew1) | exact HB.out)) hb); clear HO_7; clear HO_8; clear HB; have HO_7 := n0_; have HO_8 := n1_; have HO829 := n2_; have HB := n3_; clear n0_ n1_ n2_ n3_; (try clear hb); (try clear hb2); (try clear hk); (try clear hi); (try clear ho0); obtain ⟨Ao62, co62, eo62⟩ := Kd.S_slice HO829.out; subst eo62; have p830 : 0 ≤ ((ji55) : Int) := of_decide_eq_true (by first | (with_reducible assumption) | assumption); have q830 : (ji55) < (x8_3.length : Int) := of_decide_eq_true (by first | (with_reducible assumption) | assumption); obtain ⟨ad830, e830, hx830_0⟩ := Kd.at_int (Kd.R_reads' HO_8.out).2.2 (ji55) p830 q830; cases e830; replace p830 := eq_true p830; replace q830 := eq_true q830))
                                              repeat (go_quiet (first | (go_at_call 29; (with_reducible refine (block_All.calls kj44 _ _ y823 t825 t826 t827 _ ?side1 ?side2 A51.out).mono ?_); (case side1 => repeat (first | exact (Kd.R_reads' HO_7.out).2.2 | (with_reducible refine Kd.C_alloc ?_ _) | (with_reducible refine Kd.C_drewN ?_ _) | (with_reducible refine Kd.C_drew ?_))); (case side2 => exact (Kd.R_reads' HO_7.out).2.1); rintro e w61 ⟨v828, rfl, ho0, hb⟩; have n0_ := Aside0.mk (Kd.R_below (by (with_reducible repeat (first | apply Kd.R_alloc | apply Kd.R_drewN | apply Kd.R_drew)); exact HO_7.out) hb); have n1_ := Aside0.mk (Kd.R_below (by (with_reducible repeat (first | apply Kd.R_alloc | apply Kd.R_drewN | apply Kd.R_drew)); exact HO_8.out) hb); have n2_ := Aside0.mk (Kd.S_lower (Kd.S_new' ho0 (Kd.R_lt (by (with_reducible repeat (first | apply Kd.R_alloc | apply Kd.R_drewN | apply Kd.R_drew)); exact HO_7.out))) (below_size (by repeat (first | (with_reducible first | exact HB.out | apply below_alloc | apply pw_below_drewN | apply below_drew1) | exact HB.out)))); have n3_ := Aside0.mk (below_step (by repeat (first | (with_reducible first | exact HB.out | apply below_alloc | apply pw_below_drewN | apply below_drew1) | exact HB.out)) hb); clear HO_7; clear HO_8; clear HB; have HO_7 := n0_; have HO_8 := n1_; have HO829 := n2_; have HB := n3_; clear n0_ n1_ n2_ n3_; (try clear hb); (try clear hb2); (try clear hk); (try clear hi); (try clear ho0); obtain ⟨Ao62, co62, eo62⟩ := Kd.S_slice HO829.out; subst eo62; have p830 : 0 ≤ ((ji55) : Int) := of_decide_eq_true (by first | (with_reducible assumption) | assumption); have q830 : (ji55) < (x8_3.length : Int) := of_decide_eq_true (by first | (with_reducible assumption) | assumption); obtain ⟨ad830, e830, hx830_0⟩ := Kd.at_int (Kd.R_reads' HO_8.out).2.2 (ji55) p830 q830; cases e830; replace p830 := eq_true p830; replace q830 := eq_true q830)); try go_wp2_with (first | (go_at_call 29; (with_reducible refine (block_All.calls kj44 _ _ y823 t825 t826 t827 _ ?side1 ?side2 A51.out).mono ?_); (case side1 => repeat (first | exact (Kd.R_reads' HO_7.out).2.2 | (with_reducible refine Kd.C_alloc ?_ _) | (with_reducible refine Kd.C_drewN ?_ _) | (with_reducible refine Kd.C_drew ?_))); (case side2 => exact (Kd.R_reads' HO_7.out).2.1); rintro e w61 ⟨v828, rfl, ho0, hb⟩; have n0_ := Aside0.mk (Kd.R_below (by (with_reducible repeat (first | apply Kd.R_alloc | apply Kd.R_drewN | apply Kd.R_drew)); exact HO_7.out) hb); have n1_ := Aside0.mk (Kd.R_below (by (with_reducible repeat (first | apply Kd.R_alloc | apply Kd.R_drewN | apply Kd.R_drew)); exact HO_8.out) hb); have n2_ := Aside0.mk (Kd.S_lower (Kd.S_new' ho0 (Kd.R_lt (by (with_reducible repeat (first | apply Kd.R_alloc | apply Kd.R_drewN | apply Kd.R_drew)); exact HO_7.out))) (below_size (by repeat (first | (with_reducible first | exact HB.out | apply below_alloc | apply pw_below_drewN | apply below_drew1) | exact HB.out)))); have n3_ := Aside0.mk (below_step (by repeat (first | (with_reducible first | exact HB.out | apply below_alloc | apply pw_below_drewN | apply below_drew1) | exact HB.out)) hb); clear HO_7; clear HO_8; clear HB; have HO_7 := n0_; have HO_8 := n1_; have HO829 := n2_; have HB := n3_; clear n0_ n1_ n2_ n3_; (try clear hb); (try clear hb2); (try clear hk); (try clear hi); (try clear ho0); obtain ⟨Ao62, co62, eo62⟩ := Kd.S_slice HO829.out; subst eo62; have p830 : 0 ≤ ((ji55) : Int) := of_decide_eq_true (by first | (with_reducible assumption) | assumption); have q830 : (ji55) < (x8_3.length : Int) := of_decide_eq_true (by first | (with_reducible assumption) | assumption); obtain ⟨ad830, e830, hx830_0⟩ := Kd.at_int (Kd.R_reads' HO_8.out).2.2 (ji55) p830 q830; cases e830; replace p830 := eq_true p830; replace q830 := eq_true q830)))
                                              go_loopg [21] kj44 (fun kq v21 w' => ∃ (x21_4 : Int), v21 = .int .i64 x21_4 ∧ Aside0 (columbariumlaw6_BlockBack.l3 kq l0 x17_44 t825 x21_4 = some r) ∧ Aside0 (kq ≤ kj44) ∧ Aside0 (Kd.S (Kd.slice 5 (Kd.int .u8)) 24 w' w.heap.size (fun _ => True) (.slice Ao62 t825.length co62) t825) ∧ Aside0 (Below w.heap.size w w'))
                                              case atStart => exact ⟨(0), (by first | rfl | (simp; done) | (simp [*]; done) | (refine congrArg (Value.int .i64) ?_; (try simp only [decide_eq_true_eq, decide_eq_false_iff_not] at *) <;> (unfold wrap64; omega))), H', ⟨Nat.le_refl _⟩, ⟨by (try simp only [hl7_44]); (with_reducible repeat (first | apply Kd.S_alloc | apply Kd.S_drewN | apply Kd.S_drew)); exact Kd.S_mono HO829.out (fun _ hk => trivial)⟩, ⟨by repeat (first | (with_reducible first | exact HB.out | apply below_alloc | apply pw_below_drewN | apply below_drew1) | exact HB.out)⟩⟩
                                              case round =>
                                                clear H'
                                                try clear c1
                                                try clear c2
                                                try clear p2
                                                try clear c3
                                                try clear hcv3
                                                try clear c4
                                                try clear p4
                                                try clear q4
                                                try clear hx4
                                                try clear hf4
                                                try clear c5
                                                try clear c5b0
                                                try clear c5b1
                                                try clear c6
                                                try clear c6b0
                                                try clear p6
                                                try clear c7
                                                try clear c7b0
                                                try clear p7
                                                try clear q7
                                                try clear hx7
                                                try clear c8
                                                try clear p8
                                                try clear q8
                                                try clear hx8
                                                try clear c9
                                                try clear c9b0
                                                try clear c9b1
                                                try clear c9b2
                                                try clear c11
                                                try clear c11b0
                                                try clear c11b1
                                                try clear c12
                                                try clear c13
                                                try clear c22
                                                try clear c22b0
                                                try clear c22b1
                                                try clear c22b2
                                                try clear c23
                                                try clear c23b0
                                                try clear c23b1
                                                try clear c24
                                                try clear c24b0
                                                try clear c24b1
                                                try clear c29
                                                try clear c29b0
                                                try clear c30
                                                try clear c30b0
                                                try clear c31
                                                try clear c31b0
                                                try clear c33
                                                try clear c33b0
                                                try clear c33b1
                                                try clear hcv34
                                                try clear c35
                                                try clear c35b0
                                                try clear c35b1
                                                try clear c35b2
                                                try clear c38
                                                try clear c38b0
                                                try clear c38b1
                                                try clear c42
                                                try clear c42b0
                                                try clear c43
                                                try clear c43b0
                                                try clear p44
                                                try clear q44
                                                try clear hx44
                                                try clear hf44
                                                try clear c48
                                                try clear c48b0
                                                try clear c48b1
                                                try clear c49
                                                try clear c49b0
                                                try clear c50
                                                try clear c50b0
                                                try clear c52
                                                try clear c52b0
                                                try clear c52b1
                                                try clear c53
                                                try clear c53b0
                                                try clear c53b1
                                                try clear c54
                                                try clear c54b0
                                                try clear c56
                                                try clear c56b0
                                                try clear c57
                                                try clear c57b0
                                                try clear c58
                                                try clear c58b0
                                                try clear c58b1
                                                try clear c59
                                                try clear c59b0
                                                try clear c59b1
                                                try clear c60
                                                try clear c60b0
                                                try clear c60b1
                                                try clear hx44_0
                                                try clear hx796_0
                                                try clear hx816_0
                                                try clear hx817_0
                                                try clear hx822_0
                                                try clear hx824_0
                                                try clear hx830_0
                                                try clear p2
                                                try clear p4
                                                try clear p44
                                                try clear p6
                                                try clear p7
                                                try clear p796
                                                try clear p8
                                                try clear p816
                                                try clear p817
                                                try clear p822
                                                try clear p824
                                                try clear p830
                                                try clear q4
                                                try clear q44
                                                try clear q7
                                                try clear q796
                                                try clear q8
                                                try clear q816
                                                try clear q817
                                                try clear q822
                                                try clear q824
                                                try clear q830
                                                obtain ⟨x21_4, rfl, HA, HK4, HO_18, HB⟩ := hrel
                                                cases gk with
                                                | zero => exact absurd HA.out (by simp [columbariumlaw6_BlockBack.l3])
                                                | succ k4 =>
                                                  have H := HA.out
                                                  clear HA
                                                  simp only [columbariumlaw6_BlockBack.l3] at H
                                                  by_cases c63 : x21_4 < x17_44
                                                  · rw [if_pos c63] at H
                                                    have c63b0 : decide (x21_4 < x17_44) = true := decide_eq_true c63
                                                    clear c63
                                                    by_cases c64 : 0 ≤ x21_4
                                                    · rw [if_pos c64] at H
                                                      have c64b0 : decide (0 ≤ x21_4) = true := decide_eq_true c64
                                                      clear c64
                                                      by_cases c65 : x21_4 < (t825.length : Int)
                                                      · rw [if_pos c65] at H
                                                        have c65b0 : decide (x21_4 < (t825.length : Int)) = true := decide_eq_true c65
                                                        clear c65
                                                        by_cases c66 : x21_4 < (l0.length : Int)
                                                        · rw [if_pos c66] at H
                                                          have c66b0 : decide (x21_4 < (l0.length : Int)) = true := decide_eq_true c66
                                                          clear c66
                                                          replace H := Option.bind_eq_some_iff.mp H
                                                          obtain ⟨t833, A670, H⟩ := H
                                                          replace H : (if (strOfNums (rd_L2 t825 x21_4)).toList = t833.toList then (columbariumlaw6_BlockBack.l3 k4 l0 x17_44 t825 (wrap64 (x21_4 + 1))) else (some false)) = some r := H
                                                          have A67 := Aside0.mk A670
                                                          clear A670
                                                          by_cases c68 : (strOfNums (rd_L2 t825 x21_4)).toList = t833.toList
                                                          · rw [if_pos c68] at H
                                                            have c68b0 : ((strOfNums (rd_L2 t825 x21_4)).toList == t833.toList) = true := beq_iff_eq.mpr c68
                                                            have c68b1 : ((strOfNums (rd_L2 t825 x21_4)).toList != t833.toList) = false := bne_eq_false_iff_eq.mpr c68
                                                            clear c68
                                                            have H' := Aside0.mk H
                                                            clear H
                                                            have p831 : 0 ≤ (x21_4 : Int) := of_decide_eq_true (by first | (with_reducible assumption) | assumption)
                                                            have q831 : x21_4 < (t825.length : Int) := of_decide_eq_true (by first | (with_reducible assumption) | assumption)
                                                            obtain ⟨ad831, A831_0, c831_0, e831, hx831_0, hl831_0, hi831_0⟩ := at_L2 (Kd.S_reads' HO_18.out).2.2 x21_4 p831 q831
                                                            cases e831
                                                            obtain ⟨ce831, hce831, hMe831, hcc831⟩ := Kd.S_get HO_18.out [] x21_4 p831 (by first | exact q831 | exact of_decide_eq_true (by first | (with_reducible assumption) | assumption) | (have e_ := (Kd.S_reads' HO_18.out).1; omega))
                                                            obtain ⟨ve831_0, rfl, ge831_0⟩ := hMe831
                                                            have hv831_0 := hcc831 0 _ rfl
                                                            rw [Nat.add_zero, show ((Kd.slice 5 (Kd.int .u8))).sz = 1 from rfl, Nat.mul_one] at hv831_0
                                                            replace hv831_0 := Option.some.inj (hv831_0.symm.trans hx831_0)
                                                            rw [hv831_0] at ge831_0
                                                            have HL831_0 := Aside0.mk (show Kd.R (Kd.int .u8) 5 _ _ _ _ (rd_L2 t825 x21_4) from ge831_0)
                                                            clear hv831_0 ge831_0
                                                            clear hcc831 hce831
                                                            have HR831_0 := Aside0.mk hi831_0
                                                            have HC831_0 := Aside0.mk hl831_0
                                                            clear hi831_0 hl831_0
                                                            replace p831 := eq_true p831
                                                            replace q831 := eq_true q831
                                                            have hcv69 := pw_C_string_len (P := Try.prog) (A := A831_0) (c := c831_0) Try.underlying24 Try.underlying5 Try.underlying9 (by repeat (first | (with_reducible exact HR831_0.out) | (with_reducible refine Kd.C_alloc ?_ _) | (with_reducible refine Kd.C_drewN ?_ _) | (with_reducible refine Kd.C_drew ?_) | exact HR831_0.out))
                                                            have p832 : 0 ≤ (x21_4 : Int) := of_decide_eq_true (by first | (with_reducible assumption) | assumption)
                                                            have q832 : x21_4 < (l0.length : Int) := of_decide_eq_true (by first | (with_reducible assumption) | assumption)
                                                            obtain ⟨ad832, e832, hx832_0⟩ := Kd.at_string HR0.out x21_4 p832 q832
                                                            cases e832
                                                            replace hx832_0 := (HB.out.cell (World.block_lt_of_cell? w _ hx832_0)).trans hx832_0
                                                            replace p832 := eq_true p832
                                                            replace q832 := eq_true q832
                                                            go_wp2_with (first | (go_at_call 25; (with_reducible refine (columbariumlaw6_few.calls (rdOf ByteArray.empty l0 x21_4) t833 _ A67.out).mono ?_); rintro e w' ⟨rfl, ⟨nd, rfl⟩⟩; (try first | exact ⟨rfl, _, World.drewN_drewN _ _ _⟩ | exact ⟨rfl, _, Eq.trans (World.drewN_drewN _ _ _) (congrArg (World.drewN _) (Nat.add_assoc _ _ _))⟩)))
                                                            repeat (go_quiet (first | (go_at_call 25; (with_reducible refine (columbariumlaw6_few.calls (rdOf ByteArray.empty l0 x21_4) t833 _ A67.out).mono ?_); rintro e w' ⟨rfl, ⟨nd, rfl⟩⟩; (try first | exact ⟨rfl, _, World.drewN_drewN _ _ _⟩ | exact ⟨rfl, _, Eq.trans (World.drewN_drewN _ _ _) (congrArg (World.drewN _) (Nat.add_assoc _ _ _))⟩))); try go_wp2_with (first | (go_at_call 25; (with_reducible refine (columbariumlaw6_few.calls (rdOf ByteArray.empty l0 x21_4) t833 _ A67.out).mono ?_); rintro e w' ⟨rfl, ⟨nd, rfl⟩⟩; (try first | exact ⟨rfl, _, World.drewN_drewN _ _ _⟩ | exact ⟨rfl, _, Eq.trans (World.drewN_drewN _ _ _) (congrArg (World.drewN _) (Nat.add_assoc _ _ _))⟩))))
                                                            go_roundg k4
                                                            case measure => have := HJ3.out; have := HK2.out; have := HJ44.out; have := HK4.out; omega
                                                            case rel => exact ⟨(wrap64 (x21_4 + 1)), (by first | rfl | (simp; done) | (simp [*]; done) | (refine congrArg (Value.int .i64) ?_; (try simp only [decide_eq_true_eq, decide_eq_false_iff_not] at *) <;> (unfold wrap64; omega))), H', ⟨by have := HJ3.out; have := HK2.out; have := HJ44.out; have := HK4.out; omega⟩, ⟨by (try simp only [hl7_44]); (with_reducible repeat (first | apply Kd.S_alloc | apply Kd.S_drewN | apply Kd.S_drew)); exact HO_18.out⟩, ⟨by repeat (first | (with_reducible first | exact HB.out | apply below_alloc | apply pw_below_drewN | apply below_drew1) | exact HB.out)⟩⟩
                                                          · rw [if_neg c68] at H
                                                            have c68b0 : ((strOfNums (rd_L2 t825 x21_4)).toList == t833.toList) = false := beq_eq_false_iff_ne.mpr c68
                                                            have c68b1 : ((strOfNums (rd_L2 t825 x21_4)).toList != t833.toList) = true := bne_iff_ne.mpr c68
                                                            exact absurd ((Option.some.inj H).trans hr_.out) (by decide)
                                                        · rw [if_neg c66] at H
                                                          exact absurd H (by simp)
                                                      · rw [if_neg c65] at H
                                                        exact absurd H (by simp)
                                                    · rw [if_neg c64] at H
                                                      exact absurd H (by simp)
                                                  · rw [if_neg c63] at H
                                                    have c63b0 : decide (x21_4 < x17_44) = false := decide_eq_false c63
                                                    clear c63
                                                    replace H := Option.bind_eq_some_iff.mp H
                                                    obtain ⟨t834, A700, H⟩ := H
                                                    replace H : (some t834) = some r := H
                                                    have A70 := Aside0.mk A700
                                                    clear A700
                                                    obtain rfl := Option.some.inj H
                                                    go_wp2_with (first | (go_at_call 27; (with_reducible refine (columbariumlaw6_known.calls k4  t834 _ A70.out).mono ?_); rintro e w71 ⟨rfl, hb⟩; have n0_ := Aside0.mk (Kd.S_below (by (with_reducible repeat (first | apply Kd.S_alloc | apply Kd.S_drewN | apply Kd.S_drew)); exact HO_18.out) hb); have n1_ := Aside0.mk (below_step (by repeat (first | (with_reducible first | exact HB.out | apply below_alloc | apply pw_below_drewN | apply below_drew1) | exact HB.out)) hb); clear HO_18; clear HB; have HO_18 := n0_; have HB := n1_; clear n0_ n1_; (try clear hb); (try clear hb2); (try clear hk); (try clear hi)))
                                                    repeat (go_quiet (first | (go_at_call 27; (with_reducible refine (columbariumlaw6_known.calls k4  t834 _ A70.out).mono ?_); rintro e w71 ⟨rfl, hb⟩; have n0_ := Aside0.mk (Kd.S_below (by (with_reducible repeat (first | apply Kd.S_alloc | apply Kd.S_drewN | apply Kd.S_drew)); exact HO_18.out) hb); have n1_ := Aside0.mk (below_step (by repeat (first | (with_reducible first | exact HB.out | apply below_alloc | apply pw_below_drewN | apply below_drew1) | exact HB.out)) hb); clear HO_18; clear HB; have HO_18 := n0_; have HB := n1_; clear n0_ n1_; (try clear hb); (try clear hb2); (try clear hk); (try clear hi))); try go_wp2_with (first | (go_at_call 27; (with_reducible refine (columbariumlaw6_known.calls k4  t834 _ A70.out).mono ?_); rintro e w71 ⟨rfl, hb⟩; have n0_ := Aside0.mk (Kd.S_below (by (with_reducible repeat (first | apply Kd.S_alloc | apply Kd.S_drewN | apply Kd.S_drew)); exact HO_18.out) hb); have n1_ := Aside0.mk (below_step (by repeat (first | (with_reducible first | exact HB.out | apply below_alloc | apply pw_below_drewN | apply below_drew1) | exact HB.out)) hb); clear HO_18; clear HB; have HO_18 := n0_; have HB := n1_; clear n0_ n1_; (try clear hb); (try clear hb2); (try clear hk); (try clear hi))))
                                                    go_ret
                                                    exact ⟨by first | rfl | (simp [errW_none, errW_some] <;> rfl) | (simp only [← hji55]; first | rfl | (simp [errW_none, errW_some] <;> rfl)) | (simp [*, errW_none, errW_some] <;> rfl), by repeat (first | (with_reducible first | exact HB.out | apply below_alloc | apply pw_below_drewN | apply below_drew1) | exact HB.out)⟩
                                            · rw [if_neg c60] at H
                                              have c60b0 : (t826 == 0) = false := beq_eq_false_iff_ne.mpr c60
                                              have c60b1 : (t826 != 0) = true := bne_iff_ne.mpr c60
                                              exact absurd ((Option.some.inj H).trans hr_.out) (by decide)
                                          · rw [if_neg c59] at H
                                            have c59b0 : (x17_44 == 0) = false := beq_eq_false_iff_ne.mpr c59
                                            have c59b1 : (x17_44 != 0) = true := bne_iff_ne.mpr c59
                                            have H' := Aside0.mk H
                                            clear H
                                            go_wp2_with (first | (go_at_call 29; (with_reducible refine (block_All.calls kj44 _ _ y823 t825 t826 t827 _ ?side1 ?side2 A51.out).mono ?_); (case side1 => repeat (first | exact (Kd.R_reads' HO_7.out).2.2 | (with_reducible refine Kd.C_alloc ?_ _) | (with_reducible refine Kd.C_drewN ?_ _) | (with_reducible refine Kd.C_drew ?_))); (case side2 => exact (Kd.R_reads' HO_7.out).2.1); rintro e w72 ⟨v828, rfl, ho0, hb⟩; have n0_ := Aside0.mk (Kd.R_below (by (with_reducible repeat (first | apply Kd.R_alloc | apply Kd.R_drewN | apply Kd.R_drew)); exact HO_7.out) hb); have n1_ := Aside0.mk (Kd.R_below (by (with_reducible repeat (first | apply Kd.R_alloc | apply Kd.R_drewN | apply Kd.R_drew)); exact HO_8.out) hb); have n2_ := Aside0.mk (Kd.S_lower (Kd.S_new' ho0 (Kd.R_lt (by (with_reducible repeat (first | apply Kd.R_alloc | apply Kd.R_drewN | apply Kd.R_drew)); exact HO_7.out))) (below_size (by repeat (first | (with_reducible first | exact HB.out | apply below_alloc | apply pw_below_drewN | apply below_drew1) | exact HB.out)))); have n3_ := Aside0.mk (below_step (by repeat (first | (with_reducible first | exact HB.out | apply below_alloc | apply pw_below_drewN | apply below_drew1) | exact HB.out)) hb); clear HO_7; clear HO_8; clear HB; have HO_7 := n0_; have HO_8 := n1_; have HO829 := n2_; have HB := n3_; clear n0_ n1_ n2_ n3_; (try clear hb); (try clear hb2); (try clear hk); (try clear hi); (try clear ho0); obtain ⟨Ao73, co73, eo73⟩ := Kd.S_slice HO829.out; subst eo73; have p830 : 0 ≤ ((ji55) : Int) := of_decide_eq_true (by first | (with_reducible assumption) | assumption); have q830 : (ji55) < (x8_3.length : Int) := of_decide_eq_true (by first | (with_reducible assumption) | assumption); obtain ⟨ad830, e830, hx830_0⟩ := Kd.at_int (Kd.R_reads' HO_8.out).2.2 (ji55) p830 q830; cases e830; replace p830 := eq_true p830; replace q830 := eq_true q830))
                                            repeat (go_quiet (first | (go_at_call 29; (with_reducible refine (block_All.calls kj44 _ _ y823 t825 t826 t827 _ ?side1 ?side2 A51.out).mono ?_); (case side1 => repeat (first | exact (Kd.R_reads' HO_7.out).2.2 | (with_reducible refine Kd.C_alloc ?_ _) | (with_reducible refine Kd.C_drewN ?_ _) | (with_reducible refine Kd.C_drew ?_))); (case side2 => exact (Kd.R_reads' HO_7.out).2.1); rintro e w72 ⟨v828, rfl, ho0, hb⟩; have n0_ := Aside0.mk (Kd.R_below (by (with_reducible repeat (first | apply Kd.R_alloc | apply Kd.R_drewN | apply Kd.R_drew)); exact HO_7.out) hb); have n1_ := Aside0.mk (Kd.R_below (by (with_reducible repeat (first | apply Kd.R_alloc | apply Kd.R_drewN | apply Kd.R_drew)); exact HO_8.out) hb); have n2_ := Aside0.mk (Kd.S_lower (Kd.S_new' ho0 (Kd.R_lt (by (with_reducible repeat (first | apply Kd.R_alloc | apply Kd.R_drewN | apply Kd.R_drew)); exact HO_7.out))) (below_size (by repeat (first | (with_reducible first | exact HB.out | apply below_alloc | apply pw_below_drewN | apply below_drew1) | exact HB.out)))); have n3_ := Aside0.mk (below_step (by repeat (first | (with_reducible first | exact HB.out | apply below_alloc | apply pw_below_drewN | apply below_drew1) | exact HB.out)) hb); clear HO_7; clear HO_8; clear HB; have HO_7 := n0_; have HO_8 := n1_; have HO829 := n2_; have HB := n3_; clear n0_ n1_ n2_ n3_; (try clear hb); (try clear hb2); (try clear hk); (try clear hi); (try clear ho0); obtain ⟨Ao73, co73, eo73⟩ := Kd.S_slice HO829.out; subst eo73; have p830 : 0 ≤ ((ji55) : Int) := of_decide_eq_true (by first | (with_reducible assumption) | assumption); have q830 : (ji55) < (x8_3.length : Int) := of_decide_eq_true (by first | (with_reducible assumption) | assumption); obtain ⟨ad830, e830, hx830_0⟩ := Kd.at_int (Kd.R_reads' HO_8.out).2.2 (ji55) p830 q830; cases e830; replace p830 := eq_true p830; replace q830 := eq_true q830)); try go_wp2_with (first | (go_at_call 29; (with_reducible refine (block_All.calls kj44 _ _ y823 t825 t826 t827 _ ?side1 ?side2 A51.out).mono ?_); (case side1 => repeat (first | exact (Kd.R_reads' HO_7.out).2.2 | (with_reducible refine Kd.C_alloc ?_ _) | (with_reducible refine Kd.C_drewN ?_ _) | (with_reducible refine Kd.C_drew ?_))); (case side2 => exact (Kd.R_reads' HO_7.out).2.1); rintro e w72 ⟨v828, rfl, ho0, hb⟩; have n0_ := Aside0.mk (Kd.R_below (by (with_reducible repeat (first | apply Kd.R_alloc | apply Kd.R_drewN | apply Kd.R_drew)); exact HO_7.out) hb); have n1_ := Aside0.mk (Kd.R_below (by (with_reducible repeat (first | apply Kd.R_alloc | apply Kd.R_drewN | apply Kd.R_drew)); exact HO_8.out) hb); have n2_ := Aside0.mk (Kd.S_lower (Kd.S_new' ho0 (Kd.R_lt (by (with_reducible repeat (first | apply Kd.R_alloc | apply Kd.R_drewN | apply Kd.R_drew)); exact HO_7.out))) (below_size (by repeat (first | (with_reducible first | exact HB.out | apply below_alloc | apply pw_below_drewN | apply below_drew1) | exact HB.out)))); have n3_ := Aside0.mk (below_step (by repeat (first | (with_reducible first | exact HB.out | apply below_alloc | apply pw_below_drewN | apply below_drew1) | exact HB.out)) hb); clear HO_7; clear HO_8; clear HB; have HO_7 := n0_; have HO_8 := n1_; have HO829 := n2_; have HB := n3_; clear n0_ n1_ n2_ n3_; (try clear hb); (try clear hb2); (try clear hk); (try clear hi); (try clear ho0); obtain ⟨Ao73, co73, eo73⟩ := Kd.S_slice HO829.out; subst eo73; have p830 : 0 ≤ ((ji55) : Int) := of_decide_eq_true (by first | (with_reducible assumption) | assumption); have q830 : (ji55) < (x8_3.length : Int) := of_decide_eq_true (by first | (with_reducible assumption) | assumption); obtain ⟨ad830, e830, hx830_0⟩ := Kd.at_int (Kd.R_reads' HO_8.out).2.2 (ji55) p830 q830; cases e830; replace p830 := eq_true p830; replace q830 := eq_true q830)))
                                            go_loopg [21] kj44 (fun kq v21 w' => ∃ (x21_4 : Int), v21 = .int .i64 x21_4 ∧ Aside0 (columbariumlaw6_BlockBack.l3 kq l0 x17_44 t825 x21_4 = some r) ∧ Aside0 (kq ≤ kj44) ∧ Aside0 (Kd.S (Kd.slice 5 (Kd.int .u8)) 24 w' w.heap.size (fun _ => True) (.slice Ao73 t825.length co73) t825) ∧ Aside0 (Below w.heap.size w w'))
                                            case atStart => exact ⟨(0), (by first | rfl | (simp; done) | (simp [*]; done) | (refine congrArg (Value.int .i64) ?_; (try simp only [decide_eq_true_eq, decide_eq_false_iff_not] at *) <;> (unfold wrap64; omega))), H', ⟨Nat.le_refl _⟩, ⟨by (try simp only [hl7_44]); (with_reducible repeat (first | apply Kd.S_alloc | apply Kd.S_drewN | apply Kd.S_drew)); exact Kd.S_mono HO829.out (fun _ hk => trivial)⟩, ⟨by repeat (first | (with_reducible first | exact HB.out | apply below_alloc | apply pw_below_drewN | apply below_drew1) | exact HB.out)⟩⟩
                                            case round =>
                                              clear H'
                                              try clear c1
                                              try clear c2
                                              try clear p2
                                              try clear c3
                                              try clear hcv3
                                              try clear c4
                                              try clear p4
                                              try clear q4
                                              try clear hx4
                                              try clear hf4
                                              try clear c5
                                              try clear c5b0
                                              try clear c5b1
                                              try clear c6
                                              try clear c6b0
                                              try clear p6
                                              try clear hcv6
                                              try clear c7
                                              try clear c7b0
                                              try clear p7
                                              try clear q7
                                              try clear hx7
                                              try clear c8
                                              try clear p8
                                              try clear q8
                                              try clear hx8
                                              try clear c9
                                              try clear c9b0
                                              try clear c9b1
                                              try clear c9b2
                                              try clear c11
                                              try clear c11b0
                                              try clear c11b1
                                              try clear c12
                                              try clear c13
                                              try clear c22
                                              try clear c22b0
                                              try clear c22b1
                                              try clear c22b2
                                              try clear c23
                                              try clear c23b0
                                              try clear c23b1
                                              try clear c24
                                              try clear c24b0
                                              try clear c24b1
                                              try clear c29
                                              try clear c29b0
                                              try clear c30
                                              try clear c30b0
                                              try clear c31
                                              try clear c31b0
                                              try clear c33
                                              try clear c33b0
                                              try clear c33b1
                                              try clear hcv34
                                              try clear c35
                                              try clear c35b0
                                              try clear c35b1
                                              try clear c35b2
                                              try clear c38
                                              try clear c38b0
                                              try clear c38b1
                                              try clear c42
                                              try clear c42b0
                                              try clear c43
                                              try clear c43b0
                                              try clear p44
                                              try clear q44
                                              try clear hx44
                                              try clear hf44
                                              try clear c48
                                              try clear c48b0
                                              try clear c48b1
                                              try clear c49
                                              try clear c49b0
                                              try clear c50
                                              try clear c50b0
                                              try clear c52
                                              try clear c52b0
                                              try clear c52b1
                                              try clear c53
                                              try clear c53b0
                                              try clear c53b1
                                              try clear c54
                                              try clear c54b0
                                              try clear c56
                                              try clear c56b0
                                              try clear c57
                                              try clear c57b0
                                              try clear c58
                                              try clear c58b0
                                              try clear c58b1
                                              try clear c59
                                              try clear c59b0
                                              try clear c59b1
                                              try clear c60
                                              try clear c60b0
                                              try clear c60b1
                                              try clear c63
                                              try clear c63b0
                                              try clear c64
                                              try clear c64b0
                                              try clear p64
                                              try clear c65
                                              try clear c65b0
                                              try clear c66
                                              try clear c66b0
                                              try clear c68
                                              try clear c68b0
                                              try clear c68b1
                                              try clear hcv69
                                              try clear hx44_0
                                              try clear hx796_0
                                              try clear hx816_0
                                              try clear hx817_0
                                              try clear hx822_0
                                              try clear hx824_0
                                              try clear hx830_0
                                              try clear hx831_0
                                              try clear hx832_0
                                              try clear p2
                                              try clear p4
                                              try clear p44
                                              try clear p6
                                              try clear p7
                                              try clear p796
                                              try clear p8
                                              try clear p816
                                              try clear p817
                                              try clear p822
                                              try clear p824
                                              try clear p830
                                              try clear p831
                                              try clear p832
                                              try clear q4
                                              try clear q44
                                              try clear q7
                                              try clear q796
                                              try clear q8
                                              try clear q816
                                              try clear q817
                                              try clear q822
                                              try clear q824
                                              try clear q830
                                              try clear q831
                                              try clear q832
                                              obtain ⟨x21_4, rfl, HA, HK4, HO_18, HB⟩ := hrel
                                              cases gk with
                                              | zero => exact absurd HA.out (by simp [columbariumlaw6_BlockBack.l3])
                                              | succ k4 =>
                                                have H := HA.out
                                                clear HA
                                                simp only [columbariumlaw6_BlockBack.l3] at H
                                                by_cases c74 : x21_4 < x17_44
                                                · rw [if_pos c74] at H
                                                  have c74b0 : decide (x21_4 < x17_44) = true := decide_eq_true c74
                                                  clear c74
                                                  by_cases c75 : 0 ≤ x21_4
                                                  · rw [if_pos c75] at H
                                                    have c75b0 : decide (0 ≤ x21_4) = true := decide_eq_true c75
                                                    clear c75
                                                    by_cases c76 : x21_4 < (t825.length : Int)
                                                    · rw [if_pos c76] at H
                                                      have c76b0 : decide (x21_4 < (t825.length : Int)) = true := decide_eq_true c76
                                                      clear c76
                                                      by_cases c77 : x21_4 < (l0.length : Int)
                                                      · rw [if_pos c77] at H
                                                        have c77b0 : decide (x21_4 < (l0.length : Int)) = true := decide_eq_true c77
                                                        clear c77
                                                        replace H := Option.bind_eq_some_iff.mp H
                                                        obtain ⟨t833, A780, H⟩ := H
                                                        replace H : (if (strOfNums (rd_L2 t825 x21_4)).toList = t833.toList then (columbariumlaw6_BlockBack.l3 k4 l0 x17_44 t825 (wrap64 (x21_4 + 1))) else (some false)) = some r := H
                                                        have A78 := Aside0.mk A780
                                                        clear A780
                                                        by_cases c79 : (strOfNums (rd_L2 t825 x21_4)).toList = t833.toList
                                                        · rw [if_pos c79] at H
                                                          have c79b0 : ((strOfNums (rd_L2 t825 x21_4)).toList == t833.toList) = true := beq_iff_eq.mpr c79
                                                          have c79b1 : ((strOfNums (rd_L2 t825 x21_4)).toList != t833.toList) = false := bne_eq_false_iff_eq.mpr c79
                                                          clear c79
                                                          have H' := Aside0.mk H
                                                          clear H
                                                          have p831 : 0 ≤ (x21_4 : Int) := of_decide_eq_true (by first | (with_reducible assumption) | assumption)
                                                          have q831 : x21_4 < (t825.length : Int) := of_decide_eq_true (by first | (with_reducible assumption) | assumption)
                                                          obtain ⟨ad831, A831_0, c831_0, e831, hx831_0, hl831_0, hi831_0⟩ := at_L2 (Kd.S_reads' HO_18.out).2.2 x21_4 p831 q831
                                                          cases e831
                                                          obtain ⟨ce831, hce831, hMe831, hcc831⟩ := Kd.S_get HO_18.out [] x21_4 p831 (by first | exact q831 | exact of_decide_eq_true (by first | (with_reducible assumption) | assumption) | (have e_ := (Kd.S_reads' HO_18.out).1; omega))
                                                          obtain ⟨ve831_0, rfl, ge831_0⟩ := hMe831
                                                          have hv831_0 := hcc831 0 _ rfl
                                                          rw [Nat.add_zero, show ((Kd.slice 5 (Kd.int .u8))).sz = 1 from rfl, Nat.mul_one] at hv831_0
                                                          replace hv831_0 := Option.some.inj (hv831_0.symm.trans hx831_0)
                                                          rw [hv831_0] at ge831_0
                                                          have HL831_0 := Aside0.mk (show Kd.R (Kd.int .u8) 5 _ _ _ _ (rd_L2 t825 x21_4) from ge831_0)
                                                          clear hv831_0 ge831_0
                                                          clear hcc831 hce831
                                                          have HR831_0 := Aside0.mk hi831_0
                                                          have HC831_0 := Aside0.mk hl831_0
                                                          clear hi831_0 hl831_0
                                                          replace p831 := eq_true p831
                                                          replace q831 := eq_true q831
                                                          have hcv80 := pw_C_string_len (P := Try.prog) (A := A831_0) (c := c831_0) Try.underlying24 Try.underlying5 Try.underlying9 (by repeat (first | (with_reducible exact HR831_0.out) | (with_reducible refine Kd.C_alloc ?_ _) | (with_reducible refine Kd.C_drewN ?_ _) | (with_reducible refine Kd.C_drew ?_) | exact HR831_0.out))
                                                          have p832 : 0 ≤ (x21_4 : Int) := of_decide_eq_true (by first | (with_reducible assumption) | assumption)
                                                          have q832 : x21_4 < (l0.length : Int) := of_decide_eq_true (by first | (with_reducible assumption) | assumption)
                                                          obtain ⟨ad832, e832, hx832_0⟩ := Kd.at_string HR0.out x21_4 p832 q832
                                                          cases e832
                                                          replace hx832_0 := (HB.out.cell (World.block_lt_of_cell? w _ hx832_0)).trans hx832_0
                                                          replace p832 := eq_true p832
                                                          replace q832 := eq_true q832
                                                          go_wp2_with (first | (go_at_call 25; (with_reducible refine (columbariumlaw6_few.calls (rdOf ByteArray.empty l0 x21_4) t833 _ A78.out).mono ?_); rintro e w' ⟨rfl, ⟨nd, rfl⟩⟩; (try first | exact ⟨rfl, _, World.drewN_drewN _ _ _⟩ | exact ⟨rfl, _, Eq.trans (World.drewN_drewN _ _ _) (congrArg (World.drewN _) (Nat.add_assoc _ _ _))⟩)))
                                                          repeat (go_quiet (first | (go_at_call 25; (with_reducible refine (columbariumlaw6_few.calls (rdOf ByteArray.empty l0 x21_4) t833 _ A78.out).mono ?_); rintro e w' ⟨rfl, ⟨nd, rfl⟩⟩; (try first | exact ⟨rfl, _, World.drewN_drewN _ _ _⟩ | exact ⟨rfl, _, Eq.trans (World.drewN_drewN _ _ _) (congrArg (World.drewN _) (Nat.add_assoc _ _ _))⟩))); try go_wp2_with (first | (go_at_call 25; (with_reducible refine (columbariumlaw6_few.calls (rdOf ByteArray.empty l0 x21_4) t833 _ A78.out).mono ?_); rintro e w' ⟨rfl, ⟨nd, rfl⟩⟩; (try first | exact ⟨rfl, _, World.drewN_drewN _ _ _⟩ | exact ⟨rfl, _, Eq.trans (World.drewN_drewN _ _ _) (congrArg (World.drewN _) (Nat.add_assoc _ _ _))⟩))))
                                                          go_roundg k4
                                                          case measure => have := HJ3.out; have := HK2.out; have := HJ44.out; have := HK4.out; omega
                                                          case rel => exact ⟨(wrap64 (x21_4 + 1)), (by first | rfl | (simp; done) | (simp [*]; done) | (refine congrArg (Value.int .i64) ?_; (try simp only [decide_eq_true_eq, decide_eq_false_iff_not] at *) <;> (unfold wrap64; omega))), H', ⟨by have := HJ3.out; have := HK2.out; have := HJ44.out; have := HK4.out; omega⟩, ⟨by (try simp only [hl7_44]); (with_reducible repeat (first | apply Kd.S_alloc | apply Kd.S_drewN | apply Kd.S_drew)); exact HO_18.out⟩, ⟨by repeat (first | (with_reducible first | exact HB.out | apply below_alloc | apply pw_below_drewN | apply below_drew1) | exact HB.out)⟩⟩
                                                        · rw [if_neg c79] at H
                                                          have c79b0 : ((strOfNums (rd_L2 t825 x21_4)).toList == t833.toList) = false := beq_eq_false_iff_ne.mpr c79
                                                          have c79b1 : ((strOfNums (rd_L2 t825 x21_4)).toList != t833.toList) = true := bne_iff_ne.mpr c79
                                                          exact absurd ((Option.some.inj H).trans hr_.out) (by decide)
                                                      · rw [if_neg c77] at H
                                                        exact absurd H (by simp)
                                                    · rw [if_neg c76] at H
                                                      exact absurd H (by simp)
                                                  · rw [if_neg c75] at H
                                                    exact absurd H (by simp)
                                                · rw [if_neg c74] at H
                                                  have c74b0 : decide (x21_4 < x17_44) = false := decide_eq_false c74
                                                  clear c74
                                                  replace H := Option.bind_eq_some_iff.mp H
                                                  obtain ⟨t834, A810, H⟩ := H
                                                  replace H : (some t834) = some r := H
                                                  have A81 := Aside0.mk A810
                                                  clear A810
                                                  obtain rfl := Option.some.inj H
                                                  go_wp2_with (first | (go_at_call 27; (with_reducible refine (columbariumlaw6_known.calls k4  t834 _ A81.out).mono ?_); rintro e w82 ⟨rfl, hb⟩; have n0_ := Aside0.mk (Kd.S_below (by (with_reducible repeat (first | apply Kd.S_alloc | apply Kd.S_drewN | apply Kd.S_drew)); exact HO_18.out) hb); have n1_ := Aside0.mk (below_step (by repeat (first | (with_reducible first | exact HB.out | apply below_alloc | apply pw_below_drewN | apply below_drew1) | exact HB.out)) hb); clear HO_18; clear HB; have HO_18 := n0_; have HB := n1_; clear n0_ n1_; (try clear hb); (try clear hb2); (try clear hk); (try clear hi)))
                                                  repeat (go_quiet (first | (go_at_call 27; (with_reducible refine (columbariumlaw6_known.calls k4  t834 _ A81.out).mono ?_); rintro e w82 ⟨rfl, hb⟩; have n0_ := Aside0.mk (Kd.S_below (by (with_reducible repeat (first | apply Kd.S_alloc | apply Kd.S_drewN | apply Kd.S_drew)); exact HO_18.out) hb); have n1_ := Aside0.mk (below_step (by repeat (first | (with_reducible first | exact HB.out | apply below_alloc | apply pw_below_drewN | apply below_drew1) | exact HB.out)) hb); clear HO_18; clear HB; have HO_18 := n0_; have HB := n1_; clear n0_ n1_; (try clear hb); (try clear hb2); (try clear hk); (try clear hi))); try go_wp2_with (first | (go_at_call 27; (with_reducible refine (columbariumlaw6_known.calls k4  t834 _ A81.out).mono ?_); rintro e w82 ⟨rfl, hb⟩; have n0_ := Aside0.mk (Kd.S_below (by (with_reducible repeat (first | apply Kd.S_alloc | apply Kd.S_drewN | apply Kd.S_drew)); exact HO_18.out) hb); have n1_ := Aside0.mk (below_step (by repeat (first | (with_reducible first | exact HB.out | apply below_alloc | apply pw_below_drewN | apply below_drew1) | exact HB.out)) hb); clear HO_18; clear HB; have HO_18 := n0_; have HB := n1_; clear n0_ n1_; (try clear hb); (try clear hb2); (try clear hk); (try clear hi))))
                                                  go_ret
                                                  exact ⟨by first | rfl | (simp [errW_none, errW_some] <;> rfl) | (simp only [← hji55]; first | rfl | (simp [errW_none, errW_some] <;> rfl)) | (simp [*, errW_none, errW_some] <;> rfl), by repeat (first | (with_reducible first | exact HB.out | apply below_alloc | apply pw_below_drewN | apply below_drew1) | exact HB.out)⟩
                                        · rw [if_neg c58] at H
                                          have c58b0 : (t826 == (rd x8_3 (ji55))) = false := beq_eq_false_iff_ne.mpr c58
                                          have c58b1 : (t826 != (rd x8_3 (ji55))) = true := bne_iff_ne.mpr c58
                                          exact absurd ((Option.some.inj H).trans hr_.out) (by decide)
                                      · rw [if_neg c57] at H
                                        exact absurd H (by simp)
                                    · rw [if_neg c56] at H
                                      exact absurd H (by simp)
                                  · rw [if_neg c54] at H
                                    have c54b0 : decide (0 < x17_44) = false := decide_eq_false c54
                                    clear c54
                                    by_cases c83 : x17_44 = 0
                                    · rw [if_pos c83] at H
                                      have c83b0 : (x17_44 == 0) = true := beq_iff_eq.mpr c83
                                      have c83b1 : (x17_44 != 0) = false := bne_eq_false_iff_eq.mpr c83
                                      clear c83
                                      by_cases c84 : t826 = 0
                                      · rw [if_pos c84] at H
                                        have c84b0 : (t826 == 0) = true := beq_iff_eq.mpr c84
                                        have c84b1 : (t826 != 0) = false := bne_eq_false_iff_eq.mpr c84
                                        clear c84
                                        have H' := Aside0.mk H
                                        clear H
                                        go_wp2_with (first | (go_at_call 29; (with_reducible refine (block_All.calls kj44 _ _ y823 t825 t826 t827 _ ?side1 ?side2 A51.out).mono ?_); (case side1 => repeat (first | exact (Kd.R_reads' HO_7.out).2.2 | (with_reducible refine Kd.C_alloc ?_ _) | (with_reducible refine Kd.C_drewN ?_ _) | (with_reducible refine Kd.C_drew ?_))); (case side2 => exact (Kd.R_reads' HO_7.out).2.1); rintro e w85 ⟨v828, rfl, ho0, hb⟩; have n0_ := Aside0.mk (Kd.R_below (by (with_reducible repeat (first | apply Kd.R_alloc | apply Kd.R_drewN | apply Kd.R_drew)); exact HO_7.out) hb); have n1_ := Aside0.mk (Kd.R_below (by (with_reducible repeat (first | apply Kd.R_alloc | apply Kd.R_drewN | apply Kd.R_drew)); exact HO_8.out) hb); have n2_ := Aside0.mk (Kd.S_lower (Kd.S_new' ho0 (Kd.R_lt (by (with_reducible repeat (first | apply Kd.R_alloc | apply Kd.R_drewN | apply Kd.R_drew)); exact HO_7.out))) (below_size (by repeat (first | (with_reducible first | exact HB.out | apply below_alloc | apply pw_below_drewN | apply below_drew1) | exact HB.out)))); have n3_ := Aside0.mk (below_step (by repeat (first | (with_reducible first | exact HB.out | apply below_alloc | apply pw_below_drewN | apply below_drew1) | exact HB.out)) hb); clear HO_7; clear HO_8; clear HB; have HO_7 := n0_; have HO_8 := n1_; have HO829 := n2_; have HB := n3_; clear n0_ n1_ n2_ n3_; (try clear hb); (try clear hb2); (try clear hk); (try clear hi); (try clear ho0); obtain ⟨Ao86, co86, eo86⟩ := Kd.S_slice HO829.out; subst eo86))
                                        repeat (go_quiet (first | (go_at_call 29; (with_reducible refine (block_All.calls kj44 _ _ y823 t825 t826 t827 _ ?side1 ?side2 A51.out).mono ?_); (case side1 => repeat (first | exact (Kd.R_reads' HO_7.out).2.2 | (with_reducible refine Kd.C_alloc ?_ _) | (with_reducible refine Kd.C_drewN ?_ _) | (with_reducible refine Kd.C_drew ?_))); (case side2 => exact (Kd.R_reads' HO_7.out).2.1); rintro e w85 ⟨v828, rfl, ho0, hb⟩; have n0_ := Aside0.mk (Kd.R_below (by (with_reducible repeat (first | apply Kd.R_alloc | apply Kd.R_drewN | apply Kd.R_drew)); exact HO_7.out) hb); have n1_ := Aside0.mk (Kd.R_below (by (with_reducible repeat (first | apply Kd.R_alloc | apply Kd.R_drewN | apply Kd.R_drew)); exact HO_8.out) hb); have n2_ := Aside0.mk (Kd.S_lower (Kd.S_new' ho0 (Kd.R_lt (by (with_reducible repeat (first | apply Kd.R_alloc | apply Kd.R_drewN | apply Kd.R_drew)); exact HO_7.out))) (below_size (by repeat (first | (with_reducible first | exact HB.out | apply below_alloc | apply pw_below_drewN | apply below_drew1) | exact HB.out)))); have n3_ := Aside0.mk (below_step (by repeat (first | (with_reducible first | exact HB.out | apply below_alloc | apply pw_below_drewN | apply below_drew1) | exact HB.out)) hb); clear HO_7; clear HO_8; clear HB; have HO_7 := n0_; have HO_8 := n1_; have HO829 := n2_; have HB := n3_; clear n0_ n1_ n2_ n3_; (try clear hb); (try clear hb2); (try clear hk); (try clear hi); (try clear ho0); obtain ⟨Ao86, co86, eo86⟩ := Kd.S_slice HO829.out; subst eo86)); try go_wp2_with (first | (go_at_call 29; (with_reducible refine (block_All.calls kj44 _ _ y823 t825 t826 t827 _ ?side1 ?side2 A51.out).mono ?_); (case side1 => repeat (first | exact (Kd.R_reads' HO_7.out).2.2 | (with_reducible refine Kd.C_alloc ?_ _) | (with_reducible refine Kd.C_drewN ?_ _) | (with_reducible refine Kd.C_drew ?_))); (case side2 => exact (Kd.R_reads' HO_7.out).2.1); rintro e w85 ⟨v828, rfl, ho0, hb⟩; have n0_ := Aside0.mk (Kd.R_below (by (with_reducible repeat (first | apply Kd.R_alloc | apply Kd.R_drewN | apply Kd.R_drew)); exact HO_7.out) hb); have n1_ := Aside0.mk (Kd.R_below (by (with_reducible repeat (first | apply Kd.R_alloc | apply Kd.R_drewN | apply Kd.R_drew)); exact HO_8.out) hb); have n2_ := Aside0.mk (Kd.S_lower (Kd.S_new' ho0 (Kd.R_lt (by (with_reducible repeat (first | apply Kd.R_alloc | apply Kd.R_drewN | apply Kd.R_drew)); exact HO_7.out))) (below_size (by repeat (first | (with_reducible first | exact HB.out | apply below_alloc | apply pw_below_drewN | apply below_drew1) | exact HB.out)))); have n3_ := Aside0.mk (below_step (by repeat (first | (with_reducible first | exact HB.out | apply below_alloc | apply pw_below_drewN | apply below_drew1) | exact HB.out)) hb); clear HO_7; clear HO_8; clear HB; have HO_7 := n0_; have HO_8 := n1_; have HO829 := n2_; have HB := n3_; clear n0_ n1_ n2_ n3_; (try clear hb); (try clear hb2); (try clear hk); (try clear hi); (try clear ho0); obtain ⟨Ao86, co86, eo86⟩ := Kd.S_slice HO829.out; subst eo86)))
                                        go_loopg [21] kj44 (fun kq v21 w' => ∃ (x21_4 : Int), v21 = .int .i64 x21_4 ∧ Aside0 (columbariumlaw6_BlockBack.l3 kq l0 x17_44 t825 x21_4 = some r) ∧ Aside0 (kq ≤ kj44) ∧ Aside0 (Kd.S (Kd.slice 5 (Kd.int .u8)) 24 w' w.heap.size (fun _ => True) (.slice Ao86 t825.length co86) t825) ∧ Aside0 (Below w.heap.size w w'))
                                        case atStart => exact ⟨(0), (by first | rfl | (simp; done) | (simp [*]; done) | (refine congrArg (Value.int .i64) ?_; (try simp only [decide_eq_true_eq, decide_eq_false_iff_not] at *) <;> (unfold wrap64; omega))), H', ⟨Nat.le_refl _⟩, ⟨by (try simp only [hl7_44]); (with_reducible repeat (first | apply Kd.S_alloc | apply Kd.S_drewN | apply Kd.S_drew)); exact Kd.S_mono HO829.out (fun _ hk => trivial)⟩, ⟨by repeat (first | (with_reducible first | exact HB.out | apply below_alloc | apply pw_below_drewN | apply below_drew1) | exact HB.out)⟩⟩
                                        case round =>
                                          clear H'
                                          try clear c1
                                          try clear c2
                                          try clear p2
                                          try clear c3
                                          try clear hcv3
                                          try clear c4
                                          try clear p4
                                          try clear q4
                                          try clear hx4
                                          try clear hf4
                                          try clear c5
                                          try clear c5b0
                                          try clear c5b1
                                          try clear c6
                                          try clear c6b0
                                          try clear p6
                                          try clear hcv6
                                          try clear c7
                                          try clear c7b0
                                          try clear p7
                                          try clear q7
                                          try clear hx7
                                          try clear c8
                                          try clear p8
                                          try clear q8
                                          try clear hx8
                                          try clear hcv8
                                          try clear c9
                                          try clear c9b0
                                          try clear c9b1
                                          try clear c9b2
                                          try clear c11
                                          try clear c11b0
                                          try clear c11b1
                                          try clear c12
                                          try clear c13
                                          try clear c22
                                          try clear c22b0
                                          try clear c22b1
                                          try clear c22b2
                                          try clear c23
                                          try clear c23b0
                                          try clear c23b1
                                          try clear c24
                                          try clear c24b0
                                          try clear c24b1
                                          try clear c29
                                          try clear c29b0
                                          try clear c30
                                          try clear c30b0
                                          try clear c31
                                          try clear c31b0
                                          try clear c33
                                          try clear c33b0
                                          try clear c33b1
                                          try clear hcv34
                                          try clear c35
                                          try clear c35b0
                                          try clear c35b1
                                          try clear c35b2
                                          try clear c38
                                          try clear c38b0
                                          try clear c38b1
                                          try clear c42
                                          try clear c42b0
                                          try clear c43
                                          try clear c43b0
                                          try clear p44
                                          try clear q44
                                          try clear hx44
                                          try clear hf44
                                          try clear c48
                                          try clear c48b0
                                          try clear c48b1
                                          try clear c49
                                          try clear c49b0
                                          try clear c50
                                          try clear c50b0
                                          try clear c52
                                          try clear c52b0
                                          try clear c52b1
                                          try clear c53
                                          try clear c53b0
                                          try clear c53b1
                                          try clear c54
                                          try clear c54b0
                                          try clear c56
                                          try clear c56b0
                                          try clear c57
                                          try clear c57b0
                                          try clear c58
                                          try clear c58b0
                                          try clear c58b1
                                          try clear c59
                                          try clear c59b0
                                          try clear c59b1
                                          try clear c60
                                          try clear c60b0
                                          try clear c60b1
                                          try clear c63
                                          try clear c63b0
                                          try clear c64
                                          try clear c64b0
                                          try clear p64
                                          try clear c65
                                          try clear c65b0
                                          try clear c66
                                          try clear c66b0
                                          try clear c68
                                          try clear c68b0
                                          try clear c68b1
                                          try clear hcv69
                                          try clear c74
                                          try clear c74b0
                                          try clear c75
                                          try clear c75b0
                                          try clear c76
                                          try clear c76b0
                                          try clear c77
                                          try clear c77b0
                                          try clear c79
                                          try clear c79b0
                                          try clear c79b1
                                          try clear p79
                                          try clear q79
                                          try clear hx79
                                          try clear hcv80
                                          try clear p81
                                          try clear q81
                                          try clear hx81
                                          try clear p82
                                          try clear q82
                                          try clear hx82
                                          try clear c83
                                          try clear c83b0
                                          try clear c83b1
                                          try clear p83
                                          try clear q83
                                          try clear hx83
                                          try clear c84
                                          try clear c84b0
                                          try clear c84b1
                                          try clear hx44_0
                                          try clear hx796_0
                                          try clear hx816_0
                                          try clear hx817_0
                                          try clear hx822_0
                                          try clear hx824_0
                                          try clear hx830_0
                                          try clear hx831_0
                                          try clear hx832_0
                                          try clear p2
                                          try clear p4
                                          try clear p44
                                          try clear p6
                                          try clear p64
                                          try clear p7
                                          try clear p796
                                          try clear p8
                                          try clear p816
                                          try clear p817
                                          try clear p822
                                          try clear p824
                                          try clear p830
                                          try clear p831
                                          try clear p832
                                          try clear q4
                                          try clear q44
                                          try clear q7
                                          try clear q796
                                          try clear q8
                                          try clear q816
                                          try clear q817
                                          try clear q822
                                          try clear q824
                                          try clear q830
                                          try clear q831
                                          try clear q832
                                          obtain ⟨x21_4, rfl, HA, HK4, HO_18, HB⟩ := hrel
                                          cases gk with
                                          | zero => exact absurd HA.out (by simp [columbariumlaw6_BlockBack.l3])
                                          | succ k4 =>
                                            have H := HA.out
                                            clear HA
                                            simp only [columbariumlaw6_BlockBack.l3] at H
                                            by_cases c87 : x21_4 < x17_44
                                            · rw [if_pos c87] at H
                                              have c87b0 : decide (x21_4 < x17_44) = true := decide_eq_true c87
                                              clear c87
                                              by_cases c88 : 0 ≤ x21_4
                                              · rw [if_pos c88] at H
                                                have c88b0 : decide (0 ≤ x21_4) = true := decide_eq_true c88
                                                clear c88
                                                by_cases c89 : x21_4 < (t825.length : Int)
                                                · rw [if_pos c89] at H
                                                  have c89b0 : decide (x21_4 < (t825.length : Int)) = true := decide_eq_true c89
                                                  clear c89
                                                  by_cases c90 : x21_4 < (l0.length : Int)
                                                  · rw [if_pos c90] at H
                                                    have c90b0 : decide (x21_4 < (l0.length : Int)) = true := decide_eq_true c90
                                                    clear c90
                                                    replace H := Option.bind_eq_some_iff.mp H
                                                    obtain ⟨t833, A910, H⟩ := H
                                                    replace H : (if (strOfNums (rd_L2 t825 x21_4)).toList = t833.toList then (columbariumlaw6_BlockBack.l3 k4 l0 x17_44 t825 (wrap64 (x21_4 + 1))) else (some false)) = some r := H
                                                    have A91 := Aside0.mk A910
                                                    clear A910
                                                    by_cases c92 : (strOfNums (rd_L2 t825 x21_4)).toList = t833.toList
                                                    · rw [if_pos c92] at H
                                                      have c92b0 : ((strOfNums (rd_L2 t825 x21_4)).toList == t833.toList) = true := beq_iff_eq.mpr c92
                                                      have c92b1 : ((strOfNums (rd_L2 t825 x21_4)).toList != t833.toList) = false := bne_eq_false_iff_eq.mpr c92
                                                      clear c92
                                                      have H' := Aside0.mk H
                                                      clear H
                                                      have p831 : 0 ≤ (x21_4 : Int) := of_decide_eq_true (by first | (with_reducible assumption) | assumption)
                                                      have q831 : x21_4 < (t825.length : Int) := of_decide_eq_true (by first | (with_reducible assumption) | assumption)
                                                      obtain ⟨ad831, A831_0, c831_0, e831, hx831_0, hl831_0, hi831_0⟩ := at_L2 (Kd.S_reads' HO_18.out).2.2 x21_4 p831 q831
                                                      cases e831
                                                      obtain ⟨ce831, hce831, hMe831, hcc831⟩ := Kd.S_get HO_18.out [] x21_4 p831 (by first | exact q831 | exact of_decide_eq_true (by first | (with_reducible assumption) | assumption) | (have e_ := (Kd.S_reads' HO_18.out).1; omega))
                                                      obtain ⟨ve831_0, rfl, ge831_0⟩ := hMe831
                                                      have hv831_0 := hcc831 0 _ rfl
                                                      rw [Nat.add_zero, show ((Kd.slice 5 (Kd.int .u8))).sz = 1 from rfl, Nat.mul_one] at hv831_0
                                                      replace hv831_0 := Option.some.inj (hv831_0.symm.trans hx831_0)
                                                      rw [hv831_0] at ge831_0
                                                      have HL831_0 := Aside0.mk (show Kd.R (Kd.int .u8) 5 _ _ _ _ (rd_L2 t825 x21_4) from ge831_0)
                                                      clear hv831_0 ge831_0
                                                      clear hcc831 hce831
                                                      have HR831_0 := Aside0.mk hi831_0
                                                      have HC831_0 := Aside0.mk hl831_0
                                                      clear hi831_0 hl831_0
                                                      replace p831 := eq_true p831
                                                      replace q831 := eq_true q831
                                                      have hcv93 := pw_C_string_len (P := Try.prog) (A := A831_0) (c := c831_0) Try.underlying24 Try.underlying5 Try.underlying9 (by repeat (first | (with_reducible exact HR831_0.out) | (with_reducible refine Kd.C_alloc ?_ _) | (with_reducible refine Kd.C_drewN ?_ _) | (with_reducible refine Kd.C_drew ?_) | exact HR831_0.out))
                                                      have p832 : 0 ≤ (x21_4 : Int) := of_decide_eq_true (by first | (with_reducible assumption) | assumption)
                                                      have q832 : x21_4 < (l0.length : Int) := of_decide_eq_true (by first | (with_reducible assumption) | assumption)
                                                      obtain ⟨ad832, e832, hx832_0⟩ := Kd.at_string HR0.out x21_4 p832 q832
                                                      cases e832
                                                      replace hx832_0 := (HB.out.cell (World.block_lt_of_cell? w _ hx832_0)).trans hx832_0
                                                      replace p832 := eq_true p832
                                                      replace q832 := eq_true q832
                                                      go_wp2_with (first | (go_at_call 25; (with_reducible refine (columbariumlaw6_few.calls (rdOf ByteArray.empty l0 x21_4) t833 _ A91.out).mono ?_); rintro e w' ⟨rfl, ⟨nd, rfl⟩⟩; (try first | exact ⟨rfl, _, World.drewN_drewN _ _ _⟩ | exact ⟨rfl, _, Eq.trans (World.drewN_drewN _ _ _) (congrArg (World.drewN _) (Nat.add_assoc _ _ _))⟩)))
                                                      repeat (go_quiet (first | (go_at_call 25; (with_reducible refine (columbariumlaw6_few.calls (rdOf ByteArray.empty l0 x21_4) t833 _ A91.out).mono ?_); rintro e w' ⟨rfl, ⟨nd, rfl⟩⟩; (try first | exact ⟨rfl, _, World.drewN_drewN _ _ _⟩ | exact ⟨rfl, _, Eq.trans (World.drewN_drewN _ _ _) (congrArg (World.drewN _) (Nat.add_assoc _ _ _))⟩))); try go_wp2_with (first | (go_at_call 25; (with_reducible refine (columbariumlaw6_few.calls (rdOf ByteArray.empty l0 x21_4) t833 _ A91.out).mono ?_); rintro e w' ⟨rfl, ⟨nd, rfl⟩⟩; (try first | exact ⟨rfl, _, World.drewN_drewN _ _ _⟩ | exact ⟨rfl, _, Eq.trans (World.drewN_drewN _ _ _) (congrArg (World.drewN _) (Nat.add_assoc _ _ _))⟩))))
                                                      go_roundg k4
                                                      case measure => have := HJ3.out; have := HK2.out; have := HJ44.out; have := HK4.out; omega
                                                      case rel => exact ⟨(wrap64 (x21_4 + 1)), (by first | rfl | (simp; done) | (simp [*]; done) | (refine congrArg (Value.int .i64) ?_; (try simp only [decide_eq_true_eq, decide_eq_false_iff_not] at *) <;> (unfold wrap64; omega))), H', ⟨by have := HJ3.out; have := HK2.out; have := HJ44.out; have := HK4.out; omega⟩, ⟨by (try simp only [hl7_44]); (with_reducible repeat (first | apply Kd.S_alloc | apply Kd.S_drewN | apply Kd.S_drew)); exact HO_18.out⟩, ⟨by repeat (first | (with_reducible first | exact HB.out | apply below_alloc | apply pw_below_drewN | apply below_drew1) | exact HB.out)⟩⟩
                                                    · rw [if_neg c92] at H
                                                      have c92b0 : ((strOfNums (rd_L2 t825 x21_4)).toList == t833.toList) = false := beq_eq_false_iff_ne.mpr c92
                                                      have c92b1 : ((strOfNums (rd_L2 t825 x21_4)).toList != t833.toList) = true := bne_iff_ne.mpr c92
                                                      exact absurd ((Option.some.inj H).trans hr_.out) (by decide)
                                                  · rw [if_neg c90] at H
                                                    exact absurd H (by simp)
                                                · rw [if_neg c89] at H
                                                  exact absurd H (by simp)
                                              · rw [if_neg c88] at H
                                                exact absurd H (by simp)
                                            · rw [if_neg c87] at H
                                              have c87b0 : decide (x21_4 < x17_44) = false := decide_eq_false c87
                                              clear c87
                                              replace H := Option.bind_eq_some_iff.mp H
                                              obtain ⟨t834, A940, H⟩ := H
                                              replace H : (some t834) = some r := H
                                              have A94 := Aside0.mk A940
                                              clear A940
                                              obtain rfl := Option.some.inj H
                                              go_wp2_with (first | (go_at_call 27; (with_reducible refine (columbariumlaw6_known.calls k4  t834 _ A94.out).mono ?_); rintro e w95 ⟨rfl, hb⟩; have n0_ := Aside0.mk (Kd.S_below (by (with_reducible repeat (first | apply Kd.S_alloc | apply Kd.S_drewN | apply Kd.S_drew)); exact HO_18.out) hb); have n1_ := Aside0.mk (below_step (by repeat (first | (with_reducible first | exact HB.out | apply below_alloc | apply pw_below_drewN | apply below_drew1) | exact HB.out)) hb); clear HO_18; clear HB; have HO_18 := n0_; have HB := n1_; clear n0_ n1_; (try clear hb); (try clear hb2); (try clear hk); (try clear hi)))
                                              repeat (go_quiet (first | (go_at_call 27; (with_reducible refine (columbariumlaw6_known.calls k4  t834 _ A94.out).mono ?_); rintro e w95 ⟨rfl, hb⟩; have n0_ := Aside0.mk (Kd.S_below (by (with_reducible repeat (first | apply Kd.S_alloc | apply Kd.S_drewN | apply Kd.S_drew)); exact HO_18.out) hb); have n1_ := Aside0.mk (below_step (by repeat (first | (with_reducible first | exact HB.out | apply below_alloc | apply pw_below_drewN | apply below_drew1) | exact HB.out)) hb); clear HO_18; clear HB; have HO_18 := n0_; have HB := n1_; clear n0_ n1_; (try clear hb); (try clear hb2); (try clear hk); (try clear hi))); try go_wp2_with (first | (go_at_call 27; (with_reducible refine (columbariumlaw6_known.calls k4  t834 _ A94.out).mono ?_); rintro e w95 ⟨rfl, hb⟩; have n0_ := Aside0.mk (Kd.S_below (by (with_reducible repeat (first | apply Kd.S_alloc | apply Kd.S_drewN | apply Kd.S_drew)); exact HO_18.out) hb); have n1_ := Aside0.mk (below_step (by repeat (first | (with_reducible first | exact HB.out | apply below_alloc | apply pw_below_drewN | apply below_drew1) | exact HB.out)) hb); clear HO_18; clear HB; have HO_18 := n0_; have HB := n1_; clear n0_ n1_; (try clear hb); (try clear hb2); (try clear hk); (try clear hi))))
                                              go_ret
                                              exact ⟨by first | rfl | (simp [errW_none, errW_some] <;> rfl) | (simp [*, errW_none, errW_some] <;> rfl), by repeat (first | (with_reducible first | exact HB.out | apply below_alloc | apply pw_below_drewN | apply below_drew1) | exact HB.out)⟩
                                      · rw [if_neg c84] at H
                                        have c84b0 : (t826 == 0) = false := beq_eq_false_iff_ne.mpr c84
                                        have c84b1 : (t826 != 0) = true := bne_iff_ne.mpr c84
                                        exact absurd ((Option.some.inj H).trans hr_.out) (by decide)
                                    · rw [if_neg c83] at H
                                      have c83b0 : (x17_44 == 0) = false := beq_eq_false_iff_ne.mpr c83
                                      have c83b1 : (x17_44 != 0) = true := bne_iff_ne.mpr c83
                                      have H' := Aside0.mk H
                                      clear H
                                      go_wp2_with (first | (go_at_call 29; (with_reducible refine (block_All.calls kj44 _ _ y823 t825 t826 t827 _ ?side1 ?side2 A51.out).mono ?_); (case side1 => repeat (first | exact (Kd.R_reads' HO_7.out).2.2 | (with_reducible refine Kd.C_alloc ?_ _) | (with_reducible refine Kd.C_drewN ?_ _) | (with_reducible refine Kd.C_drew ?_))); (case side2 => exact (Kd.R_reads' HO_7.out).2.1); rintro e w96 ⟨v828, rfl, ho0, hb⟩; have n0_ := Aside0.mk (Kd.R_below (by (with_reducible repeat (first | apply Kd.R_alloc | apply Kd.R_drewN | apply Kd.R_drew)); exact HO_7.out) hb); have n1_ := Aside0.mk (Kd.R_below (by (with_reducible repeat (first | apply Kd.R_alloc | apply Kd.R_drewN | apply Kd.R_drew)); exact HO_8.out) hb); have n2_ := Aside0.mk (Kd.S_lower (Kd.S_new' ho0 (Kd.R_lt (by (with_reducible repeat (first | apply Kd.R_alloc | apply Kd.R_drewN | apply Kd.R_drew)); exact HO_7.out))) (below_size (by repeat (first | (with_reducible first | exact HB.out | apply below_alloc | apply pw_below_drewN | apply below_drew1) | exact HB.out)))); have n3_ := Aside0.mk (below_step (by repeat (first | (with_reducible first | exact HB.out | apply below_alloc | apply pw_below_drewN | apply below_drew1) | exact HB.out)) hb); clear HO_7; clear HO_8; clear HB; have HO_7 := n0_; have HO_8 := n1_; have HO829 := n2_; have HB := n3_; clear n0_ n1_ n2_ n3_; (try clear hb); (try clear hb2); (try clear hk); (try clear hi); (try clear ho0); obtain ⟨Ao97, co97, eo97⟩ := Kd.S_slice HO829.out; subst eo97))
                                      repeat (go_quiet (first | (go_at_call 29; (with_reducible refine (block_All.calls kj44 _ _ y823 t825 t826 t827 _ ?side1 ?side2 A51.out).mono ?_); (case side1 => repeat (first | exact (Kd.R_reads' HO_7.out).2.2 | (with_reducible refine Kd.C_alloc ?_ _) | (with_reducible refine Kd.C_drewN ?_ _) | (with_reducible refine Kd.C_drew ?_))); (case side2 => exact (Kd.R_reads' HO_7.out).2.1); rintro e w96 ⟨v828, rfl, ho0, hb⟩; have n0_ := Aside0.mk (Kd.R_below (by (with_reducible repeat (first | apply Kd.R_alloc | apply Kd.R_drewN | apply Kd.R_drew)); exact HO_7.out) hb); have n1_ := Aside0.mk (Kd.R_below (by (with_reducible repeat (first | apply Kd.R_alloc | apply Kd.R_drewN | apply Kd.R_drew)); exact HO_8.out) hb); have n2_ := Aside0.mk (Kd.S_lower (Kd.S_new' ho0 (Kd.R_lt (by (with_reducible repeat (first | apply Kd.R_alloc | apply Kd.R_drewN | apply Kd.R_drew)); exact HO_7.out))) (below_size (by repeat (first | (with_reducible first | exact HB.out | apply below_alloc | apply pw_below_drewN | apply below_drew1) | exact HB.out)))); have n3_ := Aside0.mk (below_step (by repeat (first | (with_reducible first | exact HB.out | apply below_alloc | apply pw_below_drewN | apply below_drew1) | exact HB.out)) hb); clear HO_7; clear HO_8; clear HB; have HO_7 := n0_; have HO_8 := n1_; have HO829 := n2_; have HB := n3_; clear n0_ n1_ n2_ n3_; (try clear hb); (try clear hb2); (try clear hk); (try clear hi); (try clear ho0); obtain ⟨Ao97, co97, eo97⟩ := Kd.S_slice HO829.out; subst eo97)); try go_wp2_with (first | (go_at_call 29; (with_reducible refine (block_All.calls kj44 _ _ y823 t825 t826 t827 _ ?side1 ?side2 A51.out).mono ?_); (case side1 => repeat (first | exact (Kd.R_reads' HO_7.out).2.2 | (with_reducible refine Kd.C_alloc ?_ _) | (with_reducible refine Kd.C_drewN ?_ _) | (with_reducible refine Kd.C_drew ?_))); (case side2 => exact (Kd.R_reads' HO_7.out).2.1); rintro e w96 ⟨v828, rfl, ho0, hb⟩; have n0_ := Aside0.mk (Kd.R_below (by (with_reducible repeat (first | apply Kd.R_alloc | apply Kd.R_drewN | apply Kd.R_drew)); exact HO_7.out) hb); have n1_ := Aside0.mk (Kd.R_below (by (with_reducible repeat (first | apply Kd.R_alloc | apply Kd.R_drewN | apply Kd.R_drew)); exact HO_8.out) hb); have n2_ := Aside0.mk (Kd.S_lower (Kd.S_new' ho0 (Kd.R_lt (by (with_reducible repeat (first | apply Kd.R_alloc | apply Kd.R_drewN | apply Kd.R_drew)); exact HO_7.out))) (below_size (by repeat (first | (with_reducible first | exact HB.out | apply below_alloc | apply pw_below_drewN | apply below_drew1) | exact HB.out)))); have n3_ := Aside0.mk (below_step (by repeat (first | (with_reducible first | exact HB.out | apply below_alloc | apply pw_below_drewN | apply below_drew1) | exact HB.out)) hb); clear HO_7; clear HO_8; clear HB; have HO_7 := n0_; have HO_8 := n1_; have HO829 := n2_; have HB := n3_; clear n0_ n1_ n2_ n3_; (try clear hb); (try clear hb2); (try clear hk); (try clear hi); (try clear ho0); obtain ⟨Ao97, co97, eo97⟩ := Kd.S_slice HO829.out; subst eo97)))
                                      go_loopg [21] kj44 (fun kq v21 w' => ∃ (x21_4 : Int), v21 = .int .i64 x21_4 ∧ Aside0 (columbariumlaw6_BlockBack.l3 kq l0 x17_44 t825 x21_4 = some r) ∧ Aside0 (kq ≤ kj44) ∧ Aside0 (Kd.S (Kd.slice 5 (Kd.int .u8)) 24 w' w.heap.size (fun _ => True) (.slice Ao97 t825.length co97) t825) ∧ Aside0 (Below w.heap.size w w'))
                                      case atStart => exact ⟨(0), (by first | rfl | (simp; done) | (simp [*]; done) | (refine congrArg (Value.int .i64) ?_; (try simp only [decide_eq_true_eq, decide_eq_false_iff_not] at *) <;> (unfold wrap64; omega))), H', ⟨Nat.le_refl _⟩, ⟨by (try simp only [hl7_44]); (with_reducible repeat (first | apply Kd.S_alloc | apply Kd.S_drewN | apply Kd.S_drew)); exact Kd.S_mono HO829.out (fun _ hk => trivial)⟩, ⟨by repeat (first | (with_reducible first | exact HB.out | apply below_alloc | apply pw_below_drewN | apply below_drew1) | exact HB.out)⟩⟩
                                      case round =>
                                        clear H'
                                        try clear c1
                                        try clear c2
                                        try clear p2
                                        try clear c3
                                        try clear hcv3
                                        try clear c4
                                        try clear p4
                                        try clear q4
                                        try clear hx4
                                        try clear hf4
                                        try clear c5
                                        try clear c5b0
                                        try clear c5b1
                                        try clear c6
                                        try clear c6b0
                                        try clear p6
                                        try clear hcv6
                                        try clear c7
                                        try clear c7b0
                                        try clear p7
                                        try clear q7
                                        try clear hx7
                                        try clear c8
                                        try clear p8
                                        try clear q8
                                        try clear hx8
                                        try clear hcv8
                                        try clear c9
                                        try clear c9b0
                                        try clear c9b1
                                        try clear c9b2
                                        try clear hcv9
                                        try clear c11
                                        try clear c11b0
                                        try clear c11b1
                                        try clear c12
                                        try clear c13
                                        try clear c22
                                        try clear c22b0
                                        try clear c22b1
                                        try clear c22b2
                                        try clear c23
                                        try clear c23b0
                                        try clear c23b1
                                        try clear c24
                                        try clear c24b0
                                        try clear c24b1
                                        try clear c29
                                        try clear c29b0
                                        try clear c30
                                        try clear c30b0
                                        try clear c31
                                        try clear c31b0
                                        try clear c33
                                        try clear c33b0
                                        try clear c33b1
                                        try clear hcv34
                                        try clear c35
                                        try clear c35b0
                                        try clear c35b1
                                        try clear c35b2
                                        try clear c38
                                        try clear c38b0
                                        try clear c38b1
                                        try clear c42
                                        try clear c42b0
                                        try clear c43
                                        try clear c43b0
                                        try clear p44
                                        try clear q44
                                        try clear hx44
                                        try clear hf44
                                        try clear c48
                                        try clear c48b0
                                        try clear c48b1
                                        try clear c49
                                        try clear c49b0
                                        try clear c50
                                        try clear c50b0
                                        try clear c52
                                        try clear c52b0
                                        try clear c52b1
                                        try clear c53
                                        try clear c53b0
                                        try clear c53b1
                                        try clear c54
                                        try clear c54b0
                                        try clear c56
                                        try clear c56b0
                                        try clear c57
                                        try clear c57b0
                                        try clear c58
                                        try clear c58b0
                                        try clear c58b1
                                        try clear c59
                                        try clear c59b0
                                        try clear c59b1
                                        try clear c60
                                        try clear c60b0
                                        try clear c60b1
                                        try clear c63
                                        try clear c63b0
                                        try clear c64
                                        try clear c64b0
                                        try clear p64
                                        try clear c65
                                        try clear c65b0
                                        try clear c66
                                        try clear c66b0
                                        try clear c68
                                        try clear c68b0
                                        try clear c68b1
                                        try clear hcv69
                                        try clear c74
                                        try clear c74b0
                                        try clear c75
                                        try clear c75b0
                                        try clear c76
                                        try clear c76b0
                                        try clear c77
                                        try clear c77b0
                                        try clear c79
                                        try clear c79b0
                                        try clear c79b1
                                        try clear p79
                                        try clear q79
                                        try clear hx79
                                        try clear hcv80
                                        try clear p81
                                        try clear q81
                                        try clear hx81
                                        try clear p82
                                        try clear q82
                                        try clear hx82
                                        try clear c83
                                        try clear c83b0
                                        try clear c83b1
                                        try clear p83
                                        try clear q83
                                        try clear hx83
                                        try clear c84
                                        try clear c84b0
                                        try clear c84b1
                                        try clear c87
                                        try clear c87b0
                                        try clear c88
                                        try clear c88b0
                                        try clear c89
                                        try clear c89b0
                                        try clear c90
                                        try clear c90b0
                                        try clear c92
                                        try clear c92b0
                                        try clear c92b1
                                        try clear hcv93
                                        try clear hx44_0
                                        try clear hx796_0
                                        try clear hx816_0
                                        try clear hx817_0
                                        try clear hx822_0
                                        try clear hx824_0
                                        try clear hx830_0
                                        try clear hx831_0
                                        try clear hx832_0
                                        try clear p2
                                        try clear p4
                                        try clear p44
                                        try clear p6
                                        try clear p64
                                        try clear p7
                                        try clear p79
                                        try clear p796
                                        try clear p8
                                        try clear p81
                                        try clear p816
                                        try clear p817
                                        try clear p82
                                        try clear p822
                                        try clear p824
                                        try clear p83
                                        try clear p830
                                        try clear p831
                                        try clear p832
                                        try clear q4
                                        try clear q44
                                        try clear q7
                                        try clear q79
                                        try clear q796
                                        try clear q8
                                        try clear q81
                                        try clear q816
                                        try clear q817
                                        try clear q82
                                        try clear q822
                                        try clear q824
                                        try clear q83
                                        try clear q830
                                        try clear q831
                                        try clear q832
                                        obtain ⟨x21_4, rfl, HA, HK4, HO_18, HB⟩ := hrel
                                        cases gk with
                                        | zero => exact absurd HA.out (by simp [columbariumlaw6_BlockBack.l3])
                                        | succ k4 =>
                                          have H := HA.out
                                          clear HA
                                          simp only [columbariumlaw6_BlockBack.l3] at H
                                          by_cases c98 : x21_4 < x17_44
                                          · rw [if_pos c98] at H
                                            have c98b0 : decide (x21_4 < x17_44) = true := decide_eq_true c98
                                            clear c98
                                            by_cases c99 : 0 ≤ x21_4
                                            · rw [if_pos c99] at H
                                              have c99b0 : decide (0 ≤ x21_4) = true := decide_eq_true c99
                                              clear c99
                                              by_cases c100 : x21_4 < (t825.length : Int)
                                              · rw [if_pos c100] at H
                                                have c100b0 : decide (x21_4 < (t825.length : Int)) = true := decide_eq_true c100
                                                clear c100
                                                by_cases c101 : x21_4 < (l0.length : Int)
                                                · rw [if_pos c101] at H
                                                  have c101b0 : decide (x21_4 < (l0.length : Int)) = true := decide_eq_true c101
                                                  clear c101
                                                  replace H := Option.bind_eq_some_iff.mp H
                                                  obtain ⟨t833, A1020, H⟩ := H
                                                  replace H : (if (strOfNums (rd_L2 t825 x21_4)).toList = t833.toList then (columbariumlaw6_BlockBack.l3 k4 l0 x17_44 t825 (wrap64 (x21_4 + 1))) else (some false)) = some r := H
                                                  have A102 := Aside0.mk A1020
                                                  clear A1020
                                                  by_cases c103 : (strOfNums (rd_L2 t825 x21_4)).toList = t833.toList
                                                  · rw [if_pos c103] at H
                                                    have c103b0 : ((strOfNums (rd_L2 t825 x21_4)).toList == t833.toList) = true := beq_iff_eq.mpr c103
                                                    have c103b1 : ((strOfNums (rd_L2 t825 x21_4)).toList != t833.toList) = false := bne_eq_false_iff_eq.mpr c103
                                                    clear c103
                                                    have H' := Aside0.mk H
                                                    clear H
                                                    have p831 : 0 ≤ (x21_4 : Int) := of_decide_eq_true (by first | (with_reducible assumption) | assumption)
                                                    have q831 : x21_4 < (t825.length : Int) := of_decide_eq_true (by first | (with_reducible assumption) | assumption)
                                                    obtain ⟨ad831, A831_0, c831_0, e831, hx831_0, hl831_0, hi831_0⟩ := at_L2 (Kd.S_reads' HO_18.out).2.2 x21_4 p831 q831
                                                    cases e831
                                                    obtain ⟨ce831, hce831, hMe831, hcc831⟩ := Kd.S_get HO_18.out [] x21_4 p831 (by first | exact q831 | exact of_decide_eq_true (by first | (with_reducible assumption) | assumption) | (have e_ := (Kd.S_reads' HO_18.out).1; omega))
                                                    obtain ⟨ve831_0, rfl, ge831_0⟩ := hMe831
                                                    have hv831_0 := hcc831 0 _ rfl
                                                    rw [Nat.add_zero, show ((Kd.slice 5 (Kd.int .u8))).sz = 1 from rfl, Nat.mul_one] at hv831_0
                                                    replace hv831_0 := Option.some.inj (hv831_0.symm.trans hx831_0)
                                                    rw [hv831_0] at ge831_0
                                                    have HL831_0 := Aside0.mk (show Kd.R (Kd.int .u8) 5 _ _ _ _ (rd_L2 t825 x21_4) from ge831_0)
                                                    clear hv831_0 ge831_0
                                                    clear hcc831 hce831
                                                    have HR831_0 := Aside0.mk hi831_0
                                                    have HC831_0 := Aside0.mk hl831_0
                                                    clear hi831_0 hl831_0
                                                    replace p831 := eq_true p831
                                                    replace q831 := eq_true q831
                                                    have hcv104 := pw_C_string_len (P := Try.prog) (A := A831_0) (c := c831_0) Try.underlying24 Try.underlying5 Try.underlying9 (by repeat (first | (with_reducible exact HR831_0.out) | (with_reducible refine Kd.C_alloc ?_ _) | (with_reducible refine Kd.C_drewN ?_ _) | (with_reducible refine Kd.C_drew ?_) | exact HR831_0.out))
                                                    have p832 : 0 ≤ (x21_4 : Int) := of_decide_eq_true (by first | (with_reducible assumption) | assumption)
                                                    have q832 : x21_4 < (l0.length : Int) := of_decide_eq_true (by first | (with_reducible assumption) | assumption)
                                                    obtain ⟨ad832, e832, hx832_0⟩ := Kd.at_string HR0.out x21_4 p832 q832
                                                    cases e832
                                                    replace hx832_0 := (HB.out.cell (World.block_lt_of_cell? w _ hx832_0)).trans hx832_0
                                                    replace p832 := eq_true p832
                                                    replace q832 := eq_true q832
                                                    go_wp2_with (first | (go_at_call 25; (with_reducible refine (columbariumlaw6_few.calls (rdOf ByteArray.empty l0 x21_4) t833 _ A102.out).mono ?_); rintro e w' ⟨rfl, ⟨nd, rfl⟩⟩; (try first | exact ⟨rfl, _, World.drewN_drewN _ _ _⟩ | exact ⟨rfl, _, Eq.trans (World.drewN_drewN _ _ _) (congrArg (World.drewN _) (Nat.add_assoc _ _ _))⟩)))
                                                    repeat (go_quiet (first | (go_at_call 25; (with_reducible refine (columbariumlaw6_few.calls (rdOf ByteArray.empty l0 x21_4) t833 _ A102.out).mono ?_); rintro e w' ⟨rfl, ⟨nd, rfl⟩⟩; (try first | exact ⟨rfl, _, World.drewN_drewN _ _ _⟩ | exact ⟨rfl, _, Eq.trans (World.drewN_drewN _ _ _) (congrArg (World.drewN _) (Nat.add_assoc _ _ _))⟩))); try go_wp2_with (first | (go_at_call 25; (with_reducible refine (columbariumlaw6_few.calls (rdOf ByteArray.empty l0 x21_4) t833 _ A102.out).mono ?_); rintro e w' ⟨rfl, ⟨nd, rfl⟩⟩; (try first | exact ⟨rfl, _, World.drewN_drewN _ _ _⟩ | exact ⟨rfl, _, Eq.trans (World.drewN_drewN _ _ _) (congrArg (World.drewN _) (Nat.add_assoc _ _ _))⟩))))
                                                    go_roundg k4
                                                    case measure => have := HJ3.out; have := HK2.out; have := HJ44.out; have := HK4.out; omega
                                                    case rel => exact ⟨(wrap64 (x21_4 + 1)), (by first | rfl | (simp; done) | (simp [*]; done) | (refine congrArg (Value.int .i64) ?_; (try simp only [decide_eq_true_eq, decide_eq_false_iff_not] at *) <;> (unfold wrap64; omega))), H', ⟨by have := HJ3.out; have := HK2.out; have := HJ44.out; have := HK4.out; omega⟩, ⟨by (try simp only [hl7_44]); (with_reducible repeat (first | apply Kd.S_alloc | apply Kd.S_drewN | apply Kd.S_drew)); exact HO_18.out⟩, ⟨by repeat (first | (with_reducible first | exact HB.out | apply below_alloc | apply pw_below_drewN | apply below_drew1) | exact HB.out)⟩⟩
                                                  · rw [if_neg c103] at H
                                                    have c103b0 : ((strOfNums (rd_L2 t825 x21_4)).toList == t833.toList) = false := beq_eq_false_iff_ne.mpr c103
                                                    have c103b1 : ((strOfNums (rd_L2 t825 x21_4)).toList != t833.toList) = true := bne_iff_ne.mpr c103
                                                    exact absurd ((Option.some.inj H).trans hr_.out) (by decide)
                                                · rw [if_neg c101] at H
                                                  exact absurd H (by simp)
                                              · rw [if_neg c100] at H
                                                exact absurd H (by simp)
                                            · rw [if_neg c99] at H
                                              exact absurd H (by simp)
                                          · rw [if_neg c98] at H
                                            have c98b0 : decide (x21_4 < x17_44) = false := decide_eq_false c98
                                            clear c98
                                            replace H := Option.bind_eq_some_iff.mp H
                                            obtain ⟨t834, A1050, H⟩ := H
                                            replace H : (some t834) = some r := H
                                            have A105 := Aside0.mk A1050
                                            clear A1050
                                            obtain rfl := Option.some.inj H
                                            go_wp2_with (first | (go_at_call 27; (with_reducible refine (columbariumlaw6_known.calls k4  t834 _ A105.out).mono ?_); rintro e w106 ⟨rfl, hb⟩; have n0_ := Aside0.mk (Kd.S_below (by (with_reducible repeat (first | apply Kd.S_alloc | apply Kd.S_drewN | apply Kd.S_drew)); exact HO_18.out) hb); have n1_ := Aside0.mk (below_step (by repeat (first | (with_reducible first | exact HB.out | apply below_alloc | apply pw_below_drewN | apply below_drew1) | exact HB.out)) hb); clear HO_18; clear HB; have HO_18 := n0_; have HB := n1_; clear n0_ n1_; (try clear hb); (try clear hb2); (try clear hk); (try clear hi)))
                                            repeat (go_quiet (first | (go_at_call 27; (with_reducible refine (columbariumlaw6_known.calls k4  t834 _ A105.out).mono ?_); rintro e w106 ⟨rfl, hb⟩; have n0_ := Aside0.mk (Kd.S_below (by (with_reducible repeat (first | apply Kd.S_alloc | apply Kd.S_drewN | apply Kd.S_drew)); exact HO_18.out) hb); have n1_ := Aside0.mk (below_step (by repeat (first | (with_reducible first | exact HB.out | apply below_alloc | apply pw_below_drewN | apply below_drew1) | exact HB.out)) hb); clear HO_18; clear HB; have HO_18 := n0_; have HB := n1_; clear n0_ n1_; (try clear hb); (try clear hb2); (try clear hk); (try clear hi))); try go_wp2_with (first | (go_at_call 27; (with_reducible refine (columbariumlaw6_known.calls k4  t834 _ A105.out).mono ?_); rintro e w106 ⟨rfl, hb⟩; have n0_ := Aside0.mk (Kd.S_below (by (with_reducible repeat (first | apply Kd.S_alloc | apply Kd.S_drewN | apply Kd.S_drew)); exact HO_18.out) hb); have n1_ := Aside0.mk (below_step (by repeat (first | (with_reducible first | exact HB.out | apply below_alloc | apply pw_below_drewN | apply below_drew1) | exact HB.out)) hb); clear HO_18; clear HB; have HO_18 := n0_; have HB := n1_; clear n0_ n1_; (try clear hb); (try clear hb2); (try clear hk); (try clear hi))))
                                            go_ret
                                            exact ⟨by first | rfl | (simp [errW_none, errW_some] <;> rfl) | (simp [*, errW_none, errW_some] <;> rfl), by repeat (first | (with_reducible first | exact HB.out | apply below_alloc | apply pw_below_drewN | apply below_drew1) | exact HB.out)⟩
                              · rw [if_neg c52] at H
                                have c52b0 : ((t825.length : Int) == x17_44) = false := beq_eq_false_iff_ne.mpr c52
                                have c52b1 : ((t825.length : Int) != x17_44) = true := bne_iff_ne.mpr c52
                                exact absurd ((Option.some.inj H).trans hr_.out) (by decide)
                        · rw [if_neg c43] at H
                          exact absurd H (by simp)
                      · rw [if_neg c42] at H
                        exact absurd H (by simp)
          · rw [if_neg c24] at H
            have c24b0 : (t813 == 0) = false := beq_eq_false_iff_ne.mpr c24
            have c24b1 : (t813 != 0) = true := bne_iff_ne.mpr c24
            exact absurd ((Option.some.inj H).trans hr_.out) (by decide)
        · rw [if_neg c23] at H
          have c23b0 : (t812 == (x7_3.length : Int)) = false := beq_eq_false_iff_ne.mpr c23
          have c23b1 : (t812 != (x7_3.length : Int)) = true := bne_iff_ne.mpr c23
          exact absurd ((Option.some.inj H).trans hr_.out) (by decide)
      · rw [if_neg c22] at H
        have c22b0 : ((t811.length : Int) == (x8_3.length : Int)) = false := beq_eq_false_iff_ne.mpr c22
        have c22b1 : ((t811.length : Int) != (x8_3.length : Int)) = true := bne_iff_ne.mpr c22
        have c22b2 : (t811.length == x8_3.length) = false := by first | simpa using c22 | (simp at c22 ⊢; omega)
        exact absurd ((Option.some.inj H).trans hr_.out) (by decide)

/-- THE ONE PURE STATEMENT of columbariumlaw6_BlockBack: yours. -/
def columbariumlaw6_BlockBack.Pure : Prop := ∀ (l0 : List ByteArray) (a1 : Int) (a2 : Int), l0.length * 16 ≤ 140737488351232 → (∀ x ∈ l0, x.size ≤ maxLen) → (Lit.int .i64 a1).wf = true → (Lit.int .u8 a2).wf = true → ∃ k, columbariumlaw6_BlockBack.f k l0 a1 a2 = some true
theorem columbariumlaw6_BlockBack.walk (P : columbariumlaw6_BlockBack.Pure) (a0 : Option Addr) (len0 cap0 : Nat) (z0 : List ByteArray) (a1 : Int) (a2 : Int) (w : World) (w0 : z0.length = len0 ∧ len0 ≤ cap0 ∧ Kd.string.C w a0 len0 z0 ∧ ∀ x ∈ z0, x.size ≤ maxLen) (y0 : len0 * 16 ≤ 140737488351232) (w1 : (Lit.int .i64 a1).wf = true) (w2 : (Lit.int .u8 a2).wf = true) :
    Calls Try.prog 12 #[.slice a0 len0 cap0, .int .i64 a1, .int .u8 a2] w fun e w' => e = .returned (.bool true) ∧ Below w.heap.size w w' := by
  obtain ⟨rfl, hc0, hr0, hw0⟩ := w0
  obtain ⟨k, h⟩ := P z0 a1 a2 y0 hw0 w1 w2
  refine (columbariumlaw6_BlockBack.calls k _ _ z0 a1 a2 true w hr0 hc0 h ⟨rfl⟩).mono ?_
  rintro e w' ⟨rfl, hd⟩
  exact ⟨rfl, hd⟩

end Go.Proofs.Ytfgceanepgjfiaa.PS
