-- Written by a program of this session, out of the translation; Lean checks it.
import Derived.Test.YtjpeojohakhmdaaPSx0
import Derived.Test.YtjpeojohakhmdaaPSvarintSmall
import Derived.Test.YtjpeojohakhmdaaPSvarintGetZag
import Derived.Test.YtjpeojohakhmdaaPSticksRight
import Derived.Test.YtjpeojohakhmdaaPSdeltaDecode
namespace Go.Proofs.Ytjpeojohakhmdaa.PS
open Go.RowKit Go.Proofs.YtjpeojohakhmdaaW.PrintWords Go.Proofs.YtjpeojohakhmdaaW.PrintLast Go.Proofs.YtjpeojohakhmdaaW.PrintMore
attribute [local go_sem high] pw_str_leq pw_str_gtr
attribute [local go_sem] pw_us8 pw_us32 pw_us64 pw_max2_str pw_min2_str max2_int min2_int max_two min_two max_three min_three max_four min_four   -- for this text's walks alone
set_option linter.unusedVariables false
set_option linter.unusedSimpArgs false

/-! ### ticks_Decode: function 41 -/
mutual
def ticks_Decode.j0 : Nat → List Int → Int → Int → Int → Int → Option (Int × Int × List Int × Int × Int)
  | 0, _, _, _, _, _ => none
  | k + 1, x0, x8, x9, x84003000, x84003001 => if x9 = 0 then ((delta_Decode.f k x0 x8 262144).bind fun bt84009 => (ticks_Decode.j1 k bt84009.2.1 bt84009.2.2 x84003000 x84003001 bt84009.1)) else (ticks_Decode.j1 k x8 x9 x84003000 x84003001 ([] : List Int))
def ticks_Decode.j1 : Nat → Int → Int → Int → Int → List Int → Option (Int × Int × List Int × Int × Int)
  | 0, _, _, _, _, _ => none
  | k + 1, x8, x9, x84003000, x84003001, x84003002 => if x9 = 0 then ((ticks_Right.f k x84003000 x84003001 x84003002).bind fun t84014 => (ticks_Decode.j2 k x8 x9 (!t84014) x84003000 x84003001 x84003002)) else (ticks_Decode.j2 k x8 x9 false x84003000 x84003001 x84003002)
def ticks_Decode.j2 : Nat → Int → Int → Bool → Int → Int → List Int → Option (Int × Int × List Int × Int × Int)
  | 0, _, _, _, _, _, _ => none
  | k + 1, x8, x9, x45, x84003000, x84003001, x84003002 => if x45 = true then (some (0, 0, ([] : List Int), 0, 12)) else (if x9 = 0 then (some (x84003000, x84003001, x84003002, x8, 0)) else (some (0, 0, ([] : List Int), 0, x9)))
end
def ticks_Decode.f (k : Nat) (l0 : List Int) (a1 : Int) : Option (Int × Int × List Int × Int × Int) := (varint_Small.f k l0 a1).bind fun bt84003 => (if bt84003.2.2 = 0 then ((varint_GetZag.f k l0 bt84003.2.1).bind fun bt84006 => (ticks_Decode.j0 k l0 bt84006.2.1 bt84006.2.2 bt84003.1 bt84006.1)) else (ticks_Decode.j0 k l0 bt84003.2.1 bt84003.2.2 bt84003.1 0))
theorem ticks_Decode.mono_l : ∀ k, (∀ y0 y1 y2 y3 y4, LeO (ticks_Decode.j0 k y0 y1 y2 y3 y4) (ticks_Decode.j0 (k + 1) y0 y1 y2 y3 y4)) ∧ (∀ y0 y1 y2 y3 y4, LeO (ticks_Decode.j1 k y0 y1 y2 y3 y4) (ticks_Decode.j1 (k + 1) y0 y1 y2 y3 y4)) ∧ (∀ y0 y1 y2 y3 y4 y5, LeO (ticks_Decode.j2 k y0 y1 y2 y3 y4 y5) (ticks_Decode.j2 (k + 1) y0 y1 y2 y3 y4 y5))
  | 0 => ⟨fun _ _ _ _ _ r h => by simp [ticks_Decode.j0] at h, fun _ _ _ _ _ r h => by simp [ticks_Decode.j1] at h, fun _ _ _ _ _ _ r h => by simp [ticks_Decode.j2] at h⟩
  | k + 1 => by
    obtain ⟨ih0, ih1, ih2⟩ := ticks_Decode.mono_l k
    refine ⟨?_, ?_, ?_⟩
    · intro y0 y1 y2 y3 y4
      unfold ticks_Decode.j0
      repeat' first
      | (with_reducible exact ih0 _ _ _ _ _)
      | (with_reducible exact ih1 _ _ _ _ _)
      | (with_reducible exact ih2 _ _ _ _ _ _)
      | (with_reducible exact delta_Decode.mono _ _ _ _)
      | (with_reducible exact ticks_Right.mono _ _ _ _)
      | (with_reducible exact varint_GetZag.mono _ _ _)
      | (with_reducible exact varint_Small.mono _ _ _)
      | (with_reducible exact LeO.refl _)
      | (with_reducible exact LeO.none _)
      | (with_reducible refine LeO.ite ?_ ?_)
      | (with_reducible refine LeO.bind ?_ (fun _ => ?_))
      | exact ih0 _ _ _ _ _
      | exact ih1 _ _ _ _ _
      | exact ih2 _ _ _ _ _ _
      | exact delta_Decode.mono _ _ _ _
      | exact ticks_Right.mono _ _ _ _
      | exact varint_GetZag.mono _ _ _
      | exact varint_Small.mono _ _ _
      | exact LeO.none _
      | refine LeO.ite ?_ ?_
      | refine LeO.bind ?_ (fun _ => ?_)
    · intro y0 y1 y2 y3 y4
      unfold ticks_Decode.j1
      repeat' first
      | (with_reducible exact ih0 _ _ _ _ _)
      | (with_reducible exact ih1 _ _ _ _ _)
      | (with_reducible exact ih2 _ _ _ _ _ _)
      | (with_reducible exact delta_Decode.mono _ _ _ _)
      | (with_reducible exact ticks_Right.mono _ _ _ _)
      | (with_reducible exact varint_GetZag.mono _ _ _)
      | (with_reducible exact varint_Small.mono _ _ _)
      | (with_reducible exact LeO.refl _)
      | (with_reducible exact LeO.none _)
      | (with_reducible refine LeO.ite ?_ ?_)
      | (with_reducible refine LeO.bind ?_ (fun _ => ?_))
      | exact ih0 _ _ _ _ _
      | exact ih1 _ _ _ _ _
      | exact ih2 _ _ _ _ _ _
      | exact delta_Decode.mono _ _ _ _
      | exact ticks_Right.mono _ _ _ _
      | exact varint_GetZag.mono _ _ _
      | exact varint_Small.mono _ _ _
      | exact LeO.none _
      | refine LeO.ite ?_ ?_
      | refine LeO.bind ?_ (fun _ => ?_)
    · intro y0 y1 y2 y3 y4 y5
      unfold ticks_Decode.j2
      repeat' first
      | (with_reducible exact ih0 _ _ _ _ _)
      | (with_reducible exact ih1 _ _ _ _ _)
      | (with_reducible exact ih2 _ _ _ _ _ _)
      | (with_reducible exact delta_Decode.mono _ _ _ _)
      | (with_reducible exact ticks_Right.mono _ _ _ _)
      | (with_reducible exact varint_GetZag.mono _ _ _)
      | (with_reducible exact varint_Small.mono _ _ _)
      | (with_reducible exact LeO.refl _)
      | (with_reducible exact LeO.none _)
      | (with_reducible refine LeO.ite ?_ ?_)
      | (with_reducible refine LeO.bind ?_ (fun _ => ?_))
      | exact ih0 _ _ _ _ _
      | exact ih1 _ _ _ _ _
      | exact ih2 _ _ _ _ _ _
      | exact delta_Decode.mono _ _ _ _
      | exact ticks_Right.mono _ _ _ _
      | exact varint_GetZag.mono _ _ _
      | exact varint_Small.mono _ _ _
      | exact LeO.none _
      | refine LeO.ite ?_ ?_
      | refine LeO.bind ?_ (fun _ => ?_)
theorem ticks_Decode.mono : ∀ a0 a1 k, LeO (ticks_Decode.f k a0 a1) (ticks_Decode.f (k + 1) a0 a1) := by
  intro a0 a1 k
  obtain ⟨ih0, ih1, ih2⟩ := ticks_Decode.mono_l k
  unfold ticks_Decode.f
  repeat' first
      | (with_reducible exact ih0 _ _ _ _ _)
      | (with_reducible exact ih1 _ _ _ _ _)
      | (with_reducible exact ih2 _ _ _ _ _ _)
      | (with_reducible exact delta_Decode.mono _ _ _ _)
      | (with_reducible exact ticks_Right.mono _ _ _ _)
      | (with_reducible exact varint_GetZag.mono _ _ _)
      | (with_reducible exact varint_Small.mono _ _ _)
      | (with_reducible exact LeO.refl _)
      | (with_reducible exact LeO.none _)
      | (with_reducible refine LeO.ite ?_ ?_)
      | (with_reducible refine LeO.bind ?_ (fun _ => ?_))
      | exact ih0 _ _ _ _ _
      | exact ih1 _ _ _ _ _
      | exact ih2 _ _ _ _ _ _
      | exact delta_Decode.mono _ _ _ _
      | exact ticks_Right.mono _ _ _ _
      | exact varint_GetZag.mono _ _ _
      | exact varint_Small.mono _ _ _
      | exact LeO.none _
      | refine LeO.ite ?_ ?_
      | refine LeO.bind ?_ (fun _ => ?_)
set_option maxHeartbeats 8000000 in
set_option maxRecDepth 100000 in
theorem ticks_Decode.calls (k : Nat) (A0 : Option Addr) (c0 : Nat) (l0 : List Int) (a1 : Int) (r1 : Int) (r2 : Int) (r3 : List Int) (r4 : Int) (r5 : Int) (w : World) (hr0 : Kd.C (Kd.int .u8) w A0 l0.length l0) (hc0 : l0.length ≤ c0) (h : ticks_Decode.f k l0 a1 = some (r1, r2, r3, r4, r5)) :
    Calls Try.prog 41 #[.slice A0 l0.length c0, .int .i64 a1] w fun e w' => ∃ v2_ : Value, e = .returned (.tuple #[.agg #[.int .i64 r1, .int .i64 r2, v2_], .int .i64 r4, .int .i64 r5]) ∧ Kd.R (Kd.int .i64) 2 w' w.heap.size (fun _ => True) v2_ r3 ∧ Below w.heap.size w w' := by
  have hu61 := Try.underlying61
  have HR0 := Aside0.mk hr0
  have HC0 := Aside0.mk hc0
  clear hr0 hc0
  have HB := Aside0.mk (Below.refl w.heap.size w)
  have H : ((varint_Small.f k l0 a1).bind fun bt84003 => (if bt84003.2.2 = 0 then ((varint_GetZag.f k l0 bt84003.2.1).bind fun bt84006 => (ticks_Decode.j0 k l0 bt84006.2.1 bt84006.2.2 bt84003.1 bt84006.1)) else (ticks_Decode.j0 k l0 bt84003.2.1 bt84003.2.2 bt84003.1 0))) = some (r1, r2, r3, r4, r5) := h
  clear h
  replace H := Option.bind_eq_some_iff.mp H
  obtain ⟨⟨t84003, t84004, t84005⟩, A30, H⟩ := H
  replace H : (if t84005 = 0 then ((varint_GetZag.f k l0 t84004).bind fun bt84006 => (ticks_Decode.j0 k l0 bt84006.2.1 bt84006.2.2 t84003 bt84006.1)) else (ticks_Decode.j0 k l0 t84004 t84005 t84003 0)) = some (r1, r2, r3, r4, r5) := H
  have A3 := Aside0.mk A30
  clear A30
  have HC4 := Aside0.mk H
  clear H
  go_enter Try.func41, Try.ntmps41
  go_upto_if 20 with (first | ((with_reducible refine gate_dst (N := 4) rfl ?_); refine box_event ?hg (N := 4) ?hd (cs := #[.int .i64 0, .int .i64 0, .slice none 0 0]) (t := 61) ?hr ?_; (case hd => rfl); (case hg => rfl); (case hr => first | (go_simp; done) | (go_simp; rfl)); intro gb84001 hg w5 hbox hb; have n0_ := Aside0.mk (below_step (by repeat (first | (with_reducible first | exact HB.out | apply below_alloc | apply pw_below_drewN | apply below_drew1) | exact HB.out)) hb); have n1_ := Aside0.mk (hbox); have n2_ := Aside0.mk ((by rw [hg]; exact (below_size (by repeat (first | (with_reducible first | exact HB.out | apply below_alloc | apply pw_below_drewN | apply below_drew1) | exact HB.out))) : w.heap.size ≤ gb84001)); have n3_ := Aside0.mk ((by rw [hg]; exact (below_size (by repeat (first | (with_reducible first | exact HB.out | apply below_alloc | apply pw_below_drewN | apply below_drew1) | exact HB.out))) : w.heap.size ≤ gb84001)); clear HB; have HB := n0_; have BK84001 := n1_; have GW84001 := n2_; have GE84001 := n3_; clear n0_ n1_ n2_ n3_; clear hb hbox hg) | ((with_reducible refine gate_dst (N := 7) rfl ?_); refine box_event ?hg (N := 7) ?hd (cs := #[.int .i64 0, .int .i64 0, .slice none 0 0]) (t := 61) ?hr ?_; (case hd => rfl); (case hg => rfl); (case hr => first | (go_simp; done) | (go_simp; rfl)); intro gb84002 hg w6 hbox hb; have n0_ := Aside0.mk (blk_below (g := gb84001) (o := .cells #[.int .i64 0, .int .i64 0, .slice none 0 0] 61 (0, 0)) (by (with_reducible repeat (first | refine blk_drewN ?_ _ | refine blk_drew ?_ | refine blk_alloc ?_ _)); exact BK84001.out) hb); have n1_ := Aside0.mk (below_step (by repeat (first | (with_reducible first | exact HB.out | apply below_alloc | apply pw_below_drewN | apply below_drew1 | refine below_set ?_ GE84001.out) | exact HB.out)) hb); have n2_ := Aside0.mk (hbox); have n3_ := Aside0.mk ((by rw [hg]; exact (below_size (by repeat (first | (with_reducible first | exact HB.out | apply below_alloc | apply pw_below_drewN | apply below_drew1 | refine below_set ?_ GE84001.out) | exact HB.out))) : w.heap.size ≤ gb84002)); have n4_ := Aside0.mk ((by rw [hg]; exact (below_size (by repeat (first | (with_reducible first | exact HB.out | apply below_alloc | apply pw_below_drewN | apply below_drew1 | refine below_set ?_ GE84001.out) | exact HB.out))) : w.heap.size ≤ gb84002)); have n5_ := Aside0.mk ((by rw [hg]; exact Nat.ne_of_lt (blk_lt (g := gb84001) (o := .cells #[.int .i64 0, .int .i64 0, .slice none 0 0] 61 (0, 0)) (by (with_reducible repeat (first | refine blk_drewN ?_ _ | refine blk_drew ?_ | refine blk_alloc ?_ _)); exact BK84001.out)) : gb84001 ≠ gb84002)); have n6_ := Aside0.mk ((by rw [hg]; exact Nat.ne_of_gt (blk_lt (g := gb84001) (o := .cells #[.int .i64 0, .int .i64 0, .slice none 0 0] 61 (0, 0)) (by (with_reducible repeat (first | refine blk_drewN ?_ _ | refine blk_drew ?_ | refine blk_alloc ?_ _)); exact BK84001.out)) : gb84002 ≠ gb84001)); clear BK84001; clear HB; have BK84001 := n0_; have HB := n1_; have BK84002 := n2_; have GW84002 := n3_; have GE84002 := n4_; have NB84001_84002 := n5_; have NB84002_84001 := n6_; clear n0_ n1_ n2_ n3_ n4_ n5_ n6_; clear hb hbox hg) | ((with_reducible refine gate_callee (f := 48) rfl ?_); refine goesL_ (some 14) rfl rfl Try.func48 (by kernel_rfl) rfl #[.slice A0 l0.length c0, .int .i64 a1] rfl (by (try simp only [List.map_toArray, List.map_cons, List.map_nil]); first | done | rfl | (simp only [List.length_drop, List.length_take]; rfl)) ?_; (with_reducible refine (varint_Small.calls k _ _ l0 a1 t84003 t84004 t84005 _ ?side1 ?side2 A3.out).mono ?_); (case side1 => repeat (first | exact (Kd.C_below HR0.out HB.out) | (with_reducible refine Kd.C_alloc ?_ _) | (with_reducible refine Kd.C_drewN ?_ _) | (with_reducible refine Kd.C_drew ?_))); (case side2 => exact HC0.out); rintro e w7 ⟨rfl, hb⟩; refine ⟨_, rfl, ?_⟩; have n0_ := Aside0.mk (blk_below (g := gb84001) (o := .cells #[.int .i64 0, .int .i64 0, .slice none 0 0] 61 (0, 0)) (by (with_reducible repeat (first | refine blk_drewN ?_ _ | refine blk_drew ?_ | refine blk_alloc ?_ _)); exact BK84001.out) hb); have n1_ := Aside0.mk (blk_below (g := gb84002) (o := .cells #[.int .i64 0, .int .i64 0, .slice none 0 0] 61 (0, 0)) (by (with_reducible repeat (first | refine blk_drewN ?_ _ | refine blk_drew ?_ | refine blk_alloc ?_ _)); exact BK84002.out) hb); have n2_ := Aside0.mk (below_step (by repeat (first | (with_reducible first | exact HB.out | apply below_alloc | apply pw_below_drewN | apply below_drew1 | refine below_set ?_ GE84001.out | refine below_set ?_ GE84002.out) | exact HB.out)) hb); clear BK84001; clear BK84002; clear HB; have BK84001 := n0_; have BK84002 := n1_; have HB := n2_; clear n0_ n1_ n2_; (try clear hb); (try clear hb2); (try clear hk); (try clear hi); have hnb8 := NB84002_84001.out; have hnc8 := NB84001_84002.out; have hcz9_0 : w7.cell? ⟨gb84002, 0, none⟩ = some (.int .i64 0) := (blk_cell BK84002.out 0).trans rfl; have hcz9_1 : w7.cell? ⟨gb84002, 1, none⟩ = some (.int .i64 0) := (blk_cell BK84002.out 1).trans rfl; have hcz9_2 : w7.cell? ⟨gb84002, 2, none⟩ = some (.slice none 0 0) := (blk_cell BK84002.out 2).trans rfl; have hfz9_0 := blk_frozen BK84002.out 0; have hfz9_1 := blk_frozen BK84002.out 1; have hfz9_2 := blk_frozen BK84002.out 2))
  (try simp only [Act.put, List.setIfInBounds_toArray, List.set_cons_zero, List.set_cons_succ])
  go_cut [8, 9] (fun v8 v9 wc => ∃ (kq : Nat) (x8_3 : Int) (x9_3 : Int) (x84003001_3 : Int), v8 = .int .i64 x8_3 ∧ v9 = .int .i64 x9_3 ∧ Aside0 (ticks_Decode.j0 kq l0 x8_3 x9_3 t84003 x84003001_3 = some (r1, r2, r3, r4, r5)) ∧ Aside0 (kq ≤ k) ∧ Aside0 (wc.heap[gb84001]? = some (.cells #[.int .i64 0, .int .i64 0, (.slice none 0 0)] 61 (0, 0))) ∧ Aside0 (wc.heap[gb84002]? = some (.cells #[.int .i64 t84003, .int .i64 x84003001_3, (.slice none 0 0)] 61 (0, 0))) ∧ Aside0 (Below w.heap.size w wc))
  case first =>
    have H := HC4.out
    clear HC4
    by_cases c10 : t84005 = 0
    · rw [if_pos c10] at H
      have c10b0 : (t84005 == 0) = true := beq_iff_eq.mpr c10
      have c10b1 : (t84005 != 0) = false := bne_eq_false_iff_eq.mpr c10
      clear c10
      (first | rw [c10b0] | (simp only [i64_w, i32_w]; rw [c10b0]) | rw [c10b1] | skip)
      replace H := Option.bind_eq_some_iff.mp H
      obtain ⟨⟨t84006, t84007, t84008⟩, A110, H⟩ := H
      replace H : (ticks_Decode.j0 k l0 t84007 t84008 t84003 t84006) = some (r1, r2, r3, r4, r5) := H
      have A11 := Aside0.mk A110
      clear A110
      have H' := Aside0.mk H
      clear H
      go_wp2_with (first | ((with_reducible refine gate_callee (f := 60) rfl ?_); refine goesL_ (some 24) rfl rfl Try.func60 (by kernel_rfl) rfl #[.slice A0 l0.length c0, .int .i64 t84004] rfl (by (try simp only [List.map_toArray, List.map_cons, List.map_nil]); first | done | rfl | (simp only [List.length_drop, List.length_take]; rfl)) ?_; (with_reducible refine (varint_GetZag.calls k _ _ l0 t84004 t84006 t84007 t84008 _ ?side1 ?side2 A11.out).mono ?_); (case side1 => exact Kd.C_below HR0.out (by repeat (first | (with_reducible first | exact HB.out | apply below_alloc | apply pw_below_drewN | apply below_drew1 | refine below_set ?_ GE84001.out | refine below_set ?_ GE84002.out) | exact HB.out))); (case side2 => exact HC0.out); rintro e w' ⟨rfl, ⟨nd, rfl⟩⟩; refine ⟨_, rfl, ?_⟩; have hnb12 := NB84002_84001.out; have hnc12 := NB84001_84002.out; have hcz13_0 : w7.cell? ⟨gb84002, 0, none⟩ = some (.int .i64 0) := (blk_cell BK84002.out 0).trans rfl; have hcz13_1 : w7.cell? ⟨gb84002, 1, none⟩ = some (.int .i64 0) := (blk_cell BK84002.out 1).trans rfl; have hcz13_2 : w7.cell? ⟨gb84002, 2, none⟩ = some (.slice none 0 0) := (blk_cell BK84002.out 2).trans rfl; have hfz13_0 := blk_frozen BK84002.out 0; have hfz13_1 := blk_frozen BK84002.out 1; have hfz13_2 := blk_frozen BK84002.out 2))
      go_meet
      case rel => exact ⟨_, (t84007), (t84008), (t84006), (by first | rfl | (simp; done) | (simp [*]; done) | (refine congrArg (Value.int .i64) ?_; (try simp only [decide_eq_true_eq, decide_eq_false_iff_not] at *) <;> (unfold wrap64; omega))), (by first | rfl | (simp; done) | (simp [*]; done) | (refine congrArg (Value.int .i64) ?_; (try simp only [decide_eq_true_eq, decide_eq_false_iff_not] at *) <;> (unfold wrap64; omega))), H', ⟨by first | omega | exact Nat.le_refl _⟩, ⟨by (with_reducible repeat (first | refine blk_drewN ?_ _ | refine blk_drew ?_ | refine blk_alloc ?_ _)); refine blk_far ?_ NB84001_84002.out _; (with_reducible repeat (first | refine blk_drewN ?_ _ | refine blk_drew ?_ | refine blk_alloc ?_ _)); refine blk_far ?_ NB84001_84002.out _; (with_reducible repeat (first | refine blk_drewN ?_ _ | refine blk_drew ?_ | refine blk_alloc ?_ _)); exact BK84001.out⟩, ⟨by (with_reducible repeat (first | refine blk_drewN ?_ _ | refine blk_drew ?_ | refine blk_alloc ?_ _)); refine blk_put (cs := #[.int .i64 t84003, .int .i64 0, .slice none 0 0]) ?_ 1 _ rfl; (with_reducible repeat (first | refine blk_drewN ?_ _ | refine blk_drew ?_ | refine blk_alloc ?_ _)); refine blk_put (cs := #[.int .i64 0, .int .i64 0, .slice none 0 0]) ?_ 0 _ rfl; (with_reducible repeat (first | refine blk_drewN ?_ _ | refine blk_drew ?_ | refine blk_alloc ?_ _)); exact BK84002.out⟩, ⟨by repeat (first | (with_reducible first | exact HB.out | apply below_alloc | apply pw_below_drewN | apply below_drew1 | refine below_set ?_ GE84001.out | refine below_set ?_ GE84002.out) | exact HB.out)⟩⟩
    · rw [if_neg c10] at H
      have c10b0 : (t84005 == 0) = false := beq_eq_false_iff_ne.mpr c10
      have c10b1 : (t84005 != 0) = true := bne_iff_ne.mpr c10
      (first | rw [c10b0] | (simp only [i64_w, i32_w]; rw [c10b0]) | rw [c10b1] | skip)
      have H' := Aside0.mk H
      clear H
      go_wp2
      go_meet
      case rel => exact ⟨_, (t84004), (t84005), (0), (by first | rfl | (simp; done) | (simp [*]; done) | (refine congrArg (Value.int .i64) ?_; (try simp only [decide_eq_true_eq, decide_eq_false_iff_not] at *) <;> (unfold wrap64; omega))), (by first | rfl | (simp; done) | (simp [*]; done) | (refine congrArg (Value.int .i64) ?_; (try simp only [decide_eq_true_eq, decide_eq_false_iff_not] at *) <;> (unfold wrap64; omega))), H', ⟨by first | omega | exact Nat.le_refl _⟩, ⟨by (with_reducible repeat (first | refine blk_drewN ?_ _ | refine blk_drew ?_ | refine blk_alloc ?_ _)); refine blk_far ?_ NB84001_84002.out _; (with_reducible repeat (first | refine blk_drewN ?_ _ | refine blk_drew ?_ | refine blk_alloc ?_ _)); exact BK84001.out⟩, ⟨by (with_reducible repeat (first | refine blk_drewN ?_ _ | refine blk_drew ?_ | refine blk_alloc ?_ _)); refine blk_put (cs := #[.int .i64 0, .int .i64 0, .slice none 0 0]) ?_ 0 _ rfl; (with_reducible repeat (first | refine blk_drewN ?_ _ | refine blk_drew ?_ | refine blk_alloc ?_ _)); exact BK84002.out⟩, ⟨by repeat (first | (with_reducible first | exact HB.out | apply below_alloc | apply pw_below_drewN | apply below_drew1 | refine below_set ?_ GE84001.out | refine below_set ?_ GE84002.out) | exact HB.out)⟩⟩
  case rest =>
    clear HC4
    try clear c1
    try clear p2
    try clear c4
    try clear c6
    try clear p6
    try clear c8
    try clear c10
    try clear c10b0
    try clear c10b1
    try clear c12
    try clear hcz13_0
    try clear hcz13_1
    try clear hcz13_2
    try clear hcz9_0
    try clear hcz9_1
    try clear hcz9_2
    try clear hfz13_0
    try clear hfz13_1
    try clear hfz13_2
    try clear hfz9_0
    try clear hfz9_1
    try clear hfz9_2
    obtain ⟨kq, x8_3, x9_3, x84003001_3, rfl, rfl, HA, HJ3, BK84001, BK84002, HB⟩ := hcut
    cases kq with
    | zero => exact absurd HA.out (by simp [ticks_Decode.j0])
    | succ kj3 =>
      have H := HA.out
      clear HA
      simp only [ticks_Decode.j0] at H
      have HC14 := Aside0.mk H
      clear H
      go_upto_if 30 with (fail)
      go_cut [8, 9] (fun v8 v9 wc => ∃ (kq : Nat) (x8_13 : Int) (x9_13 : Int) (x84003002_13 : List Int) (u84003002 : Value), v8 = .int .i64 x8_13 ∧ v9 = .int .i64 x9_13 ∧ Aside0 (ticks_Decode.j1 kq x8_13 x9_13 t84003 x84003001_3 x84003002_13 = some (r1, r2, r3, r4, r5)) ∧ Aside0 (kq ≤ kj3) ∧ Aside0 (Kd.R (Kd.int .i64) 2 wc w.heap.size (fun _ => True) u84003002 x84003002_13) ∧ Aside0 (wc.heap[gb84001]? = some (.cells #[.int .i64 0, .int .i64 0, (.slice none 0 0)] 61 (0, 0))) ∧ Aside0 (wc.heap[gb84002]? = some (.cells #[.int .i64 t84003, .int .i64 x84003001_3, u84003002] 61 (0, 0))) ∧ Aside0 (Below w.heap.size w wc))
      case first =>
        have H := HC14.out
        clear HC14
        by_cases c15 : x9_3 = 0
        · rw [if_pos c15] at H
          have c15b0 : (x9_3 == 0) = true := beq_iff_eq.mpr c15
          have c15b1 : (x9_3 != 0) = false := bne_eq_false_iff_eq.mpr c15
          clear c15
          (first | rw [c15b0] | (simp only [i64_w, i32_w]; rw [c15b0]) | rw [c15b1] | skip)
          replace H := Option.bind_eq_some_iff.mp H
          obtain ⟨⟨t84009, t84010, t84011⟩, A160, H⟩ := H
          replace H : (ticks_Decode.j1 kj3 t84010 t84011 t84003 x84003001_3 t84009) = some (r1, r2, r3, r4, r5) := H
          have A16 := Aside0.mk A160
          clear A160
          have H' := Aside0.mk H
          clear H
          go_wp2_with (first | ((with_reducible refine gate_callee (f := 61) rfl ?_); refine goesL_ (some 34) rfl rfl Try.func61 (by kernel_rfl) rfl #[.slice A0 l0.length c0, .int .i64 x8_3, .int .i64 262144] rfl (by (try simp only [List.map_toArray, List.map_cons, List.map_nil]); first | done | rfl | (simp only [List.length_drop, List.length_take]; rfl)) ?_; (with_reducible refine (delta_Decode.calls kj3 _ _ l0 x8_3 262144 t84009 t84010 t84011 _ ?side1 ?side2 A16.out).mono ?_); (case side1 => repeat (first | exact (Kd.C_below HR0.out HB.out) | (with_reducible refine Kd.C_alloc ?_ _) | (with_reducible refine Kd.C_drewN ?_ _) | (with_reducible refine Kd.C_drew ?_))); (case side2 => exact HC0.out); rintro e w17 ⟨v84012, rfl, ho0, hb⟩; refine ⟨_, rfl, ?_⟩; have n0_ := Aside0.mk (Kd.R_lower ho0 (below_size (by repeat (first | (with_reducible first | exact HB.out | apply below_alloc | apply pw_below_drewN | apply below_drew1 | refine below_set ?_ GE84001.out | refine below_set ?_ GE84002.out) | exact HB.out)))); have n1_ := Aside0.mk (blk_below (g := gb84001) (o := .cells #[.int .i64 0, .int .i64 0, .slice none 0 0] 61 (0, 0)) (by (with_reducible repeat (first | refine blk_drewN ?_ _ | refine blk_drew ?_ | refine blk_alloc ?_ _)); exact BK84001.out) hb); have n2_ := Aside0.mk (blk_below (g := gb84002) (o := .cells #[.int .i64 t84003, .int .i64 x84003001_3, .slice none 0 0] 61 (0, 0)) (by (with_reducible repeat (first | refine blk_drewN ?_ _ | refine blk_drew ?_ | refine blk_alloc ?_ _)); exact BK84002.out) hb); have n3_ := Aside0.mk (below_step (by repeat (first | (with_reducible first | exact HB.out | apply below_alloc | apply pw_below_drewN | apply below_drew1 | refine below_set ?_ GE84001.out | refine below_set ?_ GE84002.out) | exact HB.out)) hb); clear BK84001; clear BK84002; clear HB; have HO84013 := n0_; have BK84001 := n1_; have BK84002 := n2_; have HB := n3_; clear n0_ n1_ n2_ n3_; (try clear hb); (try clear hb2); (try clear hk); (try clear hi); (try clear ho0); obtain ⟨Ao18, co18, eo18⟩ := Kd.R_slice HO84013.out; subst eo18; have hnb19 := NB84002_84001.out; have hnc19 := NB84001_84002.out; have hcz20_0 : w17.cell? ⟨gb84002, 0, none⟩ = some (.int .i64 t84003) := (blk_cell BK84002.out 0).trans rfl; have hcz20_1 : w17.cell? ⟨gb84002, 1, none⟩ = some (.int .i64 x84003001_3) := (blk_cell BK84002.out 1).trans rfl; have hcz20_2 : w17.cell? ⟨gb84002, 2, none⟩ = some (.slice none 0 0) := (blk_cell BK84002.out 2).trans rfl; have hfz20_0 := blk_frozen BK84002.out 0; have hfz20_1 := blk_frozen BK84002.out 1; have hfz20_2 := blk_frozen BK84002.out 2))
          go_meet
          case rel => exact ⟨_, (t84010), (t84011), (t84009), (.slice Ao18 t84009.length co18), (by first | rfl | (simp; done) | (simp [*]; done) | (refine congrArg (Value.int .i64) ?_; (try simp only [decide_eq_true_eq, decide_eq_false_iff_not] at *) <;> (unfold wrap64; omega))), (by first | rfl | (simp; done) | (simp [*]; done) | (refine congrArg (Value.int .i64) ?_; (try simp only [decide_eq_true_eq, decide_eq_false_iff_not] at *) <;> (unfold wrap64; omega))), H', ⟨by have := HJ3.out; first | omega | exact Nat.le_refl _⟩, ⟨by (with_reducible repeat (first | apply Kd.R_alloc | apply Kd.R_drewN | apply Kd.R_drew)); exact Kd.R_mono (Kd.R_far (p := ⟨gb84002, 2, none⟩) (Kd.R_types HO84013.out BK84002.out (by decide)) (fun _ hk => hk.2) (.slice Ao18 t84009.length co18)) (fun _ hk => trivial)⟩, ⟨by (with_reducible repeat (first | refine blk_drewN ?_ _ | refine blk_drew ?_ | refine blk_alloc ?_ _)); refine blk_far ?_ NB84001_84002.out _; (with_reducible repeat (first | refine blk_drewN ?_ _ | refine blk_drew ?_ | refine blk_alloc ?_ _)); exact BK84001.out⟩, ⟨by (with_reducible repeat (first | refine blk_drewN ?_ _ | refine blk_drew ?_ | refine blk_alloc ?_ _)); refine blk_put (cs := #[.int .i64 t84003, .int .i64 x84003001_3, .slice none 0 0]) ?_ 2 _ rfl; (with_reducible repeat (first | refine blk_drewN ?_ _ | refine blk_drew ?_ | refine blk_alloc ?_ _)); exact BK84002.out⟩, ⟨by repeat (first | (with_reducible first | exact HB.out | apply below_alloc | apply pw_below_drewN | apply below_drew1 | refine below_set ?_ GE84001.out | refine below_set ?_ GE84002.out) | exact HB.out)⟩⟩
        · rw [if_neg c15] at H
          have c15b0 : (x9_3 == 0) = false := beq_eq_false_iff_ne.mpr c15
          have c15b1 : (x9_3 != 0) = true := bne_iff_ne.mpr c15
          (first | rw [c15b0] | (simp only [i64_w, i32_w]; rw [c15b0]) | rw [c15b1] | skip)
          have H' := Aside0.mk H
          clear H
          go_wp2
          go_meet
          case rel => exact ⟨_, (x8_3), (x9_3), (([] : List Int)), (.slice none 0 0), (by first | rfl | (simp; done) | (simp [*]; done) | (refine congrArg (Value.int .i64) ?_; (try simp only [decide_eq_true_eq, decide_eq_false_iff_not] at *) <;> (unfold wrap64; omega))), (by first | rfl | (simp; done) | (simp [*]; done) | (refine congrArg (Value.int .i64) ?_; (try simp only [decide_eq_true_eq, decide_eq_false_iff_not] at *) <;> (unfold wrap64; omega))), H', ⟨by have := HJ3.out; first | omega | exact Nat.le_refl _⟩, ⟨by first | exact Kd.R_nil _ _ _ _ _ | exact Kd.N_nil _ _ _ _ _ | exact Kd.V_nil _ _ _ _ _ | exact Kd.Q_nil _ _ _ _ _ | exact Kd.S_nil _ _ _ _ _⟩, ⟨by (with_reducible repeat (first | refine blk_drewN ?_ _ | refine blk_drew ?_ | refine blk_alloc ?_ _)); exact BK84001.out⟩, ⟨by (with_reducible repeat (first | refine blk_drewN ?_ _ | refine blk_drew ?_ | refine blk_alloc ?_ _)); exact BK84002.out⟩, ⟨by repeat (first | (with_reducible first | exact HB.out | apply below_alloc | apply pw_below_drewN | apply below_drew1 | refine below_set ?_ GE84001.out | refine below_set ?_ GE84002.out) | exact HB.out)⟩⟩
      case rest =>
        clear HC14
        try clear c1
        try clear p2
        try clear c4
        try clear c6
        try clear p6
        try clear c8
        try clear c10
        try clear c10b0
        try clear c10b1
        try clear c12
        try clear c15
        try clear c15b0
        try clear c15b1
        try clear c19
        try clear hcz13_0
        try clear hcz13_1
        try clear hcz13_2
        try clear hcz20_0
        try clear hcz20_1
        try clear hcz20_2
        try clear hcz9_0
        try clear hcz9_1
        try clear hcz9_2
        try clear hfz13_0
        try clear hfz13_1
        try clear hfz13_2
        try clear hfz20_0
        try clear hfz20_1
        try clear hfz20_2
        try clear hfz9_0
        try clear hfz9_1
        try clear hfz9_2
        try clear p2
        try clear p6
        obtain ⟨kq, x8_13, x9_13, x84003002_13, u84003002, rfl, rfl, HA, HJ13, HO_84003002, BK84001, BK84002, HB⟩ := hcut
        cases kq with
        | zero => exact absurd HA.out (by simp [ticks_Decode.j1])
        | succ kj13 =>
          have H := HA.out
          clear HA
          simp only [ticks_Decode.j1] at H
          have HC21 := Aside0.mk H
          clear H
          go_upto_region 8 with (fail)
          go_cut [45] (fun v45 wc => ∃ (kq : Nat) (x45_20 : Bool), v45 = .bool x45_20 ∧ Aside0 (ticks_Decode.j2 kq x8_13 x9_13 x45_20 t84003 x84003001_3 x84003002_13 = some (r1, r2, r3, r4, r5)) ∧ Aside0 (kq ≤ kj13) ∧ Aside0 (Kd.R (Kd.int .i64) 2 wc w.heap.size (fun _ => True) u84003002 x84003002_13) ∧ Aside0 (wc.heap[gb84001]? = some (.cells #[.int .i64 0, .int .i64 0, (.slice none 0 0)] 61 (0, 0))) ∧ Aside0 (wc.heap[gb84002]? = some (.cells #[.int .i64 t84003, .int .i64 x84003001_3, u84003002] 61 (0, 0))) ∧ Aside0 (Below w.heap.size w wc))
          case first =>
            have H := HC21.out
            clear HC21
            by_cases c22 : x9_13 = 0
            · rw [if_pos c22] at H
              have c22b0 : (x9_13 == 0) = true := beq_iff_eq.mpr c22
              have c22b1 : (x9_13 != 0) = false := bne_eq_false_iff_eq.mpr c22
              clear c22
              (first | rw [c22b0] | (simp only [i64_w, i32_w]; rw [c22b0]) | rw [c22b1] | skip)
              replace H := Option.bind_eq_some_iff.mp H
              obtain ⟨t84014, A230, H⟩ := H
              replace H : (ticks_Decode.j2 kj13 x8_13 x9_13 (!t84014) t84003 x84003001_3 x84003002_13) = some (r1, r2, r3, r4, r5) := H
              have A23 := Aside0.mk A230
              clear A230
              have H' := Aside0.mk H
              clear H
              have hnb24 := NB84002_84001.out
              have hnc24 := NB84001_84002.out
              have hcz25_0 : wc.cell? ⟨gb84002, 0, none⟩ = some (.int .i64 t84003) := (blk_cell BK84002.out 0).trans rfl
              have hcz25_1 : wc.cell? ⟨gb84002, 1, none⟩ = some (.int .i64 x84003001_3) := (blk_cell BK84002.out 1).trans rfl
              have hcz25_2 : wc.cell? ⟨gb84002, 2, none⟩ = some (u84003002) := (blk_cell BK84002.out 2).trans rfl
              have hfz25_0 := blk_frozen BK84002.out 0
              have hfz25_1 := blk_frozen BK84002.out 1
              have hfz25_2 := blk_frozen BK84002.out 2
              obtain ⟨Ao26, co26, eo26⟩ := Kd.R_slice HO_84003002.out
              subst eo26
              go_wp2_with (first | (go_at_call 31; (with_reducible refine (ticks_Right.calls kj13 t84003 x84003001_3 _ _ x84003002_13 t84014 _ ?side1 ?side2 A23.out).mono ?_); (case side1 => repeat (first | exact (Kd.R_reads' HO_84003002.out).2.2 | (with_reducible refine Kd.C_alloc ?_ _) | (with_reducible refine Kd.C_drewN ?_ _) | (with_reducible refine Kd.C_drew ?_))); (case side2 => exact (Kd.R_reads' HO_84003002.out).2.1); rintro e w27 ⟨rfl, hb⟩; have n0_ := Aside0.mk (Kd.R_below (by (with_reducible repeat (first | apply Kd.R_alloc | apply Kd.R_drewN | apply Kd.R_drew)); exact HO_84003002.out) hb); have n1_ := Aside0.mk (blk_below (g := gb84001) (o := .cells #[.int .i64 0, .int .i64 0, .slice none 0 0] 61 (0, 0)) (by (with_reducible repeat (first | refine blk_drewN ?_ _ | refine blk_drew ?_ | refine blk_alloc ?_ _)); exact BK84001.out) hb); have n2_ := Aside0.mk (blk_below (g := gb84002) (o := .cells #[.int .i64 t84003, .int .i64 x84003001_3, .slice Ao26 x84003002_13.length co26] 61 (0, 0)) (by (with_reducible repeat (first | refine blk_drewN ?_ _ | refine blk_drew ?_ | refine blk_alloc ?_ _)); exact BK84002.out) hb); have n3_ := Aside0.mk (below_step (by repeat (first | (with_reducible first | exact HB.out | apply below_alloc | apply pw_below_drewN | apply below_drew1 | refine below_set ?_ GE84001.out | refine below_set ?_ GE84002.out) | exact HB.out)) hb); clear HO_84003002; clear BK84001; clear BK84002; clear HB; have HO_84003002 := n0_; have BK84001 := n1_; have BK84002 := n2_; have HB := n3_; clear n0_ n1_ n2_ n3_; (try clear hb); (try clear hb2); (try clear hk); (try clear hi)))
              go_meet
              case rel => exact ⟨_, (!t84014), (by first | rfl | (simp; done) | (simp [*]; done) | (refine congrArg (Value.int .i64) ?_; (try simp only [decide_eq_true_eq, decide_eq_false_iff_not] at *) <;> (unfold wrap64; omega))), H', ⟨by have := HJ3.out; have := HJ13.out; first | omega | exact Nat.le_refl _⟩, ⟨by (with_reducible repeat (first | apply Kd.R_alloc | apply Kd.R_drewN | apply Kd.R_drew)); exact HO_84003002.out⟩, ⟨by (with_reducible repeat (first | refine blk_drewN ?_ _ | refine blk_drew ?_ | refine blk_alloc ?_ _)); exact BK84001.out⟩, ⟨by (with_reducible repeat (first | refine blk_drewN ?_ _ | refine blk_drew ?_ | refine blk_alloc ?_ _)); exact BK84002.out⟩, ⟨by repeat (first | (with_reducible first | exact HB.out | apply below_alloc | apply pw_below_drewN | apply below_drew1 | refine below_set ?_ GE84001.out | refine below_set ?_ GE84002.out) | exact HB.out)⟩⟩
            · rw [if_neg c22] at H
              have c22b0 : (x9_13 == 0) = false := beq_eq_false_iff_ne.mpr c22
              have c22b1 : (x9_13 != 0) = true := bne_iff_ne.mpr c22
              (first | rw [c22b0] | (simp only [i64_w, i32_w]; rw [c22b0]) | rw [c22b1] | skip)
              have H' := Aside0.mk H
              clear H
              go_wp2
              go_meet
              case rel => exact ⟨_, (false), (by first | rfl | (simp; done) | (simp [*]; done) | (refine congrArg (Value.int .i64) ?_; (try simp only [decide_eq_true_eq, decide_eq_false_iff_not] at *) <;> (unfold wrap64; omega))), H', ⟨by have := HJ3.out; have := HJ13.out; first | omega | exact Nat.le_refl _⟩, ⟨by (with_reducible repeat (first | apply Kd.R_alloc | apply Kd.R_drewN | apply Kd.R_drew)); exact HO_84003002.out⟩, ⟨by (with_reducible repeat (first | refine blk_drewN ?_ _ | refine blk_drew ?_ | refine blk_alloc ?_ _)); exact BK84001.out⟩, ⟨by (with_reducible repeat (first | refine blk_drewN ?_ _ | refine blk_drew ?_ | refine blk_alloc ?_ _)); exact BK84002.out⟩, ⟨by repeat (first | (with_reducible first | exact HB.out | apply below_alloc | apply pw_below_drewN | apply below_drew1 | refine below_set ?_ GE84001.out | refine below_set ?_ GE84002.out) | exact HB.out)⟩⟩
          case rest =>
            clear HC21
            try clear c1
            try clear c2
            try clear p2
            try clear c4
            try clear c6
            try clear p6
            try clear c8
            try clear c10
            try clear c10b0
            try clear c10b1
            try clear c12
            try clear c15
            try clear c15b0
            try clear c15b1
            try clear c19
            try clear c22
            try clear c22b0
            try clear c22b1
            try clear c24
            try clear hcz13_0
            try clear hcz13_1
            try clear hcz13_2
            try clear hcz20_0
            try clear hcz20_1
            try clear hcz20_2
            try clear hcz25_0
            try clear hcz25_1
            try clear hcz25_2
            try clear hcz9_0
            try clear hcz9_1
            try clear hcz9_2
            try clear hfz13_0
            try clear hfz13_1
            try clear hfz13_2
            try clear hfz20_0
            try clear hfz20_1
            try clear hfz20_2
            try clear hfz25_0
            try clear hfz25_1
            try clear hfz25_2
            try clear hfz9_0
            try clear hfz9_1
            try clear hfz9_2
            try clear p2
            try clear p6
            obtain ⟨kq, x45_20, rfl, HA, HJ20, HO_84003002, BK84001, BK84002, HB⟩ := hcut
            cases kq with
            | zero => exact absurd HA.out (by simp [ticks_Decode.j2])
            | succ kj20 =>
              have H := HA.out
              clear HA
              simp only [ticks_Decode.j2] at H
              by_cases c28 : x45_20 = true
              · subst c28
                have H1 : (some (0, 0, ([] : List Int), 0, 12)) = some (r1, r2, r3, r4, r5) := by rw [if_pos rfl] at H; exact H
                clear H
                have H := H1
                clear H1
                simp only [Option.some.injEq, Prod.mk.injEq] at H
                obtain ⟨rfl, rfl, rfl, rfl, rfl⟩ := H
                have hnb29 := NB84001_84002.out
                have hnc29 := NB84002_84001.out
                have hcz30_0 : wc.cell? ⟨gb84001, 0, none⟩ = some (.int .i64 0) := (blk_cell BK84001.out 0).trans rfl
                have hcz30_1 : wc.cell? ⟨gb84001, 1, none⟩ = some (.int .i64 0) := (blk_cell BK84001.out 1).trans rfl
                have hcz30_2 : wc.cell? ⟨gb84001, 2, none⟩ = some (.slice none 0 0) := (blk_cell BK84001.out 2).trans rfl
                have hfz30_0 := blk_frozen BK84001.out 0
                have hfz30_1 := blk_frozen BK84001.out 1
                have hfz30_2 := blk_frozen BK84001.out 2
                go_wp2
                refine bodyPost_ret (results_ctt rfl _ _ gb84001 61 #[.int .i64 0, .int .i64 0, .slice none 0 0] (0, 0) _ rfl (by (with_reducible repeat (first | refine blk_drewN ?_ _ | refine blk_drew ?_ | refine blk_alloc ?_ _)); refine blk_put (cs := #[.int .i64 0, .int .i64 0, .slice none 0 0]) ?_ 2 _ rfl; (with_reducible repeat (first | refine blk_drewN ?_ _ | refine blk_drew ?_ | refine blk_alloc ?_ _)); refine blk_put (cs := #[.int .i64 0, .int .i64 0, .slice none 0 0]) ?_ 1 _ rfl; (with_reducible repeat (first | refine blk_drewN ?_ _ | refine blk_drew ?_ | refine blk_alloc ?_ _)); refine blk_put (cs := #[.int .i64 0, .int .i64 0, .slice none 0 0]) ?_ 0 _ rfl; (with_reducible repeat (first | refine blk_drewN ?_ _ | refine blk_drew ?_ | refine blk_alloc ?_ _)); exact BK84001.out) Try.underlying61 rfl (by kernel_rfl)) rfl ?_
                exact ⟨_, by first | rfl | (simp [errW_none, errW_some] <;> rfl) | (simp [*, errW_none, errW_some] <;> rfl), by first | exact Kd.R_nil _ _ _ _ _ | exact Kd.N_nil _ _ _ _ _ | exact Kd.V_nil _ _ _ _ _ | exact Kd.Q_nil _ _ _ _ _ | exact Kd.S_nil _ _ _ _ _, by repeat (first | (with_reducible first | exact HB.out | apply below_alloc | apply pw_below_drewN | apply below_drew1 | refine below_set ?_ GE84001.out | refine below_set ?_ GE84002.out) | exact HB.out)⟩
              · replace c28 := Bool.eq_false_iff.mpr c28
                subst c28
                have H1 : (if x9_13 = 0 then (some (t84003, x84003001_3, x84003002_13, x8_13, 0)) else (some (0, 0, ([] : List Int), 0, x9_13))) = some (r1, r2, r3, r4, r5) := by rw [if_neg (show ¬ (false = true) by decide)] at H; exact H
                clear H
                have H := H1
                clear H1
                by_cases c31 : x9_13 = 0
                · rw [if_pos c31] at H
                  have c31b0 : (x9_13 == 0) = true := beq_iff_eq.mpr c31
                  have c31b1 : (x9_13 != 0) = false := bne_eq_false_iff_eq.mpr c31
                  clear c31
                  simp only [Option.some.injEq, Prod.mk.injEq] at H
                  obtain ⟨rfl, rfl, rfl, rfl, rfl⟩ := H
                  have hnb32 := NB84002_84001.out
                  have hnc32 := NB84001_84002.out
                  have hcz33_0 : wc.cell? ⟨gb84002, 0, none⟩ = some (.int .i64 t84003) := (blk_cell BK84002.out 0).trans rfl
                  have hcz33_1 : wc.cell? ⟨gb84002, 1, none⟩ = some (.int .i64 x84003001_3) := (blk_cell BK84002.out 1).trans rfl
                  have hcz33_2 : wc.cell? ⟨gb84002, 2, none⟩ = some (u84003002) := (blk_cell BK84002.out 2).trans rfl
                  have hfz33_0 := blk_frozen BK84002.out 0
                  have hfz33_1 := blk_frozen BK84002.out 1
                  have hfz33_2 := blk_frozen BK84002.out 2
                  have hcz34_0 : wc.cell? ⟨gb84001, 0, none⟩ = some (.int .i64 0) := (blk_cell BK84001.out 0).trans rfl
                  have hcz34_1 : wc.cell? ⟨gb84001, 1, none⟩ = some (.int .i64 0) := (blk_cell BK84001.out 1).trans rfl
                  have hcz34_2 : wc.cell? ⟨gb84001, 2, none⟩ = some (.slice none 0 0) := (blk_cell BK84001.out 2).trans rfl
                  have hfz34_0 := blk_frozen BK84001.out 0
                  have hfz34_1 := blk_frozen BK84001.out 1
                  have hfz34_2 := blk_frozen BK84001.out 2
                  obtain ⟨Ao35, co35, eo35⟩ := Kd.R_slice HO_84003002.out
                  subst eo35
                  go_wp2
                  refine bodyPost_ret (results_ctt rfl _ _ gb84001 61 #[.int .i64 t84003, .int .i64 x84003001_3, .slice Ao35 x84003002_13.length co35] (0, 0) _ rfl (by (with_reducible repeat (first | refine blk_drewN ?_ _ | refine blk_drew ?_ | refine blk_alloc ?_ _)); refine blk_put (cs := #[.int .i64 t84003, .int .i64 x84003001_3, .slice none 0 0]) ?_ 2 _ rfl; (with_reducible repeat (first | refine blk_drewN ?_ _ | refine blk_drew ?_ | refine blk_alloc ?_ _)); refine blk_put (cs := #[.int .i64 t84003, .int .i64 0, .slice none 0 0]) ?_ 1 _ rfl; (with_reducible repeat (first | refine blk_drewN ?_ _ | refine blk_drew ?_ | refine blk_alloc ?_ _)); refine blk_put (cs := #[.int .i64 0, .int .i64 0, .slice none 0 0]) ?_ 0 _ rfl; (with_reducible repeat (first | refine blk_drewN ?_ _ | refine blk_drew ?_ | refine blk_alloc ?_ _)); exact BK84001.out) Try.underlying61 rfl (by kernel_rfl)) rfl ?_
                  exact ⟨_, by first | rfl | (simp [errW_none, errW_some] <;> rfl) | (simp [*, errW_none, errW_some] <;> rfl), by (with_reducible repeat (first | apply Kd.R_alloc | apply Kd.R_drewN | apply Kd.R_drew)); exact Kd.R_mono (Kd.R_far (p := ⟨gb84001, 2, none⟩) (Kd.R_far (p := ⟨gb84001, 1, none⟩) (Kd.R_far (p := ⟨gb84001, 0, none⟩) (Kd.R_types HO_84003002.out BK84001.out (by decide)) (fun _ hk => hk.2) (.int .i64 t84003)) (fun _ hk => hk.2) (.int .i64 x84003001_3)) (fun _ hk => hk.2) (.slice Ao35 x84003002_13.length co35)) (fun _ hk => trivial), by repeat (first | (with_reducible first | exact HB.out | apply below_alloc | apply pw_below_drewN | apply below_drew1 | refine below_set ?_ GE84001.out | refine below_set ?_ GE84002.out) | exact HB.out)⟩
                · rw [if_neg c31] at H
                  have c31b0 : (x9_13 == 0) = false := beq_eq_false_iff_ne.mpr c31
                  have c31b1 : (x9_13 != 0) = true := bne_iff_ne.mpr c31
                  simp only [Option.some.injEq, Prod.mk.injEq] at H
                  obtain ⟨rfl, rfl, rfl, rfl, rfl⟩ := H
                  have hnb36 := NB84001_84002.out
                  have hnc36 := NB84002_84001.out
                  have hcz37_0 : wc.cell? ⟨gb84001, 0, none⟩ = some (.int .i64 0) := (blk_cell BK84001.out 0).trans rfl
                  have hcz37_1 : wc.cell? ⟨gb84001, 1, none⟩ = some (.int .i64 0) := (blk_cell BK84001.out 1).trans rfl
                  have hcz37_2 : wc.cell? ⟨gb84001, 2, none⟩ = some (.slice none 0 0) := (blk_cell BK84001.out 2).trans rfl
                  have hfz37_0 := blk_frozen BK84001.out 0
                  have hfz37_1 := blk_frozen BK84001.out 1
                  have hfz37_2 := blk_frozen BK84001.out 2
                  go_wp2
                  refine bodyPost_ret (results_ctt rfl _ _ gb84001 61 #[.int .i64 0, .int .i64 0, .slice none 0 0] (0, 0) _ rfl (by (with_reducible repeat (first | refine blk_drewN ?_ _ | refine blk_drew ?_ | refine blk_alloc ?_ _)); refine blk_put (cs := #[.int .i64 0, .int .i64 0, .slice none 0 0]) ?_ 2 _ rfl; (with_reducible repeat (first | refine blk_drewN ?_ _ | refine blk_drew ?_ | refine blk_alloc ?_ _)); refine blk_put (cs := #[.int .i64 0, .int .i64 0, .slice none 0 0]) ?_ 1 _ rfl; (with_reducible repeat (first | refine blk_drewN ?_ _ | refine blk_drew ?_ | refine blk_alloc ?_ _)); refine blk_put (cs := #[.int .i64 0, .int .i64 0, .slice none 0 0]) ?_ 0 _ rfl; (with_reducible repeat (first | refine blk_drewN ?_ _ | refine blk_drew ?_ | refine blk_alloc ?_ _)); exact BK84001.out) Try.underlying61 rfl (by kernel_rfl)) rfl ?_
                  exact ⟨_, by first | rfl | (simp [errW_none, errW_some] <;> rfl) | (simp [*, errW_none, errW_some] <;> rfl), by first | exact Kd.R_nil _ _ _ _ _ | exact Kd.N_nil _ _ _ _ _ | exact Kd.V_nil _ _ _ _ _ | exact Kd.Q_nil _ _ _ _ _ | exact Kd.S_nil _ _ _ _ _, by repeat (first | (with_reducible first | exact HB.out | apply below_alloc | apply pw_below_drewN | apply below_drew1 | refine below_set ?_ GE84001.out | refine below_set ?_ GE84002.out) | exact HB.out)⟩

end Go.Proofs.Ytjpeojohakhmdaa.PS
