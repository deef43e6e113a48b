-- Written by a program of this session, out of the translation; Lean checks it.
import Derived.Test.YthpomojgkhjhbaaPSx0
import Derived.Test.YthpomojgkhjhbaaPSx1
import Derived.Test.YthpomojgkhjhbaaPSx2
import Derived.Test.YthpomojgkhjhbaaPSx3
namespace Go.Proofs.Ythpomojgkhjhbaa.PS
open Go.RowKit Go.Proofs.YthpomojgkhjhbaaW.PrintWords Go.Proofs.YthpomojgkhjhbaaW.PrintLast Go.Proofs.YthpomojgkhjhbaaW.PrintMore
attribute [local go_sem] max2_int min2_int max_two min_two max_three min_three max_four min_four   -- for this text's walks alone
set_option linter.unusedVariables false
set_option linter.unusedSimpArgs false

/-! ### columbariumlaw2_SumNumbers: function 3 -/
def columbariumlaw2_SumNumbers.f (k : Nat)  : Option (Bool) := (sum_Crc.f k ([] : List Int)).bind fun t110 => (if t110 = 0 then ((sum_Fnv.f k (⟨#[]⟩ : ByteArray)).bind fun t111 => (if t111 = 14695981039346656037 then ((sum_Fnv.f k (⟨#[102, 111, 111, 98, 97, 114]⟩ : ByteArray)).bind fun t112 => (if t112 = 9625390261332436968 then ((columbariumlaw2_known.f k).bind fun t113 => (some t113)) else (some false))) else (some false))) else (some false))
theorem columbariumlaw2_SumNumbers.mono : ∀ k, LeO (columbariumlaw2_SumNumbers.f k ) (columbariumlaw2_SumNumbers.f (k + 1) ) := by
  intro  k
  unfold columbariumlaw2_SumNumbers.f
  repeat' first
      | (with_reducible exact columbariumlaw2_known.mono _)
      | (with_reducible exact sum_Crc.mono _ _)
      | (with_reducible exact sum_Fnv.mono _ _)
      | (with_reducible exact LeO.refl _)
      | (with_reducible exact LeO.none _)
      | (with_reducible refine LeO.ite ?_ ?_)
      | (with_reducible refine LeO.bind ?_ (fun _ => ?_))
      | exact columbariumlaw2_known.mono _
      | exact sum_Crc.mono _ _
      | exact sum_Fnv.mono _ _
      | exact LeO.none _
      | refine LeO.ite ?_ ?_
      | refine LeO.bind ?_ (fun _ => ?_)
set_option maxHeartbeats 8000000 in
set_option maxRecDepth 100000 in
theorem columbariumlaw2_SumNumbers.calls (k : Nat)  (r : Bool) (w : World) (h : columbariumlaw2_SumNumbers.f k  = some r) (hr_ : Aside0 (r = true)) :
    Calls Try.prog 3 #[] w fun e w' => e = .returned (.bool r) ∧ Below w.heap.size w w' := by
  have HB := Aside0.mk (Below.refl w.heap.size w)
  have H : ((sum_Crc.f k ([] : List Int)).bind fun t110 => (if t110 = 0 then ((sum_Fnv.f k (⟨#[]⟩ : ByteArray)).bind fun t111 => (if t111 = 14695981039346656037 then ((sum_Fnv.f k (⟨#[102, 111, 111, 98, 97, 114]⟩ : ByteArray)).bind fun t112 => (if t112 = 9625390261332436968 then ((columbariumlaw2_known.f k).bind fun t113 => (some t113)) else (some false))) else (some false))) else (some false))) = some r := h
  clear h
  replace H := Option.bind_eq_some_iff.mp H
  obtain ⟨t110, A10, H⟩ := H
  replace H : (if t110 = 0 then ((sum_Fnv.f k (⟨#[]⟩ : ByteArray)).bind fun t111 => (if t111 = 14695981039346656037 then ((sum_Fnv.f k (⟨#[102, 111, 111, 98, 97, 114]⟩ : ByteArray)).bind fun t112 => (if t112 = 9625390261332436968 then ((columbariumlaw2_known.f k).bind fun t113 => (some t113)) else (some false))) else (some false))) else (some false)) = some r := H
  have A1 := Aside0.mk A10
  clear A10
  by_cases c2 : t110 = 0
  · rw [if_pos c2] at H
    have c2b0 : (t110 == 0) = true := beq_iff_eq.mpr c2
    have c2b1 : (t110 != 0) = false := bne_eq_false_iff_eq.mpr c2
    clear c2
    replace H := Option.bind_eq_some_iff.mp H
    obtain ⟨t111, A30, H⟩ := H
    replace H : (if t111 = 14695981039346656037 then ((sum_Fnv.f k (⟨#[102, 111, 111, 98, 97, 114]⟩ : ByteArray)).bind fun t112 => (if t112 = 9625390261332436968 then ((columbariumlaw2_known.f k).bind fun t113 => (some t113)) else (some false))) else (some false)) = some r := H
    have A3 := Aside0.mk A30
    clear A30
    by_cases c4 : t111 = 14695981039346656037
    · rw [if_pos c4] at H
      have c4b0 : (t111 == 14695981039346656037) = true := beq_iff_eq.mpr c4
      have c4b1 : (t111 != 14695981039346656037) = false := bne_eq_false_iff_eq.mpr c4
      clear c4
      replace H := Option.bind_eq_some_iff.mp H
      obtain ⟨t112, A50, H⟩ := H
      replace H : (if t112 = 9625390261332436968 then ((columbariumlaw2_known.f k).bind fun t113 => (some t113)) else (some false)) = some r := H
      have A5 := Aside0.mk A50
      clear A50
      by_cases c6 : t112 = 9625390261332436968
      · rw [if_pos c6] at H
        have c6b0 : (t112 == 9625390261332436968) = true := beq_iff_eq.mpr c6
        have c6b1 : (t112 != 9625390261332436968) = false := bne_eq_false_iff_eq.mpr c6
        clear c6
        replace H := Option.bind_eq_some_iff.mp H
        obtain ⟨t113, A70, H⟩ := H
        replace H : (some t113) = some r := H
        have A7 := Aside0.mk A70
        clear A70
        obtain rfl := Option.some.inj H
        go_enter Try.func3, Try.ntmps3
        go_wp2_with (first | ((with_reducible refine gate_callee (f := 14) rfl ?_); refine goesL_ (some 1) rfl rfl Try.func14 (by kernel_rfl) rfl #[.slice none 0 0] rfl (by (try simp only [List.map_toArray, List.map_cons, List.map_nil]); first | done | rfl | (simp only [List.length_drop, List.length_take]; rfl)) ?_; (refine (sum_Crc.calls k _ _ ([] : List Int) t110 _ ?side1 ?side2 A1.out).mono ?_); (case side1 => exact Kd.C_nil _ _); (case side2 => exact Nat.le_refl _); rintro e w' ⟨rfl, ⟨nd, rfl⟩⟩; refine ⟨_, rfl, ?_⟩) | (go_at_call 15; (with_reducible refine (sum_Fnv.calls k (⟨#[]⟩ : ByteArray) t111 _ A3.out).mono ?_); rintro e w' ⟨rfl, ⟨nd, rfl⟩⟩) | (go_at_call 15; (with_reducible refine (sum_Fnv.calls k (⟨#[102, 111, 111, 98, 97, 114]⟩ : ByteArray) t112 _ A5.out).mono ?_); rintro e w' ⟨rfl, ⟨nd, rfl⟩⟩) | (go_at_call 16; (with_reducible refine (columbariumlaw2_known.calls k  t113 _ A7.out).mono ?_); rintro e w8 ⟨rfl, hb⟩; have n0_ := Aside0.mk (below_step (by repeat (first | (with_reducible first | exact HB.out | apply below_alloc | apply pw_below_drewN | apply below_drew1) | exact HB.out)) hb); clear HB; have HB := n0_; clear n0_; (try clear hb); (try clear hb2); (try clear hk); (try clear hi)))
        go_ret
        exact ⟨by first | rfl | (simp [errW_none, errW_some] <;> rfl) | (simp [*, errW_none, errW_some] <;> rfl), by repeat (first | (with_reducible first | exact HB.out | apply below_alloc | apply pw_below_drewN | apply below_drew1) | exact HB.out)⟩
      · rw [if_neg c6] at H
        have c6b0 : (t112 == 9625390261332436968) = false := beq_eq_false_iff_ne.mpr c6
        have c6b1 : (t112 != 9625390261332436968) = true := bne_iff_ne.mpr c6
        exact absurd ((Option.some.inj H).trans hr_.out) (by decide)
    · rw [if_neg c4] at H
      have c4b0 : (t111 == 14695981039346656037) = false := beq_eq_false_iff_ne.mpr c4
      have c4b1 : (t111 != 14695981039346656037) = true := bne_iff_ne.mpr c4
      exact absurd ((Option.some.inj H).trans hr_.out) (by decide)
  · rw [if_neg c2] at H
    have c2b0 : (t110 == 0) = false := beq_eq_false_iff_ne.mpr c2
    have c2b1 : (t110 != 0) = true := bne_iff_ne.mpr c2
    exact absurd ((Option.some.inj H).trans hr_.out) (by decide)

/-- THE ONE PURE STATEMENT of columbariumlaw2_SumNumbers: yours. -/
def columbariumlaw2_SumNumbers.Pure : Prop := ∃ k, columbariumlaw2_SumNumbers.f k  = some true
theorem columbariumlaw2_SumNumbers.walk (P : columbariumlaw2_SumNumbers.Pure)  (w : World)  :
    Calls Try.prog 3 #[] w fun e w' => e = .returned (.bool true) ∧ Below w.heap.size w w' := by
  obtain ⟨k, h⟩ := P  
  refine (columbariumlaw2_SumNumbers.calls k  true w h ⟨rfl⟩).mono ?_
  rintro e w' ⟨rfl, hd⟩
  exact ⟨rfl, hd⟩

end Go.Proofs.Ythpomojgkhjhbaa.PS
