-- Written by a program of this session, out of the translation; Lean checks it.
import Derived.Test.YtjpeojohakhmdaaPSx0
namespace Go.Proofs.Ytjpeojohakhmdaa.PS
open Go.RowKit Go.Proofs.YtjpeojohakhmdaaW.PrintWords Go.Proofs.YtjpeojohakhmdaaW.PrintLast Go.Proofs.YtjpeojohakhmdaaW.PrintMore
attribute [local go_sem high] pw_str_leq pw_str_gtr
attribute [local go_sem] pw_us8 pw_us32 pw_us64 pw_max2_str pw_min2_str max2_int min2_int max_two min_two max_three min_three max_four min_four   -- for this text's walks alone
set_option linter.unusedVariables false
set_option linter.unusedSimpArgs false

/-! ### varint_Zag: function 66 -/
def varint_Zag.f (a0 : Int) : Option (Int) := some (Go.bits .xor .i64 (wrap64 (a0 / 2)) (wrap64 (-(wrap64 (Go.bits .and .u64 a0 1)))))
set_option maxHeartbeats 8000000 in
set_option maxRecDepth 100000 in
theorem varint_Zag.calls (a0 : Int) (r : Int) (w : World) (h : varint_Zag.f a0 = some r) :
    Calls Try.prog 66 #[.int .u64 a0] w fun e w' => e = .returned (.int .i64 r) ∧ Drawn0 w w' := by
  have H : (some (Go.bits .xor .i64 (wrap64 (a0 / 2)) (wrap64 (-(wrap64 (Go.bits .and .u64 a0 1)))))) = some r := h
  clear h
  obtain rfl := Option.some.inj H
  go_enter Try.func66, Try.ntmps66
  go_wp2
  go_ret
  exact ⟨by first | rfl | (simp; done) | (simp [*]; done) | (refine congrArg (Value.int .i64) ?_; (try simp only [decide_eq_true_eq, decide_eq_false_iff_not] at *) <;> (unfold wrap64; omega)), by repeat (first | exact Drawn0.refl _ | apply Drawn0.step)⟩

end Go.Proofs.Ytjpeojohakhmdaa.PS
