/- merge.Pick and what leans on it: what they answer. Printed by gen_mpick.py. -/
import Derived.Test.YtiodonkmapaebaaEngZ
import Derived.Test.YtiodonkmapaebaaProg
import Derived.KernelRfl
namespace Go.Proofs.Ytiodonkmapaebaa.MPick
set_option linter.unusedVariables false
set_option linter.unusedSimpArgs false
open Go Go.RowKit Go.Proofs Go.Proofs.Ytiodonkmapaebaa.Eng

theorem mix : Try.prog.follows .mixedOrders = true := by kernel_rfl

/-- Does a level of so many segments ask? -/
def asks (k : Nat) (x : Int) : Bool := if k < 4 then decide (x ≥ 3) else decide (k = 4) && decide (x > 1)
def pick (Z : List Int) : Nat → Nat → Option Nat
  | 0, _ => none
  | r + 1, k => if asks k (Z.getD k 0) then some k else pick Z r (k + 1)
def ints (L : List Int) : List SV := L.map fun x => .int .i64 x
abbrev mem (Z : List Int) : Mem := [(0, some ⟨ints Z, false⟩)]
abbrev lev (n : Nat) (cap : Option Nat) : AV := .s (.sl 0 0 n cap 1)
abbrev S (Z : List Int) (n : Nat) (cap : Option Nat) (k : Nat) : St := ⟨⟨29, [(8, .s (.int .i64 k)), (7, .s (.int .i64 n)), (6, lev n cap)]⟩, mem Z, 1⟩
abbrev R (Z : List Int) (j : Nat) : St := ⟨⟨29, [(2, .s (.int .i64 j)), (3, .s (.bool true))]⟩, mem Z, 1⟩
abbrev E (Z : List Int) : St := ⟨⟨29, []⟩, mem Z, 1⟩

theorem pick_some {Z : List Int} : ∀ {r k j : Nat}, pick Z r k = some j → k ≤ j ∧ j < k + r ∧ asks j (Z.getD j 0) = true ∧ ∀ i, k ≤ i → i < j → asks i (Z.getD i 0) = false
  | 0, k, j, h => by cases h
  | r + 1, k, j, h => by
    unfold pick at h
    split at h
    · rename_i ha
      obtain rfl : k = j := by simpa using h
      exact ⟨Nat.le_refl _, by omega, ha, fun i h1 h2 => by omega⟩
    · rename_i ha
      obtain ⟨h1, h2, h3, h4⟩ := pick_some h
      refine ⟨by omega, by omega, h3, fun i g1 g2 => ?_⟩
      rcases Nat.lt_or_ge k i with g | g
      · exact h4 i g g2
      · obtain rfl : i = k := by omega
        simpa using ha
theorem pick_none {Z : List Int} : ∀ {r k : Nat}, pick Z r k = none → ∀ i, k ≤ i → i < k + r → asks i (Z.getD i 0) = false
  | 0, k, h => fun i h1 h2 => by omega
  | r + 1, k, h => by
    unfold pick at h
    split at h
    · cases h
    · rename_i ha
      intro i g1 g2
      rcases Nat.lt_or_ge k i with g | g
      · exact pick_none h i g (by omega)
      · obtain rfl : i = k := by omega
        simpa using ha
theorem cell (Z : List Int) (k : Nat) (h : k < Z.length) : (ints Z)[0 + ((k : Int)).toNat * 1]? = some (.int .i64 (Z.getD k 0)) := by
  simp [ints, h]
theorem wrap_next {k : Nat} (h : k < 140737488355328) : IntKind.wrap .i64 ((k : Int) + 1) = ((k + 1 : Nat) : Int) := by
  have : ((k : Int) + 1) = ((k + 1 : Nat) : Int) := by omega
  rw [this]
  simp only [IntKind.wrap, IntKind.bits, IntKind.signed, Bool.true_and, decide_eq_true_eq, ge_iff_le]
  split <;> omega

theorem round_end {B : Nat} (Z : List Int) (n : Nat) (cap : Option Nat) (k : Nat) (h : decide ((k : Int) < (n : Int)) = false) :
    CodeDoes Try.prog B (Lf (Lf (Rt (Lf (Rt (Try.f6.body.getD .skip)))))) (S Z n cap k) (.exit 0) (E Z) := by
  refine (does0 mix (s' := ?s1) ?h).after ?l
  case h =>
    intro call
    show evS _ _ (Code.seq _ _) _ = _
    repeat' (first
      | exact Has.here
      | (with_reducible apply Has.there)
      | ((with_reducible apply Rf.mk); rfl)
      | (with_reducible exact ops_end)
      | (with_reducible apply u_val)
      | ((with_reducible apply u_gval); (case hw => apply w_yes; exact Rf.mk rfl; exact Rf.mk rfl; (repeat (first | exact Has.here | (apply Has.there; exact Rf.mk rfl)))))
      | ((with_reducible apply u_skip); (case hw => first | (apply w_no; exact Rf.mk rfl; exact Rf.mk rfl; (repeat (first | exact Has.here | (apply Has.there; exact Rf.mk rfl))); exact Rf.mk rfl) | (apply w_none; exact Rf.mk rfl; exact Rf.mk rfl; (repeat (first | exact Has.here | (apply Has.there; exact Rf.mk rfl))))))
      | (with_reducible apply ops_none)
      | (with_reducible exact v_int)
      | (with_reducible exact v_bool)
      | (with_reducible exact v_str)
      | (with_reducible exact v_ptr0)
      | (with_reducible exact v_sl0)
      | (with_reducible exact v_fnil)
      | (with_reducible exact v_func)
      | (with_reducible apply v_tmp)
      | (with_reducible apply o_move)
      | (with_reducible apply o_assign)
      | (with_reducible apply o_bin)
      | ((with_reducible apply o_pick_t); (case hx => (first | exact v_bool | (apply v_tmp; (repeat (first | exact Has.here | (apply Has.there; exact Rf.mk rfl)))))))
      | ((with_reducible apply o_pick_f); (case hx => (first | exact v_bool | (apply v_tmp; (repeat (first | exact Has.here | (apply Has.there; exact Rf.mk rfl)))))))
      | ((with_reducible apply o_index); (case hx => (first | exact v_bool | (apply v_tmp; (repeat (first | exact Has.here | (apply Has.there; exact Rf.mk rfl)))))))
      | (with_reducible apply o_indexv)
      | (with_reducible apply o_load)
      | (with_reducible apply o_store)
      | (with_reducible apply o_len)
      | (with_reducible apply o_un)
      | (with_reducible apply o_extract)
      | (with_reducible apply o_slice_to)
      | (with_reducible apply o_max)
      | (with_reducible apply o_min)
      | (with_reducible apply o_make)
      | (with_reducible apply o_call0)
      | (with_reducible apply o_call1)
      | (with_reducible apply o_call2)
      | (with_reducible apply o_call3)
      | (with_reducible apply o_call4)
      | (with_reducible apply o_box)
      | ((with_reducible apply Tell.mk); first | (simp only [*, decide_true, decide_false]; done) | (simp only [*, decide_true, decide_false]; rfl) | rfl)
      | (with_reducible apply s_then)
      | (with_reducible apply nxt_n)
      | (with_reducible exact nxt_e)
      | (with_reducible exact nxt_r)
      | (with_reducible exact s_skip)
      | (with_reducible exact s_exit)
      | (with_reducible exact s_ret)
      | ((with_reducible apply s_cond_t'); (case hx => (first | exact v_bool | (apply v_tmp; (repeat (first | exact Has.here | (apply Has.there; exact Rf.mk rfl)))))))
      | ((with_reducible apply s_cond_f'); (case hx => (first | exact v_bool | (apply v_tmp; (repeat (first | exact Has.here | (apply Has.there; exact Rf.mk rfl)))))))
      | (with_reducible apply s_block)
      | (with_reducible apply reg_plain)
      | (with_reducible apply reg_last)
      | (with_reducible exact blk_n)
      | (with_reducible exact blk_r)
      | (with_reducible exact blk_e)
      | (with_reducible apply blk_o)
      | assumption
      | omega
      | decide
      | rfl)
  case l => exact less_of rfl (fun e he => by cases he) (fun _ _ h => h) rfl
theorem round_ret {B : Nat} (Z : List Int) (n : Nat) (cap : Option Nat) (k : Nat) (x : Int) (hk : (k : Int) < (n : Int)) (hx : (ints Z)[0 + ((k : Int)).toNat * 1]? = some (.int .i64 x)) (h : decide ((k : Int) < (n : Int)) = true) (h4 : decide ((k : Int) < 4) = true) (h3 : decide (x ≥ 3) = true) :
    CodeDoes Try.prog B (Lf (Lf (Rt (Lf (Rt (Try.f6.body.getD .skip)))))) (S Z n cap k) .ret (R Z k) := by
  refine (does0 mix (s' := ?s1) ?h).after ?l
  case h =>
    intro call
    show evS _ _ (Code.seq _ _) _ = _
    repeat' (first
      | exact Has.here
      | (with_reducible apply Has.there)
      | ((with_reducible apply Rf.mk); rfl)
      | (with_reducible exact ops_end)
      | (with_reducible apply u_val)
      | ((with_reducible apply u_gval); (case hw => apply w_yes; exact Rf.mk rfl; exact Rf.mk rfl; (repeat (first | exact Has.here | (apply Has.there; exact Rf.mk rfl)))))
      | ((with_reducible apply u_skip); (case hw => first | (apply w_no; exact Rf.mk rfl; exact Rf.mk rfl; (repeat (first | exact Has.here | (apply Has.there; exact Rf.mk rfl))); exact Rf.mk rfl) | (apply w_none; exact Rf.mk rfl; exact Rf.mk rfl; (repeat (first | exact Has.here | (apply Has.there; exact Rf.mk rfl))))))
      | (with_reducible apply ops_none)
      | (with_reducible exact v_int)
      | (with_reducible exact v_bool)
      | (with_reducible exact v_str)
      | (with_reducible exact v_ptr0)
      | (with_reducible exact v_sl0)
      | (with_reducible exact v_fnil)
      | (with_reducible exact v_func)
      | (with_reducible apply v_tmp)
      | (with_reducible apply o_move)
      | (with_reducible apply o_assign)
      | (with_reducible apply o_bin)
      | ((with_reducible apply o_pick_t); (case hx => (first | exact v_bool | (apply v_tmp; (repeat (first | exact Has.here | (apply Has.there; exact Rf.mk rfl)))))))
      | ((with_reducible apply o_pick_f); (case hx => (first | exact v_bool | (apply v_tmp; (repeat (first | exact Has.here | (apply Has.there; exact Rf.mk rfl)))))))
      | ((with_reducible apply o_index); (case hx => (first | exact v_bool | (apply v_tmp; (repeat (first | exact Has.here | (apply Has.there; exact Rf.mk rfl)))))))
      | (with_reducible apply o_indexv)
      | (with_reducible apply o_load)
      | (with_reducible apply o_store)
      | (with_reducible apply o_len)
      | (with_reducible apply o_un)
      | (with_reducible apply o_extract)
      | (with_reducible apply o_slice_to)
      | (with_reducible apply o_max)
      | (with_reducible apply o_min)
      | (with_reducible apply o_make)
      | (with_reducible apply o_call0)
      | (with_reducible apply o_call1)
      | (with_reducible apply o_call2)
      | (with_reducible apply o_call3)
      | (with_reducible apply o_call4)
      | (with_reducible apply o_box)
      | ((with_reducible apply Tell.mk); first | (simp only [*, decide_true, decide_false]; done) | (simp only [*, decide_true, decide_false]; rfl) | rfl)
      | (with_reducible apply s_then)
      | (with_reducible apply nxt_n)
      | (with_reducible exact nxt_e)
      | (with_reducible exact nxt_r)
      | (with_reducible exact s_skip)
      | (with_reducible exact s_exit)
      | (with_reducible exact s_ret)
      | ((with_reducible apply s_cond_t'); (case hx => (first | exact v_bool | (apply v_tmp; (repeat (first | exact Has.here | (apply Has.there; exact Rf.mk rfl)))))))
      | ((with_reducible apply s_cond_f'); (case hx => (first | exact v_bool | (apply v_tmp; (repeat (first | exact Has.here | (apply Has.there; exact Rf.mk rfl)))))))
      | (with_reducible apply s_block)
      | (with_reducible apply reg_plain)
      | (with_reducible apply reg_last)
      | (with_reducible exact blk_n)
      | (with_reducible exact blk_r)
      | (with_reducible exact blk_e)
      | (with_reducible apply blk_o)
      | assumption
      | omega
      | decide
      | rfl)
  case l => exact less_of rfl (fun e he => by simp only [List.mem_cons, List.not_mem_nil, or_false] at he; rcases he with rfl | rfl <;> rfl) (fun _ _ h => h) rfl
theorem round_ret4 {B : Nat} (Z : List Int) (n : Nat) (cap : Option Nat) (k : Nat) (x : Int) (hk : (k : Int) < (n : Int)) (hx : (ints Z)[0 + ((k : Int)).toNat * 1]? = some (.int .i64 x)) (h : decide ((k : Int) < (n : Int)) = true) (h4 : decide ((k : Int) < 4) = false) (h44 : ((k : Int) == 4) = true) (h3 : decide (x > 1) = true) :
    CodeDoes Try.prog B (Lf (Lf (Rt (Lf (Rt (Try.f6.body.getD .skip)))))) (S Z n cap k) .ret (R Z k) := by
  refine (does0 mix (s' := ?s1) ?h).after ?l
  case h =>
    intro call
    show evS _ _ (Code.seq _ _) _ = _
    repeat' (first
      | exact Has.here
      | (with_reducible apply Has.there)
      | ((with_reducible apply Rf.mk); rfl)
      | (with_reducible exact ops_end)
      | (with_reducible apply u_val)
      | ((with_reducible apply u_gval); (case hw => apply w_yes; exact Rf.mk rfl; exact Rf.mk rfl; (repeat (first | exact Has.here | (apply Has.there; exact Rf.mk rfl)))))
      | ((with_reducible apply u_skip); (case hw => first | (apply w_no; exact Rf.mk rfl; exact Rf.mk rfl; (repeat (first | exact Has.here | (apply Has.there; exact Rf.mk rfl))); exact Rf.mk rfl) | (apply w_none; exact Rf.mk rfl; exact Rf.mk rfl; (repeat (first | exact Has.here | (apply Has.there; exact Rf.mk rfl))))))
      | (with_reducible apply ops_none)
      | (with_reducible exact v_int)
      | (with_reducible exact v_bool)
      | (with_reducible exact v_str)
      | (with_reducible exact v_ptr0)
      | (with_reducible exact v_sl0)
      | (with_reducible exact v_fnil)
      | (with_reducible exact v_func)
      | (with_reducible apply v_tmp)
      | (with_reducible apply o_move)
      | (with_reducible apply o_assign)
      | (with_reducible apply o_bin)
      | ((with_reducible apply o_pick_t); (case hx => (first | exact v_bool | (apply v_tmp; (repeat (first | exact Has.here | (apply Has.there; exact Rf.mk rfl)))))))
      | ((with_reducible apply o_pick_f); (case hx => (first | exact v_bool | (apply v_tmp; (repeat (first | exact Has.here | (apply Has.there; exact Rf.mk rfl)))))))
      | ((with_reducible apply o_index); (case hx => (first | exact v_bool | (apply v_tmp; (repeat (first | exact Has.here | (apply Has.there; exact Rf.mk rfl)))))))
      | (with_reducible apply o_indexv)
      | (with_reducible apply o_load)
      | (with_reducible apply o_store)
      | (with_reducible apply o_len)
      | (with_reducible apply o_un)
      | (with_reducible apply o_extract)
      | (with_reducible apply o_slice_to)
      | (with_reducible apply o_max)
      | (with_reducible apply o_min)
      | (with_reducible apply o_make)
      | (with_reducible apply o_call0)
      | (with_reducible apply o_call1)
      | (with_reducible apply o_call2)
      | (with_reducible apply o_call3)
      | (with_reducible apply o_call4)
      | (with_reducible apply o_box)
      | ((with_reducible apply Tell.mk); first | (simp only [*, decide_true, decide_false]; done) | (simp only [*, decide_true, decide_false]; rfl) | rfl)
      | (with_reducible apply s_then)
      | (with_reducible apply nxt_n)
      | (with_reducible exact nxt_e)
      | (with_reducible exact nxt_r)
      | (with_reducible exact s_skip)
      | (with_reducible exact s_exit)
      | (with_reducible exact s_ret)
      | ((with_reducible apply s_cond_t'); (case hx => (first | exact v_bool | (apply v_tmp; (repeat (first | exact Has.here | (apply Has.there; exact Rf.mk rfl)))))))
      | ((with_reducible apply s_cond_f'); (case hx => (first | exact v_bool | (apply v_tmp; (repeat (first | exact Has.here | (apply Has.there; exact Rf.mk rfl)))))))
      | (with_reducible apply s_block)
      | (with_reducible apply reg_plain)
      | (with_reducible apply reg_last)
      | (with_reducible exact blk_n)
      | (with_reducible exact blk_r)
      | (with_reducible exact blk_e)
      | (with_reducible apply blk_o)
      | assumption
      | omega
      | decide
      | rfl)
  case l => exact less_of rfl (fun e he => by simp only [List.mem_cons, List.not_mem_nil, or_false] at he; rcases he with rfl | rfl <;> rfl) (fun _ _ h => h) rfl
theorem round_a {B : Nat} (Z : List Int) (n : Nat) (cap : Option Nat) (k : Nat) (x : Int) (hk : (k : Int) < (n : Int)) (hx : (ints Z)[0 + ((k : Int)).toNat * 1]? = some (.int .i64 x)) (h : decide ((k : Int) < (n : Int)) = true) (hw : IntKind.wrap .i64 ((k : Int) + 1) = ((k + 1 : Nat) : Int)) (h4 : decide ((k : Int) < 4) = true) (h44 : ((k : Int) == 4) = false) (h3 : decide (x ≥ 3) = false) :
    CodeDoes Try.prog B (Lf (Lf (Rt (Lf (Rt (Try.f6.body.getD .skip)))))) (S Z n cap k) .normal (S Z n cap (k + 1)) := by
  refine (does0 mix (s' := ?s1) ?h).after ?l
  case h =>
    intro call
    show evS _ _ (Code.seq _ _) _ = _
    repeat' (first
      | exact Has.here
      | (with_reducible apply Has.there)
      | ((with_reducible apply Rf.mk); rfl)
      | (with_reducible exact ops_end)
      | (with_reducible apply u_val)
      | ((with_reducible apply u_gval); (case hw => apply w_yes; exact Rf.mk rfl; exact Rf.mk rfl; (repeat (first | exact Has.here | (apply Has.there; exact Rf.mk rfl)))))
      | ((with_reducible apply u_skip); (case hw => first | (apply w_no; exact Rf.mk rfl; exact Rf.mk rfl; (repeat (first | exact Has.here | (apply Has.there; exact Rf.mk rfl))); exact Rf.mk rfl) | (apply w_none; exact Rf.mk rfl; exact Rf.mk rfl; (repeat (first | exact Has.here | (apply Has.there; exact Rf.mk rfl))))))
      | (with_reducible apply ops_none)
      | (with_reducible exact v_int)
      | (with_reducible exact v_bool)
      | (with_reducible exact v_str)
      | (with_reducible exact v_ptr0)
      | (with_reducible exact v_sl0)
      | (with_reducible exact v_fnil)
      | (with_reducible exact v_func)
      | (with_reducible apply v_tmp)
      | (with_reducible apply o_move)
      | (with_reducible apply o_assign)
      | (with_reducible apply o_bin)
      | ((with_reducible apply o_pick_t); (case hx => (first | exact v_bool | (apply v_tmp; (repeat (first | exact Has.here | (apply Has.there; exact Rf.mk rfl)))))))
      | ((with_reducible apply o_pick_f); (case hx => (first | exact v_bool | (apply v_tmp; (repeat (first | exact Has.here | (apply Has.there; exact Rf.mk rfl)))))))
      | ((with_reducible apply o_index); (case hx => (first | exact v_bool | (apply v_tmp; (repeat (first | exact Has.here | (apply Has.there; exact Rf.mk rfl)))))))
      | (with_reducible apply o_indexv)
      | (with_reducible apply o_load)
      | (with_reducible apply o_store)
      | (with_reducible apply o_len)
      | (with_reducible apply o_un)
      | (with_reducible apply o_extract)
      | (with_reducible apply o_slice_to)
      | (with_reducible apply o_max)
      | (with_reducible apply o_min)
      | (with_reducible apply o_make)
      | (with_reducible apply o_call0)
      | (with_reducible apply o_call1)
      | (with_reducible apply o_call2)
      | (with_reducible apply o_call3)
      | (with_reducible apply o_call4)
      | (with_reducible apply o_box)
      | ((with_reducible apply Tell.mk); first | (simp only [*, decide_true, decide_false]; done) | (simp only [*, decide_true, decide_false]; rfl) | rfl)
      | (with_reducible apply s_then)
      | (with_reducible apply nxt_n)
      | (with_reducible exact nxt_e)
      | (with_reducible exact nxt_r)
      | (with_reducible exact s_skip)
      | (with_reducible exact s_exit)
      | (with_reducible exact s_ret)
      | ((with_reducible apply s_cond_t'); (case hx => (first | exact v_bool | (apply v_tmp; (repeat (first | exact Has.here | (apply Has.there; exact Rf.mk rfl)))))))
      | ((with_reducible apply s_cond_f'); (case hx => (first | exact v_bool | (apply v_tmp; (repeat (first | exact Has.here | (apply Has.there; exact Rf.mk rfl)))))))
      | (with_reducible apply s_block)
      | (with_reducible apply reg_plain)
      | (with_reducible apply reg_last)
      | (with_reducible exact blk_n)
      | (with_reducible exact blk_r)
      | (with_reducible exact blk_e)
      | (with_reducible apply blk_o)
      | assumption
      | omega
      | decide
      | rfl)
  case l => exact less_of rfl (fun e he => by simp only [List.mem_cons, List.not_mem_nil, or_false] at he; rcases he with rfl | rfl | rfl <;> rfl) (fun _ _ h => h) rfl
theorem round_b {B : Nat} (Z : List Int) (n : Nat) (cap : Option Nat) (k : Nat) (x : Int) (hk : (k : Int) < (n : Int)) (hx : (ints Z)[0 + ((k : Int)).toNat * 1]? = some (.int .i64 x)) (h : decide ((k : Int) < (n : Int)) = true) (hw : IntKind.wrap .i64 ((k : Int) + 1) = ((k + 1 : Nat) : Int)) (h4 : decide ((k : Int) < 4) = false) (h44 : ((k : Int) == 4) = false) :
    CodeDoes Try.prog B (Lf (Lf (Rt (Lf (Rt (Try.f6.body.getD .skip)))))) (S Z n cap k) .normal (S Z n cap (k + 1)) := by
  refine (does0 mix (s' := ?s1) ?h).after ?l
  case h =>
    intro call
    show evS _ _ (Code.seq _ _) _ = _
    repeat' (first
      | exact Has.here
      | (with_reducible apply Has.there)
      | ((with_reducible apply Rf.mk); rfl)
      | (with_reducible exact ops_end)
      | (with_reducible apply u_val)
      | ((with_reducible apply u_gval); (case hw => apply w_yes; exact Rf.mk rfl; exact Rf.mk rfl; (repeat (first | exact Has.here | (apply Has.there; exact Rf.mk rfl)))))
      | ((with_reducible apply u_skip); (case hw => first | (apply w_no; exact Rf.mk rfl; exact Rf.mk rfl; (repeat (first | exact Has.here | (apply Has.there; exact Rf.mk rfl))); exact Rf.mk rfl) | (apply w_none; exact Rf.mk rfl; exact Rf.mk rfl; (repeat (first | exact Has.here | (apply Has.there; exact Rf.mk rfl))))))
      | (with_reducible apply ops_none)
      | (with_reducible exact v_int)
      | (with_reducible exact v_bool)
      | (with_reducible exact v_str)
      | (with_reducible exact v_ptr0)
      | (with_reducible exact v_sl0)
      | (with_reducible exact v_fnil)
      | (with_reducible exact v_func)
      | (with_reducible apply v_tmp)
      | (with_reducible apply o_move)
      | (with_reducible apply o_assign)
      | (with_reducible apply o_bin)
      | ((with_reducible apply o_pick_t); (case hx => (first | exact v_bool | (apply v_tmp; (repeat (first | exact Has.here | (apply Has.there; exact Rf.mk rfl)))))))
      | ((with_reducible apply o_pick_f); (case hx => (first | exact v_bool | (apply v_tmp; (repeat (first | exact Has.here | (apply Has.there; exact Rf.mk rfl)))))))
      | ((with_reducible apply o_index); (case hx => (first | exact v_bool | (apply v_tmp; (repeat (first | exact Has.here | (apply Has.there; exact Rf.mk rfl)))))))
      | (with_reducible apply o_indexv)
      | (with_reducible apply o_load)
      | (with_reducible apply o_store)
      | (with_reducible apply o_len)
      | (with_reducible apply o_un)
      | (with_reducible apply o_extract)
      | (with_reducible apply o_slice_to)
      | (with_reducible apply o_max)
      | (with_reducible apply o_min)
      | (with_reducible apply o_make)
      | (with_reducible apply o_call0)
      | (with_reducible apply o_call1)
      | (with_reducible apply o_call2)
      | (with_reducible apply o_call3)
      | (with_reducible apply o_call4)
      | (with_reducible apply o_box)
      | ((with_reducible apply Tell.mk); first | (simp only [*, decide_true, decide_false]; done) | (simp only [*, decide_true, decide_false]; rfl) | rfl)
      | (with_reducible apply s_then)
      | (with_reducible apply nxt_n)
      | (with_reducible exact nxt_e)
      | (with_reducible exact nxt_r)
      | (with_reducible exact s_skip)
      | (with_reducible exact s_exit)
      | (with_reducible exact s_ret)
      | ((with_reducible apply s_cond_t'); (case hx => (first | exact v_bool | (apply v_tmp; (repeat (first | exact Has.here | (apply Has.there; exact Rf.mk rfl)))))))
      | ((with_reducible apply s_cond_f'); (case hx => (first | exact v_bool | (apply v_tmp; (repeat (first | exact Has.here | (apply Has.there; exact Rf.mk rfl)))))))
      | (with_reducible apply s_block)
      | (with_reducible apply reg_plain)
      | (with_reducible apply reg_last)
      | (with_reducible exact blk_n)
      | (with_reducible exact blk_r)
      | (with_reducible exact blk_e)
      | (with_reducible apply blk_o)
      | assumption
      | omega
      | decide
      | rfl)
  case l => exact less_of rfl (fun e he => by simp only [List.mem_cons, List.not_mem_nil, or_false] at he; rcases he with rfl | rfl | rfl <;> rfl) (fun _ _ h => h) rfl
theorem round_c {B : Nat} (Z : List Int) (n : Nat) (cap : Option Nat) (k : Nat) (x : Int) (hk : (k : Int) < (n : Int)) (hx : (ints Z)[0 + ((k : Int)).toNat * 1]? = some (.int .i64 x)) (h : decide ((k : Int) < (n : Int)) = true) (hw : IntKind.wrap .i64 ((k : Int) + 1) = ((k + 1 : Nat) : Int)) (h4 : decide ((k : Int) < 4) = false) (h44 : ((k : Int) == 4) = true) (h3 : decide (x > 1) = false) :
    CodeDoes Try.prog B (Lf (Lf (Rt (Lf (Rt (Try.f6.body.getD .skip)))))) (S Z n cap k) .normal (S Z n cap (k + 1)) := by
  refine (does0 mix (s' := ?s1) ?h).after ?l
  case h =>
    intro call
    show evS _ _ (Code.seq _ _) _ = _
    repeat' (first
      | exact Has.here
      | (with_reducible apply Has.there)
      | ((with_reducible apply Rf.mk); rfl)
      | (with_reducible exact ops_end)
      | (with_reducible apply u_val)
      | ((with_reducible apply u_gval); (case hw => apply w_yes; exact Rf.mk rfl; exact Rf.mk rfl; (repeat (first | exact Has.here | (apply Has.there; exact Rf.mk rfl)))))
      | ((with_reducible apply u_skip); (case hw => first | (apply w_no; exact Rf.mk rfl; exact Rf.mk rfl; (repeat (first | exact Has.here | (apply Has.there; exact Rf.mk rfl))); exact Rf.mk rfl) | (apply w_none; exact Rf.mk rfl; exact Rf.mk rfl; (repeat (first | exact Has.here | (apply Has.there; exact Rf.mk rfl))))))
      | (with_reducible apply ops_none)
      | (with_reducible exact v_int)
      | (with_reducible exact v_bool)
      | (with_reducible exact v_str)
      | (with_reducible exact v_ptr0)
      | (with_reducible exact v_sl0)
      | (with_reducible exact v_fnil)
      | (with_reducible exact v_func)
      | (with_reducible apply v_tmp)
      | (with_reducible apply o_move)
      | (with_reducible apply o_assign)
      | (with_reducible apply o_bin)
      | ((with_reducible apply o_pick_t); (case hx => (first | exact v_bool | (apply v_tmp; (repeat (first | exact Has.here | (apply Has.there; exact Rf.mk rfl)))))))
      | ((with_reducible apply o_pick_f); (case hx => (first | exact v_bool | (apply v_tmp; (repeat (first | exact Has.here | (apply Has.there; exact Rf.mk rfl)))))))
      | ((with_reducible apply o_index); (case hx => (first | exact v_bool | (apply v_tmp; (repeat (first | exact Has.here | (apply Has.there; exact Rf.mk rfl)))))))
      | (with_reducible apply o_indexv)
      | (with_reducible apply o_load)
      | (with_reducible apply o_store)
      | (with_reducible apply o_len)
      | (with_reducible apply o_un)
      | (with_reducible apply o_extract)
      | (with_reducible apply o_slice_to)
      | (with_reducible apply o_max)
      | (with_reducible apply o_min)
      | (with_reducible apply o_make)
      | (with_reducible apply o_call0)
      | (with_reducible apply o_call1)
      | (with_reducible apply o_call2)
      | (with_reducible apply o_call3)
      | (with_reducible apply o_call4)
      | (with_reducible apply o_box)
      | ((with_reducible apply Tell.mk); first | (simp only [*, decide_true, decide_false]; done) | (simp only [*, decide_true, decide_false]; rfl) | rfl)
      | (with_reducible apply s_then)
      | (with_reducible apply nxt_n)
      | (with_reducible exact nxt_e)
      | (with_reducible exact nxt_r)
      | (with_reducible exact s_skip)
      | (with_reducible exact s_exit)
      | (with_reducible exact s_ret)
      | ((with_reducible apply s_cond_t'); (case hx => (first | exact v_bool | (apply v_tmp; (repeat (first | exact Has.here | (apply Has.there; exact Rf.mk rfl)))))))
      | ((with_reducible apply s_cond_f'); (case hx => (first | exact v_bool | (apply v_tmp; (repeat (first | exact Has.here | (apply Has.there; exact Rf.mk rfl)))))))
      | (with_reducible apply s_block)
      | (with_reducible apply reg_plain)
      | (with_reducible apply reg_last)
      | (with_reducible exact blk_n)
      | (with_reducible exact blk_r)
      | (with_reducible exact blk_e)
      | (with_reducible apply blk_o)
      | assumption
      | omega
      | decide
      | rfl)
  case l => exact less_of rfl (fun e he => by simp only [List.mem_cons, List.not_mem_nil, or_false] at he; rcases he with rfl | rfl | rfl <;> rfl) (fun _ _ h => h) rfl

theorem round_quiet {B : Nat} (Z : List Int) (n : Nat) (cap : Option Nat) (k : Nat) (hk : k < n) (hz : n ≤ Z.length) (hb : n ≤ 140737488355328) (ha : asks k (Z.getD k 0) = false) : CodeDoes Try.prog B (Lf (Lf (Rt (Lf (Rt (Try.f6.body.getD .skip)))))) (S Z n cap k) .normal (S Z n cap (k + 1)) := by
  have hc := cell Z k (by omega)
  have hkz : (k : Int) < (n : Int) := by omega
  have h : decide ((k : Int) < (n : Int)) = true := by simpa using hkz
  have hw := wrap_next (k := k) (by omega)
  unfold asks at ha
  split at ha
  · exact round_a Z n cap k _ hkz hc h hw (by simp; omega) (by simp; omega) ha
  · by_cases h4 : k = 4
    · subst h4
      exact round_c Z n cap 4 _ hkz hc h hw (by decide) (by decide) (by simpa using ha)
    · exact round_b Z n cap k _ hkz hc h hw (by simp; omega) (by simp; omega)
theorem round_loud {B : Nat} (Z : List Int) (n : Nat) (cap : Option Nat) (k : Nat) (hk : k < n) (hz : n ≤ Z.length) (hb : n ≤ 140737488355328) (ha : asks k (Z.getD k 0) = true) : CodeDoes Try.prog B (Lf (Lf (Rt (Lf (Rt (Try.f6.body.getD .skip)))))) (S Z n cap k) .ret (R Z k) := by
  have hc := cell Z k (by omega)
  have hkz : (k : Int) < (n : Int) := by omega
  have h : decide ((k : Int) < (n : Int)) = true := by simpa using hkz
  unfold asks at ha
  split at ha
  · exact round_ret Z n cap k _ hkz hc h (by simp; omega) ha
  · simp only [Bool.and_eq_true, decide_eq_true_eq] at ha
    obtain ⟨rfl, h1⟩ := ha
    exact round_ret4 Z n cap 4 _ hkz hc h (by decide) (by decide) (by simpa using h1)
theorem loop {B : Nat} (Z : List Int) (n : Nat) (cap : Option Nat) (hz : n ≤ Z.length) (hb : n ≤ 140737488355328) : ∀ r k, k + r = n →
    (pick Z r k = none → LoopDoes Try.prog B (Lf (Lf (Rt (Lf (Rt (Try.f6.body.getD .skip)))))) (S Z n cap k) (.exit 0) (E Z)) ∧ (∀ j, pick Z r k = some j → LoopDoes Try.prog B (Lf (Lf (Rt (Lf (Rt (Try.f6.body.getD .skip)))))) (S Z n cap k) .ret (R Z j))
  | 0, k, h => ⟨fun _ => .last (round_end Z n cap k (by simp; omega)) (by decide), fun j hj => by cases hj⟩
  | r + 1, k, h => by
    obtain ⟨h1, h2⟩ := loop (B := B) Z n cap hz hb r (k + 1) (by omega)
    cases ha : asks k (Z.getD k 0) with
    | true =>
      refine ⟨fun hp => ?_, fun j hj => ?_⟩
      · simp only [pick, ha, if_true] at hp
        cases hp
      · obtain rfl : k = j := by simpa only [pick, ha, if_true, Option.some.injEq] using hj
        exact .last (round_loud Z n cap k (by omega) hz hb ha) (by decide)
    | false =>
      have hq := round_quiet (B := B) Z n cap k (by omega) hz hb ha
      refine ⟨fun hp => ?_, fun j hj => ?_⟩
      · exact .more hq (h1 (by simpa only [pick, ha, Bool.false_eq_true, if_false] using hp))
      · exact .more hq (h2 j (by simpa only [pick, ha, Bool.false_eq_true, if_false] using hj))
theorem head0 {B : Nat} (Z : List Int) (n : Nat) (cap : Option Nat) :
    CodeDoes Try.prog B (Lf (Try.f6.body.getD .skip)) ⟨⟨29, enum 0 [lev n cap]⟩, mem Z, 1⟩ .normal ⟨⟨29, [(0, lev n cap)]⟩, mem Z, 1⟩ := by
  refine (does0 mix (s' := ?s1) ?h).after ?l
  case h =>
    intro call
    show evS _ _ (Code.region _ _ _) ⟨⟨29, [(0, lev n cap)]⟩, mem Z, 1⟩ = _
    repeat' (first
      | exact Has.here
      | (with_reducible apply Has.there)
      | ((with_reducible apply Rf.mk); rfl)
      | (with_reducible exact ops_end)
      | (with_reducible apply u_val)
      | ((with_reducible apply u_gval); (case hw => apply w_yes; exact Rf.mk rfl; exact Rf.mk rfl; (repeat (first | exact Has.here | (apply Has.there; exact Rf.mk rfl)))))
      | ((with_reducible apply u_skip); (case hw => first | (apply w_no; exact Rf.mk rfl; exact Rf.mk rfl; (repeat (first | exact Has.here | (apply Has.there; exact Rf.mk rfl))); exact Rf.mk rfl) | (apply w_none; exact Rf.mk rfl; exact Rf.mk rfl; (repeat (first | exact Has.here | (apply Has.there; exact Rf.mk rfl))))))
      | (with_reducible apply ops_none)
      | (with_reducible exact v_int)
      | (with_reducible exact v_bool)
      | (with_reducible exact v_str)
      | (with_reducible exact v_ptr0)
      | (with_reducible exact v_sl0)
      | (with_reducible exact v_fnil)
      | (with_reducible exact v_func)
      | (with_reducible apply v_tmp)
      | (with_reducible apply o_move)
      | (with_reducible apply o_assign)
      | (with_reducible apply o_bin)
      | ((with_reducible apply o_pick_t); (case hx => (first | exact v_bool | (apply v_tmp; (repeat (first | exact Has.here | (apply Has.there; exact Rf.mk rfl)))))))
      | ((with_reducible apply o_pick_f); (case hx => (first | exact v_bool | (apply v_tmp; (repeat (first | exact Has.here | (apply Has.there; exact Rf.mk rfl)))))))
      | ((with_reducible apply o_index); (case hx => (first | exact v_bool | (apply v_tmp; (repeat (first | exact Has.here | (apply Has.there; exact Rf.mk rfl)))))))
      | (with_reducible apply o_indexv)
      | (with_reducible apply o_load)
      | (with_reducible apply o_store)
      | (with_reducible apply o_len)
      | (with_reducible apply o_un)
      | (with_reducible apply o_extract)
      | (with_reducible apply o_slice_to)
      | (with_reducible apply o_max)
      | (with_reducible apply o_min)
      | (with_reducible apply o_make)
      | (with_reducible apply o_call0)
      | (with_reducible apply o_call1)
      | (with_reducible apply o_call2)
      | (with_reducible apply o_call3)
      | (with_reducible apply o_call4)
      | (with_reducible apply o_box)
      | ((with_reducible apply Tell.mk); first | (simp only [*, decide_true, decide_false]; done) | (simp only [*, decide_true, decide_false]; rfl) | rfl)
      | (with_reducible apply s_then)
      | (with_reducible apply nxt_n)
      | (with_reducible exact nxt_e)
      | (with_reducible exact nxt_r)
      | (with_reducible exact s_skip)
      | (with_reducible exact s_exit)
      | (with_reducible exact s_ret)
      | ((with_reducible apply s_cond_t'); (case hx => (first | exact v_bool | (apply v_tmp; (repeat (first | exact Has.here | (apply Has.there; exact Rf.mk rfl)))))))
      | ((with_reducible apply s_cond_f'); (case hx => (first | exact v_bool | (apply v_tmp; (repeat (first | exact Has.here | (apply Has.there; exact Rf.mk rfl)))))))
      | (with_reducible apply s_block)
      | (with_reducible apply reg_plain)
      | (with_reducible apply reg_last)
      | (with_reducible exact blk_n)
      | (with_reducible exact blk_r)
      | (with_reducible exact blk_e)
      | (with_reducible apply blk_o)
      | assumption
      | omega
      | decide
      | rfl)
  case l => exact less_of rfl (fun e he => by simp only [List.mem_cons, List.not_mem_nil, or_false] at he; subst he; rfl) (fun _ _ h => h) rfl
theorem head1 {B : Nat} (Z : List Int) (n : Nat) (cap : Option Nat) :
    CodeDoes Try.prog B (Lf (Lf (Rt (Try.f6.body.getD .skip)))) ⟨⟨29, [(0, lev n cap)]⟩, mem Z, 1⟩ .normal (S Z n cap 0) := by
  refine (does0 mix (s' := ?s1) ?h).after ?l
  case h =>
    intro call
    show evS _ _ (Code.region _ _ _) _ = _
    repeat' (first
      | exact Has.here
      | (with_reducible apply Has.there)
      | ((with_reducible apply Rf.mk); rfl)
      | (with_reducible exact ops_end)
      | (with_reducible apply u_val)
      | ((with_reducible apply u_gval); (case hw => apply w_yes; exact Rf.mk rfl; exact Rf.mk rfl; (repeat (first | exact Has.here | (apply Has.there; exact Rf.mk rfl)))))
      | ((with_reducible apply u_skip); (case hw => first | (apply w_no; exact Rf.mk rfl; exact Rf.mk rfl; (repeat (first | exact Has.here | (apply Has.there; exact Rf.mk rfl))); exact Rf.mk rfl) | (apply w_none; exact Rf.mk rfl; exact Rf.mk rfl; (repeat (first | exact Has.here | (apply Has.there; exact Rf.mk rfl))))))
      | (with_reducible apply ops_none)
      | (with_reducible exact v_int)
      | (with_reducible exact v_bool)
      | (with_reducible exact v_str)
      | (with_reducible exact v_ptr0)
      | (with_reducible exact v_sl0)
      | (with_reducible exact v_fnil)
      | (with_reducible exact v_func)
      | (with_reducible apply v_tmp)
      | (with_reducible apply o_move)
      | (with_reducible apply o_assign)
      | (with_reducible apply o_bin)
      | ((with_reducible apply o_pick_t); (case hx => (first | exact v_bool | (apply v_tmp; (repeat (first | exact Has.here | (apply Has.there; exact Rf.mk rfl)))))))
      | ((with_reducible apply o_pick_f); (case hx => (first | exact v_bool | (apply v_tmp; (repeat (first | exact Has.here | (apply Has.there; exact Rf.mk rfl)))))))
      | ((with_reducible apply o_index); (case hx => (first | exact v_bool | (apply v_tmp; (repeat (first | exact Has.here | (apply Has.there; exact Rf.mk rfl)))))))
      | (with_reducible apply o_indexv)
      | (with_reducible apply o_load)
      | (with_reducible apply o_store)
      | (with_reducible apply o_len)
      | (with_reducible apply o_un)
      | (with_reducible apply o_extract)
      | (with_reducible apply o_slice_to)
      | (with_reducible apply o_max)
      | (with_reducible apply o_min)
      | (with_reducible apply o_make)
      | (with_reducible apply o_call0)
      | (with_reducible apply o_call1)
      | (with_reducible apply o_call2)
      | (with_reducible apply o_call3)
      | (with_reducible apply o_call4)
      | (with_reducible apply o_box)
      | ((with_reducible apply Tell.mk); first | (simp only [*, decide_true, decide_false]; done) | (simp only [*, decide_true, decide_false]; rfl) | rfl)
      | (with_reducible apply s_then)
      | (with_reducible apply nxt_n)
      | (with_reducible exact nxt_e)
      | (with_reducible exact nxt_r)
      | (with_reducible exact s_skip)
      | (with_reducible exact s_exit)
      | (with_reducible exact s_ret)
      | ((with_reducible apply s_cond_t'); (case hx => (first | exact v_bool | (apply v_tmp; (repeat (first | exact Has.here | (apply Has.there; exact Rf.mk rfl)))))))
      | ((with_reducible apply s_cond_f'); (case hx => (first | exact v_bool | (apply v_tmp; (repeat (first | exact Has.here | (apply Has.there; exact Rf.mk rfl)))))))
      | (with_reducible apply s_block)
      | (with_reducible apply reg_plain)
      | (with_reducible apply reg_last)
      | (with_reducible exact blk_n)
      | (with_reducible exact blk_r)
      | (with_reducible exact blk_e)
      | (with_reducible apply blk_o)
      | assumption
      | omega
      | decide
      | rfl)
  case l => exact less_of rfl (fun e he => by simp only [List.mem_cons, List.not_mem_nil, or_false] at he; rcases he with rfl | rfl | rfl <;> rfl) (fun _ _ h => h) rfl
theorem tail {B : Nat} (Z : List Int) :
    CodeDoes Try.prog B (Rt (Rt (Try.f6.body.getD .skip))) (E Z) .ret ⟨⟨29, [(2, .s (.int .i64 0)), (3, .s (.bool false))]⟩, mem Z, 1⟩ := by
  refine (does0 mix (s' := ?s1) ?h).after ?l
  case h =>
    intro call
    show evS _ _ (Code.seq _ _) _ = _
    repeat' (first
      | exact Has.here
      | (with_reducible apply Has.there)
      | ((with_reducible apply Rf.mk); rfl)
      | (with_reducible exact ops_end)
      | (with_reducible apply u_val)
      | ((with_reducible apply u_gval); (case hw => apply w_yes; exact Rf.mk rfl; exact Rf.mk rfl; (repeat (first | exact Has.here | (apply Has.there; exact Rf.mk rfl)))))
      | ((with_reducible apply u_skip); (case hw => first | (apply w_no; exact Rf.mk rfl; exact Rf.mk rfl; (repeat (first | exact Has.here | (apply Has.there; exact Rf.mk rfl))); exact Rf.mk rfl) | (apply w_none; exact Rf.mk rfl; exact Rf.mk rfl; (repeat (first | exact Has.here | (apply Has.there; exact Rf.mk rfl))))))
      | (with_reducible apply ops_none)
      | (with_reducible exact v_int)
      | (with_reducible exact v_bool)
      | (with_reducible exact v_str)
      | (with_reducible exact v_ptr0)
      | (with_reducible exact v_sl0)
      | (with_reducible exact v_fnil)
      | (with_reducible exact v_func)
      | (with_reducible apply v_tmp)
      | (with_reducible apply o_move)
      | (with_reducible apply o_assign)
      | (with_reducible apply o_bin)
      | ((with_reducible apply o_pick_t); (case hx => (first | exact v_bool | (apply v_tmp; (repeat (first | exact Has.here | (apply Has.there; exact Rf.mk rfl)))))))
      | ((with_reducible apply o_pick_f); (case hx => (first | exact v_bool | (apply v_tmp; (repeat (first | exact Has.here | (apply Has.there; exact Rf.mk rfl)))))))
      | ((with_reducible apply o_index); (case hx => (first | exact v_bool | (apply v_tmp; (repeat (first | exact Has.here | (apply Has.there; exact Rf.mk rfl)))))))
      | (with_reducible apply o_indexv)
      | (with_reducible apply o_load)
      | (with_reducible apply o_store)
      | (with_reducible apply o_len)
      | (with_reducible apply o_un)
      | (with_reducible apply o_extract)
      | (with_reducible apply o_slice_to)
      | (with_reducible apply o_max)
      | (with_reducible apply o_min)
      | (with_reducible apply o_make)
      | (with_reducible apply o_call0)
      | (with_reducible apply o_call1)
      | (with_reducible apply o_call2)
      | (with_reducible apply o_call3)
      | (with_reducible apply o_call4)
      | (with_reducible apply o_box)
      | ((with_reducible apply Tell.mk); first | (simp only [*, decide_true, decide_false]; done) | (simp only [*, decide_true, decide_false]; rfl) | rfl)
      | (with_reducible apply s_then)
      | (with_reducible apply nxt_n)
      | (with_reducible exact nxt_e)
      | (with_reducible exact nxt_r)
      | (with_reducible exact s_skip)
      | (with_reducible exact s_exit)
      | (with_reducible exact s_ret)
      | ((with_reducible apply s_cond_t'); (case hx => (first | exact v_bool | (apply v_tmp; (repeat (first | exact Has.here | (apply Has.there; exact Rf.mk rfl)))))))
      | ((with_reducible apply s_cond_f'); (case hx => (first | exact v_bool | (apply v_tmp; (repeat (first | exact Has.here | (apply Has.there; exact Rf.mk rfl)))))))
      | (with_reducible apply s_block)
      | (with_reducible apply reg_plain)
      | (with_reducible apply reg_last)
      | (with_reducible exact blk_n)
      | (with_reducible exact blk_r)
      | (with_reducible exact blk_e)
      | (with_reducible apply blk_o)
      | assumption
      | omega
      | decide
      | rfl)
  case l => exact less_of rfl (fun e he => by simp only [List.mem_cons, List.not_mem_nil, or_false] at he; rcases he with rfl | rfl <;> rfl) (fun _ _ h => h) rfl

theorem pick_yes (Z : List Int) (n : Nat) (cap : Option Nat) (hz : n ≤ Z.length) (hb : n ≤ 140737488355328) (j : Nat) (hj : pick Z n 0 = some j) :
    PureDoes Try.prog 6 [lev n cap] (mem Z) 1 (.tup [(false, [.int .i64 j]), (false, [.bool true])]) := by
  refine PureDoes.of_body (body := Try.f6.body.getD .skip) (e := .ret) (s' := R Z j) rfl rfl (by decide) (fun B => ?_) (.inr rfl) rfl
  refine CodeDoes.seq (head0 Z n cap) (CodeDoes.seq_out ?_ (by decide))
  refine CodeDoes.seq (head1 Z n cap) (CodeDoes.block (LoopDoes.code ?_) (by intro i; exact fun h => by cases h))
  exact (loop Z n cap hz hb n 0 (by omega)).2 j hj
theorem pick_no (Z : List Int) (n : Nat) (cap : Option Nat) (hz : n ≤ Z.length) (hb : n ≤ 140737488355328) (hj : pick Z n 0 = none) :
    PureDoes Try.prog 6 [lev n cap] (mem Z) 1 (.tup [(false, [.int .i64 0]), (false, [.bool false])]) := by
  refine PureDoes.of_body (body := Try.f6.body.getD .skip) (e := .ret) (s' := ⟨⟨29, [(2, .s (.int .i64 0)), (3, .s (.bool false))]⟩, mem Z, 1⟩) rfl rfl (by decide) (fun B => ?_) (.inr rfl) rfl
  refine CodeDoes.seq (head0 Z n cap) (CodeDoes.seq (s1 := E Z) ?_ (tail Z))
  refine CodeDoes.seq (head1 Z n cap) (CodeDoes.block_exit (LoopDoes.code ?_))
  exact (loop Z n cap hz hb n 0 (by omega)).1 hj
theorem full_a {B : Nat} (Z : List Int) (n : Nat) (cap : Option Nat) (i : Nat) (x : Int) (hk : (i : Int) < (n : Int)) (hx : (ints Z)[0 + ((i : Int)).toNat * 1]? = some (.int .i64 x)) (h4 : decide ((i : Int) < 4) = true) (h3 : decide (x ≥ 3) = true) :
    CodeDoes Try.prog B (Try.f7.body.getD .skip) ⟨⟨25, enum 0 [lev n cap, .s (.int .i64 i)]⟩, mem Z, 1⟩ .ret ⟨⟨25, [(4, .s (.bool true))]⟩, mem Z, 1⟩ := by
  refine (does0 mix (s' := ?s1) ?h).after ?l
  case h =>
    intro call
    show evS _ _ (Code.seq _ _) ⟨⟨25, [(0, lev n cap), (1, .s (.int .i64 i))]⟩, mem Z, 1⟩ = _
    repeat' (first
      | exact Has.here
      | (with_reducible apply Has.there)
      | ((with_reducible apply Rf.mk); rfl)
      | (with_reducible exact ops_end)
      | (with_reducible apply u_val)
      | ((with_reducible apply u_gval); (case hw => apply w_yes; exact Rf.mk rfl; exact Rf.mk rfl; (repeat (first | exact Has.here | (apply Has.there; exact Rf.mk rfl)))))
      | ((with_reducible apply u_skip); (case hw => first | (apply w_no; exact Rf.mk rfl; exact Rf.mk rfl; (repeat (first | exact Has.here | (apply Has.there; exact Rf.mk rfl))); exact Rf.mk rfl) | (apply w_none; exact Rf.mk rfl; exact Rf.mk rfl; (repeat (first | exact Has.here | (apply Has.there; exact Rf.mk rfl))))))
      | (with_reducible apply ops_none)
      | (with_reducible exact v_int)
      | (with_reducible exact v_bool)
      | (with_reducible exact v_str)
      | (with_reducible exact v_ptr0)
      | (with_reducible exact v_sl0)
      | (with_reducible exact v_fnil)
      | (with_reducible exact v_func)
      | (with_reducible apply v_tmp)
      | (with_reducible apply o_move)
      | (with_reducible apply o_assign)
      | (with_reducible apply o_bin)
      | ((with_reducible apply o_pick_t); (case hx => (first | exact v_bool | (apply v_tmp; (repeat (first | exact Has.here | (apply Has.there; exact Rf.mk rfl)))))))
      | ((with_reducible apply o_pick_f); (case hx => (first | exact v_bool | (apply v_tmp; (repeat (first | exact Has.here | (apply Has.there; exact Rf.mk rfl)))))))
      | ((with_reducible apply o_index); (case hx => (first | exact v_bool | (apply v_tmp; (repeat (first | exact Has.here | (apply Has.there; exact Rf.mk rfl)))))))
      | (with_reducible apply o_indexv)
      | (with_reducible apply o_load)
      | (with_reducible apply o_store)
      | (with_reducible apply o_len)
      | (with_reducible apply o_un)
      | (with_reducible apply o_extract)
      | (with_reducible apply o_slice_to)
      | (with_reducible apply o_max)
      | (with_reducible apply o_min)
      | (with_reducible apply o_make)
      | (with_reducible apply o_call0)
      | (with_reducible apply o_call1)
      | (with_reducible apply o_call2)
      | (with_reducible apply o_call3)
      | (with_reducible apply o_call4)
      | (with_reducible apply o_box)
      | ((with_reducible apply Tell.mk); first | (simp only [*, decide_true, decide_false]; done) | (simp only [*, decide_true, decide_false]; rfl) | rfl)
      | (with_reducible apply s_then)
      | (with_reducible apply nxt_n)
      | (with_reducible exact nxt_e)
      | (with_reducible exact nxt_r)
      | (with_reducible exact s_skip)
      | (with_reducible exact s_exit)
      | (with_reducible exact s_ret)
      | ((with_reducible apply s_cond_t'); (case hx => (first | exact v_bool | (apply v_tmp; (repeat (first | exact Has.here | (apply Has.there; exact Rf.mk rfl)))))))
      | ((with_reducible apply s_cond_f'); (case hx => (first | exact v_bool | (apply v_tmp; (repeat (first | exact Has.here | (apply Has.there; exact Rf.mk rfl)))))))
      | (with_reducible apply s_block)
      | (with_reducible apply reg_plain)
      | (with_reducible apply reg_last)
      | (with_reducible exact blk_n)
      | (with_reducible exact blk_r)
      | (with_reducible exact blk_e)
      | (with_reducible apply blk_o)
      | assumption
      | omega
      | decide
      | rfl)
  case l => exact less_of rfl (fun e he => by simp only [List.mem_cons, List.not_mem_nil, or_false] at he; subst he; rfl) (fun _ _ h => h) rfl
theorem full_b {B : Nat} (Z : List Int) (n : Nat) (cap : Option Nat) (i : Nat) (x : Int) (hk : (i : Int) < (n : Int)) (hx : (ints Z)[0 + ((i : Int)).toNat * 1]? = some (.int .i64 x)) (h4 : decide ((i : Int) < 4) = true) (h44 : ((i : Int) == 4) = false) (h3 : decide (x ≥ 3) = false) :
    CodeDoes Try.prog B (Try.f7.body.getD .skip) ⟨⟨25, enum 0 [lev n cap, .s (.int .i64 i)]⟩, mem Z, 1⟩ .ret ⟨⟨25, [(4, .s (.bool false))]⟩, mem Z, 1⟩ := by
  refine (does0 mix (s' := ?s1) ?h).after ?l
  case h =>
    intro call
    show evS _ _ (Code.seq _ _) ⟨⟨25, [(0, lev n cap), (1, .s (.int .i64 i))]⟩, mem Z, 1⟩ = _
    repeat' (first
      | exact Has.here
      | (with_reducible apply Has.there)
      | ((with_reducible apply Rf.mk); rfl)
      | (with_reducible exact ops_end)
      | (with_reducible apply u_val)
      | ((with_reducible apply u_gval); (case hw => apply w_yes; exact Rf.mk rfl; exact Rf.mk rfl; (repeat (first | exact Has.here | (apply Has.there; exact Rf.mk rfl)))))
      | ((with_reducible apply u_skip); (case hw => first | (apply w_no; exact Rf.mk rfl; exact Rf.mk rfl; (repeat (first | exact Has.here | (apply Has.there; exact Rf.mk rfl))); exact Rf.mk rfl) | (apply w_none; exact Rf.mk rfl; exact Rf.mk rfl; (repeat (first | exact Has.here | (apply Has.there; exact Rf.mk rfl))))))
      | (with_reducible apply ops_none)
      | (with_reducible exact v_int)
      | (with_reducible exact v_bool)
      | (with_reducible exact v_str)
      | (with_reducible exact v_ptr0)
      | (with_reducible exact v_sl0)
      | (with_reducible exact v_fnil)
      | (with_reducible exact v_func)
      | (with_reducible apply v_tmp)
      | (with_reducible apply o_move)
      | (with_reducible apply o_assign)
      | (with_reducible apply o_bin)
      | ((with_reducible apply o_pick_t); (case hx => (first | exact v_bool | (apply v_tmp; (repeat (first | exact Has.here | (apply Has.there; exact Rf.mk rfl)))))))
      | ((with_reducible apply o_pick_f); (case hx => (first | exact v_bool | (apply v_tmp; (repeat (first | exact Has.here | (apply Has.there; exact Rf.mk rfl)))))))
      | ((with_reducible apply o_index); (case hx => (first | exact v_bool | (apply v_tmp; (repeat (first | exact Has.here | (apply Has.there; exact Rf.mk rfl)))))))
      | (with_reducible apply o_indexv)
      | (with_reducible apply o_load)
      | (with_reducible apply o_store)
      | (with_reducible apply o_len)
      | (with_reducible apply o_un)
      | (with_reducible apply o_extract)
      | (with_reducible apply o_slice_to)
      | (with_reducible apply o_max)
      | (with_reducible apply o_min)
      | (with_reducible apply o_make)
      | (with_reducible apply o_call0)
      | (with_reducible apply o_call1)
      | (with_reducible apply o_call2)
      | (with_reducible apply o_call3)
      | (with_reducible apply o_call4)
      | (with_reducible apply o_box)
      | ((with_reducible apply Tell.mk); first | (simp only [*, decide_true, decide_false]; done) | (simp only [*, decide_true, decide_false]; rfl) | rfl)
      | (with_reducible apply s_then)
      | (with_reducible apply nxt_n)
      | (with_reducible exact nxt_e)
      | (with_reducible exact nxt_r)
      | (with_reducible exact s_skip)
      | (with_reducible exact s_exit)
      | (with_reducible exact s_ret)
      | ((with_reducible apply s_cond_t'); (case hx => (first | exact v_bool | (apply v_tmp; (repeat (first | exact Has.here | (apply Has.there; exact Rf.mk rfl)))))))
      | ((with_reducible apply s_cond_f'); (case hx => (first | exact v_bool | (apply v_tmp; (repeat (first | exact Has.here | (apply Has.there; exact Rf.mk rfl)))))))
      | (with_reducible apply s_block)
      | (with_reducible apply reg_plain)
      | (with_reducible apply reg_last)
      | (with_reducible exact blk_n)
      | (with_reducible exact blk_r)
      | (with_reducible exact blk_e)
      | (with_reducible apply blk_o)
      | assumption
      | omega
      | decide
      | rfl)
  case l => exact less_of rfl (fun e he => by simp only [List.mem_cons, List.not_mem_nil, or_false] at he; subst he; rfl) (fun _ _ h => h) rfl
theorem full_c {B : Nat} (Z : List Int) (n : Nat) (cap : Option Nat) (i : Nat) (x : Int) (hk : (i : Int) < (n : Int)) (hx : (ints Z)[0 + ((i : Int)).toNat * 1]? = some (.int .i64 x)) (h4 : decide ((i : Int) < 4) = false) (h44 : ((i : Int) == 4) = false) :
    CodeDoes Try.prog B (Try.f7.body.getD .skip) ⟨⟨25, enum 0 [lev n cap, .s (.int .i64 i)]⟩, mem Z, 1⟩ .ret ⟨⟨25, [(4, .s (.bool false))]⟩, mem Z, 1⟩ := by
  refine (does0 mix (s' := ?s1) ?h).after ?l
  case h =>
    intro call
    show evS _ _ (Code.seq _ _) ⟨⟨25, [(0, lev n cap), (1, .s (.int .i64 i))]⟩, mem Z, 1⟩ = _
    repeat' (first
      | exact Has.here
      | (with_reducible apply Has.there)
      | ((with_reducible apply Rf.mk); rfl)
      | (with_reducible exact ops_end)
      | (with_reducible apply u_val)
      | ((with_reducible apply u_gval); (case hw => apply w_yes; exact Rf.mk rfl; exact Rf.mk rfl; (repeat (first | exact Has.here | (apply Has.there; exact Rf.mk rfl)))))
      | ((with_reducible apply u_skip); (case hw => first | (apply w_no; exact Rf.mk rfl; exact Rf.mk rfl; (repeat (first | exact Has.here | (apply Has.there; exact Rf.mk rfl))); exact Rf.mk rfl) | (apply w_none; exact Rf.mk rfl; exact Rf.mk rfl; (repeat (first | exact Has.here | (apply Has.there; exact Rf.mk rfl))))))
      | (with_reducible apply ops_none)
      | (with_reducible exact v_int)
      | (with_reducible exact v_bool)
      | (with_reducible exact v_str)
      | (with_reducible exact v_ptr0)
      | (with_reducible exact v_sl0)
      | (with_reducible exact v_fnil)
      | (with_reducible exact v_func)
      | (with_reducible apply v_tmp)
      | (with_reducible apply o_move)
      | (with_reducible apply o_assign)
      | (with_reducible apply o_bin)
      | ((with_reducible apply o_pick_t); (case hx => (first | exact v_bool | (apply v_tmp; (repeat (first | exact Has.here | (apply Has.there; exact Rf.mk rfl)))))))
      | ((with_reducible apply o_pick_f); (case hx => (first | exact v_bool | (apply v_tmp; (repeat (first | exact Has.here | (apply Has.there; exact Rf.mk rfl)))))))
      | ((with_reducible apply o_index); (case hx => (first | exact v_bool | (apply v_tmp; (repeat (first | exact Has.here | (apply Has.there; exact Rf.mk rfl)))))))
      | (with_reducible apply o_indexv)
      | (with_reducible apply o_load)
      | (with_reducible apply o_store)
      | (with_reducible apply o_len)
      | (with_reducible apply o_un)
      | (with_reducible apply o_extract)
      | (with_reducible apply o_slice_to)
      | (with_reducible apply o_max)
      | (with_reducible apply o_min)
      | (with_reducible apply o_make)
      | (with_reducible apply o_call0)
      | (with_reducible apply o_call1)
      | (with_reducible apply o_call2)
      | (with_reducible apply o_call3)
      | (with_reducible apply o_call4)
      | (with_reducible apply o_box)
      | ((with_reducible apply Tell.mk); first | (simp only [*, decide_true, decide_false]; done) | (simp only [*, decide_true, decide_false]; rfl) | rfl)
      | (with_reducible apply s_then)
      | (with_reducible apply nxt_n)
      | (with_reducible exact nxt_e)
      | (with_reducible exact nxt_r)
      | (with_reducible exact s_skip)
      | (with_reducible exact s_exit)
      | (with_reducible exact s_ret)
      | ((with_reducible apply s_cond_t'); (case hx => (first | exact v_bool | (apply v_tmp; (repeat (first | exact Has.here | (apply Has.there; exact Rf.mk rfl)))))))
      | ((with_reducible apply s_cond_f'); (case hx => (first | exact v_bool | (apply v_tmp; (repeat (first | exact Has.here | (apply Has.there; exact Rf.mk rfl)))))))
      | (with_reducible apply s_block)
      | (with_reducible apply reg_plain)
      | (with_reducible apply reg_last)
      | (with_reducible exact blk_n)
      | (with_reducible exact blk_r)
      | (with_reducible exact blk_e)
      | (with_reducible apply blk_o)
      | assumption
      | omega
      | decide
      | rfl)
  case l => exact less_of rfl (fun e he => by simp only [List.mem_cons, List.not_mem_nil, or_false] at he; subst he; rfl) (fun _ _ h => h) rfl
theorem full_d {B : Nat} (Z : List Int) (n : Nat) (cap : Option Nat) (i : Nat) (x : Int) (hk : (i : Int) < (n : Int)) (hx : (ints Z)[0 + ((i : Int)).toNat * 1]? = some (.int .i64 x)) (h4 : decide ((i : Int) < 4) = false) (h44 : ((i : Int) == 4) = true) (h3 : decide (x > 1) = true) :
    CodeDoes Try.prog B (Try.f7.body.getD .skip) ⟨⟨25, enum 0 [lev n cap, .s (.int .i64 i)]⟩, mem Z, 1⟩ .ret ⟨⟨25, [(4, .s (.bool true))]⟩, mem Z, 1⟩ := by
  refine (does0 mix (s' := ?s1) ?h).after ?l
  case h =>
    intro call
    show evS _ _ (Code.seq _ _) ⟨⟨25, [(0, lev n cap), (1, .s (.int .i64 i))]⟩, mem Z, 1⟩ = _
    repeat' (first
      | exact Has.here
      | (with_reducible apply Has.there)
      | ((with_reducible apply Rf.mk); rfl)
      | (with_reducible exact ops_end)
      | (with_reducible apply u_val)
      | ((with_reducible apply u_gval); (case hw => apply w_yes; exact Rf.mk rfl; exact Rf.mk rfl; (repeat (first | exact Has.here | (apply Has.there; exact Rf.mk rfl)))))
      | ((with_reducible apply u_skip); (case hw => first | (apply w_no; exact Rf.mk rfl; exact Rf.mk rfl; (repeat (first | exact Has.here | (apply Has.there; exact Rf.mk rfl))); exact Rf.mk rfl) | (apply w_none; exact Rf.mk rfl; exact Rf.mk rfl; (repeat (first | exact Has.here | (apply Has.there; exact Rf.mk rfl))))))
      | (with_reducible apply ops_none)
      | (with_reducible exact v_int)
      | (with_reducible exact v_bool)
      | (with_reducible exact v_str)
      | (with_reducible exact v_ptr0)
      | (with_reducible exact v_sl0)
      | (with_reducible exact v_fnil)
      | (with_reducible exact v_func)
      | (with_reducible apply v_tmp)
      | (with_reducible apply o_move)
      | (with_reducible apply o_assign)
      | (with_reducible apply o_bin)
      | ((with_reducible apply o_pick_t); (case hx => (first | exact v_bool | (apply v_tmp; (repeat (first | exact Has.here | (apply Has.there; exact Rf.mk rfl)))))))
      | ((with_reducible apply o_pick_f); (case hx => (first | exact v_bool | (apply v_tmp; (repeat (first | exact Has.here | (apply Has.there; exact Rf.mk rfl)))))))
      | ((with_reducible apply o_index); (case hx => (first | exact v_bool | (apply v_tmp; (repeat (first | exact Has.here | (apply Has.there; exact Rf.mk rfl)))))))
      | (with_reducible apply o_indexv)
      | (with_reducible apply o_load)
      | (with_reducible apply o_store)
      | (with_reducible apply o_len)
      | (with_reducible apply o_un)
      | (with_reducible apply o_extract)
      | (with_reducible apply o_slice_to)
      | (with_reducible apply o_max)
      | (with_reducible apply o_min)
      | (with_reducible apply o_make)
      | (with_reducible apply o_call0)
      | (with_reducible apply o_call1)
      | (with_reducible apply o_call2)
      | (with_reducible apply o_call3)
      | (with_reducible apply o_call4)
      | (with_reducible apply o_box)
      | ((with_reducible apply Tell.mk); first | (simp only [*, decide_true, decide_false]; done) | (simp only [*, decide_true, decide_false]; rfl) | rfl)
      | (with_reducible apply s_then)
      | (with_reducible apply nxt_n)
      | (with_reducible exact nxt_e)
      | (with_reducible exact nxt_r)
      | (with_reducible exact s_skip)
      | (with_reducible exact s_exit)
      | (with_reducible exact s_ret)
      | ((with_reducible apply s_cond_t'); (case hx => (first | exact v_bool | (apply v_tmp; (repeat (first | exact Has.here | (apply Has.there; exact Rf.mk rfl)))))))
      | ((with_reducible apply s_cond_f'); (case hx => (first | exact v_bool | (apply v_tmp; (repeat (first | exact Has.here | (apply Has.there; exact Rf.mk rfl)))))))
      | (with_reducible apply s_block)
      | (with_reducible apply reg_plain)
      | (with_reducible apply reg_last)
      | (with_reducible exact blk_n)
      | (with_reducible exact blk_r)
      | (with_reducible exact blk_e)
      | (with_reducible apply blk_o)
      | assumption
      | omega
      | decide
      | rfl)
  case l => exact less_of rfl (fun e he => by simp only [List.mem_cons, List.not_mem_nil, or_false] at he; subst he; rfl) (fun _ _ h => h) rfl
theorem full_e {B : Nat} (Z : List Int) (n : Nat) (cap : Option Nat) (i : Nat) (x : Int) (hk : (i : Int) < (n : Int)) (hx : (ints Z)[0 + ((i : Int)).toNat * 1]? = some (.int .i64 x)) (h4 : decide ((i : Int) < 4) = false) (h44 : ((i : Int) == 4) = true) (h3 : decide (x > 1) = false) :
    CodeDoes Try.prog B (Try.f7.body.getD .skip) ⟨⟨25, enum 0 [lev n cap, .s (.int .i64 i)]⟩, mem Z, 1⟩ .ret ⟨⟨25, [(4, .s (.bool false))]⟩, mem Z, 1⟩ := by
  refine (does0 mix (s' := ?s1) ?h).after ?l
  case h =>
    intro call
    show evS _ _ (Code.seq _ _) ⟨⟨25, [(0, lev n cap), (1, .s (.int .i64 i))]⟩, mem Z, 1⟩ = _
    repeat' (first
      | exact Has.here
      | (with_reducible apply Has.there)
      | ((with_reducible apply Rf.mk); rfl)
      | (with_reducible exact ops_end)
      | (with_reducible apply u_val)
      | ((with_reducible apply u_gval); (case hw => apply w_yes; exact Rf.mk rfl; exact Rf.mk rfl; (repeat (first | exact Has.here | (apply Has.there; exact Rf.mk rfl)))))
      | ((with_reducible apply u_skip); (case hw => first | (apply w_no; exact Rf.mk rfl; exact Rf.mk rfl; (repeat (first | exact Has.here | (apply Has.there; exact Rf.mk rfl))); exact Rf.mk rfl) | (apply w_none; exact Rf.mk rfl; exact Rf.mk rfl; (repeat (first | exact Has.here | (apply Has.there; exact Rf.mk rfl))))))
      | (with_reducible apply ops_none)
      | (with_reducible exact v_int)
      | (with_reducible exact v_bool)
      | (with_reducible exact v_str)
      | (with_reducible exact v_ptr0)
      | (with_reducible exact v_sl0)
      | (with_reducible exact v_fnil)
      | (with_reducible exact v_func)
      | (with_reducible apply v_tmp)
      | (with_reducible apply o_move)
      | (with_reducible apply o_assign)
      | (with_reducible apply o_bin)
      | ((with_reducible apply o_pick_t); (case hx => (first | exact v_bool | (apply v_tmp; (repeat (first | exact Has.here | (apply Has.there; exact Rf.mk rfl)))))))
      | ((with_reducible apply o_pick_f); (case hx => (first | exact v_bool | (apply v_tmp; (repeat (first | exact Has.here | (apply Has.there; exact Rf.mk rfl)))))))
      | ((with_reducible apply o_index); (case hx => (first | exact v_bool | (apply v_tmp; (repeat (first | exact Has.here | (apply Has.there; exact Rf.mk rfl)))))))
      | (with_reducible apply o_indexv)
      | (with_reducible apply o_load)
      | (with_reducible apply o_store)
      | (with_reducible apply o_len)
      | (with_reducible apply o_un)
      | (with_reducible apply o_extract)
      | (with_reducible apply o_slice_to)
      | (with_reducible apply o_max)
      | (with_reducible apply o_min)
      | (with_reducible apply o_make)
      | (with_reducible apply o_call0)
      | (with_reducible apply o_call1)
      | (with_reducible apply o_call2)
      | (with_reducible apply o_call3)
      | (with_reducible apply o_call4)
      | (with_reducible apply o_box)
      | ((with_reducible apply Tell.mk); first | (simp only [*, decide_true, decide_false]; done) | (simp only [*, decide_true, decide_false]; rfl) | rfl)
      | (with_reducible apply s_then)
      | (with_reducible apply nxt_n)
      | (with_reducible exact nxt_e)
      | (with_reducible exact nxt_r)
      | (with_reducible exact s_skip)
      | (with_reducible exact s_exit)
      | (with_reducible exact s_ret)
      | ((with_reducible apply s_cond_t'); (case hx => (first | exact v_bool | (apply v_tmp; (repeat (first | exact Has.here | (apply Has.there; exact Rf.mk rfl)))))))
      | ((with_reducible apply s_cond_f'); (case hx => (first | exact v_bool | (apply v_tmp; (repeat (first | exact Has.here | (apply Has.there; exact Rf.mk rfl)))))))
      | (with_reducible apply s_block)
      | (with_reducible apply reg_plain)
      | (with_reducible apply reg_last)
      | (with_reducible exact blk_n)
      | (with_reducible exact blk_r)
      | (with_reducible exact blk_e)
      | (with_reducible apply blk_o)
      | assumption
      | omega
      | decide
      | rfl)
  case l => exact less_of rfl (fun e he => by simp only [List.mem_cons, List.not_mem_nil, or_false] at he; subst he; rfl) (fun _ _ h => h) rfl

theorem full_does (Z : List Int) (n : Nat) (cap : Option Nat) (i : Nat) (hz : n ≤ Z.length) (hi : i < n) :
    PureDoes Try.prog 7 [lev n cap, .s (.int .i64 i)] (mem Z) 1 (.s (.bool (asks i (Z.getD i 0)))) := by
  have hc := cell Z i (by omega)
  have hkz : (i : Int) < (n : Int) := by omega
  refine PureDoes.of_body (body := Try.f7.body.getD .skip) (e := .ret) (s' := ⟨⟨25, [(4, .s (.bool (asks i (Z.getD i 0))))]⟩, mem Z, 1⟩) rfl rfl (by decide) (fun B => ?_) (.inr rfl) rfl
  unfold asks
  split
  · cases h : decide (Z.getD i 0 ≥ 3) with
    | true => exact full_a Z n cap i _ hkz hc (by simp; omega) h
    | false => exact full_b Z n cap i _ hkz hc (by simp; omega) (by simp; omega) h
  · by_cases h4 : i = 4
    · subst h4
      cases h : decide (Z.getD 4 0 > 1) with
      | true => exact full_d Z n cap 4 _ hkz hc (by decide) (by decide) h
      | false => exact full_e Z n cap 4 _ hkz hc (by decide) (by decide) h
    · have : (decide (i = 4) && decide (Z.getD i 0 > 1)) = false := by simp [h4]
      rw [this]
      exact full_c Z n cap i _ hkz hc (by simp; omega) (by simp; omega)
theorem bare_lev (n : Nat) (cap : Option Nat) : ∀ x ∈ [lev n cap], ltA 1 x := by
  intro x hx
  obtain rfl : x = lev n cap := by simpa using hx
  exact Nat.zero_lt_one
theorem bare_lev2 (n : Nat) (cap : Option Nat) (i : Int) : ∀ x ∈ [lev n cap, .s (.int .i64 i)], ltA 1 x := by
  intro x hx
  simp only [List.mem_cons, List.not_mem_nil, or_false] at hx
  rcases hx with rfl | rfl
  · exact Nat.zero_lt_one
  · trivial
theorem mem_low (Z : List Int) : ∀ n b, get (mem Z) n = some b → n < 1 ∧ b.own = false ∧ ∀ v ∈ b.cells, ltV 1 v := by
  intro n b h
  have hn : n = 0 := by
    rcases Nat.eq_zero_or_pos n with h0 | h0
    · exact h0
    · cases n with
      | zero => rfl
      | succ k =>
        have h' : (none : Option Blk) = some b := h
        cases h'
  subst hn
  have hb : b = ⟨ints Z, false⟩ := by
    have : get (mem Z) 0 = some ⟨ints Z, false⟩ := rfl
    rw [this] at h
    exact (Option.some.inj h).symm
  subst hb
  refine ⟨Nat.zero_lt_one, rfl, fun v hv => ?_⟩
  simp only [ints, List.mem_map] at hv
  obtain ⟨x, _, rfl⟩ := hv
  trivial
theorem call_pick_yes {B : Nat} (Z : List Int) (n : Nat) (cap : Option Nat) (hz : n ≤ Z.length) (hb : n ≤ 140737488355328) (j : Nat) (hj : pick Z n 0 = some j) :
    CallDoes Try.prog B 6 [lev n cap] (mem Z) 1 (.tup [(false, [.int .i64 j]), (false, [.bool true])]) (mem Z) 1 :=
  (pick_yes Z n cap hz hb j hj).here rfl (bare_lev n cap) (mem_low Z)
theorem call_pick_no {B : Nat} (Z : List Int) (n : Nat) (cap : Option Nat) (hz : n ≤ Z.length) (hb : n ≤ 140737488355328) (hj : pick Z n 0 = none) :
    CallDoes Try.prog B 6 [lev n cap] (mem Z) 1 (.tup [(false, [.int .i64 0]), (false, [.bool false])]) (mem Z) 1 :=
  (pick_no Z n cap hz hb hj).here rfl (bare_lev n cap) (mem_low Z)
theorem call_full {B : Nat} (Z : List Int) (n : Nat) (cap : Option Nat) (i : Nat) (hz : n ≤ Z.length) (hi : i < n) :
    CallDoes Try.prog B 7 [lev n cap, .s (.int .i64 i)] (mem Z) 1 (.s (.bool (asks i (Z.getD i 0)))) (mem Z) 1 :=
  (full_does Z n cap i hz hi).here rfl (bare_lev2 n cap i) (mem_low Z)
theorem settled_y {B : Nat} (Z : List Int) (n : Nat) (cap : Option Nat) (hc1 : CallDoes Try.prog B 6 [lev n cap] (mem Z) 1 (.tup [(false, [.int .i64 0]), (false, [.bool false])]) (mem Z) 1) :
    CodeDoes Try.prog B (Try.f8.body.getD .skip) ⟨⟨12, enum 0 [lev n cap]⟩, mem Z, 1⟩ .ret ⟨⟨12, [(2, .s (.bool true))]⟩, mem Z, 1⟩ := by
  refine (does1 mix (s' := ?s1) hc1 ?h).after ?l
  case h =>
    intro call hq1
    show evS _ _ (Code.seq _ _) ⟨⟨12, [(0, lev n cap)]⟩, mem Z, 1⟩ = _
    repeat' (first
      | exact Has.here
      | (with_reducible apply Has.there)
      | ((with_reducible apply Rf.mk); rfl)
      | (with_reducible exact ops_end)
      | (with_reducible apply u_val)
      | ((with_reducible apply u_gval); (case hw => apply w_yes; exact Rf.mk rfl; exact Rf.mk rfl; (repeat (first | exact Has.here | (apply Has.there; exact Rf.mk rfl)))))
      | ((with_reducible apply u_skip); (case hw => first | (apply w_no; exact Rf.mk rfl; exact Rf.mk rfl; (repeat (first | exact Has.here | (apply Has.there; exact Rf.mk rfl))); exact Rf.mk rfl) | (apply w_none; exact Rf.mk rfl; exact Rf.mk rfl; (repeat (first | exact Has.here | (apply Has.there; exact Rf.mk rfl))))))
      | (with_reducible apply ops_none)
      | (with_reducible exact v_int)
      | (with_reducible exact v_bool)
      | (with_reducible exact v_str)
      | (with_reducible exact v_ptr0)
      | (with_reducible exact v_sl0)
      | (with_reducible exact v_fnil)
      | (with_reducible exact v_func)
      | (with_reducible apply v_tmp)
      | (with_reducible apply o_move)
      | (with_reducible apply o_assign)
      | (with_reducible apply o_bin)
      | ((with_reducible apply o_pick_t); (case hx => (first | exact v_bool | (apply v_tmp; (repeat (first | exact Has.here | (apply Has.there; exact Rf.mk rfl)))))))
      | ((with_reducible apply o_pick_f); (case hx => (first | exact v_bool | (apply v_tmp; (repeat (first | exact Has.here | (apply Has.there; exact Rf.mk rfl)))))))
      | ((with_reducible apply o_index); (case hx => (first | exact v_bool | (apply v_tmp; (repeat (first | exact Has.here | (apply Has.there; exact Rf.mk rfl)))))))
      | (with_reducible apply o_indexv)
      | (with_reducible apply o_load)
      | (with_reducible apply o_store)
      | (with_reducible apply o_len)
      | (with_reducible apply o_un)
      | (with_reducible apply o_extract)
      | (with_reducible apply o_slice_to)
      | (with_reducible apply o_max)
      | (with_reducible apply o_min)
      | (with_reducible apply o_make)
      | (with_reducible apply o_call0)
      | (with_reducible apply o_call1)
      | (with_reducible apply o_call2)
      | (with_reducible apply o_call3)
      | (with_reducible apply o_call4)
      | (with_reducible apply o_box)
      | ((with_reducible apply Tell.mk); first | (simp only [*, decide_true, decide_false]; done) | (simp only [*, decide_true, decide_false]; rfl) | rfl)
      | (with_reducible apply s_then)
      | (with_reducible apply nxt_n)
      | (with_reducible exact nxt_e)
      | (with_reducible exact nxt_r)
      | (with_reducible exact s_skip)
      | (with_reducible exact s_exit)
      | (with_reducible exact s_ret)
      | ((with_reducible apply s_cond_t'); (case hx => (first | exact v_bool | (apply v_tmp; (repeat (first | exact Has.here | (apply Has.there; exact Rf.mk rfl)))))))
      | ((with_reducible apply s_cond_f'); (case hx => (first | exact v_bool | (apply v_tmp; (repeat (first | exact Has.here | (apply Has.there; exact Rf.mk rfl)))))))
      | (with_reducible apply s_block)
      | (with_reducible apply reg_plain)
      | (with_reducible apply reg_last)
      | (with_reducible exact blk_n)
      | (with_reducible exact blk_r)
      | (with_reducible exact blk_e)
      | (with_reducible apply blk_o)
      | assumption
      | omega
      | decide
      | rfl)
  case l => exact less_of rfl (fun e he => by simp only [List.mem_cons, List.not_mem_nil, or_false] at he; subst he; rfl) (fun _ _ h => h) rfl
theorem settled_n {B : Nat} (Z : List Int) (n : Nat) (cap : Option Nat) (j : Int) (hc1 : CallDoes Try.prog B 6 [lev n cap] (mem Z) 1 (.tup [(false, [.int .i64 j]), (false, [.bool true])]) (mem Z) 1) :
    CodeDoes Try.prog B (Try.f8.body.getD .skip) ⟨⟨12, enum 0 [lev n cap]⟩, mem Z, 1⟩ .ret ⟨⟨12, [(2, .s (.bool false))]⟩, mem Z, 1⟩ := by
  refine (does1 mix (s' := ?s1) hc1 ?h).after ?l
  case h =>
    intro call hq1
    show evS _ _ (Code.seq _ _) ⟨⟨12, [(0, lev n cap)]⟩, mem Z, 1⟩ = _
    repeat' (first
      | exact Has.here
      | (with_reducible apply Has.there)
      | ((with_reducible apply Rf.mk); rfl)
      | (with_reducible exact ops_end)
      | (with_reducible apply u_val)
      | ((with_reducible apply u_gval); (case hw => apply w_yes; exact Rf.mk rfl; exact Rf.mk rfl; (repeat (first | exact Has.here | (apply Has.there; exact Rf.mk rfl)))))
      | ((with_reducible apply u_skip); (case hw => first | (apply w_no; exact Rf.mk rfl; exact Rf.mk rfl; (repeat (first | exact Has.here | (apply Has.there; exact Rf.mk rfl))); exact Rf.mk rfl) | (apply w_none; exact Rf.mk rfl; exact Rf.mk rfl; (repeat (first | exact Has.here | (apply Has.there; exact Rf.mk rfl))))))
      | (with_reducible apply ops_none)
      | (with_reducible exact v_int)
      | (with_reducible exact v_bool)
      | (with_reducible exact v_str)
      | (with_reducible exact v_ptr0)
      | (with_reducible exact v_sl0)
      | (with_reducible exact v_fnil)
      | (with_reducible exact v_func)
      | (with_reducible apply v_tmp)
      | (with_reducible apply o_move)
      | (with_reducible apply o_assign)
      | (with_reducible apply o_bin)
      | ((with_reducible apply o_pick_t); (case hx => (first | exact v_bool | (apply v_tmp; (repeat (first | exact Has.here | (apply Has.there; exact Rf.mk rfl)))))))
      | ((with_reducible apply o_pick_f); (case hx => (first | exact v_bool | (apply v_tmp; (repeat (first | exact Has.here | (apply Has.there; exact Rf.mk rfl)))))))
      | ((with_reducible apply o_index); (case hx => (first | exact v_bool | (apply v_tmp; (repeat (first | exact Has.here | (apply Has.there; exact Rf.mk rfl)))))))
      | (with_reducible apply o_indexv)
      | (with_reducible apply o_load)
      | (with_reducible apply o_store)
      | (with_reducible apply o_len)
      | (with_reducible apply o_un)
      | (with_reducible apply o_extract)
      | (with_reducible apply o_slice_to)
      | (with_reducible apply o_max)
      | (with_reducible apply o_min)
      | (with_reducible apply o_make)
      | (with_reducible apply o_call0)
      | (with_reducible apply o_call1)
      | (with_reducible apply o_call2)
      | (with_reducible apply o_call3)
      | (with_reducible apply o_call4)
      | (with_reducible apply o_box)
      | ((with_reducible apply Tell.mk); first | (simp only [*, decide_true, decide_false]; done) | (simp only [*, decide_true, decide_false]; rfl) | rfl)
      | (with_reducible apply s_then)
      | (with_reducible apply nxt_n)
      | (with_reducible exact nxt_e)
      | (with_reducible exact nxt_r)
      | (with_reducible exact s_skip)
      | (with_reducible exact s_exit)
      | (with_reducible exact s_ret)
      | ((with_reducible apply s_cond_t'); (case hx => (first | exact v_bool | (apply v_tmp; (repeat (first | exact Has.here | (apply Has.there; exact Rf.mk rfl)))))))
      | ((with_reducible apply s_cond_f'); (case hx => (first | exact v_bool | (apply v_tmp; (repeat (first | exact Has.here | (apply Has.there; exact Rf.mk rfl)))))))
      | (with_reducible apply s_block)
      | (with_reducible apply reg_plain)
      | (with_reducible apply reg_last)
      | (with_reducible exact blk_n)
      | (with_reducible exact blk_r)
      | (with_reducible exact blk_e)
      | (with_reducible apply blk_o)
      | assumption
      | omega
      | decide
      | rfl)
  case l => exact less_of rfl (fun e he => by simp only [List.mem_cons, List.not_mem_nil, or_false] at he; subst he; rfl) (fun _ _ h => h) rfl

theorem call_settled_y {B : Nat} (Z : List Int) (n : Nat) (cap : Option Nat) (hz : n ≤ Z.length) (hb : n ≤ 140737488355328) (hj : pick Z n 0 = none) :
    CallDoes Try.prog B 8 [lev n cap] (mem Z) 1 (.s (.bool true)) (mem Z) 1 :=
  (PureDoes.of_body (body := Try.f8.body.getD .skip) (e := .ret) (s' := ⟨⟨12, [(2, .s (.bool true))]⟩, mem Z, 1⟩) rfl rfl (by decide) (fun B => settled_y Z n cap (call_pick_no Z n cap hz hb hj)) (.inr rfl) rfl).here rfl (bare_lev n cap) (mem_low Z)
theorem call_settled_n {B : Nat} (Z : List Int) (n : Nat) (cap : Option Nat) (hz : n ≤ Z.length) (hb : n ≤ 140737488355328) (j : Nat) (hj : pick Z n 0 = some j) :
    CallDoes Try.prog B 8 [lev n cap] (mem Z) 1 (.s (.bool false)) (mem Z) 1 :=
  (PureDoes.of_body (body := Try.f8.body.getD .skip) (e := .ret) (s' := ⟨⟨12, [(2, .s (.bool false))]⟩, mem Z, 1⟩) rfl rfl (by decide) (fun B => settled_n Z n cap j (call_pick_yes Z n cap hz hb j hj)) (.inr rfl) rfl).here rfl (bare_lev n cap) (mem_low Z)
theorem known_does : PureDoes Try.prog 9 [] [] 0 (.s (.bool true)) := PureDoes.of_eval mix (n := 300) (by kernel_rfl)
theorem call_known {B : Nat} (m : Mem) (c : Nat) : CallDoes Try.prog B 9 [] m c (.s (.bool true)) m c :=
  known_does.call0 rfl (by intro x hx; cases hx) m c
end Go.Proofs.Ytiodonkmapaebaa.MPick
