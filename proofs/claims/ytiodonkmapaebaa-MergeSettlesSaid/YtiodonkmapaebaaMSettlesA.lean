/- MergeSettles answers true. Printed by gen_settles.py. -/
import Derived.Test.YtiodonkmapaebaaMPick
namespace Go.Proofs.Ytiodonkmapaebaa.MPick
set_option linter.unusedVariables false
set_option linter.unusedSimpArgs false
open Go Go.RowKit Go.Proofs Go.Proofs.Ytiodonkmapaebaa.Eng

abbrev LV : AV := .s (.sl 2 0 5 none 1)
abbrev ms (M0 : Mem) (L : List Int) : Mem := (2, some ⟨ints L, true⟩) :: M0
abbrev sm (T : List (Nat × AV)) (M0 : Mem) (L : List Int) : St := ⟨⟨112, T⟩, ms M0 L, 3⟩
theorem cell' (Z : List Int) (k : Nat) (h : k < Z.length) : (ints Z)[0 + ((k : Int)).toNat * 1]? = some (.int .i64 (Z.getD k 0)) := cell Z k h
theorem ints_set (L : List Int) (k : Nat) (v : Int) : ints (L.set k v) = (ints L).set (0 + ((k : Int)).toNat * 1) (.int .i64 v) := by
  simp [ints, List.map_set]
theorem set_old (M0 : Mem) (L : List Int) (k : Nat) (v : Int) : ∀ n b, get (ms M0 (L.set k v)) n = some b → get ((2, some ⟨(ints L).set (0 + ((k : Int)).toNat * 1) (.int .i64 v), true⟩) :: ms M0 L) n = some b :=
  drop_old (by rw [ints_set])
theorem within_y {B : Nat} (x : Int) (e1 : IntKind.wrap .i64 (30 - 0) = 30) (e2 : IntKind.wrap .i64 (30 + 1) = 31) (h : decide (x.tmod 31 < 0) = false) (e3 : IntKind.wrap .i64 (0 + x.tmod 31) = x.tmod 31) :
    CodeDoes Try.prog B (Try.f10.body.getD .skip) ⟨⟨24, enum 0 [.s (.int .i64 x), .s (.int .i64 0), .s (.int .i64 30)]⟩, [], 0⟩ .ret ⟨⟨24, [(6, .s (.int .i64 (x.tmod 31)))]⟩, [], 0⟩ := by
  refine (does0 mix (s' := ?s1) ?h).after ?l
  case h =>
    intro call
    show evS _ _ (Code.seq _ _) ⟨⟨24, [(0, .s (.int .i64 x)), (1, .s (.int .i64 0)), (2, .s (.int .i64 30))]⟩, [], 0⟩ = _
    repeat' (first
      | exact Has.here
      | (with_reducible apply Has.there)
      | ((with_reducible apply Rf.mk); rfl)
      | (with_reducible exact ops_end)
      | (with_reducible apply u_val)
      | ((with_reducible apply u_gval); (case hw => apply w_yes; exact Rf.mk rfl; exact Rf.mk rfl; (repeat (first | exact Has.here | (apply Has.there; exact Rf.mk rfl)))))
      | ((with_reducible apply u_skip); (case hw => first | (apply w_no; exact Rf.mk rfl; exact Rf.mk rfl; (repeat (first | exact Has.here | (apply Has.there; exact Rf.mk rfl))); exact Rf.mk rfl) | (apply w_none; exact Rf.mk rfl; exact Rf.mk rfl; (repeat (first | exact Has.here | (apply Has.there; exact Rf.mk rfl))))))
      | (with_reducible apply ops_none)
      | (with_reducible exact v_int)
      | (with_reducible exact v_bool)
      | (with_reducible exact v_str)
      | (with_reducible exact v_ptr0)
      | (with_reducible exact v_sl0)
      | (with_reducible exact v_fnil)
      | (with_reducible exact v_func)
      | (with_reducible apply v_tmp)
      | (with_reducible apply o_move)
      | (with_reducible apply o_assign)
      | (with_reducible apply o_bin)
      | ((with_reducible apply o_pick_t); (case hx => (first | exact v_bool | (apply v_tmp; (repeat (first | exact Has.here | (apply Has.there; exact Rf.mk rfl)))))))
      | ((with_reducible apply o_pick_f); (case hx => (first | exact v_bool | (apply v_tmp; (repeat (first | exact Has.here | (apply Has.there; exact Rf.mk rfl)))))))
      | ((with_reducible apply o_index); (case hx => (first | exact v_bool | (apply v_tmp; (repeat (first | exact Has.here | (apply Has.there; exact Rf.mk rfl)))))))
      | (with_reducible apply o_indexv)
      | (with_reducible apply o_load)
      | (with_reducible apply o_store)
      | (with_reducible apply o_len)
      | (with_reducible apply o_un)
      | (with_reducible apply o_extract)
      | (with_reducible apply o_slice_to)
      | (with_reducible apply o_max)
      | (with_reducible apply o_min)
      | (with_reducible apply o_make)
      | (with_reducible apply o_call0)
      | (with_reducible apply o_call1)
      | (with_reducible apply o_call2)
      | (with_reducible apply o_call3)
      | (with_reducible apply o_call4)
      | (with_reducible apply o_box)
      | ((with_reducible apply Tell.mk); first | (simp only [*, decide_true, decide_false]; done) | (simp only [*, decide_true, decide_false]; rfl) | rfl)
      | (with_reducible apply s_then)
      | (with_reducible apply nxt_n)
      | (with_reducible exact nxt_e)
      | (with_reducible exact nxt_r)
      | (with_reducible exact s_skip)
      | (with_reducible exact s_exit)
      | (with_reducible exact s_ret)
      | ((with_reducible apply s_cond_t'); (case hx => (first | exact v_bool | (apply v_tmp; (repeat (first | exact Has.here | (apply Has.there; exact Rf.mk rfl)))))))
      | ((with_reducible apply s_cond_f'); (case hx => (first | exact v_bool | (apply v_tmp; (repeat (first | exact Has.here | (apply Has.there; exact Rf.mk rfl)))))))
      | (with_reducible apply s_block)
      | (with_reducible apply reg_plain)
      | (with_reducible apply reg_last)
      | (with_reducible exact blk_n)
      | (with_reducible exact blk_r)
      | (with_reducible exact blk_e)
      | (with_reducible apply blk_o)
      | assumption
      | omega
      | decide
      | rfl)
  case l => exact less_of rfl (fun e he => by simp only [List.mem_cons, List.not_mem_nil, or_false] at he; subst he; rfl) (fun _ _ h => h) rfl
theorem within_n {B : Nat} (x y : Int) (e1 : IntKind.wrap .i64 (30 - 0) = 30) (e2 : IntKind.wrap .i64 (30 + 1) = 31) (h : decide (x.tmod 31 < 0) = true) (e3 : IntKind.wrap .i64 (x.tmod 31 + 30) = y) (e4 : IntKind.wrap .i64 (y - 0) = y) (e5 : IntKind.wrap .i64 (y + 1) = y + 1) (e6 : IntKind.wrap .i64 (0 + (y + 1)) = y + 1) :
    CodeDoes Try.prog B (Try.f10.body.getD .skip) ⟨⟨24, enum 0 [.s (.int .i64 x), .s (.int .i64 0), .s (.int .i64 30)]⟩, [], 0⟩ .ret ⟨⟨24, [(6, .s (.int .i64 (y + 1)))]⟩, [], 0⟩ := by
  refine (does0 mix (s' := ?s1) ?h).after ?l
  case h =>
    intro call
    show evS _ _ (Code.seq _ _) ⟨⟨24, [(0, .s (.int .i64 x)), (1, .s (.int .i64 0)), (2, .s (.int .i64 30))]⟩, [], 0⟩ = _
    repeat' (first
      | exact Has.here
      | (with_reducible apply Has.there)
      | ((with_reducible apply Rf.mk); rfl)
      | (with_reducible exact ops_end)
      | (with_reducible apply u_val)
      | ((with_reducible apply u_gval); (case hw => apply w_yes; exact Rf.mk rfl; exact Rf.mk rfl; (repeat (first | exact Has.here | (apply Has.there; exact Rf.mk rfl)))))
      | ((with_reducible apply u_skip); (case hw => first | (apply w_no; exact Rf.mk rfl; exact Rf.mk rfl; (repeat (first | exact Has.here | (apply Has.there; exact Rf.mk rfl))); exact Rf.mk rfl) | (apply w_none; exact Rf.mk rfl; exact Rf.mk rfl; (repeat (first | exact Has.here | (apply Has.there; exact Rf.mk rfl))))))
      | (with_reducible apply ops_none)
      | (with_reducible exact v_int)
      | (with_reducible exact v_bool)
      | (with_reducible exact v_str)
      | (with_reducible exact v_ptr0)
      | (with_reducible exact v_sl0)
      | (with_reducible exact v_fnil)
      | (with_reducible exact v_func)
      | (with_reducible apply v_tmp)
      | (with_reducible apply o_move)
      | (with_reducible apply o_assign)
      | (with_reducible apply o_bin)
      | ((with_reducible apply o_pick_t); (case hx => (first | exact v_bool | (apply v_tmp; (repeat (first | exact Has.here | (apply Has.there; exact Rf.mk rfl)))))))
      | ((with_reducible apply o_pick_f); (case hx => (first | exact v_bool | (apply v_tmp; (repeat (first | exact Has.here | (apply Has.there; exact Rf.mk rfl)))))))
      | ((with_reducible apply o_index); (case hx => (first | exact v_bool | (apply v_tmp; (repeat (first | exact Has.here | (apply Has.there; exact Rf.mk rfl)))))))
      | (with_reducible apply o_indexv)
      | (with_reducible apply o_load)
      | (with_reducible apply o_store)
      | (with_reducible apply o_len)
      | (with_reducible apply o_un)
      | (with_reducible apply o_extract)
      | (with_reducible apply o_slice_to)
      | (with_reducible apply o_max)
      | (with_reducible apply o_min)
      | (with_reducible apply o_make)
      | (with_reducible apply o_call0)
      | (with_reducible apply o_call1)
      | (with_reducible apply o_call2)
      | (with_reducible apply o_call3)
      | (with_reducible apply o_call4)
      | (with_reducible apply o_box)
      | ((with_reducible apply Tell.mk); first | (simp only [*, decide_true, decide_false]; done) | (simp only [*, decide_true, decide_false]; rfl) | rfl)
      | (with_reducible apply s_then)
      | (with_reducible apply nxt_n)
      | (with_reducible exact nxt_e)
      | (with_reducible exact nxt_r)
      | (with_reducible exact s_skip)
      | (with_reducible exact s_exit)
      | (with_reducible exact s_ret)
      | ((with_reducible apply s_cond_t'); (case hx => (first | exact v_bool | (apply v_tmp; (repeat (first | exact Has.here | (apply Has.there; exact Rf.mk rfl)))))))
      | ((with_reducible apply s_cond_f'); (case hx => (first | exact v_bool | (apply v_tmp; (repeat (first | exact Has.here | (apply Has.there; exact Rf.mk rfl)))))))
      | (with_reducible apply s_block)
      | (with_reducible apply reg_plain)
      | (with_reducible apply reg_last)
      | (with_reducible exact blk_n)
      | (with_reducible exact blk_r)
      | (with_reducible exact blk_e)
      | (with_reducible apply blk_o)
      | assumption
      | omega
      | decide
      | rfl)
  case l => exact less_of rfl (fun e he => by simp only [List.mem_cons, List.not_mem_nil, or_false] at he; subst he; rfl) (fun _ _ h => h) rfl
theorem fuel_y {B : Nat} (s : Int) (h1 : mmAll true (.s (.int .i64 s)) [.s (.int .i64 0)] = some (.s (.int .i64 s))) (h2 : mmAll false (.s (.int .i64 s)) [.s (.int .i64 1048576)] = some (.s (.int .i64 s))) (e1 : IntKind.wrap .i64 (4 * s) = 4 * s) (e2 : IntKind.wrap .i64 (4 * s + 8) = 4 * s + 8) :
    CodeDoes Try.prog B (Try.f11.body.getD .skip) ⟨⟨8, enum 0 [.s (.int .i64 s)]⟩, [], 0⟩ .ret ⟨⟨8, [(2, .s (.int .i64 (4 * s + 8)))]⟩, [], 0⟩ := by
  refine (does0 mix (s' := ?s1) ?h).after ?l
  case h =>
    intro call
    show evS _ _ (Code.seq _ _) ⟨⟨8, [(0, .s (.int .i64 s))]⟩, [], 0⟩ = _
    repeat' (first
      | exact Has.here
      | (with_reducible apply Has.there)
      | ((with_reducible apply Rf.mk); rfl)
      | (with_reducible exact ops_end)
      | (with_reducible apply u_val)
      | ((with_reducible apply u_gval); (case hw => apply w_yes; exact Rf.mk rfl; exact Rf.mk rfl; (repeat (first | exact Has.here | (apply Has.there; exact Rf.mk rfl)))))
      | ((with_reducible apply u_skip); (case hw => first | (apply w_no; exact Rf.mk rfl; exact Rf.mk rfl; (repeat (first | exact Has.here | (apply Has.there; exact Rf.mk rfl))); exact Rf.mk rfl) | (apply w_none; exact Rf.mk rfl; exact Rf.mk rfl; (repeat (first | exact Has.here | (apply Has.there; exact Rf.mk rfl))))))
      | (with_reducible apply ops_none)
      | (with_reducible exact v_int)
      | (with_reducible exact v_bool)
      | (with_reducible exact v_str)
      | (with_reducible exact v_ptr0)
      | (with_reducible exact v_sl0)
      | (with_reducible exact v_fnil)
      | (with_reducible exact v_func)
      | (with_reducible apply v_tmp)
      | (with_reducible apply o_move)
      | (with_reducible apply o_assign)
      | (with_reducible apply o_bin)
      | ((with_reducible apply o_pick_t); (case hx => (first | exact v_bool | (apply v_tmp; (repeat (first | exact Has.here | (apply Has.there; exact Rf.mk rfl)))))))
      | ((with_reducible apply o_pick_f); (case hx => (first | exact v_bool | (apply v_tmp; (repeat (first | exact Has.here | (apply Has.there; exact Rf.mk rfl)))))))
      | ((with_reducible apply o_index); (case hx => (first | exact v_bool | (apply v_tmp; (repeat (first | exact Has.here | (apply Has.there; exact Rf.mk rfl)))))))
      | (with_reducible apply o_indexv)
      | (with_reducible apply o_load)
      | (with_reducible apply o_store)
      | (with_reducible apply o_len)
      | (with_reducible apply o_un)
      | (with_reducible apply o_extract)
      | (with_reducible apply o_slice_to)
      | (with_reducible apply o_max)
      | (with_reducible apply o_min)
      | (with_reducible apply o_make)
      | (with_reducible apply o_call0)
      | (with_reducible apply o_call1)
      | (with_reducible apply o_call2)
      | (with_reducible apply o_call3)
      | (with_reducible apply o_call4)
      | (with_reducible apply o_box)
      | ((with_reducible apply Tell.mk); first | (simp only [*, decide_true, decide_false]; done) | (simp only [*, decide_true, decide_false]; rfl) | rfl)
      | (with_reducible apply s_then)
      | (with_reducible apply nxt_n)
      | (with_reducible exact nxt_e)
      | (with_reducible exact nxt_r)
      | (with_reducible exact s_skip)
      | (with_reducible exact s_exit)
      | (with_reducible exact s_ret)
      | ((with_reducible apply s_cond_t'); (case hx => (first | exact v_bool | (apply v_tmp; (repeat (first | exact Has.here | (apply Has.there; exact Rf.mk rfl)))))))
      | ((with_reducible apply s_cond_f'); (case hx => (first | exact v_bool | (apply v_tmp; (repeat (first | exact Has.here | (apply Has.there; exact Rf.mk rfl)))))))
      | (with_reducible apply s_block)
      | (with_reducible apply reg_plain)
      | (with_reducible apply reg_last)
      | (with_reducible exact blk_n)
      | (with_reducible exact blk_r)
      | (with_reducible exact blk_e)
      | (with_reducible apply blk_o)
      | assumption
      | omega
      | decide
      | rfl)
  case l => exact less_of rfl (fun e he => by simp only [List.mem_cons, List.not_mem_nil, or_false] at he; subst he; rfl) (fun _ _ h => h) rfl

theorem wrap_id {x : Int} (h0 : -9223372036854775808 ≤ x) (h1 : x ≤ 9223372036854775807) : IntKind.wrap .i64 x = x := by
  simp only [IntKind.wrap, IntKind.bits, IntKind.signed, Bool.true_and, decide_eq_true_eq, ge_iff_le]
  split <;> omega
theorem within_does (x : Int) : ∃ y : Int, 0 ≤ y ∧ y ≤ 30 ∧ PureDoes Try.prog 10 [.s (.int .i64 x), .s (.int .i64 0), .s (.int .i64 30)] [] 0 (.s (.int .i64 y)) := by
  have hm1 := Int.tmod_lt_of_pos x (show (0 : Int) < 31 by omega)
  have hm2 : -31 < Int.tmod x 31 := by
    have := Int.tmod_lt_of_pos (-x) (show (0 : Int) < 31 by omega)
    rw [Int.neg_tmod] at this
    omega
  by_cases h : x.tmod 31 < 0
  · refine ⟨x.tmod 31 + 30 + 1, by omega, by omega, PureDoes.of_body (body := Try.f10.body.getD .skip) (e := .ret) (s' := ⟨⟨24, [(6, .s (.int .i64 (x.tmod 31 + 30 + 1)))]⟩, [], 0⟩) rfl rfl (by decide) (fun B => ?_) (.inr rfl) rfl⟩
    exact within_n x (x.tmod 31 + 30) (wrap_id (by omega) (by omega)) (wrap_id (by omega) (by omega)) (by simpa using h) (wrap_id (by omega) (by omega)) (by rw [wrap_id (by omega) (by omega)]; omega) (wrap_id (by omega) (by omega)) (by rw [wrap_id (by omega) (by omega)]; omega)
  · refine ⟨x.tmod 31, by omega, by omega, PureDoes.of_body (body := Try.f10.body.getD .skip) (e := .ret) (s' := ⟨⟨24, [(6, .s (.int .i64 (x.tmod 31)))]⟩, [], 0⟩) rfl rfl (by decide) (fun B => ?_) (.inr rfl) rfl⟩
    exact within_y x (wrap_id (by omega) (by omega)) (wrap_id (by omega) (by omega)) (by simpa using h) (by rw [wrap_id (by omega) (by omega)]; omega)
theorem fuel_does (s : Int) (h0 : 0 ≤ s) (h1 : s ≤ 1000) : PureDoes Try.prog 11 [.s (.int .i64 s)] [] 0 (.s (.int .i64 (4 * s + 8))) := by
  refine PureDoes.of_body (body := Try.f11.body.getD .skip) (e := .ret) (s' := ⟨⟨8, [(2, .s (.int .i64 (4 * s + 8)))]⟩, [], 0⟩) rfl rfl (by decide) (fun B => ?_) (.inr rfl) rfl
  exact fuel_y s (by simp [mmAll, mm]; omega) (by simp [mmAll, mm]; omega) (wrap_id (by omega) (by omega)) (wrap_id (by omega) (by omega))
end Go.Proofs.Ytiodonkmapaebaa.MPick
