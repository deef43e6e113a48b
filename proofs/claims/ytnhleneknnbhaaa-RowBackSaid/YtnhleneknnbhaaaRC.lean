/- Contracts for a row's cells. Printed by gen_rc.py. -/
import Derived.Test.YtnhleneknnbhaaaRU
import Derived.Test.YtnhleneknnbhaaaProg
import Derived.KernelRfl
namespace Go.Proofs.Ytnhleneknnbhaaa.V
open Go Go.RowKit Go.Proofs Go.Proofs.Ytnhleneknnbhaaa.Eng Go.Proofs.Ytnhleneknnbhaaa.VPl
set_option maxRecDepth 100000
set_option linter.unusedVariables false
set_option linter.unusedSimpArgs false

theorem rem_i {x y r : Int} (hr : x.tmod y = r) (h : y ≠ 0) : Option.map AV.s (evBin Try.prog .rem 3 (.s (.int .i64 x)) (.s (.int .i64 y))) = some (.s (.int .i64 r)) := by
  subst hr
  show Option.map AV.s (if y = 0 then none else some (.int .i64 (x.tmod y))) = _
  rw [if_neg h]; rfl
attribute [local irreducible] Eng.evAppend Eng.evSlice Eng.less CallDoes Eng.loadG Eng.evIndexAddr Eng.evBin

theorem PureDoes.any0 {P : Program} {f : FuncId} {v : AV} (h : PureDoes P f [] [] 0 v) (c : Nat) : PureDoes P f [] [] c v :=
  ⟨h.1, fun B ρ M args' w ha hm hfr hs => h.2 B ⟨fun _ => none, ρ.fz⟩ (fun _ => none) args' w ⟨ha.1, fun i x y hx => by simp at hx⟩ (fun n b hn => by cases hn) (fun _ _ => rfl) ⟨hs.heap, fun n b h => (by cases h), fun n n' b b' l l' h => (by cases h), hs.frz, fun n b l h => (by cases h)⟩⟩
theorem known_call {B c : Nat} : CallDoes Try.prog B 10 [] [] c (.s (.bool true)) ([] ++ []) c :=
  (PureDoes.any0 (PureDoes.of_eval (P := Try.prog) (f := 10) (args := []) (m := []) (c := 0) mix (n := 200) (by kernel_rfl)) c).here rfl (by simp) (fun n b h => by cases h)
/-- One row, cut. -/
@[irreducible] def shC (L : List Cl) : List Cl := (L.take 10).map cutC
theorem short1_call {B c n : Nat} {t q : Int} {L L' : List Cl} {cp : Option Nat} (hr : shC L = L') (hL : L.length ≤ 2932031007317) : CallDoes Try.prog B 8 [.s (.sl n 0 1 cp 3), .s (.int .i64 1)] [(n, some ⟨[.int .i64 t, .int .i64 q, .slv L.length none 4 (flat Cl.cv L)], true⟩)] c (.s (.slv 1 none 3 [.int .i64 t, .int .i64 q, .slv L'.length none 4 (flat Cl.cv L')])) ([(n, none)] ++ [(n, some ⟨[.int .i64 t, .int .i64 q, .slv L.length none 4 (flat Cl.cv L)], true⟩)]) c := by
  have h := (short_call (B := B) (cc := c) [⟨t, q, L⟩] 1 (by omega) (fun i => by cases i with
    | zero => simpa using hL
    | succ i => simp))
  subst hr
  unfold shC
  exact h.thaw (n := n) (cells := [.int .i64 t, .int .i64 q, .slv L.length none 4 (flat Cl.cv L)]) (Rw_plain ⟨t, q, L⟩) (.cons (.s (.sl (by simp [sub, flat]))) (.cons (.same _) .nil)) (fun b hb => by cases hb)
theorem right_v {B c len : Nat} {t q : Int} {L : List Cl} {b : Bool} (hl : len = L.length) (hr : rightB ⟨t, q, L⟩ = b) (hL : L.length ≤ 140737488351232) : CallDoes Try.prog B 15 [.agg [.int .i64 t, .int .i64 q, .slv len none 4 (flat Cl.cv L)]] [] c (.s (.bool b)) ([] ++ []) c := by
  subst hl; subst hr
  exact right_does t q L hL B c
theorem right_peek {B c n len : Nat} {t q : Int} {L : List Cl} {cp : Option Nat} {b : Bool} (hl : len = L.length) (hr : rightB ⟨t, q, L⟩ = b) (hL : L.length ≤ 140737488351232) : CallDoes Try.prog B 15 [.agg [.int .i64 t, .int .i64 q, .sl n 0 len cp 4]] [(n, some ⟨flat Cl.cv L, true⟩)] c (.s (.bool b)) ([] ++ [(n, some ⟨flat Cl.cv L, true⟩)]) c := by
  subst hl; subst hr
  exact (right_does t q L hL).peek rfl (.cons (.agg (.cons (.same rfl) (.cons (.same rfl) (.cons (.sl (b := ⟨flat Cl.cv L, true⟩) (by simp [Eng.get]) (subCl L) (Cl_flat L)) .nil)))) .nil) B c
theorem cell_peek {B c n len : Nat} {t q : Int} {L : List Cl} {s : ByteArray} {x : Cl} {cp : Option Nat} (hl : len = L.length) (hx : cellL L s = x) (hL : L.length ≤ 140737488351232) : CallDoes Try.prog B 14 [.agg [.int .i64 t, .int .i64 q, .sl n 0 len cp 4], .s (.str s)] [(n, some ⟨flat Cl.cv L, true⟩)] c (.agg [.str x.col, .int .i64 x.kind, .int .i64 x.n, .str x.s]) ([] ++ [(n, some ⟨flat Cl.cv L, true⟩)]) c := by
  subst hl; subst hx
  exact (cell_does t q L s hL).peek rfl (.cons (.agg (.cons (.same rfl) (.cons (.same rfl) (.cons (.sl (b := ⟨flat Cl.cv L, true⟩) (by simp [Eng.get]) (subCl L) (Cl_flat L)) .nil)))) (.cons (.same rfl) .nil)) B c
theorem within_1 {B : Nat} (n hi r : Int) (h2 : 0 ≤ hi) (h3 : hi ≤ 1000000) (hr : n.tmod (hi - 0 + 1) = r) (h4 : -hi ≤ r) (h5 : r ≤ hi) (h_1 : r < 0) : CodeDoes Try.prog B (Try.f12.body.getD .skip) ⟨⟨24, [(0, .s (.int .i64 n)), (1, .s (.int .i64 0)), (2, .s (.int .i64 hi))]⟩, [], 0⟩ Ex.ret ⟨⟨24, [(6, AV.s (SV.int IntKind.i64 (0 + (r + hi - 0 + 1))))]⟩, [], 0⟩ :=
  goA_ok mix (tape := [(4, Ans.val (AV.s (SV.int IntKind.i64 (hi - 0)))), (5, Ans.val (AV.s (SV.int IntKind.i64 (hi - 0 + 1)))), (6, Ans.val (AV.s (SV.int IntKind.i64 r))), (9, Ans.val (AV.s (SV.bool Bool.true))), (12, Ans.val (AV.s (SV.int IntKind.i64 (r + hi)))), (14, Ans.val (AV.s (SV.int IntKind.i64 (r + hi - 0)))), (15, Ans.val (AV.s (SV.int IntKind.i64 (r + hi - 0 + 1)))), (19, Ans.val (AV.s (SV.int IntKind.i64 (0 + (r + hi - 0 + 1)))))]) (dl := [6]) (nl := []) (C := [(some (AV.s (SV.int IntKind.i64 (IntKind.wrap IntKind.i64 (0 + (r + hi - 0 + 1))))) = some (AV.s (SV.int IntKind.i64 (0 + (r + hi - 0 + 1))))), (some (AV.s (SV.int IntKind.i64 (IntKind.wrap IntKind.i64 (r + hi - 0 + 1)))) = some (AV.s (SV.int IntKind.i64 (r + hi - 0 + 1)))), (some (AV.s (SV.int IntKind.i64 (IntKind.wrap IntKind.i64 (r + hi - 0)))) = some (AV.s (SV.int IntKind.i64 (r + hi - 0)))), (some (AV.s (SV.int IntKind.i64 (IntKind.wrap IntKind.i64 (r + hi)))) = some (AV.s (SV.int IntKind.i64 (r + hi)))), (some (AV.s (SV.bool (decide (r < 0)))) = some (AV.s (SV.bool Bool.true))), ((Option.map AV.s (evBin Try.prog BinOp.rem 3 (AV.s (SV.int IntKind.i64 n)) (AV.s (SV.int IntKind.i64 (hi - 0 + 1))))) = some (AV.s (SV.int IntKind.i64 r))), (some (AV.s (SV.int IntKind.i64 (IntKind.wrap IntKind.i64 (hi - 0 + 1)))) = some (AV.s (SV.int IntKind.i64 (hi - 0 + 1)))), (some (AV.s (SV.int IntKind.i64 (IntKind.wrap IntKind.i64 (hi - 0)))) = some (AV.s (SV.int IntKind.i64 (hi - 0))))]) (by kernel_rfl) ⟨claim_i (by exact wrap_i64 (by omega) (by omega)), claim_i (by exact wrap_i64 (by omega) (by omega)), claim_i (by exact wrap_i64 (by omega) (by omega)), claim_i (by exact wrap_i64 (by omega) (by omega)), claim_b (by exact decide_eq_true (by first | assumption | omega)), by (apply rem_i <;> first | exact el37 | exact el23 | exact sz35 | exact sz39 | exact by35 | exact by39 | exact zr35 | exact zr39 | exact ag35 | exact ag39 | exact un9 | assumption | rfl | omega | (unfold maxLen; omega) | decide | (simp; done) | (simp; omega)), claim_i (by exact wrap_i64 (by omega) (by omega)), claim_i (by exact wrap_i64 (by omega) (by omega)), trivial⟩
theorem within_2 {B : Nat} (n hi r : Int) (h2 : 0 ≤ hi) (h3 : hi ≤ 1000000) (hr : n.tmod (hi - 0 + 1) = r) (h4 : -hi ≤ r) (h5 : r ≤ hi) (h_1 : ¬ (r < 0)) : CodeDoes Try.prog B (Try.f12.body.getD .skip) ⟨⟨24, [(0, .s (.int .i64 n)), (1, .s (.int .i64 0)), (2, .s (.int .i64 hi))]⟩, [], 0⟩ Ex.ret ⟨⟨24, [(6, AV.s (SV.int IntKind.i64 (0 + r)))]⟩, [], 0⟩ :=
  goA_ok mix (tape := [(4, Ans.val (AV.s (SV.int IntKind.i64 (hi - 0)))), (5, Ans.val (AV.s (SV.int IntKind.i64 (hi - 0 + 1)))), (6, Ans.val (AV.s (SV.int IntKind.i64 r))), (9, Ans.val (AV.s (SV.bool Bool.false))), (12, Ans.val (AV.s (SV.int IntKind.i64 (0 + r))))]) (dl := [6]) (nl := []) (C := [(some (AV.s (SV.int IntKind.i64 (IntKind.wrap IntKind.i64 (0 + r)))) = some (AV.s (SV.int IntKind.i64 (0 + r)))), (some (AV.s (SV.bool (decide (r < 0)))) = some (AV.s (SV.bool Bool.false))), ((Option.map AV.s (evBin Try.prog BinOp.rem 3 (AV.s (SV.int IntKind.i64 n)) (AV.s (SV.int IntKind.i64 (hi - 0 + 1))))) = some (AV.s (SV.int IntKind.i64 r))), (some (AV.s (SV.int IntKind.i64 (IntKind.wrap IntKind.i64 (hi - 0 + 1)))) = some (AV.s (SV.int IntKind.i64 (hi - 0 + 1)))), (some (AV.s (SV.int IntKind.i64 (IntKind.wrap IntKind.i64 (hi - 0)))) = some (AV.s (SV.int IntKind.i64 (hi - 0))))]) (by kernel_rfl) ⟨claim_i (by exact wrap_i64 (by omega) (by omega)), claim_b (by exact decide_eq_false (by first | assumption | omega)), by (apply rem_i <;> first | exact el37 | exact el23 | exact sz35 | exact sz39 | exact by35 | exact by39 | exact zr35 | exact zr39 | exact ag35 | exact ag39 | exact un9 | assumption | rfl | omega | (unfold maxLen; omega) | decide | (simp; done) | (simp; omega)), claim_i (by exact wrap_i64 (by omega) (by omega)), claim_i (by exact wrap_i64 (by omega) (by omega)), trivial⟩
theorem within_does (n hi r : Int) (h2 : 0 ≤ hi) (h3 : hi ≤ 1000000) (hr : n.tmod (hi - 0 + 1) = r) (h4 : -hi ≤ r) (h5 : r ≤ hi) : ValDoes Try.prog 12 [.s (.int .i64 n), .s (.int .i64 0), .s (.int .i64 hi)] (.s (.int .i64 (if r < 0 then r + hi + 1 else r))) := by
  by_cases h_1 : r < 0
  · exact ValDoes.of_code Try.func12 (by kernel_rfl) (by kernel_rfl) (k := 24) (by kernel_rfl) (fun B => ⟨_, _, .inr rfl, within_1 n hi r h2 h3 hr h4 h5 h_1, Eq.trans (b := some (AV.s (SV.int IntKind.i64 (0 + (r + hi - 0 + 1))))) (by kernel_rfl) (congrArg some (show (AV.s (SV.int IntKind.i64 (0 + (r + hi - 0 + 1)))) = (.s (.int .i64 (if r < 0 then r + hi + 1 else r))) by refine congrArg (fun b => AV.s (SV.int .i64 b)) ?_; grind))⟩) (by kernel_rfl) (List.all_eq_true.1 (by kernel_rfl))
  · exact ValDoes.of_code Try.func12 (by kernel_rfl) (by kernel_rfl) (k := 24) (by kernel_rfl) (fun B => ⟨_, _, .inr rfl, within_2 n hi r h2 h3 hr h4 h5 h_1, Eq.trans (b := some (AV.s (SV.int IntKind.i64 (0 + r)))) (by kernel_rfl) (congrArg some (show (AV.s (SV.int IntKind.i64 (0 + r))) = (.s (.int .i64 (if r < 0 then r + hi + 1 else r))) by refine congrArg (fun b => AV.s (SV.int .i64 b)) ?_; grind))⟩) (by kernel_rfl) (List.all_eq_true.1 (by kernel_rfl))
theorem within_call {B cc : Nat} (n hi r : Int) (h2 : 0 ≤ hi) (h3 : hi ≤ 1000000) (hr : n.tmod (hi - 0 + 1) = r) (h4 : -hi ≤ r) (h5 : r ≤ hi) : CallDoes Try.prog B 12 [.s (.int .i64 n), .s (.int .i64 0), .s (.int .i64 hi)] [] cc (.s (.int .i64 (if r < 0 then r + hi + 1 else r))) ([] ++ []) cc := within_does n hi r h2 h3 hr h4 h5 B cc

theorem wi_call {B c : Nat} {n hi : Int} {k : Nat} (hk : (n % (hi + 1)).toNat = k) (h2 : 0 ≤ hi) (h3 : hi ≤ 1000000) : CallDoes Try.prog B 12 [.s (.int .i64 n), .s (.int .i64 0), .s (.int .i64 hi)] [] c (.s (.int .i64 (k : Int))) ([] ++ []) c := by
  have e : hi - 0 + 1 = hi + 1 := by omega
  have b1 := Int.lt_tmod_of_pos n (b := hi + 1) (by omega)
  have b2 := Int.tmod_lt_of_pos n (b := hi + 1) (by omega)
  have m1 := Int.emod_nonneg n (b := hi + 1) (by omega)
  have m2 := Int.emod_lt_of_pos n (b := hi + 1) (by omega)
  have d1 := Int.mul_tdiv_add_tmod n (hi + 1)
  have d2 := Int.mul_ediv_add_emod n (hi + 1)
  have h := within_does n hi (n.tmod (hi + 1)) h2 h3 (by rw [e]) (by omega) (by omega) B c
  have e2 : (if n.tmod (hi + 1) < 0 then n.tmod (hi + 1) + hi + 1 else n.tmod (hi + 1)) = n % (hi + 1) := by
    have := Int.tmod_eq_emod (a := n) (b := hi + 1)
    have e3 : ((hi + 1).natAbs : Int) = hi + 1 := by omega
    split at this <;> split <;> omega
  rw [e2] at h
  have e4 : ((k : Nat) : Int) = n % (hi + 1) := by omega
  rw [e4]
  exact h
end Go.Proofs.Ytnhleneknnbhaaa.V
