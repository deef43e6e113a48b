/- Chapter 8: Encode. Printed by gen_qc.py. -/
import Derived.Test.YtojleakknchfdaaQB
import Derived.Test.YtojleakknchfdaaProg
import Derived.KernelRfl
namespace Go.Proofs.Ytojleakknchfdaa.V
open Go Go.RowKit Go.Proofs Go.Proofs.Ytojleakknchfdaa.Eng Go.Proofs.Ytojleakknchfdaa.VPl
set_option maxRecDepth 100000
set_option linter.unusedVariables false
set_option linter.unusedSimpArgs false

inductive NilAs : List AV → List AV → Prop where
  | nil : NilAs [] []
  | cons {x y : AV} {l r : List AV} (h : NilA x y) (t : NilAs l r) : NilAs (x :: l) (y :: r)
theorem NilAs.get {a b : List AV} (h : NilAs a b) : a.length = b.length ∧ ∀ (i : Nat) y, b[i]? = some y → ∃ x, a[i]? = some x ∧ NilA x y := by
  induction h with
  | nil => exact ⟨rfl, fun i y h => by simp at h⟩
  | cons h _ ih =>
    refine ⟨by simp [ih.1], fun i y hy => ?_⟩
    cases i with
    | zero => obtain rfl := Option.some.inj hy; exact ⟨_, rfl, h⟩
    | succ i => exact ih.2 i y hy
theorem vr_nil {ρ : Rho} {x y : AV} {u : Value} (h : NilA x y) (hx : VR ρ x u) : VR ρ y u := by
  cases h with
  | same => exact hx
  | nil sz =>
    have hx : u = .slice none 0 0 := hx
    exact .inl ⟨hx, rfl, rfl, fun k hk => (by cases hk)⟩
  | emp n sz =>
    obtain ⟨ad, cp, h1, h2, h3⟩ := hx
    exact .inr (.inl ⟨ad, cp, h1, rfl, rfl, h3, fun k hk => (by cases hk)⟩)
/-- What is nil is an empty row. -/
theorem nilArgs {P : Program} {B : Nat} {f : FuncId} {args args0 : List AV} {m m' : Mem} {c c' : Nat} {v : AV} (h : CallDoes P B f args0 m c v m' c') (ha : NilAs args args0) : CallDoes P B f args m c v m' c' := by
  obtain ⟨h1, h2, δ, h3, h4, h5⟩ := h
  refine ⟨h1, h2, δ, h3, h4, fun ρ M args' w hA hM hfr hs => h5 ρ M args' w ⟨by rw [← ha.get.1]; exact hA.1, fun i y u hy hu => ?_⟩ hM hfr hs⟩
  obtain ⟨x, hx, hxy⟩ := ha.get.2 i y hy
  exact vr_nil hxy (hA.2 i x u hx hu)
theorem put_nil_call {B c : Nat} {M : List Int} {n n' : Int} (hn : n' = n) (hM : vput n = M) (h0 : 0 ≤ n) (h1 : n ≤ 18446744073709551615) : CallDoes Try.prog B 20 [.s .sl0, .s (.int .u64 n')] [] c (.s (.slv M.length none 1 (flat bc M))) ([] ++ []) c := by
  subst hn
  exact nilArgs (put_call (L := []) (len := 0) (M := M) hM rfl (by simp) h0 h1) (.cons (.nil 1) (.cons (.same _) .nil))
theorem put_c {B c len : Nat} {L M : List Int} {n n' : Int} (hn : n' = n) (hM : L ++ vput n = M) (hl : len = L.length) (hL : L.length ≤ 140737488350000) (h0 : 0 ≤ n) (h1 : n ≤ 18446744073709551615) : CallDoes Try.prog B 20 [.s (.slv len none 1 (flat bc L)), .s (.int .u64 n')] [] c (.s (.slv M.length none 1 (flat bc M))) ([] ++ []) c := by
  subst hn
  exact put_call hM hl hL h0 h1
theorem wrap_u {x : Int} (h0 : 0 ≤ x) (h1 : x ≤ 18446744073709551615) : IntKind.wrap .u64 x = x := by rw [wrap64']; omega
theorem zig_c {B c : Nat} {n m : Int} (hm : zigI n = m) (h : -9223372036854775808 ≤ n ∧ n ≤ 9223372036854775807) : CallDoes Try.prog B 22 [.s (.int .i64 n)] [] c (.s (.int .u64 m)) ([] ++ []) c := by
  subst hm
  exact zig_call n h
/-- What a zone is written as. -/
def encZ (z : Zn) : List Int := if z.rows = z.nulls then vput z.kind ++ vput z.rows ++ vput z.nulls else if z.kind = 1 then vput z.kind ++ vput z.rows ++ vput z.nulls ++ vput (zigI z.minN) ++ vput (zigI z.maxN) else vput z.kind ++ vput z.rows ++ vput z.nulls ++ vput (z.minS.size : Int) ++ bytesOf z.minS ++ vput (z.maxS.size : Int) ++ bytesOf z.maxS
attribute [local irreducible] Eng.evAppend Eng.evSlice Eng.less CallDoes Eng.loadG Eng.evIndexAddr Eng.evBin
attribute [local irreducible] rightZ vput
theorem encF_1 {B : Nat} (k r n a b : Int) (s t : ByteArray) (hR : rightZ ⟨k, r, n, a, b, s, t⟩ = false)  : CodeDoes Try.prog B (Try.f8.body.getD .skip) ⟨⟨51, [(0, .agg [.int .i64 k, .int .i64 r, .int .i64 n, .int .i64 a, .int .i64 b, .str s, .str t])]⟩, [], 0⟩ Ex.ret ⟨⟨51, [(2, AV.s SV.sl0), (3, AV.s (SV.int IntKind.i64 12))]⟩, [], 1⟩ :=
  goA_ok mix (tape := [(4, aC (AV.s (SV.bool false)) 1)]) (dl := [2, 3]) (nl := []) (C := [(CD B 9 [AV.agg [sI k, sI r, sI n, sI a, sI b, SV.str s, SV.str t]] [] 1 (AV.s (SV.bool false)) ([] ++ []) 1)]) (by kernel_rfl) ⟨(Eq.mp (congrArg (fun z => CD B _ _ _ _ (AV.s (SV.bool z)) _ _) (show (rightZ (Zn.mk k r n a b s t)) = false from by assumption)) (show CD B 9 [AV.agg [sI k, sI r, sI n, sI a, sI b, SV.str s, SV.str t]] [] 1 (AV.s (SV.bool (rightZ (Zn.mk k r n a b s t)))) ([] ++ []) 1 from by (apply right_call))), trivial⟩
theorem encN_1 {B : Nat} (k r n a b : Int) (s t : ByteArray) (hk : k = 1 ∨ k = 2) (hr : 0 ≤ r ∧ r ≤ 1048576) (hn : 0 ≤ n ∧ n ≤ 1048576) (l1 : (vput k).length ≤ 10) (l2 : (vput r).length ≤ 10) (l3 : (vput n).length ≤ 10) (hR : rightZ ⟨k, r, n, a, b, s, t⟩ = true) (hE : r = n)  : CodeDoes Try.prog B (Try.f8.body.getD .skip) ⟨⟨51, [(0, .agg [.int .i64 k, .int .i64 r, .int .i64 n, .int .i64 a, .int .i64 b, .str s, .str t])]⟩, [], 0⟩ Ex.ret ⟨⟨51, [(2, AV.s (SV.slv (List.length (vput k ++ vput r ++ vput n)) none 1 (flat bc (vput k ++ vput r ++ vput n)))), (3, AV.s (SV.int IntKind.i64 0))]⟩, [], 2⟩ :=
  goA_ok mix (tape := [(4, aC (AV.s (SV.bool true)) 1), (16, Ans.rounds 4), (23, Ans.mem (AV.s (sU k)) [] 2), (24, aC (AV.s (vB (vput k))) 2), (34, Ans.mem (AV.s (sU r)) [] 2), (35, aC (AV.s (vB (vput k ++ vput r))) 2), (45, Ans.mem (AV.s (sU n)) [] 2), (46, aC (AV.s (vB (vput k ++ vput r ++ vput n))) 2), (52, aC (AV.s (SV.bool true)) 2)]) (dl := [2, 3]) (nl := []) (C := [(CD B 21 [AV.agg [sI k, sI r, sI n, sI a, sI b, SV.str s, SV.str t]] [] 2 (AV.s (SV.bool true)) ([] ++ []) 2), (CD B 20 [AV.s (vB (vput k ++ vput r)), AV.s (sU n)] [] 2 (AV.s (vB (vput k ++ vput r ++ vput n))) ([] ++ []) 2), (some (AV.s (sU (wU n)), ([] : Mem), (2 : Nat)) = some (AV.s (sU n), ([] : Mem), (2 : Nat))), (CD B 20 [AV.s (vB (vput k)), AV.s (sU r)] [] 2 (AV.s (vB (vput k ++ vput r))) ([] ++ []) 2), (some (AV.s (sU (wU r)), ([] : Mem), (2 : Nat)) = some (AV.s (sU r), ([] : Mem), (2 : Nat))), (CD B 20 [AV.s SV.sl0, AV.s (sU k)] [] 2 (AV.s (vB (vput k))) ([] ++ []) 2), (some (AV.s (sU (wU k)), ([] : Mem), (2 : Nat)) = some (AV.s (sU k), ([] : Mem), (2 : Nat))), (CD B 9 [AV.agg [sI k, sI r, sI n, sI a, sI b, SV.str s, SV.str t]] [] 1 (AV.s (SV.bool true)) ([] ++ []) 1)]) (by kernel_rfl) ⟨(Eq.mp (congrArg (fun z => CD B _ _ _ _ (AV.s (SV.bool z)) _ _) (show (r == n) = true from by exact decide_eq_true (by first | assumption | omega))) (show CD B 21 [AV.agg [sI k, sI r, sI n, sI a, sI b, SV.str s, SV.str t]] [] 2 (AV.s (SV.bool (r == n))) ([] ++ []) 2 from by (apply none_call))), by (apply put_c <;> first | with_reducible rfl | omega | (simp; omega)), congrArg (fun i : Int => some (AV.s (sU i), ([] : Mem), (2 : Nat))) (by exact wrap_u64 (by omega) (by omega)), by (apply put_c <;> first | with_reducible rfl | omega), congrArg (fun i : Int => some (AV.s (sU i), ([] : Mem), (2 : Nat))) (by exact wrap_u64 (by omega) (by omega)), by (apply put_nil_call <;> first | with_reducible rfl | omega), congrArg (fun i : Int => some (AV.s (sU i), ([] : Mem), (2 : Nat))) (by exact wrap_u64 (by omega) (by omega)), (Eq.mp (congrArg (fun z => CD B _ _ _ _ (AV.s (SV.bool z)) _ _) (show (rightZ (Zn.mk k r n a b s t)) = true from by assumption)) (show CD B 9 [AV.agg [sI k, sI r, sI n, sI a, sI b, SV.str s, SV.str t]] [] 1 (AV.s (SV.bool (rightZ (Zn.mk k r n a b s t)))) ([] ++ []) 1 from by (apply right_call))), trivial⟩
theorem encI_1 {B : Nat} (k r n a b : Int) (s t : ByteArray) (hk : k = 1 ∨ k = 2) (hr : 0 ≤ r ∧ r ≤ 1048576) (hn : 0 ≤ n ∧ n ≤ 1048576) (l1 : (vput k).length ≤ 10) (l2 : (vput r).length ≤ 10) (l3 : (vput n).length ≤ 10) (hR : rightZ ⟨k, r, n, a, b, s, t⟩ = true) (hE : ¬ r = n) (h1 : k = 1) (ha : -9223372036854775808 ≤ a ∧ a ≤ 9223372036854775807) (hb : -9223372036854775808 ≤ b ∧ b ≤ 9223372036854775807) (l4 : (vput (zigI a)).length ≤ 10) (ra : 0 ≤ zigI a ∧ zigI a ≤ 18446744073709551615) (rb : 0 ≤ zigI b ∧ zigI b ≤ 18446744073709551615)  : CodeDoes Try.prog B (Try.f8.body.getD .skip) ⟨⟨51, [(0, .agg [.int .i64 k, .int .i64 r, .int .i64 n, .int .i64 a, .int .i64 b, .str s, .str t])]⟩, [], 0⟩ Ex.ret ⟨⟨51, [(2, AV.s (SV.slv (List.length (vput k ++ vput r ++ vput n ++ vput (zigI a) ++ vput (zigI b))) none 1 (flat bc (vput k ++ vput r ++ vput n ++ vput (zigI a) ++ vput (zigI b))))), (3, AV.s (SV.int IntKind.i64 0))]⟩, [], 2⟩ :=
  goA_ok mix (tape := [(4, aC (AV.s (SV.bool true)) 1), (16, Ans.rounds 4), (23, Ans.mem (AV.s (sU k)) [] 2), (24, aC (AV.s (vB (vput k))) 2), (34, Ans.mem (AV.s (sU r)) [] 2), (35, aC (AV.s (vB (vput k ++ vput r))) 2), (45, Ans.mem (AV.s (sU n)) [] 2), (46, aC (AV.s (vB (vput k ++ vput r ++ vput n))) 2), (52, aC (AV.s (SV.bool false)) 2), (56, aT), (61, aC (AV.s (sU (zigI a))) 2), (62, Ans.call [] (AV.s (vB (vput k ++ vput r ++ vput n ++ vput (zigI a)))) [] 2), (65, aC (AV.s (sU (zigI b))) 2), (66, Ans.call [] (AV.s (vB (vput k ++ vput r ++ vput n ++ vput (zigI a) ++ vput (zigI b)))) [] 2)]) (dl := [2, 3]) (nl := []) (C := [(CD B 20 [AV.s (vB (vput k ++ vput r ++ vput n ++ vput (zigI a))), AV.s (sU (zigI b))] [] 2 (AV.s (vB (vput k ++ vput r ++ vput n ++ vput (zigI a) ++ vput (zigI b)))) ([] ++ []) 2), (CD B 22 [AV.s (sI b)] [] 2 (AV.s (sU (zigI b))) ([] ++ []) 2), (CD B 20 [AV.s (vB (vput k ++ vput r ++ vput n)), AV.s (sU (zigI a))] [] 2 (AV.s (vB (vput k ++ vput r ++ vput n ++ vput (zigI a)))) ([] ++ []) 2), (CD B 22 [AV.s (sI a)] [] 2 (AV.s (sU (zigI a))) ([] ++ []) 2), (IsT (k == 1)), (CD B 21 [AV.agg [sI k, sI r, sI n, sI a, sI b, SV.str s, SV.str t]] [] 2 (AV.s (SV.bool false)) ([] ++ []) 2), (CD B 20 [AV.s (vB (vput k ++ vput r)), AV.s (sU n)] [] 2 (AV.s (vB (vput k ++ vput r ++ vput n))) ([] ++ []) 2), (some (AV.s (sU (wU n)), ([] : Mem), (2 : Nat)) = some (AV.s (sU n), ([] : Mem), (2 : Nat))), (CD B 20 [AV.s (vB (vput k)), AV.s (sU r)] [] 2 (AV.s (vB (vput k ++ vput r))) ([] ++ []) 2), (some (AV.s (sU (wU r)), ([] : Mem), (2 : Nat)) = some (AV.s (sU r), ([] : Mem), (2 : Nat))), (CD B 20 [AV.s SV.sl0, AV.s (sU k)] [] 2 (AV.s (vB (vput k))) ([] ++ []) 2), (some (AV.s (sU (wU k)), ([] : Mem), (2 : Nat)) = some (AV.s (sU k), ([] : Mem), (2 : Nat))), (CD B 9 [AV.agg [sI k, sI r, sI n, sI a, sI b, SV.str s, SV.str t]] [] 1 (AV.s (SV.bool true)) ([] ++ []) 1)]) (by kernel_rfl) ⟨by (apply put_c <;> first | with_reducible rfl | omega | (simp; omega)), by (apply zig_c <;> first | with_reducible rfl | assumption), by (apply put_c <;> first | with_reducible rfl | omega | (simp; omega)), by (apply zig_c <;> first | with_reducible rfl | assumption), cT (by first | assumption | omega), (Eq.mp (congrArg (fun z => CD B _ _ _ _ (AV.s (SV.bool z)) _ _) (show (r == n) = false from by exact decide_eq_false (by first | assumption | omega))) (show CD B 21 [AV.agg [sI k, sI r, sI n, sI a, sI b, SV.str s, SV.str t]] [] 2 (AV.s (SV.bool (r == n))) ([] ++ []) 2 from by (apply none_call))), by (apply put_c <;> first | with_reducible rfl | omega | (simp; omega)), congrArg (fun i : Int => some (AV.s (sU i), ([] : Mem), (2 : Nat))) (by exact wrap_u64 (by omega) (by omega)), by (apply put_c <;> first | with_reducible rfl | omega), congrArg (fun i : Int => some (AV.s (sU i), ([] : Mem), (2 : Nat))) (by exact wrap_u64 (by omega) (by omega)), by (apply put_nil_call <;> first | with_reducible rfl | omega), congrArg (fun i : Int => some (AV.s (sU i), ([] : Mem), (2 : Nat))) (by exact wrap_u64 (by omega) (by omega)), (Eq.mp (congrArg (fun z => CD B _ _ _ _ (AV.s (SV.bool z)) _ _) (show (rightZ (Zn.mk k r n a b s t)) = true from by assumption)) (show CD B 9 [AV.agg [sI k, sI r, sI n, sI a, sI b, SV.str s, SV.str t]] [] 1 (AV.s (SV.bool (rightZ (Zn.mk k r n a b s t)))) ([] ++ []) 1 from by (apply right_call))), trivial⟩
theorem encT_1 {B : Nat} (k r n a b : Int) (s t : ByteArray) (hk : k = 1 ∨ k = 2) (hr : 0 ≤ r ∧ r ≤ 1048576) (hn : 0 ≤ n ∧ n ≤ 1048576) (l1 : (vput k).length ≤ 10) (l2 : (vput r).length ≤ 10) (l3 : (vput n).length ≤ 10) (hR : rightZ ⟨k, r, n, a, b, s, t⟩ = true) (hE : ¬ r = n) (h1 : ¬ k = 1) (hs : s.size ≤ 40) (ht : t.size ≤ 40) (l4 : (vput (s.size : Int)).length ≤ 10)  : CodeDoes Try.prog B (Try.f8.body.getD .skip) ⟨⟨51, [(0, .agg [.int .i64 k, .int .i64 r, .int .i64 n, .int .i64 a, .int .i64 b, .str s, .str t])]⟩, [], 0⟩ Ex.ret ⟨⟨51, [(2, AV.s (SV.slv (List.length (vput k ++ vput r ++ vput n ++ vput (↑(ByteArray.size s) : Int) ++ bytesOf s ++ vput (↑(ByteArray.size t) : Int) ++ bytesOf t)) none 1 (flat bc (vput k ++ vput r ++ vput n ++ vput (↑(ByteArray.size s) : Int) ++ bytesOf s ++ vput (↑(ByteArray.size t) : Int) ++ bytesOf t)))), (3, AV.s (SV.int IntKind.i64 0))]⟩, [], 2⟩ :=
  goA_ok mix (tape := [(4, aC (AV.s (SV.bool true)) 1), (16, Ans.rounds 4), (23, Ans.mem (AV.s (sU k)) [] 2), (24, aC (AV.s (vB (vput k))) 2), (34, Ans.mem (AV.s (sU r)) [] 2), (35, aC (AV.s (vB (vput k ++ vput r))) 2), (45, Ans.mem (AV.s (sU n)) [] 2), (46, aC (AV.s (vB (vput k ++ vput r ++ vput n))) 2), (52, aC (AV.s (SV.bool false)) 2), (56, aF), (61, Ans.call [] (AV.s (vB (vput k ++ vput r ++ vput n ++ vput (↑(ByteArray.size s) : Int) ++ bytesOf s))) [] 2), (64, Ans.call [] (AV.s (vB (vput k ++ vput r ++ vput n ++ vput (↑(ByteArray.size s) : Int) ++ bytesOf s ++ vput (↑(ByteArray.size t) : Int) ++ bytesOf t))) [] 2)]) (dl := [2, 3]) (nl := []) (C := [(CD B 23 [AV.s (vB (vput k ++ vput r ++ vput n ++ vput (↑(ByteArray.size s) : Int) ++ bytesOf s)), AV.s (SV.str t)] [] 2 (AV.s (vB (vput k ++ vput r ++ vput n ++ vput (↑(ByteArray.size s) : Int) ++ bytesOf s ++ vput (↑(ByteArray.size t) : Int) ++ bytesOf t))) ([] ++ []) 2), (CD B 23 [AV.s (vB (vput k ++ vput r ++ vput n)), AV.s (SV.str s)] [] 2 (AV.s (vB (vput k ++ vput r ++ vput n ++ vput (↑(ByteArray.size s) : Int) ++ bytesOf s))) ([] ++ []) 2), (IsF (k == 1)), (CD B 21 [AV.agg [sI k, sI r, sI n, sI a, sI b, SV.str s, SV.str t]] [] 2 (AV.s (SV.bool false)) ([] ++ []) 2), (CD B 20 [AV.s (vB (vput k ++ vput r)), AV.s (sU n)] [] 2 (AV.s (vB (vput k ++ vput r ++ vput n))) ([] ++ []) 2), (some (AV.s (sU (wU n)), ([] : Mem), (2 : Nat)) = some (AV.s (sU n), ([] : Mem), (2 : Nat))), (CD B 20 [AV.s (vB (vput k)), AV.s (sU r)] [] 2 (AV.s (vB (vput k ++ vput r))) ([] ++ []) 2), (some (AV.s (sU (wU r)), ([] : Mem), (2 : Nat)) = some (AV.s (sU r), ([] : Mem), (2 : Nat))), (CD B 20 [AV.s SV.sl0, AV.s (sU k)] [] 2 (AV.s (vB (vput k))) ([] ++ []) 2), (some (AV.s (sU (wU k)), ([] : Mem), (2 : Nat)) = some (AV.s (sU k), ([] : Mem), (2 : Nat))), (CD B 9 [AV.agg [sI k, sI r, sI n, sI a, sI b, SV.str s, SV.str t]] [] 1 (AV.s (SV.bool true)) ([] ++ []) 1)]) (by kernel_rfl) ⟨by (apply text_call <;> first | with_reducible rfl | omega | (simp; omega)), by (apply text_call <;> first | with_reducible rfl | omega | (simp; omega)), cF (by first | assumption | omega), (Eq.mp (congrArg (fun z => CD B _ _ _ _ (AV.s (SV.bool z)) _ _) (show (r == n) = false from by exact decide_eq_false (by first | assumption | omega))) (show CD B 21 [AV.agg [sI k, sI r, sI n, sI a, sI b, SV.str s, SV.str t]] [] 2 (AV.s (SV.bool (r == n))) ([] ++ []) 2 from by (apply none_call))), by (apply put_c <;> first | with_reducible rfl | omega | (simp; omega)), congrArg (fun i : Int => some (AV.s (sU i), ([] : Mem), (2 : Nat))) (by exact wrap_u64 (by omega) (by omega)), by (apply put_c <;> first | with_reducible rfl | omega), congrArg (fun i : Int => some (AV.s (sU i), ([] : Mem), (2 : Nat))) (by exact wrap_u64 (by omega) (by omega)), by (apply put_nil_call <;> first | with_reducible rfl | omega), congrArg (fun i : Int => some (AV.s (sU i), ([] : Mem), (2 : Nat))) (by exact wrap_u64 (by omega) (by omega)), (Eq.mp (congrArg (fun z => CD B _ _ _ _ (AV.s (SV.bool z)) _ _) (show (rightZ (Zn.mk k r n a b s t)) = true from by assumption)) (show CD B 9 [AV.agg [sI k, sI r, sI n, sI a, sI b, SV.str s, SV.str t]] [] 1 (AV.s (SV.bool (rightZ (Zn.mk k r n a b s t)))) ([] ++ []) 1 from by (apply right_call))), trivial⟩

/-- What Right tells of a zone. -/
structure RightZ (z : Zn) : Prop where
  kind : z.kind = 1 ∨ z.kind = 2
  n0 : 0 ≤ z.nulls
  nr : z.nulls ≤ z.rows
  r1 : z.rows ≤ 1048576
  s : z.minS.size ≤ 40
  t : z.maxS.size ≤ 40
  e : z.rows = z.nulls → z.minN = 0 ∧ z.maxN = 0 ∧ z.minS.data.toList = [] ∧ z.maxS.data.toList = []
  i : ¬ z.rows = z.nulls → z.kind = 1 → z.minS.data.toList = [] ∧ z.maxS.data.toList = []
  x : ¬ z.rows = z.nulls → ¬ z.kind = 1 → z.minN = 0 ∧ z.maxN = 0
theorem rightZ_ok {z : Zn} (h : rightZ z = true) : RightZ z := by
  unfold rightZ at h
  split at h
  · cases h
  · split at h
    · cases h
    · split at h
      · cases h
      · refine ⟨by omega, by omega, by omega, by omega, by omega, by omega, fun he => ?_, fun he hk => ?_, fun he hk => ?_⟩
        · rw [if_pos he] at h
          simpa [and_assoc] using h
        · rw [if_neg he, if_pos hk] at h
          simp at h
          simp only [h.1.2, h.2, and_self]
        · rw [if_neg he, if_neg hk] at h
          simp at h
          exact ⟨h.1.2, h.2⟩
abbrev In64 (a : Int) : Prop := -9223372036854775808 ≤ a ∧ a ≤ 9223372036854775807
def encR (z : Zn) : AV := .tup [(false, [.slv (encZ z).length none 1 (flat bc (encZ z))]), (false, [.int .i64 0])]
theorem enc_does (z : Zn) (hR : rightZ z = true) (ha : In64 z.minN) (hb : In64 z.maxN) : ValDoes Try.prog 8 [.agg z.cv] (encR z) := by
  have q := rightZ_ok hR
  have a1 := q.n0
  have a2 := q.nr
  have a3 := q.r1
  unfold encR encZ
  by_cases hE : z.rows = z.nulls
  · rw [if_pos hE]
    exact ValDoes.of_code Try.func8 (by kernel_rfl) (by kernel_rfl) (k := 51) (by kernel_rfl) (fun B => ⟨_, _, .inr rfl, encN_1 z.kind z.rows z.nulls z.minN z.maxN z.minS z.maxS q.kind (by omega) (by omega) (vput_len _).2 (vput_len _).2 (vput_len _).2 hR hE, by kernel_rfl⟩) (by kernel_rfl) (List.all_eq_true.1 (by kernel_rfl))
  · rw [if_neg hE]
    by_cases h1 : z.kind = 1
    · rw [if_pos h1]
      exact ValDoes.of_code Try.func8 (by kernel_rfl) (by kernel_rfl) (k := 51) (by kernel_rfl) (fun B => ⟨_, _, .inr rfl, encI_1 z.kind z.rows z.nulls z.minN z.maxN z.minS z.maxS q.kind (by omega) (by omega) (vput_len _).2 (vput_len _).2 (vput_len _).2 hR hE h1 ha hb (vput_len _).2 (zigI_range ha) (zigI_range hb), by kernel_rfl⟩) (by kernel_rfl) (List.all_eq_true.1 (by kernel_rfl))
    · rw [if_neg h1]
      exact ValDoes.of_code Try.func8 (by kernel_rfl) (by kernel_rfl) (k := 51) (by kernel_rfl) (fun B => ⟨_, _, .inr rfl, encT_1 z.kind z.rows z.nulls z.minN z.maxN z.minS z.maxS q.kind (by omega) (by omega) (vput_len _).2 (vput_len _).2 (vput_len _).2 hR hE h1 q.s q.t (vput_len _).2, by kernel_rfl⟩) (by kernel_rfl) (List.all_eq_true.1 (by kernel_rfl))
theorem enc_bad (z : Zn) (hR : rightZ z = false) : ValDoes Try.prog 8 [.agg z.cv] (.tup [(false, [.sl0]), (false, [.int .i64 12])]) :=
  ValDoes.of_code Try.func8 (by kernel_rfl) (by kernel_rfl) (k := 51) (by kernel_rfl) (fun B => ⟨_, _, .inr rfl, encF_1 z.kind z.rows z.nulls z.minN z.maxN z.minS z.maxS hR, by kernel_rfl⟩) (by kernel_rfl) (List.all_eq_true.1 (by kernel_rfl))
end Go.Proofs.Ytojleakknchfdaa.V
