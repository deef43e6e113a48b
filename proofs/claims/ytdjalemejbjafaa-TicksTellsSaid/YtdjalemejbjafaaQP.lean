/- Chapter 1 as the document has it. Printed by gen_qp.py. -/
import Derived.Test.YtdjalemejbjafaaKA
import Derived.Test.YtdjalemejbjafaaProg
import Derived.KernelRfl
namespace Go.Proofs.Ytdjalemejbjafaa.V
open Go Go.RowKit Go.Proofs Go.Proofs.Ytdjalemejbjafaa.Eng Go.Proofs.Ytdjalemejbjafaa.VPl
set_option maxRecDepth 100000
set_option linter.unusedVariables false
set_option linter.unusedSimpArgs false
attribute [local irreducible] Eng.evAppend Eng.evSlice Eng.less CallDoes Eng.loadG Eng.evIndexAddr Eng.evBin
theorem rpF_1 {B : Nat} (L : List Int) (n : Int)  : CodeDoes Try.prog B (Lf (Try.f22.body.getD .skip)) ⟨⟨25, [(0, .s (.slv L.length none 1 (flat bc L))), (1, .s (.int .u64 n))]⟩, [], 0⟩ Ex.normal ⟨⟨25, [(0, AV.s (SV.slv (List.length L) none 1 (flat bc L))), (1, AV.s (SV.int IntKind.u64 n))]⟩, [], 0⟩ :=
  goA_ok mix (tape := []) (dl := [0, 1]) (nl := []) (C := []) (by kernel_rfl) trivial
theorem rp0_1 {B : Nat} (L : List Int) (n : Int) (hL : L.length ≤ 140737488353000)  : CodeDoes Try.prog B (Lf (Rt (Try.f22.body.getD .skip))) ⟨⟨25, [(0, .s (.slv L.length none 1 (flat bc L))), (1, .s (.int .u64 n))]⟩, [], 0⟩ Ex.normal ⟨⟨25, [(1, AV.s (SV.int IntKind.u64 n)), (5, AV.s (SV.sl 1 0 (List.length L) none 1))]⟩, [(1, some (Blk.mk (flat bc L) true))], 2⟩ :=
  goA_ok mix (tape := [(2, Ans.mem (AV.s (SV.sl 1 0 (List.length L) none 1)) [(1, some (Blk.mk (flat bc L) true)), (0, none)] 2)]) (dl := [1, 5]) (nl := [1]) (C := [((less 1 (evAppend Try.prog 25 25 (AV.s (SV.sl 0 0 0 none 1)) (AV.s (vB L)) [(0, some (Blk.mk [] true))] 1)) = some (AV.s (SV.sl 1 0 (List.length L) none 1), [(1, some (Blk.mk (flat bc L) true)), (0, none)], 2))]) (by kernel_rfl) ⟨by (apply appB0 <;> first | rfl | omega), trivial⟩
theorem rpR_1 {B : Nat} (L : List Int) (n : Int) (hL : L.length ≤ 140737488355000) (h0 : 0 ≤ n) (h_1 : n ≥ 128) : CodeDoes Try.prog B (Lf (Lf (Lf (Rt (Rt (Try.f22.body.getD .skip)))))) ⟨⟨25, [(1, .s (.int .u64 n)), (5, .s (.sl 0 0 L.length none 1))]⟩, [(0, some ⟨flat bc L, true⟩)], 1⟩ Ex.normal ⟨⟨25, [(1, AV.s (SV.int IntKind.u64 (IntKind.wrap IntKind.u64 (Int.tdiv n 128)))), (5, AV.s (SV.sl 2 0 (List.length L + 1) none 1))]⟩, [(2, some (Blk.mk (flat bc (L ++ [IntKind.wrap IntKind.u8 (IntKind.wrap IntKind.u8 (Int.tmod n 128) + 128)])) true))], 3⟩ :=
  goA_ok mix (tape := [(1, aT), (8, Ans.mem (AV.s (SV.sl 2 0 (List.length L + 1) none 1)) [(2, some (Blk.mk (flat bc (L ++ [IntKind.wrap IntKind.u8 (IntKind.wrap IntKind.u8 (Int.tmod n 128) + 128)])) true)), (0, none)] 3)]) (dl := [1, 5]) (nl := [2]) (C := [((less 2 (evAppend Try.prog 25 25 (AV.s (SV.sl 0 0 (List.length L) none 1)) (AV.s (SV.sl 1 0 1 none 1)) [(0, some (Blk.mk (flat bc L) true)), (1, some (Blk.mk [sB (IntKind.wrap IntKind.u8 (IntKind.wrap IntKind.u8 (Int.tmod n 128) + 128))] true))] 2)) = some (AV.s (SV.sl 2 0 (List.length L + 1) none 1), [(2, some (Blk.mk (flat bc (L ++ [IntKind.wrap IntKind.u8 (IntKind.wrap IntKind.u8 (Int.tmod n 128) + 128)])) true)), (0, none)], 3)), (IsT (decide (n ≥ 128)))]) (by kernel_rfl) ⟨by (apply appB1 <;> first | rfl | omega), cT (by first | assumption | omega), trivial⟩
theorem rpR_2 {B : Nat} (L : List Int) (n : Int) (hL : L.length ≤ 140737488355000) (h0 : 0 ≤ n) (h_1 : ¬ (n ≥ 128)) : CodeDoes Try.prog B (Lf (Lf (Lf (Rt (Rt (Try.f22.body.getD .skip)))))) ⟨⟨25, [(1, .s (.int .u64 n)), (5, .s (.sl 0 0 L.length none 1))]⟩, [(0, some ⟨flat bc L, true⟩)], 1⟩ (Ex.exit 0) ⟨⟨25, [(1, AV.s (SV.int IntKind.u64 n)), (5, AV.s (SV.sl 0 0 (List.length L) none 1))]⟩, [(0, some (Blk.mk (flat bc L) true))], 1⟩ :=
  goA_ok mix (tape := [(1, aF)]) (dl := [1, 5]) (nl := [0]) (C := [(IsF (decide (n ≥ 128)))]) (by kernel_rfl) ⟨cF (by first | assumption | omega), trivial⟩
theorem rpE_1 {B : Nat} (L : List Int) (n : Int) (hL : L.length ≤ 140737488355000) (h0 : 0 ≤ n)  : CodeDoes Try.prog B (Rt (Rt (Rt (Try.f22.body.getD .skip)))) ⟨⟨25, [(1, .s (.int .u64 n)), (5, .s (.sl 0 0 L.length none 1))]⟩, [(0, some ⟨flat bc L, true⟩)], 1⟩ Ex.ret ⟨⟨25, [(4, AV.s (SV.sl 2 0 (List.length L + 1) none 1))]⟩, [(2, some (Blk.mk (flat bc (L ++ [IntKind.wrap IntKind.u8 n])) true))], 3⟩ :=
  goA_ok mix (tape := [(4, Ans.mem (AV.s (SV.sl 2 0 (List.length L + 1) none 1)) [(2, some (Blk.mk (flat bc (L ++ [IntKind.wrap IntKind.u8 n])) true)), (0, none)] 3)]) (dl := [4]) (nl := [2]) (C := [((less 2 (evAppend Try.prog 25 25 (AV.s (SV.sl 0 0 (List.length L) none 1)) (AV.s (SV.sl 1 0 1 none 1)) [(0, some (Blk.mk (flat bc L) true)), (1, some (Blk.mk [sB (IntKind.wrap IntKind.u8 n)] true))] 2)) = some (AV.s (SV.sl 2 0 (List.length L + 1) none 1), [(2, some (Blk.mk (flat bc (L ++ [IntKind.wrap IntKind.u8 n])) true)), (0, none)], 3))]) (by kernel_rfl) ⟨by (apply appB1 <;> first | rfl | omega), trivial⟩
theorem rzig_1 {B : Nat} (n : Int) (h : -9223372036854775808 ≤ n ∧ n ≤ 9223372036854775807) (h_1 : n < 0) : CodeDoes Try.prog B (Try.f23.body.getD .skip) ⟨⟨14, [(0, .s (.int .i64 n))]⟩, [], 0⟩ Ex.ret ⟨⟨14, [(2, AV.s (SV.int IntKind.u64 (2 * (0 - (n + 1)) + 1)))]⟩, [], 0⟩ :=
  goA_ok mix (tape := [(2, aT), (4, Ans.val (AV.s (sI (n + 1)))), (5, Ans.val (AV.s (sI (0 - (n + 1))))), (6, Ans.mem (AV.s (sU (0 - (n + 1)))) [] 0), (7, Ans.val (AV.s (sU (2 * (0 - (n + 1)))))), (8, Ans.val (AV.s (sU (2 * (0 - (n + 1)) + 1))))]) (dl := [2]) (nl := []) (C := [(some (AV.s (sU (wU (2 * (0 - (n + 1)) + 1)))) = some (AV.s (sU (2 * (0 - (n + 1)) + 1)))), (some (AV.s (sU (wU (2 * (0 - (n + 1)))))) = some (AV.s (sU (2 * (0 - (n + 1)))))), (some (AV.s (sU (wU (0 - (n + 1)))), ([] : Mem), (0 : Nat)) = some (AV.s (sU (0 - (n + 1))), ([] : Mem), (0 : Nat))), (some (AV.s (sI (wI (0 - (n + 1))))) = some (AV.s (sI (0 - (n + 1))))), (some (AV.s (sI (wI (n + 1)))) = some (AV.s (sI (n + 1)))), (IsT (decide (n < 0)))]) (by kernel_rfl) ⟨claim_i (by exact wrap_u64 (by omega) (by omega)), claim_i (by exact wrap_u64 (by omega) (by omega)), congrArg (fun i : Int => some (AV.s (sU i), ([] : Mem), (0 : Nat))) (by exact wrap_u64 (by omega) (by omega)), claim_i (by exact wrap_i64 (by omega) (by omega)), claim_i (by exact wrap_i64 (by omega) (by omega)), cT (by first | assumption | omega), trivial⟩
theorem rzig_2 {B : Nat} (n : Int) (h : -9223372036854775808 ≤ n ∧ n ≤ 9223372036854775807) (h_1 : ¬ (n < 0)) : CodeDoes Try.prog B (Try.f23.body.getD .skip) ⟨⟨14, [(0, .s (.int .i64 n))]⟩, [], 0⟩ Ex.ret ⟨⟨14, [(2, AV.s (SV.int IntKind.u64 (2 * n)))]⟩, [], 0⟩ :=
  goA_ok mix (tape := [(2, aF), (4, Ans.mem (AV.s (sU n)) [] 0), (5, Ans.val (AV.s (sU (2 * n))))]) (dl := [2]) (nl := []) (C := [(some (AV.s (sU (wU (2 * n)))) = some (AV.s (sU (2 * n)))), (some (AV.s (sU (wU n)), ([] : Mem), (0 : Nat)) = some (AV.s (sU n), ([] : Mem), (0 : Nat))), (IsF (decide (n < 0)))]) (by kernel_rfl) ⟨claim_i (by exact wrap_u64 (by omega) (by omega)), congrArg (fun i : Int => some (AV.s (sU i), ([] : Mem), (0 : Nat))) (by exact wrap_u64 (by omega) (by omega)), cF (by first | assumption | omega), trivial⟩
theorem rzag_1 {B : Nat} (n : Int) (h : 0 ≤ n ∧ n ≤ 18446744073709551615) (h_1 : Int.tmod n 2 = 1) : CodeDoes Try.prog B (Try.f30.body.getD .skip) ⟨⟨14, [(0, .s (.int .u64 n))]⟩, [], 0⟩ Ex.ret ⟨⟨14, [(2, AV.s (SV.int IntKind.i64 (IntKind.wrap IntKind.i64 (IntKind.wrap IntKind.i64 (0 - IntKind.wrap IntKind.i64 (IntKind.wrap IntKind.u64 (Int.tdiv n 2))) - 1))))]⟩, [], 0⟩ :=
  goA_ok mix (tape := [(3, aT)]) (dl := [2]) (nl := []) (C := [(IsT (Int.tmod n 2 == 1))]) (by kernel_rfl) ⟨cT (by first | assumption | omega), trivial⟩
theorem rzag_2 {B : Nat} (n : Int) (h : 0 ≤ n ∧ n ≤ 18446744073709551615) (h_1 : ¬ (Int.tmod n 2 = 1)) : CodeDoes Try.prog B (Try.f30.body.getD .skip) ⟨⟨14, [(0, .s (.int .u64 n))]⟩, [], 0⟩ Ex.ret ⟨⟨14, [(2, AV.s (SV.int IntKind.i64 (IntKind.wrap IntKind.i64 (IntKind.wrap IntKind.u64 (Int.tdiv n 2)))))]⟩, [], 0⟩ :=
  goA_ok mix (tape := [(3, aF)]) (dl := [2]) (nl := []) (C := [(IsF (Int.tmod n 2 == 1))]) (by kernel_rfl) ⟨cF (by first | assumption | omega), trivial⟩
theorem rgA_1 {B : Nat} (L : List Int) (a : Int) (k : Nat) (hL : L.length ≤ 140737488353000) (hk : k ≤ L.length) (h_1 : (↑k : Int) < (↑(List.length L) : Int)) (h_2 : List.getD L k 0 ≥ 128) : CodeDoes Try.prog B (Lf (Lf (Lf (Rt (Rt (Rt (Try.f28.body.getD .skip))))))) ⟨⟨87, [(0, .s (.slv L.length none 1 (flat bc L))), (1, .s (.int .i64 a)), (7, .s (.int .i64 (k : Int)))]⟩, [], 0⟩ Ex.normal ⟨⟨87, [(0, AV.s (SV.slv (List.length L) none 1 (flat bc L))), (1, AV.s (SV.int IntKind.i64 a)), (7, AV.s (SV.int IntKind.i64 ((↑k : Int) + 1)))]⟩, [], 0⟩ :=
  goA_ok mix (tape := [(3, aT), (7, Ans.val (AV.s (SV.ptv (bc (List.getD L k 0))))), (9, aT), (12, Ans.val (AV.s (sI ((↑k : Int) + 1))))]) (dl := [0, 1, 7]) (nl := []) (C := [(some (AV.s (sI (wI ((↑k : Int) + 1)))) = some (AV.s (sI ((↑k : Int) + 1)))), (IsT (decide (List.getD L k 0 ≥ 128))), ((evIndexAddr Try.prog 25 (AV.s (vB L)) (AV.s (sI (↑k : Int)))) = some (AV.s (SV.ptv (bc (List.getD L k 0))))), (IsT (decide ((↑k : Int) < (↑(List.length L) : Int))))]) (by kernel_rfl) ⟨claim_i (by exact wrap_i64 (by omega) (by omega)), cT (by first | assumption | omega), by (apply ixB <;> first | rfl | omega), cT (by first | assumption | omega), trivial⟩
theorem rgA_2 {B : Nat} (L : List Int) (a : Int) (k : Nat) (hL : L.length ≤ 140737488353000) (hk : k ≤ L.length) (h_1 : (↑k : Int) < (↑(List.length L) : Int)) (h_2 : ¬ (List.getD L k 0 ≥ 128)) : CodeDoes Try.prog B (Lf (Lf (Lf (Rt (Rt (Rt (Try.f28.body.getD .skip))))))) ⟨⟨87, [(0, .s (.slv L.length none 1 (flat bc L))), (1, .s (.int .i64 a)), (7, .s (.int .i64 (k : Int)))]⟩, [], 0⟩ (Ex.exit 0) ⟨⟨87, [(0, AV.s (SV.slv (List.length L) none 1 (flat bc L))), (1, AV.s (SV.int IntKind.i64 a)), (7, AV.s (SV.int IntKind.i64 (↑k : Int)))]⟩, [], 0⟩ :=
  goA_ok mix (tape := [(3, aT), (7, Ans.val (AV.s (SV.ptv (bc (List.getD L k 0))))), (9, aF)]) (dl := [0, 1, 7]) (nl := []) (C := [(IsF (decide (List.getD L k 0 ≥ 128))), ((evIndexAddr Try.prog 25 (AV.s (vB L)) (AV.s (sI (↑k : Int)))) = some (AV.s (SV.ptv (bc (List.getD L k 0))))), (IsT (decide ((↑k : Int) < (↑(List.length L) : Int))))]) (by kernel_rfl) ⟨cF (by first | assumption | omega), by (apply ixB <;> first | rfl | omega), cT (by first | assumption | omega), trivial⟩
theorem rgA_3 {B : Nat} (L : List Int) (a : Int) (k : Nat) (hL : L.length ≤ 140737488353000) (hk : k ≤ L.length) (h_1 : ¬ ((↑k : Int) < (↑(List.length L) : Int))) : CodeDoes Try.prog B (Lf (Lf (Lf (Rt (Rt (Rt (Try.f28.body.getD .skip))))))) ⟨⟨87, [(0, .s (.slv L.length none 1 (flat bc L))), (1, .s (.int .i64 a)), (7, .s (.int .i64 (k : Int)))]⟩, [], 0⟩ (Ex.exit 0) ⟨⟨87, [(0, AV.s (SV.slv (List.length L) none 1 (flat bc L))), (1, AV.s (SV.int IntKind.i64 a)), (7, AV.s (SV.int IntKind.i64 (↑k : Int)))]⟩, [], 0⟩ :=
  goA_ok mix (tape := [(3, aF)]) (dl := [0, 1, 7]) (nl := []) (C := [(IsF (decide ((↑k : Int) < (↑(List.length L) : Int))))]) (by kernel_rfl) ⟨cF (by first | assumption | omega), trivial⟩
theorem rgB_1 {B : Nat} (L : List Int) (a sz acc z : Int) (k j : Nat) (hL : L.length ≤ 140737488353000) (ha : 0 ≤ a) (hsz : sz ≤ 10) (hj : a + (k : Int) = (j : Int)) (hj2 : k < sz → j < L.length) (h_1 : (↑k : Int) < sz) : CodeDoes Try.prog B (Lf (Lf (Rt (Lf (Rt (Rt (Rt (Rt (Rt (Rt (Rt (Rt (Try.f28.body.getD .skip))))))))))))) ⟨⟨87, [(0, .s (.slv L.length none 1 (flat bc L))), (1, .s (.int .i64 a)), (7, .s (.int .i64 z)), (8, .s (.int .i64 sz)), (9, .s (.int .u64 acc)), (10, .s (.int .i64 (k : Int)))]⟩, [], 0⟩ Ex.normal ⟨⟨87, [(0, AV.s (SV.slv (List.length L) none 1 (flat bc L))), (1, AV.s (SV.int IntKind.i64 a)), (7, AV.s (SV.int IntKind.i64 z)), (8, AV.s (SV.int IntKind.i64 sz)), (9, AV.s (SV.int IntKind.u64 (IntKind.wrap IntKind.u64 (↑(BitVec.toNat (BitVec.ofInt (IntKind.bits IntKind.u64) acc ||| BitVec.ofInt (IntKind.bits IntKind.u64) (IntKind.wrap IntKind.u64 (IntKind.wrap IntKind.u64 (IntKind.wrap IntKind.u8 (↑(BitVec.toNat (BitVec.ofInt (IntKind.bits IntKind.u8) (List.getD L j 0) &&& BitVec.ofInt (IntKind.bits IntKind.u8) 127)) : Int)) * 2 ^ min (Int.toNat (7 * (↑k : Int))) (IntKind.bits IntKind.u64))))) : Int)))), (10, AV.s (SV.int IntKind.i64 ((↑k : Int) + 1)))]⟩, [], 0⟩ :=
  goA_ok mix (tape := [(2, aT), (7, Ans.val (AV.s (sI (a + (↑k : Int))))), (8, Ans.val (AV.s (SV.ptv (bc (List.getD L j 0))))), (13, Ans.val (AV.s (sI (7 * (↑k : Int))))), (14, Ans.mem (AV.s (sU (7 * (↑k : Int)))) [] 0), (19, Ans.val (AV.s (sI ((↑k : Int) + 1))))]) (dl := [0, 1, 7, 8, 9, 10]) (nl := []) (C := [(some (AV.s (sI (wI ((↑k : Int) + 1)))) = some (AV.s (sI ((↑k : Int) + 1)))), (some (AV.s (sU (wU (7 * (↑k : Int)))), ([] : Mem), (0 : Nat)) = some (AV.s (sU (7 * (↑k : Int))), ([] : Mem), (0 : Nat))), (some (AV.s (sI (wI (7 * (↑k : Int))))) = some (AV.s (sI (7 * (↑k : Int))))), ((evIndexAddr Try.prog 25 (AV.s (vB L)) (AV.s (sI (a + (↑k : Int))))) = some (AV.s (SV.ptv (bc (List.getD L j 0))))), (some (AV.s (sI (wI (a + (↑k : Int))))) = some (AV.s (sI (a + (↑k : Int))))), (IsT (decide ((↑k : Int) < sz)))]) (by kernel_rfl) ⟨claim_i (by exact wrap_i64 (by omega) (by omega)), congrArg (fun i : Int => some (AV.s (sU i), ([] : Mem), (0 : Nat))) (by exact wrap_u64 (by omega) (by omega)), claim_i (by exact wrap_i64 (by omega) (by omega)), by (apply ixB <;> first | assumption | rfl | omega), claim_i (by exact wrap_i64 (by omega) (by omega)), cT (by first | assumption | omega), trivial⟩
theorem rgB_2 {B : Nat} (L : List Int) (a sz acc z : Int) (k j : Nat) (hL : L.length ≤ 140737488353000) (ha : 0 ≤ a) (hsz : sz ≤ 10) (hj : a + (k : Int) = (j : Int)) (hj2 : k < sz → j < L.length) (h_1 : ¬ ((↑k : Int) < sz)) : CodeDoes Try.prog B (Lf (Lf (Rt (Lf (Rt (Rt (Rt (Rt (Rt (Rt (Rt (Rt (Try.f28.body.getD .skip))))))))))))) ⟨⟨87, [(0, .s (.slv L.length none 1 (flat bc L))), (1, .s (.int .i64 a)), (7, .s (.int .i64 z)), (8, .s (.int .i64 sz)), (9, .s (.int .u64 acc)), (10, .s (.int .i64 (k : Int)))]⟩, [], 0⟩ (Ex.exit 2) ⟨⟨87, [(0, AV.s (SV.slv (List.length L) none 1 (flat bc L))), (1, AV.s (SV.int IntKind.i64 a)), (7, AV.s (SV.int IntKind.i64 z)), (8, AV.s (SV.int IntKind.i64 sz)), (9, AV.s (SV.int IntKind.u64 acc)), (10, AV.s (SV.int IntKind.i64 (↑k : Int)))]⟩, [], 0⟩ :=
  goA_ok mix (tape := [(2, aF)]) (dl := [0, 1, 7, 8, 9, 10]) (nl := []) (C := [(IsF (decide ((↑k : Int) < sz)))]) (by kernel_rfl) ⟨cF (by first | assumption | omega), trivial⟩

theorem rq7 {x : Int} (h0 : 0 ≤ x) (h : x ≤ 18446744073709551615) : IntKind.wrap .u64 (Int.tdiv x 128) = x / 128 := by
  rw [wrap64', Int.tdiv_eq_ediv_of_nonneg h0]
  omega
theorem rq128 {x : Int} (h0 : 0 ≤ x) : IntKind.wrap .u8 (IntKind.wrap .u8 (Int.tmod x 128) + 128) = x % 128 + 128 := by
  rw [wrap8, wrap8, Int.tmod_eq_emod_of_nonneg h0]
  omega

theorem rput_round {B : Nat} (L : List Int) (x : Int) (n c : Nat) (hn : n < c) (hL : L.length ≤ 140737488355000) (h0 : 0 ≤ x) (h2 : x ≤ 18446744073709551615) (h1 : x > 127) : CodeDoes Try.prog B (Lf (Lf (Lf (Rt (Rt (Try.f22.body.getD .skip)))))) ⟨⟨25, [(1, .s (.int .u64 x)), (5, .s (.sl n 0 L.length none 1))]⟩, [(n, some ⟨flat bc L, true⟩)], c⟩ .normal
    ⟨⟨25, [(1, .s (.int .u64 (x / 128))), (5, .s (.sl c 0 (L ++ [x % 128 + 128]).length none 1))]⟩, [(c, some ⟨flat bc (L ++ [x % 128 + 128]), true⟩)], c + 1⟩ := by
  have h := rpR_1 (B := B) L x hL h0 (by omega)
  rw [rq7 h0 h2, rq128 h0] at h
  have h := (h).lift (fun k => if k = 0 then n else c) [0, 2] (c := c) (c' := c + 1) ⟨by simp; omega, by simp; omega, by simp, by omega⟩ (by simp [avNames, svNames]) (by simp [bc_blk]) (by simp [avNames, svNames]) (by simp [bc_blk])
  have e : (L ++ [x % 128 + 128]).length = L.length + 1 := by simp
  rw [e]
  exact h
/-- The loop: what is left is put behind, seven bits a byte; the last are left over. -/
theorem rput_loop {B : Nat} : ∀ (f : Nat) (L : List Int) (x : Int) (n c : Nat), n < c → L.length + f ≤ 140737488355000 → 0 ≤ x → x < 128 ^ (f + 1) → x ≤ 18446744073709551615 → ∃ (y : Int) (M : List Int) (n' c' : Nat), n' < c' ∧ c ≤ c' ∧ (n' = n ∨ c ≤ n') ∧ 0 ≤ y ∧ y ≤ 127 ∧ M.length ≤ L.length + f ∧ M ++ [y] = L ++ vputF f x.toNat ∧
    LoopDoes Try.prog B (Lf (Lf (Lf (Rt (Rt (Try.f22.body.getD .skip)))))) ⟨⟨25, [(1, .s (.int .u64 x)), (5, .s (.sl n 0 L.length none 1))]⟩, [(n, some ⟨flat bc L, true⟩)], c⟩ (.exit 0) ⟨⟨25, [(1, .s (.int .u64 y)), (5, .s (.sl n' 0 M.length none 1))]⟩, [(n', some ⟨flat bc M, true⟩)], c'⟩ := by
  have stop : ∀ (L : List Int) (x : Int) (n c : Nat), n < c → L.length ≤ 140737488355000 → 0 ≤ x → ¬ (x > 127) → LoopDoes Try.prog B (Lf (Lf (Lf (Rt (Rt (Try.f22.body.getD .skip)))))) ⟨⟨25, [(1, .s (.int .u64 x)), (5, .s (.sl n 0 L.length none 1))]⟩, [(n, some ⟨flat bc L, true⟩)], c⟩ (.exit 0) ⟨⟨25, [(1, .s (.int .u64 x)), (5, .s (.sl n 0 L.length none 1))]⟩, [(n, some ⟨flat bc L, true⟩)], c⟩ := by
    intro L x n c hn hL h0 h1
    have h := rpR_2 (B := B) L x hL h0 (by omega)
    have h := (h).lift (fun _ => n) [0] (c := c) (c' := c) ⟨by simp, by simp; omega, by simp, by omega⟩ (by simp [avNames, svNames]) (by simp [bc_blk]) (by simp [avNames, svNames]) (by simp [bc_blk])
    exact LoopDoes.last h (by simp)
  intro f
  induction f with
  | zero =>
    intro L x n c hn hL h0 h1 hu
    refine ⟨x, L, n, c, hn, Nat.le_refl _, .inl rfl, h0, by omega, by omega, ?_, stop L x n c hn (by omega) h0 (by omega)⟩
    simp only [vputF]
    congr 2
    omega
  | succ f ih =>
    intro L x n c hn hL h0 h1 hu
    by_cases hx : x > 127
    · obtain ⟨y, M, n', c', g1, g2, g3, g4, g5, g6, g7, g8⟩ := ih (L ++ [x % 128 + 128]) (x / 128) c (c + 1) (by omega) (by simp; omega) (by omega) (by rw [Int.pow_succ] at h1; omega) (by omega)
      refine ⟨y, M, n', c', g1, by omega, by omega, g4, g5, by simp at g6; omega, ?_, LoopDoes.more (rput_round L x n c hn (by omega) h0 hu hx) g8⟩
      rw [g7]
      conv => rhs; unfold vputF
      rw [if_neg (by omega), List.append_assoc]
      congr 1
      rw [List.singleton_append]
      congr 1
      · omega
      · congr 1
        omega
    · refine ⟨x, L, n, c, hn, Nat.le_refl _, .inl rfl, h0, by omega, by omega, ?_, stop L x n c hn (by omega) h0 hx⟩
      unfold vputF
      rw [if_pos (by omega)]
      congr 2
      omega

theorem rput_norm {B : Nat} {code : Code} {s : St} {e : Ex} {k : Nat} {l : List (Nat × AV)} {m : Mem} {c : Nat} (h : CodeDoes Try.prog B code s e ⟨⟨k, l⟩, m, c⟩) {c' : Nat} (hc : c = c') : CodeDoes Try.prog B code s e ⟨⟨k, l⟩, m, c'⟩ := by subst hc; exact h
/-- Put, as its body goes. -/
theorem rput_body {B : Nat} (L : List Int) (n : Int) (hL : L.length ≤ 140737488350000) (h0 : 0 ≤ n) (h1 : n ≤ 18446744073709551615) : ∃ j c, j < c ∧ CodeDoes Try.prog B (Try.f22.body.getD .skip) ⟨⟨25, [(0, .s (.slv L.length none 1 (flat bc L))), (1, .s (.int .u64 n))]⟩, [], 0⟩ .ret
    ⟨⟨25, [(4, .s (.sl j 0 (L ++ vput n).length none 1))]⟩, [(j, some ⟨flat bc (L ++ vput n), true⟩)], c⟩ := by
  obtain ⟨y, M, n', c', g1, g2, g3, g4, g5, g6, g7, g8⟩ := rput_loop (B := B) 9 L n 1 2 (by omega) (by omega) h0 (Int.lt_of_le_of_lt h1 (by decide)) h1
  have hE := (rpE_1 (B := B) M y (by omega) g4).lift (fun k => if k = 0 then n' else c') [0, 2] (c := c') (c' := c' + 1) ⟨by simp; omega, by simp; omega, by simp, by omega⟩ (by simp [avNames, svNames]) (by simp [bc_blk]) (by simp [avNames, svNames]) (by simp [bc_blk])
  have ey : IntKind.wrap .u8 y = y := by rw [wrap8]; omega
  rw [ey, g7] at hE
  have el : (L ++ vputF 9 n.toNat).length = M.length + 1 := by rw [← g7]; simp
  refine ⟨c', c' + 1, by omega, ?_⟩
  show CodeDoes Try.prog B _ _ _ ⟨⟨25, [(4, .s (.sl c' 0 (L ++ vputF 9 n.toNat).length none 1))]⟩, [(c', some ⟨flat bc (L ++ vputF 9 n.toNat), true⟩)], c' + 1⟩
  rw [el]
  exact CodeDoes.seqAt (by kernel_rfl) (rpF_1 L n) (CodeDoes.seqAt (by kernel_rfl) (rp0_1 L n (by omega)) (CodeDoes.seqAt (by kernel_rfl) (CodeDoes.blockExitAt (id := 0) (by kernel_rfl) (CodeDoes.loopAt (by kernel_rfl) g8)) hE))
/-- Put: a row of its own. -/
theorem rput_new (L : List Int) (n : Int) (hL : L.length ≤ 140737488350000) (h0 : 0 ≤ n) (h1 : n ≤ 18446744073709551615) : NewDoes Try.prog 22 [.s (.slv L.length none 1 (flat bc L)), .s (.int .u64 n)] (L ++ vput n).length 1 (flat bc (L ++ vput n)) :=
  NewDoes.of_code Try.func22 (by kernel_rfl) (by kernel_rfl) (k := 25) (by kernel_rfl) (fun B => by
    obtain ⟨j, c, hj, h⟩ := rput_body (B := B) L n hL h0 h1
    exact ⟨_, _, j, .inr rfl, h, rfl, if_pos rfl, hj⟩) (bc_blk _ _) (List.all_eq_true.1 (by kernel_rfl))
/-- Put, as a value. -/
theorem rput_val (L : List Int) (n : Int) (hL : L.length ≤ 140737488350000) (h0 : 0 ≤ n) (h1 : n ≤ 18446744073709551615) : ValDoes Try.prog 22 [.s (.slv L.length none 1 (flat bc L)), .s (.int .u64 n)] (.s (.slv (L ++ vput n).length none 1 (flat bc (L ++ vput n)))) :=
  ValDoes.of_code Try.func22 (by kernel_rfl) (by kernel_rfl) (k := 25) (by kernel_rfl) (fun B => by
    obtain ⟨j, c, hj, h⟩ := rput_body (B := B) L n hL h0 h1
    exact ⟨_, _, .inr rfl, h.freeze j (l' := [(4, .s (.slv (L ++ vput n).length none 1 (flat bc (L ++ vput n))))]) (m' := [(j, none)]) (if_pos rfl) (bc_plain _) (.cons (.s (.sl (subB _))) .nil) (.gone .nil), rfl⟩) rfl (List.all_eq_true.1 (by kernel_rfl))
theorem rput_new_call {B c len : Nat} {L M : List Int} {n : Int} (hM : L ++ vput n = M) (hl : len = L.length) (hL : L.length ≤ 140737488350000) (h0 : 0 ≤ n) (h1 : n ≤ 18446744073709551615) : CallDoes Try.prog B 22 [.s (.slv len none 1 (flat bc L)), .s (.int .u64 n)] [] c (.s (.sl c 0 M.length none 1)) ([(c, some ⟨flat bc M, true⟩)] ++ []) (c + 1) := by
  subst hM; subst hl; exact rput_new L n hL h0 h1 B c
theorem rput_call {B c len : Nat} {L M : List Int} {n : Int} (hM : L ++ vput n = M) (hl : len = L.length) (hL : L.length ≤ 140737488350000) (h0 : 0 ≤ n) (h1 : n ≤ 18446744073709551615) : CallDoes Try.prog B 22 [.s (.slv len none 1 (flat bc L)), .s (.int .u64 n)] [] c (.s (.slv M.length none 1 (flat bc M))) ([] ++ []) c := by
  subst hM; subst hl; exact rput_val L n hL h0 h1 B c

theorem rput_nil_call {B c : Nat} {M : List Int} {n n' : Int} (hn : n' = n) (hM : vput n = M) (h0 : 0 ≤ n) (h1 : n ≤ 18446744073709551615) : CallDoes Try.prog B 22 [.s .sl0, .s (.int .u64 n')] [] c (.s (.slv M.length none 1 (flat bc M))) ([] ++ []) c := by
  subst hn
  exact nilArgs (rput_call (L := []) (len := 0) (M := M) hM rfl (by simp) h0 h1) (.cons (.nil 1) (.cons (.same _) .nil))
theorem rput_c {B c len : Nat} {L M : List Int} {n n' : Int} (hn : n' = n) (hM : L ++ vput n = M) (hl : len = L.length) (hL : L.length ≤ 140737488350000) (h0 : 0 ≤ n) (h1 : n ≤ 18446744073709551615) : CallDoes Try.prog B 22 [.s (.slv len none 1 (flat bc L)), .s (.int .u64 n')] [] c (.s (.slv M.length none 1 (flat bc M))) ([] ++ []) c := by
  subst hn
  exact rput_call hM hl hL h0 h1
theorem rzig_does (n : Int) (h : -9223372036854775808 ≤ n ∧ n ≤ 9223372036854775807) : ValDoes Try.prog 23 [.s (.int .i64 n)] (.s (.int .u64 (zigI n))) := by
  unfold zigI
  by_cases hn : n < 0
  · have e : (if 0 ≤ n then 2 * n else -2 * n - 1) = 2 * (0 - (n + 1)) + 1 := by rw [if_neg (by omega)]; omega
    first | rw [e] | skip
    refine ValDoes.of_code Try.func23 (by kernel_rfl) (by kernel_rfl) (k := 14) (by kernel_rfl) (fun B => ⟨_, _, .inr rfl, rzig_1 n h hn, ?_⟩) (by kernel_rfl) (List.all_eq_true.1 (by kernel_rfl))
    refine Eq.trans (b := some (.s (.int .u64 (2 * (0 - (n + 1)) + 1)))) (by kernel_rfl) ?_
    refine congrArg (fun z => some (AV.s (SV.int .u64 z))) ?_
    grind
  · refine ValDoes.of_code Try.func23 (by kernel_rfl) (by kernel_rfl) (k := 14) (by kernel_rfl) (fun B => ⟨_, _, .inr rfl, rzig_2 n h hn, ?_⟩) (by kernel_rfl) (List.all_eq_true.1 (by kernel_rfl))
    refine Eq.trans (b := some (.s (.int .u64 (2 * n)))) (by kernel_rfl) ?_
    refine congrArg (fun z => some (AV.s (SV.int .u64 z))) ?_
    grind
theorem rzig_c {B c : Nat} {n m : Int} (hm : zigI n = m) (h : -9223372036854775808 ≤ n ∧ n ≤ 9223372036854775807) : CallDoes Try.prog B 23 [.s (.int .i64 n)] [] c (.s (.int .u64 m)) ([] ++ []) c := by
  subst hm
  exact rzig_does n h B c
theorem rzag_does (n : Int) (h : 0 ≤ n ∧ n ≤ 18446744073709551615) : ValDoes Try.prog 30 [.s (.int .u64 n)] (.s (.int .i64 (zagI n))) := by
  have e1 : IntKind.wrap .i64 (IntKind.wrap .u64 (Int.tdiv n 2)) = n / 2 := by
    rw [wrap64', wrapi64, Int.tdiv_eq_ediv_of_nonneg h.1]
    split <;> omega
  have e2 : Int.tmod n 2 = n % 2 := Int.tmod_eq_emod_of_nonneg h.1
  by_cases hn : Int.tmod n 2 = 1
  · refine ValDoes.of_code Try.func30 (by kernel_rfl) (by kernel_rfl) (k := 14) (by kernel_rfl) (fun B => ⟨_, _, .inr rfl, rzag_1 n h hn, ?_⟩) (by kernel_rfl) (List.all_eq_true.1 (by kernel_rfl))
    refine Eq.trans (b := some (.s (.int .i64 (IntKind.wrap .i64 (IntKind.wrap .i64 (0 - IntKind.wrap .i64 (IntKind.wrap .u64 (Int.tdiv n 2))) - 1))))) (by kernel_rfl) ?_
    refine congrArg (fun z => some (AV.s (SV.int .i64 z))) ?_
    rw [e1, wrapi64, wrapi64]
    rw [e2] at hn
    unfold zagI
    split <;> split <;> omega
  · refine ValDoes.of_code Try.func30 (by kernel_rfl) (by kernel_rfl) (k := 14) (by kernel_rfl) (fun B => ⟨_, _, .inr rfl, rzag_2 n h hn, ?_⟩) (by kernel_rfl) (List.all_eq_true.1 (by kernel_rfl))
    refine Eq.trans (b := some (.s (.int .i64 (IntKind.wrap .i64 (IntKind.wrap .u64 (Int.tdiv n 2)))))) (by kernel_rfl) ?_
    refine congrArg (fun z => some (AV.s (SV.int .i64 z))) ?_
    rw [e1]
    rw [e2] at hn
    unfold zagI
    split <;> omega
theorem rzag_c {B c : Nat} {n m : Int} (hm : zagI n = m) (h : 0 ≤ n ∧ n ≤ 18446744073709551615) : CallDoes Try.prog B 30 [.s (.int .u64 n)] [] c (.s (.int .i64 m)) ([] ++ []) c := by
  subst hm
  exact rzag_does n h B c
end Go.Proofs.Ytdjalemejbjafaa.V
