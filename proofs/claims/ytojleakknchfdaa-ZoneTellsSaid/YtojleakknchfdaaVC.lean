/- Chapter 1: contracts of the readers. Printed by gen_vc.py. -/
import Derived.Test.YtojleakknchfdaaVB
import Derived.Test.YtojleakknchfdaaProg
import Derived.KernelRfl
namespace Go.Proofs.Ytojleakknchfdaa.V
open Go Go.RowKit Go.Proofs Go.Proofs.Ytojleakknchfdaa.Eng Go.Proofs.Ytojleakknchfdaa.VPl
set_option maxRecDepth 100000
set_option linter.unusedVariables false
set_option linter.unusedSimpArgs false
attribute [local irreducible] Eng.evAppend Eng.evSlice Eng.less CallDoes Eng.loadG Eng.evIndexAddr Eng.evBin
theorem convB {len c : Nat} {cap : Option Nat} {L : List Int} (hx : ∀ x ∈ L, 0 ≤ x ∧ x ≤ 255) : less 0 (evConv Try.prog 23 9 (.s (.slv len cap 1 (flat bc L))) [] c) = some (.s (.str ⟨(L.map fun n => UInt8.ofNat n.toNat).toArray⟩), [], c) := by
  have hb : bytesIn (flat bc L) = some (L.map fun n => UInt8.ofNat n.toNat) := by
    clear hx
    induction L with
    | nil => rfl
    | cons x r ih =>
      show bytesIn (.int .u8 x :: flat bc r) = _
      simp only [bytesIn, ih, Option.map_some, List.map_cons]
  have h1 : ∃ e, Try.prog.underlying 23 = some (.slice e) ∧ Try.prog.underlying e = some (.int .u8) := ⟨5, by kernel_rfl, by kernel_rfl⟩
  obtain ⟨e, h1, h2⟩ := h1
  simp [evConv, h1, h2, un9, hb, less]
theorem getP_1 {B : Nat} (L : List Int) (a : Int) (hL : L.length ≤ 140737488353000)  : CodeDoes Try.prog B (Lf (Rt (Rt (Try.f32.body.getD .skip)))) ⟨⟨70, [(0, .s (.slv L.length none 1 (flat bc L))), (1, .s (.int .i64 a)), (4, .any), (5, .any), (6, .any)]⟩, [], 0⟩ Ex.normal ⟨⟨70, [(0, AV.s (SV.slv (List.length L) none 1 (flat bc L))), (1, AV.s (SV.int IntKind.i64 a)), (7, AV.s (SV.int IntKind.u64 0))]⟩, [], 0⟩ :=
  goA_ok mix (tape := []) (dl := [0, 1, 7]) (nl := []) (C := []) (by kernel_rfl) trivial
theorem getQ_1 {B : Nat} (L : List Int) (a : Int) (hL : L.length ≤ 140737488353000)  : CodeDoes Try.prog B (Lf (Rt (Rt (Rt (Try.f32.body.getD .skip))))) ⟨⟨70, [(0, .s (.slv L.length none 1 (flat bc L))), (1, .s (.int .i64 a)), (7, .s (.int .u64 0))]⟩, [], 0⟩ Ex.normal ⟨⟨70, [(0, AV.s (SV.slv (List.length L) none 1 (flat bc L))), (1, AV.s (SV.int IntKind.i64 a)), (7, AV.s (SV.int IntKind.u64 0)), (8, AV.s (SV.bool true))]⟩, [], 0⟩ :=
  goA_ok mix (tape := []) (dl := [0, 1, 7, 8]) (nl := []) (C := []) (by kernel_rfl) trivial
theorem getS_1 {B : Nat} (L : List Int) (a : Int) (k : Nat) (hL : L.length ≤ 140737488353000) (hk : a = (k : Int)) (hk2 : k ≤ L.length)  : CodeDoes Try.prog B (Lf (Lf (Rt (Rt (Rt (Rt (Try.f32.body.getD .skip))))))) ⟨⟨70, [(0, .s (.slv L.length none 1 (flat bc L))), (1, .s (.int .i64 a)), (7, .s (.int .u64 0)), (8, .s (.bool true))]⟩, [], 0⟩ Ex.normal ⟨⟨70, [(1, AV.s (SV.int IntKind.i64 a)), (7, AV.s (SV.int IntKind.u64 0)), (8, AV.s (SV.bool true)), (21, AV.s (SV.slv (List.length L - k) none 1 (flat bc (List.drop k L)))), (22, AV.s (SV.int IntKind.i64 (↑(List.length L - k) : Int))), (23, AV.s (SV.int IntKind.i64 0))]⟩, [], 0⟩ :=
  goA_ok mix (tape := [(2, Ans.val (AV.s (SV.slv (List.length L - k) (Option.map (fun (x : Nat) => x - k) none) 1 (flat bc (List.drop k L)))))]) (dl := [1, 7, 8, 21, 22, 23]) (nl := []) (C := [((evSlice Try.prog 23 (AV.s (vB L)) (some (AV.s (sI a))) none none) = some (AV.s (SV.slv (List.length L - k) (Option.map (fun (x : Nat) => x - k) none) 1 (flat bc (List.drop k L)))))]) (by kernel_rfl) ⟨by (apply fromB <;> first | assumption | rfl), trivial⟩
theorem getZ_1 {B : Nat}   : CodeDoes Try.prog B (Rt (Rt (Rt (Rt (Rt (Try.f32.body.getD .skip)))))) ⟨⟨70, [(4, .any), (5, .any), (6, .any)]⟩, [], 0⟩ Ex.ret ⟨⟨70, [(4, AV.s (SV.int IntKind.u64 0)), (5, AV.s (SV.int IntKind.i64 0)), (6, AV.s (SV.int IntKind.i64 10))]⟩, [], 0⟩ :=
  goA_ok mix (tape := []) (dl := [4, 5, 6]) (nl := []) (C := []) (by kernel_rfl) trivial

theorem text_new (L : List Int) (s : ByteArray) (hL : L.length ≤ 100000000000000) (hs : s.size ≤ 1000000) : NewDoes Try.prog 23 [.s (.slv L.length none 1 (flat bc L)), .s (.str s)] (L ++ vput (s.size : Int) ++ bytesOf s).length 1 (flat bc (L ++ vput (s.size : Int) ++ bytesOf s)) := by
  have e : (L ++ vput (s.size : Int) ++ bytesOf s).length = (L ++ vput (s.size : Int)).length + s.size := by rw [List.length_append, bytesOf_len]
  rw [e]
  exact NewDoes.of_code Try.func23 (by kernel_rfl) (by kernel_rfl) (k := 12) (by kernel_rfl) (fun B => ⟨_, _, 1, .inr rfl, text_1 L s hL hs (vput_len _).2, by kernel_rfl, rfl, by show 1 < 2; decide⟩) (bc_blk _ _) (List.all_eq_true.1 (by kernel_rfl))
theorem text_does (L : List Int) (s : ByteArray) (hL : L.length ≤ 100000000000000) (hs : s.size ≤ 1000000) : ValDoes Try.prog 23 [.s (.slv L.length none 1 (flat bc L)), .s (.str s)] (.s (.slv (L ++ vput (s.size : Int) ++ bytesOf s).length none 1 (flat bc (L ++ vput (s.size : Int) ++ bytesOf s)))) := by
  have e : (L ++ vput (s.size : Int) ++ bytesOf s).length = (L ++ vput (s.size : Int)).length + s.size := by rw [List.length_append, bytesOf_len]
  rw [e]
  exact ValDoes.of_code Try.func23 (by kernel_rfl) (by kernel_rfl) (k := 12) (by kernel_rfl) (fun B => ⟨_, _, .inr rfl, (text_1 L s hL hs (vput_len _).2).freeze 1 (l' := [(4, .s (.slv ((L ++ vput (s.size : Int)).length + s.size) none 1 (flat bc (L ++ vput (s.size : Int) ++ bytesOf s))))]) (m' := [(1, none)]) rfl (bc_plain _) (.cons (.s (.sl (by have h := subB (L ++ vput (s.size : Int) ++ bytesOf s); rw [e] at h; exact h))) .nil) (.gone .nil), by kernel_rfl⟩) rfl (List.all_eq_true.1 (by kernel_rfl))
theorem text_call {B c len : Nat} {L M : List Int} {s : ByteArray} (hM : L ++ vput (s.size : Int) ++ bytesOf s = M) (hl : len = L.length) (hL : L.length ≤ 100000000000000) (hs : s.size ≤ 1000000) : CallDoes Try.prog B 23 [.s (.slv len none 1 (flat bc L)), .s (.str s)] [] c (.s (.slv M.length none 1 (flat bc M))) ([] ++ []) c := by
  subst hM; subst hl; exact text_does L s hL hs B c
abbrev ret3 (k : IntKind) (r : Int × Int × Int) : AV := .tup [(false, [.int k r.1]), (false, [.int .i64 r.2.1]), (false, [.int .i64 r.2.2])]
theorem get_does (L : List Int) (a : Int) (hL : L.length ≤ 140737488353000) (hx : ∀ x ∈ L, 0 ≤ x ∧ x ≤ 255) : ValDoes Try.prog 32 [.s (.slv L.length none 1 (flat bc L)), .s (.int .i64 a)] (ret3 .u64 (getI L a)) := by
  refine ValDoes.of_code (body := (Try.f32.body.getD .skip)) Try.func32 (by kernel_rfl) (by kernel_rfl) (k := 70) (by kernel_rfl) (fun B => ?_) rfl (List.all_eq_true.1 (by kernel_rfl))
  unfold getI
  by_cases h1 : a < 0
  · rw [if_pos (.inl h1)]
    exact ⟨_, _, .inr rfl, CodeDoes.seqAt (by kernel_rfl) (getA_1 L a hL) (CodeDoes.seqOutAt (by kernel_rfl) (getI_1 L a hL h1) (by simp)), by kernel_rfl⟩
  · by_cases h2 : a > (L.length : Int)
    · rw [if_pos (.inr h2)]
      exact ⟨_, _, .inr rfl, CodeDoes.seqAt (by kernel_rfl) (getA_1 L a hL) (CodeDoes.seqOutAt (by kernel_rfl) (getI_2 L a hL h1 h2) (by simp)), by kernel_rfl⟩
    · rw [if_neg (by omega)]
      obtain ⟨e, s', hl, ht⟩ := get_loop (B := B) (L.drop a.toNat) a (by rw [List.length_drop]; omega) ⟨by omega, by omega⟩ (fun x h => hx x (List.mem_of_mem_drop h))
      have hs := getS_1 (B := B) L a a.toNat hL (by omega) (by omega)
      rw [show L.length - a.toNat = (L.drop a.toNat).length by rw [List.length_drop]] at hs
      rcases ht with ⟨rfl, rfl⟩ | ⟨rfl, hr, rfl⟩
      · refine ⟨_, _, .inr rfl, CodeDoes.seqAt (by kernel_rfl) (getA_1 L a hL) (CodeDoes.seqAt (by kernel_rfl) (getI_3 L a hL h1 h2) (CodeDoes.seqAt (by kernel_rfl) (getP_1 L a hL) (CodeDoes.seqAt (by kernel_rfl) (getQ_1 L a hL) (CodeDoes.seqOutAt (by kernel_rfl) (CodeDoes.seqAt (by kernel_rfl) hs (CodeDoes.blockAt (id := 0) (by kernel_rfl) (CodeDoes.loopAt (by kernel_rfl) hl) (by simp))) (by simp))))), by kernel_rfl⟩
      · rw [hr]
        exact ⟨_, _, .inr rfl, CodeDoes.seqAt (by kernel_rfl) (getA_1 L a hL) (CodeDoes.seqAt (by kernel_rfl) (getI_3 L a hL h1 h2) (CodeDoes.seqAt (by kernel_rfl) (getP_1 L a hL) (CodeDoes.seqAt (by kernel_rfl) (getQ_1 L a hL) (CodeDoes.seqAt (by kernel_rfl) (CodeDoes.seqAt (by kernel_rfl) hs (CodeDoes.blockExitAt (id := 0) (by kernel_rfl) (CodeDoes.loopAt (by kernel_rfl) hl))) getZ_1)))), by kernel_rfl⟩
theorem get_call {B c len : Nat} {L : List Int} {a n e w : Int} (hr : getI L a = (n, e, w)) (hl : len = L.length) (hL : L.length ≤ 140737488353000) (hx : ∀ x ∈ L, 0 ≤ x ∧ x ≤ 255) : CallDoes Try.prog B 32 [.s (.slv len none 1 (flat bc L)), .s (.int .i64 a)] [] c (.tup [(false, [.int .u64 n]), (false, [.int .i64 e]), (false, [.int .i64 w])]) ([] ++ []) c := by
  have h := get_does L a hL hx B c
  rw [hr] at h
  subst hl
  exact h
theorem small_1 {B : Nat} (L : List Int) (a : Int) (hL : L.length ≤ 140737488353000) (hx : ∀ x ∈ L, 0 ≤ x ∧ x ≤ 255) (n e w : Int) (hr : getI L a = (n, e, w)) (h0 : 0 ≤ n) (h1 : n ≤ 18446744073709551615)  : CodeDoes Try.prog B (Try.f24.body.getD .skip) ⟨⟨22, [(0, .s (.slv L.length none 1 (flat bc L))), (1, .s (.int .i64 a))]⟩, [], 0⟩ Ex.ret ⟨⟨22, [(4, AV.s (SV.int IntKind.i64 (if 1099511627776 < n then 1099511627776 else n))), (5, AV.s (SV.int IntKind.i64 e)), (6, AV.s (SV.int IntKind.i64 w))]⟩, [], 0⟩ :=
  goA_ok mix (tape := [(5, aC (AV.tup [(false, [sU n]), (false, [sI e]), (false, [sI w])]) 0), (15, Ans.mem (AV.s (sI (if 1099511627776 < n then 1099511627776 else n))) [] 0)]) (dl := [4, 5, 6]) (nl := []) (C := [(some (AV.s (sI (wI (if 1099511627776 < n then 1099511627776 else n))), ([] : Mem), (0 : Nat)) = some (AV.s (sI (if 1099511627776 < n then 1099511627776 else n)), ([] : Mem), (0 : Nat))), (CD B 32 [AV.s (vB L), AV.s (sI a)] [] 0 (AV.tup [(false, [sU n]), (false, [sI e]), (false, [sI w])]) ([] ++ []) 0)]) (by kernel_rfl) ⟨congrArg (fun i : Int => some (AV.s (sI i), ([] : Mem), (0 : Nat))) (by exact wrap_i64 (by omega) (by omega)), by (apply get_call <;> first | assumption | rfl), trivial⟩
theorem gzag_1 {B : Nat} (L : List Int) (a : Int) (hL : L.length ≤ 140737488353000) (hx : ∀ x ∈ L, 0 ≤ x ∧ x ≤ 255) (n e w : Int) (hr : getI L a = (n, e, w)) (h0 : 0 ≤ n) (h1 : n ≤ 18446744073709551615)  : CodeDoes Try.prog B (Try.f33.body.getD .skip) ⟨⟨21, [(0, .s (.slv L.length none 1 (flat bc L))), (1, .s (.int .i64 a))]⟩, [], 0⟩ Ex.ret ⟨⟨21, [(4, AV.s (SV.int IntKind.i64 (zagI n))), (5, AV.s (SV.int IntKind.i64 e)), (6, AV.s (SV.int IntKind.i64 w))]⟩, [], 0⟩ :=
  goA_ok mix (tape := [(5, aC (AV.tup [(false, [sU n]), (false, [sI e]), (false, [sI w])]) 0), (14, aC (AV.s (sI (zagI n))) 0)]) (dl := [4, 5, 6]) (nl := []) (C := [(CD B 35 [AV.s (sU n)] [] 0 (AV.s (sI (zagI n))) ([] ++ []) 0), (CD B 32 [AV.s (vB L), AV.s (sI a)] [] 0 (AV.tup [(false, [sU n]), (false, [sI e]), (false, [sI w])]) ([] ++ []) 0)]) (by kernel_rfl) ⟨by (apply zag_call <;> first | omega), by (apply get_call <;> first | assumption | rfl), trivial⟩
theorem gtextE_1 {B : Nat} (L : List Int) (a : Int) (hL : L.length ≤ 140737488353000) (hx : ∀ x ∈ L, 0 ≤ x ∧ x ≤ 255) (most n e w : Int) (hr : getI L a = (n, e, w)) (hw : w ≠ 0)  : CodeDoes Try.prog B (Try.f34.body.getD .skip) ⟨⟨49, [(0, .s (.slv L.length none 1 (flat bc L))), (1, .s (.int .i64 a)), (2, .s (.int .i64 most))]⟩, [], 0⟩ Ex.ret ⟨⟨49, [(6, AV.s (SV.str (ByteArray.mk #[]))), (7, AV.s (SV.int IntKind.i64 0)), (8, AV.s (SV.int IntKind.i64 w))]⟩, [], 0⟩ :=
  goA_ok mix (tape := [(5, aC (AV.tup [(false, [sU n]), (false, [sI e]), (false, [sI w])]) 0), (14, aT)]) (dl := [6, 7, 8]) (nl := []) (C := [(IsT (w != 0)), (CD B 32 [AV.s (vB L), AV.s (sI a)] [] 0 (AV.tup [(false, [sU n]), (false, [sI e]), (false, [sI w])]) ([] ++ []) 0)]) (by kernel_rfl) ⟨claim_b (bne_iff_ne.2 (by first | assumption | omega)), by (apply get_call <;> first | assumption | rfl), trivial⟩
theorem gtextO_1 {B : Nat} (L : List Int) (a : Int) (hL : L.length ≤ 140737488353000) (hx : ∀ x ∈ L, 0 ≤ x ∧ x ≤ 255) (most n e : Int) (en : Nat) (hr : getI L a = (n, e, 0)) (hm : 0 ≤ most ∧ most ≤ 100000) (h0 : 0 ≤ n) (h1 : n ≤ 18446744073709551615) (he : e = (en : Int)) (he2 : en ≤ L.length) (hhi : e + n = ((en + n.toNat : Nat) : Int)) (hx2 : ∀ x ∈ (L.drop en).take (en + n.toNat - en), 0 ≤ x ∧ x ≤ 255) (h_1 : n > if 0 > most then 0 else most) : CodeDoes Try.prog B (Try.f34.body.getD .skip) ⟨⟨49, [(0, .s (.slv L.length none 1 (flat bc L))), (1, .s (.int .i64 a)), (2, .s (.int .i64 most))]⟩, [], 0⟩ Ex.ret ⟨⟨49, [(6, AV.s (SV.str (ByteArray.mk #[]))), (7, AV.s (SV.int IntKind.i64 0)), (8, AV.s (SV.int IntKind.i64 3))]⟩, [], 0⟩ :=
  goA_ok mix (tape := [(5, aC (AV.tup [(false, [sU n]), (false, [sI e]), (false, [sI 0])]) 0), (19, Ans.mem (AV.s (sU (if 0 > most then 0 else most))) [] 0), (20, aT)]) (dl := [6, 7, 8]) (nl := []) (C := [(IsT (decide (n > if 0 > most then 0 else most))), (some (AV.s (sU (wU (if 0 > most then 0 else most))), ([] : Mem), (0 : Nat)) = some (AV.s (sU (if 0 > most then 0 else most)), ([] : Mem), (0 : Nat))), (CD B 32 [AV.s (vB L), AV.s (sI a)] [] 0 (AV.tup [(false, [sU n]), (false, [sI e]), (false, [sI 0])]) ([] ++ []) 0)]) (by kernel_rfl) ⟨cT (by first | assumption | omega), congrArg (fun i : Int => some (AV.s (sU i), ([] : Mem), (0 : Nat))) (by exact wrap_u64 (by omega) (by omega)), by (apply get_call <;> first | assumption | rfl), trivial⟩
theorem gtextO_2 {B : Nat} (L : List Int) (a : Int) (hL : L.length ≤ 140737488353000) (hx : ∀ x ∈ L, 0 ≤ x ∧ x ≤ 255) (most n e : Int) (en : Nat) (hr : getI L a = (n, e, 0)) (hm : 0 ≤ most ∧ most ≤ 100000) (h0 : 0 ≤ n) (h1 : n ≤ 18446744073709551615) (he : e = (en : Int)) (he2 : en ≤ L.length) (hhi : e + n = ((en + n.toNat : Nat) : Int)) (hx2 : ∀ x ∈ (L.drop en).take (en + n.toNat - en), 0 ≤ x ∧ x ≤ 255) (h_1 : ¬ (n > if 0 > most then 0 else most)) (h_2 : n > (↑(List.length L) : Int) - e) : CodeDoes Try.prog B (Try.f34.body.getD .skip) ⟨⟨49, [(0, .s (.slv L.length none 1 (flat bc L))), (1, .s (.int .i64 a)), (2, .s (.int .i64 most))]⟩, [], 0⟩ Ex.ret ⟨⟨49, [(6, AV.s (SV.str (ByteArray.mk #[]))), (7, AV.s (SV.int IntKind.i64 0)), (8, AV.s (SV.int IntKind.i64 10))]⟩, [], 0⟩ :=
  goA_ok mix (tape := [(5, aC (AV.tup [(false, [sU n]), (false, [sI e]), (false, [sI 0])]) 0), (19, Ans.mem (AV.s (sU (if 0 > most then 0 else most))) [] 0), (20, aF), (26, Ans.val (AV.s (sI ((↑(List.length L) : Int) - e)))), (27, Ans.mem (AV.s (sU ((↑(List.length L) : Int) - e))) [] 0), (28, aT)]) (dl := [6, 7, 8]) (nl := []) (C := [(IsT (decide (n > (↑(List.length L) : Int) - e))), (some (AV.s (sU (wU ((↑(List.length L) : Int) - e))), ([] : Mem), (0 : Nat)) = some (AV.s (sU ((↑(List.length L) : Int) - e)), ([] : Mem), (0 : Nat))), (some (AV.s (sI (wI ((↑(List.length L) : Int) - e)))) = some (AV.s (sI ((↑(List.length L) : Int) - e)))), (IsF (decide (n > if 0 > most then 0 else most))), (some (AV.s (sU (wU (if 0 > most then 0 else most))), ([] : Mem), (0 : Nat)) = some (AV.s (sU (if 0 > most then 0 else most)), ([] : Mem), (0 : Nat))), (CD B 32 [AV.s (vB L), AV.s (sI a)] [] 0 (AV.tup [(false, [sU n]), (false, [sI e]), (false, [sI 0])]) ([] ++ []) 0)]) (by kernel_rfl) ⟨cT (by first | assumption | omega), congrArg (fun i : Int => some (AV.s (sU i), ([] : Mem), (0 : Nat))) (by exact wrap_u64 (by omega) (by omega)), claim_i (by exact wrap_i64 (by omega) (by omega)), cF (by first | assumption | omega), congrArg (fun i : Int => some (AV.s (sU i), ([] : Mem), (0 : Nat))) (by exact wrap_u64 (by omega) (by omega)), by (apply get_call <;> first | assumption | rfl), trivial⟩
theorem gtextO_3 {B : Nat} (L : List Int) (a : Int) (hL : L.length ≤ 140737488353000) (hx : ∀ x ∈ L, 0 ≤ x ∧ x ≤ 255) (most n e : Int) (en : Nat) (hr : getI L a = (n, e, 0)) (hm : 0 ≤ most ∧ most ≤ 100000) (h0 : 0 ≤ n) (h1 : n ≤ 18446744073709551615) (he : e = (en : Int)) (he2 : en ≤ L.length) (hhi : e + n = ((en + n.toNat : Nat) : Int)) (hx2 : ∀ x ∈ (L.drop en).take (en + n.toNat - en), 0 ≤ x ∧ x ≤ 255) (h_1 : ¬ (n > if 0 > most then 0 else most)) (h_2 : ¬ (n > (↑(List.length L) : Int) - e)) : CodeDoes Try.prog B (Try.f34.body.getD .skip) ⟨⟨49, [(0, .s (.slv L.length none 1 (flat bc L))), (1, .s (.int .i64 a)), (2, .s (.int .i64 most))]⟩, [], 0⟩ Ex.ret ⟨⟨49, [(6, AV.s (SV.str (ByteArray.mk (List.toArray (List.map (fun (n : Int) => UInt8.ofNat (Int.toNat n)) (List.take (en + Int.toNat n - en) (List.drop en L))))))), (7, AV.s (SV.int IntKind.i64 (e + n))), (8, AV.s (SV.int IntKind.i64 0))]⟩, [], 0⟩ :=
  goA_ok mix (tape := [(5, aC (AV.tup [(false, [sU n]), (false, [sI e]), (false, [sI 0])]) 0), (19, Ans.mem (AV.s (sU (if 0 > most then 0 else most))) [] 0), (20, aF), (26, Ans.val (AV.s (sI ((↑(List.length L) : Int) - e)))), (27, Ans.mem (AV.s (sU ((↑(List.length L) : Int) - e))) [] 0), (28, aF), (34, Ans.mem (AV.s (sI n)) [] 0), (35, Ans.val (AV.s (sI (e + n)))), (36, Ans.val (AV.s (SV.slv (en + Int.toNat n - en) (Option.map (fun (x : Nat) => x - en) none) 1 (flat bc (List.take (en + Int.toNat n - en) (List.drop en L)))))), (37, Ans.mem (AV.s (SV.str (ByteArray.mk (List.toArray (List.map (fun (n : Int) => UInt8.ofNat (Int.toNat n)) (List.take (en + Int.toNat n - en) (List.drop en L))))))) [] 0), (40, Ans.mem (AV.s (sI n)) [] 0), (41, Ans.val (AV.s (sI (e + n))))]) (dl := [6, 7, 8]) (nl := []) (C := [(some (AV.s (sI (wI (e + n)))) = some (AV.s (sI (e + n)))), (some (AV.s (sI (wI n)), ([] : Mem), (0 : Nat)) = some (AV.s (sI n), ([] : Mem), (0 : Nat))), ((less 0 (evConv Try.prog 23 9 (AV.s (SV.slv (en + Int.toNat n - en) none 1 (flat bc (List.take (en + Int.toNat n - en) (List.drop en L))))) [] 0)) = some (AV.s (SV.str (ByteArray.mk (List.toArray (List.map (fun (n : Int) => UInt8.ofNat (Int.toNat n)) (List.take (en + Int.toNat n - en) (List.drop en L)))))), [], 0)), ((evSlice Try.prog 23 (AV.s (vB L)) (some (AV.s (sI e))) (some (AV.s (sI (e + n)))) none) = some (AV.s (SV.slv (en + Int.toNat n - en) (Option.map (fun (x : Nat) => x - en) none) 1 (flat bc (List.take (en + Int.toNat n - en) (List.drop en L)))))), (some (AV.s (sI (wI (e + n)))) = some (AV.s (sI (e + n)))), (some (AV.s (sI (wI n)), ([] : Mem), (0 : Nat)) = some (AV.s (sI n), ([] : Mem), (0 : Nat))), (IsF (decide (n > (↑(List.length L) : Int) - e))), (some (AV.s (sU (wU ((↑(List.length L) : Int) - e))), ([] : Mem), (0 : Nat)) = some (AV.s (sU ((↑(List.length L) : Int) - e)), ([] : Mem), (0 : Nat))), (some (AV.s (sI (wI ((↑(List.length L) : Int) - e)))) = some (AV.s (sI ((↑(List.length L) : Int) - e)))), (IsF (decide (n > if 0 > most then 0 else most))), (some (AV.s (sU (wU (if 0 > most then 0 else most))), ([] : Mem), (0 : Nat)) = some (AV.s (sU (if 0 > most then 0 else most)), ([] : Mem), (0 : Nat))), (CD B 32 [AV.s (vB L), AV.s (sI a)] [] 0 (AV.tup [(false, [sU n]), (false, [sI e]), (false, [sI 0])]) ([] ++ []) 0)]) (by kernel_rfl) ⟨claim_i (by exact wrap_i64 (by omega) (by omega)), congrArg (fun i : Int => some (AV.s (sI i), ([] : Mem), (0 : Nat))) (by exact wrap_i64 (by omega) (by omega)), by (apply convB <;> first | assumption), by (apply midB <;> first | assumption | rfl | omega), claim_i (by exact wrap_i64 (by omega) (by omega)), congrArg (fun i : Int => some (AV.s (sI i), ([] : Mem), (0 : Nat))) (by exact wrap_i64 (by omega) (by omega)), cF (by first | assumption | omega), congrArg (fun i : Int => some (AV.s (sU i), ([] : Mem), (0 : Nat))) (by exact wrap_u64 (by omega) (by omega)), claim_i (by exact wrap_i64 (by omega) (by omega)), cF (by first | assumption | omega), congrArg (fun i : Int => some (AV.s (sU i), ([] : Mem), (0 : Nat))) (by exact wrap_u64 (by omega) (by omega)), by (apply get_call <;> first | assumption | rfl), trivial⟩

/-- A number that is no greater than such a one. -/
abbrev capI (n : Int) : Int := if 1099511627776 < n then 1099511627776 else n
@[irreducible] def smallI (L : List Int) (a : Int) : Int × Int × Int := (capI (getI L a).1, (getI L a).2)
@[irreducible] def gzagI (L : List Int) (a : Int) : Int × Int × Int := (zagI (getI L a).1, (getI L a).2)
theorem getI_bd {L : List Int} {a : Int} (hx : ∀ x ∈ L, 0 ≤ x ∧ x ≤ 255) : 0 ≤ (getI L a).1 ∧ (getI L a).1 ≤ 18446744073709551615 := by
  obtain ⟨n, e, w, h⟩ : ∃ n e w, getI L a = (n, e, w) := ⟨_, _, _, rfl⟩
  by_cases hw : w = 0
  · subst hw
    obtain ⟨_, _, h0, h1, _⟩ := getI_ok hx h
    rw [h]
    exact ⟨h0, h1⟩
  · have h2 : n = 0 := by
      have key : ∀ (l : List Int) i acc, (go a l i acc).2.2 ≠ 0 → (go a l i acc).1 = 0 := by
        intro l
        induction l with
        | nil => intro i acc _; rfl
        | cons c t ih =>
          intro i acc h
          simp only [go] at h ⊢
          split
          · rename_i hc; rw [if_pos hc] at h; exact ih _ _ h
          · rename_i hc
            rw [if_neg hc] at h
            split
            · rfl
            · rename_i hd; rw [if_neg hd] at h; exact absurd rfl h
      have h3 : (getI L a).2.2 ≠ 0 := by rw [h]; exact hw
      have h4 : (getI L a).1 = 0 := by
        unfold getI at h3 ⊢
        split
        · rfl
        · rename_i hc; rw [if_neg hc] at h3; exact key _ _ _ h3
      rw [h] at h4
      exact h4
    rw [h, h2]
    show (0 : Int) ≤ 0 ∧ (0 : Int) ≤ 18446744073709551615
    decide
theorem small_does (L : List Int) (a : Int) (hL : L.length ≤ 140737488353000) (hx : ∀ x ∈ L, 0 ≤ x ∧ x ≤ 255) : ValDoes Try.prog 24 [.s (.slv L.length none 1 (flat bc L)), .s (.int .i64 a)] (ret3 .i64 (smallI L a)) := by
  obtain ⟨n, e, w, h⟩ : ∃ n e w, getI L a = (n, e, w) := ⟨_, _, _, rfl⟩
  have hb := getI_bd (a := a) hx
  unfold smallI
  rw [h] at hb ⊢
  exact ValDoes.of_code Try.func24 (by kernel_rfl) (by kernel_rfl) (k := 22) (by kernel_rfl) (fun B => ⟨_, _, .inr rfl, small_1 L a hL hx n e w h hb.1 hb.2, by kernel_rfl⟩) rfl (List.all_eq_true.1 (by kernel_rfl))
theorem gzag_does (L : List Int) (a : Int) (hL : L.length ≤ 140737488353000) (hx : ∀ x ∈ L, 0 ≤ x ∧ x ≤ 255) : ValDoes Try.prog 33 [.s (.slv L.length none 1 (flat bc L)), .s (.int .i64 a)] (ret3 .i64 (gzagI L a)) := by
  obtain ⟨n, e, w, h⟩ : ∃ n e w, getI L a = (n, e, w) := ⟨_, _, _, rfl⟩
  have hb := getI_bd (a := a) hx
  unfold gzagI
  rw [h] at hb ⊢
  exact ValDoes.of_code Try.func33 (by kernel_rfl) (by kernel_rfl) (k := 21) (by kernel_rfl) (fun B => ⟨_, _, .inr rfl, gzag_1 L a hL hx n e w h hb.1 hb.2, by kernel_rfl⟩) rfl (List.all_eq_true.1 (by kernel_rfl))
theorem small_call {B c len : Nat} {L : List Int} {a n e w : Int} (hr : smallI L a = (n, e, w)) (hl : len = L.length) (hL : L.length ≤ 140737488353000) (hx : ∀ x ∈ L, 0 ≤ x ∧ x ≤ 255) : CallDoes Try.prog B 24 [.s (.slv len none 1 (flat bc L)), .s (.int .i64 a)] [] c (.tup [(false, [.int .i64 n]), (false, [.int .i64 e]), (false, [.int .i64 w])]) ([] ++ []) c := by
  have h := small_does L a hL hx B c
  rw [hr] at h
  subst hl
  exact h
theorem gzag_call {B c len : Nat} {L : List Int} {a n e w : Int} (hr : gzagI L a = (n, e, w)) (hl : len = L.length) (hL : L.length ≤ 140737488353000) (hx : ∀ x ∈ L, 0 ≤ x ∧ x ≤ 255) : CallDoes Try.prog B 33 [.s (.slv len none 1 (flat bc L)), .s (.int .i64 a)] [] c (.tup [(false, [.int .i64 n]), (false, [.int .i64 e]), (false, [.int .i64 w])]) ([] ++ []) c := by
  have h := gzag_does L a hL hx B c
  rw [hr] at h
  subst hl
  exact h
/-- The text of bytes. -/
def textOf (l : List Int) : ByteArray := ⟨(l.map fun n => UInt8.ofNat n.toNat).toArray⟩
@[irreducible] def gtextI (L : List Int) (a most : Int) : ByteArray × Int × Int :=
  let r := getI L a
  if r.2.2 ≠ 0 then (⟨#[]⟩, 0, r.2.2) else if r.1 > most then (⟨#[]⟩, 0, 3) else if r.1 > (L.length : Int) - r.2.1 then (⟨#[]⟩, 0, 10) else (textOf ((L.drop r.2.1.toNat).take r.1.toNat), r.2.1 + r.1, 0)
theorem gtext_does (L : List Int) (a : Int) (hL : L.length ≤ 140737488353000) (hx : ∀ x ∈ L, 0 ≤ x ∧ x ≤ 255) (most : Int) (hm : 0 ≤ most ∧ most ≤ 100000) : ValDoes Try.prog 34 [.s (.slv L.length none 1 (flat bc L)), .s (.int .i64 a), .s (.int .i64 most)] (.tup [(false, [.str (gtextI L a most).1]), (false, [.int .i64 (gtextI L a most).2.1]), (false, [.int .i64 (gtextI L a most).2.2])]) := by
  obtain ⟨n, e, w, h⟩ : ∃ n e w, getI L a = (n, e, w) := ⟨_, _, _, rfl⟩
  unfold gtextI
  rw [h]
  simp only
  by_cases hw : w = 0
  · subst hw
    rw [if_neg (fun h => h rfl)]
    obtain ⟨a0, a1, h0, h1, h2, h3, _⟩ := getI_ok hx h
    have e0 : 0 ≤ e := by rw [h2]; omega
    have g1 : e = ((e.toNat : Nat) : Int) := by omega
    have g2 : e.toNat ≤ L.length := by omega
    have g3 : e + n = ((e.toNat + n.toNat : Nat) : Int) := by omega
    have g4 : ∀ x ∈ (L.drop e.toNat).take (e.toNat + n.toNat - e.toNat), 0 ≤ x ∧ x ≤ 255 := fun x hx' => hx x (List.mem_of_mem_drop (List.mem_of_mem_take hx'))
    by_cases c1 : n > most
    · rw [if_pos c1]
      exact ValDoes.of_code Try.func34 (by kernel_rfl) (by kernel_rfl) (k := 49) (by kernel_rfl) (fun B => ⟨_, _, .inr rfl, gtextO_1 L a hL hx most n e e.toNat h hm h0 h1 g1 g2 g3 g4 (by omega), by kernel_rfl⟩) rfl (List.all_eq_true.1 (by kernel_rfl))
    · rw [if_neg c1]
      by_cases c2 : n > (L.length : Int) - e
      · rw [if_pos c2]
        exact ValDoes.of_code Try.func34 (by kernel_rfl) (by kernel_rfl) (k := 49) (by kernel_rfl) (fun B => ⟨_, _, .inr rfl, gtextO_2 L a hL hx most n e e.toNat h hm h0 h1 g1 g2 g3 g4 (by omega) c2, by kernel_rfl⟩) rfl (List.all_eq_true.1 (by kernel_rfl))
      · rw [if_neg c2]
        have e5 : textOf ((L.drop e.toNat).take n.toNat) = ⟨(((L.drop e.toNat).take (e.toNat + n.toNat - e.toNat)).map fun n => UInt8.ofNat n.toNat).toArray⟩ := by rw [Nat.add_sub_cancel_left]; rfl
        rw [e5]
        exact ValDoes.of_code Try.func34 (by kernel_rfl) (by kernel_rfl) (k := 49) (by kernel_rfl) (fun B => ⟨_, _, .inr rfl, gtextO_3 L a hL hx most n e e.toNat h hm h0 h1 g1 g2 g3 g4 (by omega) c2, by kernel_rfl⟩) rfl (List.all_eq_true.1 (by kernel_rfl))
  · rw [if_pos hw]
    exact ValDoes.of_code Try.func34 (by kernel_rfl) (by kernel_rfl) (k := 49) (by kernel_rfl) (fun B => ⟨_, _, .inr rfl, gtextE_1 L a hL hx most n e w h hw, by kernel_rfl⟩) rfl (List.all_eq_true.1 (by kernel_rfl))
theorem gtext_call {B c len : Nat} {L : List Int} {a most e w : Int} {s : ByteArray} (hr : gtextI L a most = (s, e, w)) (hl : len = L.length) (hL : L.length ≤ 140737488353000) (hx : ∀ x ∈ L, 0 ≤ x ∧ x ≤ 255) (hm : 0 ≤ most ∧ most ≤ 100000) : CallDoes Try.prog B 34 [.s (.slv len none 1 (flat bc L)), .s (.int .i64 a), .s (.int .i64 most)] [] c (.tup [(false, [.str s]), (false, [.int .i64 e]), (false, [.int .i64 w])]) ([] ++ []) c := by
  have h := gtext_does L a hL hx most hm B c
  rw [hr] at h
  subst hl
  exact h
end Go.Proofs.Ytojleakknchfdaa.V
