/- Chapter 1: contracts of the readers. Printed by gen_vc.py. -/
import Derived.Test.YtdjalemejbjafaaVB
import Derived.Test.YtdjalemejbjafaaProg
import Derived.KernelRfl
namespace Go.Proofs.Ytdjalemejbjafaa.V
open Go Go.RowKit Go.Proofs Go.Proofs.Ytdjalemejbjafaa.Eng Go.Proofs.Ytdjalemejbjafaa.VPl
set_option maxRecDepth 100000
set_option linter.unusedVariables false
set_option linter.unusedSimpArgs false
attribute [local irreducible] Eng.evAppend Eng.evSlice Eng.less CallDoes Eng.loadG Eng.evIndexAddr Eng.evBin
theorem convB {len c : Nat} {cap : Option Nat} {L : List Int} (hx : ∀ x ∈ L, 0 ≤ x ∧ x ≤ 255) : less 0 (evConv Try.prog 25 9 (.s (.slv len cap 1 (flat bc L))) [] c) = some (.s (.str ⟨(L.map fun n => UInt8.ofNat n.toNat).toArray⟩), [], c) := by
  have hb : bytesIn (flat bc L) = some (L.map fun n => UInt8.ofNat n.toNat) := by
    clear hx
    induction L with
    | nil => rfl
    | cons x r ih =>
      show bytesIn (.int .u8 x :: flat bc r) = _
      simp only [bytesIn, ih, Option.map_some, List.map_cons]
  have h1 : ∃ e, Try.prog.underlying 25 = some (.slice e) ∧ Try.prog.underlying e = some (.int .u8) := ⟨5, by kernel_rfl, by kernel_rfl⟩
  obtain ⟨e, h1, h2⟩ := h1
  simp [evConv, h1, h2, un9, hb, less]
theorem getP_1 {B : Nat} (L : List Int) (a : Int) (hL : L.length ≤ 140737488353000)  : CodeDoes Try.prog B (Lf (Rt (Rt (Try.f32.body.getD .skip)))) ⟨⟨70, [(0, .s (.slv L.length none 1 (flat bc L))), (1, .s (.int .i64 a)), (4, .any), (5, .any), (6, .any)]⟩, [], 0⟩ Ex.normal ⟨⟨70, [(0, AV.s (SV.slv (List.length L) none 1 (flat bc L))), (1, AV.s (SV.int IntKind.i64 a)), (7, AV.s (SV.int IntKind.u64 0))]⟩, [], 0⟩ :=
  goA_ok mix (tape := []) (dl := [0, 1, 7]) (nl := []) (C := []) (by kernel_rfl) trivial
theorem getQ_1 {B : Nat} (L : List Int) (a : Int) (hL : L.length ≤ 140737488353000)  : CodeDoes Try.prog B (Lf (Rt (Rt (Rt (Try.f32.body.getD .skip))))) ⟨⟨70, [(0, .s (.slv L.length none 1 (flat bc L))), (1, .s (.int .i64 a)), (7, .s (.int .u64 0))]⟩, [], 0⟩ Ex.normal ⟨⟨70, [(0, AV.s (SV.slv (List.length L) none 1 (flat bc L))), (1, AV.s (SV.int IntKind.i64 a)), (7, AV.s (SV.int IntKind.u64 0)), (8, AV.s (SV.bool true))]⟩, [], 0⟩ :=
  goA_ok mix (tape := []) (dl := [0, 1, 7, 8]) (nl := []) (C := []) (by kernel_rfl) trivial
theorem getS_1 {B : Nat} (L : List Int) (a : Int) (k : Nat) (hL : L.length ≤ 140737488353000) (hk : a = (k : Int)) (hk2 : k ≤ L.length)  : CodeDoes Try.prog B (Lf (Lf (Rt (Rt (Rt (Rt (Try.f32.body.getD .skip))))))) ⟨⟨70, [(0, .s (.slv L.length none 1 (flat bc L))), (1, .s (.int .i64 a)), (7, .s (.int .u64 0)), (8, .s (.bool true))]⟩, [], 0⟩ Ex.normal ⟨⟨70, [(1, AV.s (SV.int IntKind.i64 a)), (7, AV.s (SV.int IntKind.u64 0)), (8, AV.s (SV.bool true)), (21, AV.s (SV.slv (List.length L - k) none 1 (flat bc (List.drop k L)))), (22, AV.s (SV.int IntKind.i64 (↑(List.length L - k) : Int))), (23, AV.s (SV.int IntKind.i64 0))]⟩, [], 0⟩ :=
  goA_ok mix (tape := [(2, Ans.val (AV.s (SV.slv (List.length L - k) (Option.map (fun (x : Nat) => x - k) none) 1 (flat bc (List.drop k L)))))]) (dl := [1, 7, 8, 21, 22, 23]) (nl := []) (C := [((evSlice Try.prog 25 (AV.s (vB L)) (some (AV.s (sI a))) none none) = some (AV.s (SV.slv (List.length L - k) (Option.map (fun (x : Nat) => x - k) none) 1 (flat bc (List.drop k L)))))]) (by kernel_rfl) ⟨by (apply fromB <;> first | assumption | rfl), trivial⟩
theorem getZ_1 {B : Nat}   : CodeDoes Try.prog B (Rt (Rt (Rt (Rt (Rt (Try.f32.body.getD .skip)))))) ⟨⟨70, [(4, .any), (5, .any), (6, .any)]⟩, [], 0⟩ Ex.ret ⟨⟨70, [(4, AV.s (SV.int IntKind.u64 0)), (5, AV.s (SV.int IntKind.i64 0)), (6, AV.s (SV.int IntKind.i64 10))]⟩, [], 0⟩ :=
  goA_ok mix (tape := []) (dl := [4, 5, 6]) (nl := []) (C := []) (by kernel_rfl) trivial

abbrev ret3 (k : IntKind) (r : Int × Int × Int) : AV := .tup [(false, [.int k r.1]), (false, [.int .i64 r.2.1]), (false, [.int .i64 r.2.2])]
theorem get_does (L : List Int) (a : Int) (hL : L.length ≤ 140737488353000) (hx : ∀ x ∈ L, 0 ≤ x ∧ x ≤ 255) : ValDoes Try.prog 32 [.s (.slv L.length none 1 (flat bc L)), .s (.int .i64 a)] (ret3 .u64 (getI L a)) := by
  refine ValDoes.of_code (body := (Try.f32.body.getD .skip)) Try.func32 (by kernel_rfl) (by kernel_rfl) (k := 70) (by kernel_rfl) (fun B => ?_) rfl (List.all_eq_true.1 (by kernel_rfl))
  unfold getI
  by_cases h1 : a < 0
  · rw [if_pos (.inl h1)]
    exact ⟨_, _, .inr rfl, CodeDoes.seqAt (by kernel_rfl) (getA_1 L a hL) (CodeDoes.seqOutAt (by kernel_rfl) (getI_1 L a hL h1) (by simp)), by kernel_rfl⟩
  · by_cases h2 : a > (L.length : Int)
    · rw [if_pos (.inr h2)]
      exact ⟨_, _, .inr rfl, CodeDoes.seqAt (by kernel_rfl) (getA_1 L a hL) (CodeDoes.seqOutAt (by kernel_rfl) (getI_2 L a hL h1 h2) (by simp)), by kernel_rfl⟩
    · rw [if_neg (by omega)]
      obtain ⟨e, s', hl, ht⟩ := get_loop (B := B) (L.drop a.toNat) a (by rw [List.length_drop]; omega) ⟨by omega, by omega⟩ (fun x h => hx x (List.mem_of_mem_drop h))
      have hs := getS_1 (B := B) L a a.toNat hL (by omega) (by omega)
      rw [show L.length - a.toNat = (L.drop a.toNat).length by rw [List.length_drop]] at hs
      rcases ht with ⟨rfl, rfl⟩ | ⟨rfl, hr, rfl⟩
      · refine ⟨_, _, .inr rfl, CodeDoes.seqAt (by kernel_rfl) (getA_1 L a hL) (CodeDoes.seqAt (by kernel_rfl) (getI_3 L a hL h1 h2) (CodeDoes.seqAt (by kernel_rfl) (getP_1 L a hL) (CodeDoes.seqAt (by kernel_rfl) (getQ_1 L a hL) (CodeDoes.seqOutAt (by kernel_rfl) (CodeDoes.seqAt (by kernel_rfl) hs (CodeDoes.blockAt (id := 0) (by kernel_rfl) (CodeDoes.loopAt (by kernel_rfl) hl) (by simp))) (by simp))))), by kernel_rfl⟩
      · rw [hr]
        exact ⟨_, _, .inr rfl, CodeDoes.seqAt (by kernel_rfl) (getA_1 L a hL) (CodeDoes.seqAt (by kernel_rfl) (getI_3 L a hL h1 h2) (CodeDoes.seqAt (by kernel_rfl) (getP_1 L a hL) (CodeDoes.seqAt (by kernel_rfl) (getQ_1 L a hL) (CodeDoes.seqAt (by kernel_rfl) (CodeDoes.seqAt (by kernel_rfl) hs (CodeDoes.blockExitAt (id := 0) (by kernel_rfl) (CodeDoes.loopAt (by kernel_rfl) hl))) getZ_1)))), by kernel_rfl⟩
theorem get_call {B c len : Nat} {L : List Int} {a n e w : Int} (hr : getI L a = (n, e, w)) (hl : len = L.length) (hL : L.length ≤ 140737488353000) (hx : ∀ x ∈ L, 0 ≤ x ∧ x ≤ 255) : CallDoes Try.prog B 32 [.s (.slv len none 1 (flat bc L)), .s (.int .i64 a)] [] c (.tup [(false, [.int .u64 n]), (false, [.int .i64 e]), (false, [.int .i64 w])]) ([] ++ []) c := by
  have h := get_does L a hL hx B c
  rw [hr] at h
  subst hl
  exact h
theorem small_1 {B : Nat} (L : List Int) (a : Int) (hL : L.length ≤ 140737488353000) (hx : ∀ x ∈ L, 0 ≤ x ∧ x ≤ 255) (n e w : Int) (hr : getI L a = (n, e, w)) (h0 : 0 ≤ n) (h1 : n ≤ 18446744073709551615)  : CodeDoes Try.prog B (Try.f25.body.getD .skip) ⟨⟨22, [(0, .s (.slv L.length none 1 (flat bc L))), (1, .s (.int .i64 a))]⟩, [], 0⟩ Ex.ret ⟨⟨22, [(4, AV.s (SV.int IntKind.i64 (if 1099511627776 < n then 1099511627776 else n))), (5, AV.s (SV.int IntKind.i64 e)), (6, AV.s (SV.int IntKind.i64 w))]⟩, [], 0⟩ :=
  goA_ok mix (tape := [(5, aC (AV.tup [(false, [sU n]), (false, [sI e]), (false, [sI w])]) 0), (15, Ans.mem (AV.s (sI (if 1099511627776 < n then 1099511627776 else n))) [] 0)]) (dl := [4, 5, 6]) (nl := []) (C := [(some (AV.s (sI (wI (if 1099511627776 < n then 1099511627776 else n))), ([] : Mem), (0 : Nat)) = some (AV.s (sI (if 1099511627776 < n then 1099511627776 else n)), ([] : Mem), (0 : Nat))), (CD B 32 [AV.s (vB L), AV.s (sI a)] [] 0 (AV.tup [(false, [sU n]), (false, [sI e]), (false, [sI w])]) ([] ++ []) 0)]) (by kernel_rfl) ⟨congrArg (fun i : Int => some (AV.s (sI i), ([] : Mem), (0 : Nat))) (by exact wrap_i64 (by omega) (by omega)), by (apply get_call <;> first | assumption | rfl), trivial⟩
theorem gzag_1 {B : Nat} (L : List Int) (a : Int) (hL : L.length ≤ 140737488353000) (hx : ∀ x ∈ L, 0 ≤ x ∧ x ≤ 255) (n e w : Int) (hr : getI L a = (n, e, w)) (h0 : 0 ≤ n) (h1 : n ≤ 18446744073709551615)  : CodeDoes Try.prog B (Try.f26.body.getD .skip) ⟨⟨21, [(0, .s (.slv L.length none 1 (flat bc L))), (1, .s (.int .i64 a))]⟩, [], 0⟩ Ex.ret ⟨⟨21, [(4, AV.s (SV.int IntKind.i64 (zagI n))), (5, AV.s (SV.int IntKind.i64 e)), (6, AV.s (SV.int IntKind.i64 w))]⟩, [], 0⟩ :=
  goA_ok mix (tape := [(5, aC (AV.tup [(false, [sU n]), (false, [sI e]), (false, [sI w])]) 0), (14, aC (AV.s (sI (zagI n))) 0)]) (dl := [4, 5, 6]) (nl := []) (C := [(CD B 33 [AV.s (sU n)] [] 0 (AV.s (sI (zagI n))) ([] ++ []) 0), (CD B 32 [AV.s (vB L), AV.s (sI a)] [] 0 (AV.tup [(false, [sU n]), (false, [sI e]), (false, [sI w])]) ([] ++ []) 0)]) (by kernel_rfl) ⟨by (apply zag_call <;> first | omega), by (apply get_call <;> first | assumption | rfl), trivial⟩

/-- A number that is no greater than such a one. -/
abbrev capI (n : Int) : Int := if 1099511627776 < n then 1099511627776 else n
@[irreducible] def smallI (L : List Int) (a : Int) : Int × Int × Int := (capI (getI L a).1, (getI L a).2)
@[irreducible] def gzagI (L : List Int) (a : Int) : Int × Int × Int := (zagI (getI L a).1, (getI L a).2)
theorem getI_bd {L : List Int} {a : Int} (hx : ∀ x ∈ L, 0 ≤ x ∧ x ≤ 255) : 0 ≤ (getI L a).1 ∧ (getI L a).1 ≤ 18446744073709551615 := by
  obtain ⟨n, e, w, h⟩ : ∃ n e w, getI L a = (n, e, w) := ⟨_, _, _, rfl⟩
  by_cases hw : w = 0
  · subst hw
    obtain ⟨_, _, h0, h1, _⟩ := getI_ok hx h
    rw [h]
    exact ⟨h0, h1⟩
  · have h2 : n = 0 := by
      have key : ∀ (l : List Int) i acc, (go a l i acc).2.2 ≠ 0 → (go a l i acc).1 = 0 := by
        intro l
        induction l with
        | nil => intro i acc _; rfl
        | cons c t ih =>
          intro i acc h
          simp only [go] at h ⊢
          split
          · rename_i hc; rw [if_pos hc] at h; exact ih _ _ h
          · rename_i hc
            rw [if_neg hc] at h
            split
            · rfl
            · rename_i hd; rw [if_neg hd] at h; exact absurd rfl h
      have h3 : (getI L a).2.2 ≠ 0 := by rw [h]; exact hw
      have h4 : (getI L a).1 = 0 := by
        unfold getI at h3 ⊢
        split
        · rfl
        · rename_i hc; rw [if_neg hc] at h3; exact key _ _ _ h3
      rw [h] at h4
      exact h4
    rw [h, h2]
    show (0 : Int) ≤ 0 ∧ (0 : Int) ≤ 18446744073709551615
    decide
theorem small_does (L : List Int) (a : Int) (hL : L.length ≤ 140737488353000) (hx : ∀ x ∈ L, 0 ≤ x ∧ x ≤ 255) : ValDoes Try.prog 25 [.s (.slv L.length none 1 (flat bc L)), .s (.int .i64 a)] (ret3 .i64 (smallI L a)) := by
  obtain ⟨n, e, w, h⟩ : ∃ n e w, getI L a = (n, e, w) := ⟨_, _, _, rfl⟩
  have hb := getI_bd (a := a) hx
  unfold smallI
  rw [h] at hb ⊢
  exact ValDoes.of_code Try.func25 (by kernel_rfl) (by kernel_rfl) (k := 22) (by kernel_rfl) (fun B => ⟨_, _, .inr rfl, small_1 L a hL hx n e w h hb.1 hb.2, by kernel_rfl⟩) rfl (List.all_eq_true.1 (by kernel_rfl))
theorem gzag_does (L : List Int) (a : Int) (hL : L.length ≤ 140737488353000) (hx : ∀ x ∈ L, 0 ≤ x ∧ x ≤ 255) : ValDoes Try.prog 26 [.s (.slv L.length none 1 (flat bc L)), .s (.int .i64 a)] (ret3 .i64 (gzagI L a)) := by
  obtain ⟨n, e, w, h⟩ : ∃ n e w, getI L a = (n, e, w) := ⟨_, _, _, rfl⟩
  have hb := getI_bd (a := a) hx
  unfold gzagI
  rw [h] at hb ⊢
  exact ValDoes.of_code Try.func26 (by kernel_rfl) (by kernel_rfl) (k := 21) (by kernel_rfl) (fun B => ⟨_, _, .inr rfl, gzag_1 L a hL hx n e w h hb.1 hb.2, by kernel_rfl⟩) rfl (List.all_eq_true.1 (by kernel_rfl))
theorem small_call {B c len : Nat} {L : List Int} {a n e w : Int} (hr : smallI L a = (n, e, w)) (hl : len = L.length) (hL : L.length ≤ 140737488353000) (hx : ∀ x ∈ L, 0 ≤ x ∧ x ≤ 255) : CallDoes Try.prog B 25 [.s (.slv len none 1 (flat bc L)), .s (.int .i64 a)] [] c (.tup [(false, [.int .i64 n]), (false, [.int .i64 e]), (false, [.int .i64 w])]) ([] ++ []) c := by
  have h := small_does L a hL hx B c
  rw [hr] at h
  subst hl
  exact h
theorem gzag_call {B c len : Nat} {L : List Int} {a n e w : Int} (hr : gzagI L a = (n, e, w)) (hl : len = L.length) (hL : L.length ≤ 140737488353000) (hx : ∀ x ∈ L, 0 ≤ x ∧ x ≤ 255) : CallDoes Try.prog B 26 [.s (.slv len none 1 (flat bc L)), .s (.int .i64 a)] [] c (.tup [(false, [.int .i64 n]), (false, [.int .i64 e]), (false, [.int .i64 w])]) ([] ++ []) c := by
  have h := gzag_does L a hL hx B c
  rw [hr] at h
  subst hl
  exact h
end Go.Proofs.Ytdjalemejbjafaa.V
