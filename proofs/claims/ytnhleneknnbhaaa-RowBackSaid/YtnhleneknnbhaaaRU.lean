/- Rows that are not too large: the contract. Printed by gen_ru.py. -/
import Derived.Test.YtnhleneknnbhaaaRT
import Derived.Test.YtnhleneknnbhaaaProg
import Derived.KernelRfl
namespace Go.Proofs.Ytnhleneknnbhaaa.V
open Go Go.RowKit Go.Proofs Go.Proofs.Ytnhleneknnbhaaa.Eng Go.Proofs.Ytnhleneknnbhaaa.VPl
set_option maxRecDepth 100000
set_option linter.unusedVariables false
set_option linter.unusedSimpArgs false

theorem sub_short (cs : List Cl) (len : Nat) (h : len ≤ cs.length) : sub (flat Cl.cv ((cs.take len).map cutC ++ cs.drop len)) 0 (len * 4) = some (flat Cl.cv ((cs.take len).map cutC)) := by
  have h1 : ((cs.take len).map cutC).length = len := by simp; omega
  have h2 := subToCl ((cs.take len).map cutC ++ cs.drop len) len (by simp; omega)
  have h3 : ((cs.take len).map cutC ++ cs.drop len).take len = (cs.take len).map cutC := by
    exact List.take_left' h1
  rw [h3] at h2
  exact h2
theorem shortR_big {r : Rw} (h : (r.cells.length : Int) > 10) : Rw.cv (shortR r) = [.int .i64 r.time, .int .i64 r.seq, .slv 10 none 4 (flat Cl.cv ((r.cells.take 10).map cutC))] := by
  have : ((r.cells.take 10).map cutC).length = 10 := by simp; omega
  show [SV.int .i64 r.time, SV.int .i64 r.seq, SV.slv ((r.cells.take 10).map cutC).length none 4 (flat Cl.cv ((r.cells.take 10).map cutC))] = _
  rw [this]
theorem shortR_small {r : Rw} (h : ¬ (r.cells.length : Int) > 10) : Rw.cv (shortR r) = [.int .i64 r.time, .int .i64 r.seq, .slv r.cells.length none 4 (flat Cl.cv ((r.cells.take r.cells.length).map cutC))] := by
  have e : r.cells.take 10 = r.cells.take r.cells.length := by rw [List.take_length, List.take_of_length_le (by omega)]
  show [SV.int .i64 r.time, SV.int .i64 r.seq, SV.slv ((r.cells.take 10).map cutC).length none 4 (flat Cl.cv ((r.cells.take 10).map cutC))] = _
  rw [e]
  simp
theorem flat_snoc (O : List Rw) (x : Rw) : flat Rw.cv (O ++ [x]) = flat Rw.cv O ++ Rw.cv x := by rw [flat_append]; simp [flat]
theorem short_round {B : Nat} (O L : List Rw) (most : Int) (i n c : Nat) (hn : n < c) (hO : O.length ≤ 1000) (hi : i ≤ 1000) (hc : (L.getD i Rw0).cells.length ≤ 2932031007317) (h1 : (i : Int) < (L.length : Int)) (h2 : (i : Int) < most) :
    CodeDoes Try.prog B (Lf (Lf (Rt (Lf (Rt (Rt (Try.f8.body.getD .skip))))))) ⟨⟨81, [(0, .s (.slv L.length none 3 (flat Rw.cv L))), (1, .s (.int .i64 most)), (5, .s (.sl n 0 (O).length none 3)), (6, .s (.int .i64 (i : Int)))]⟩, [(n, some ⟨flat Rw.cv (O), true⟩)], c⟩ .normal ⟨⟨81, [(0, .s (.slv L.length none 3 (flat Rw.cv L))), (1, .s (.int .i64 most)), (5, .s (.sl c 0 (O ++ [shortR (L.getD i Rw0)]).length none 3)), (6, .s (.int .i64 ((i + 1 : Nat) : Int)))]⟩, [(c, some ⟨flat Rw.cv (O ++ [shortR (L.getD i Rw0)]), true⟩)], (c + 1)⟩ := by
  have key : CodeDoes Try.prog B (Lf (Lf (Rt (Lf (Rt (Rt (Try.f8.body.getD .skip))))))) ⟨⟨81, [(0, .s (.slv L.length none 3 (flat Rw.cv L))), (1, .s (.int .i64 most)), (5, .s (.sl 0 0 (O).length none 3)), (6, .s (.int .i64 (i : Int)))]⟩, [(0, some ⟨flat Rw.cv (O), true⟩)], 1⟩ .normal ⟨⟨81, [(0, .s (.slv L.length none 3 (flat Rw.cv L))), (1, .s (.int .i64 most)), (5, .s (.sl 5 0 (O ++ [shortR (L.getD i Rw0)]).length none 3)), (6, .s (.int .i64 ((i + 1 : Nat) : Int)))]⟩, [(5, some ⟨flat Rw.cv (O ++ [shortR (L.getD i Rw0)]), true⟩)], 6⟩ := by
    have e : (O ++ [shortR (L.getD i Rw0)]).length = O.length + 1 := by simp
    rw [e, flat_snoc]
    by_cases h3 : ((L.getD i Rw0).cells.length : Int) > 10
    · rw [shortR_big h3]
      refine ((shO_1 (B := B) O L most i hO hi hc h1 h2 h3).freeze 3 (cells := flat Cl.cv (((L.getD i Rw0).cells.take 10).map cutC ++ (L.getD i Rw0).cells.drop 10)) (l' := [(0, .s (.slv L.length none 3 (flat Rw.cv L))), (1, .s (.int .i64 most)), (5, .s (.sl 5 0 (O.length + 1) none 3)), (6, .s (.int .i64 ((i + 1 : Nat) : Int)))]) (m' := [(1, none), (3, none), (4, none), (5, some ⟨flat Rw.cv O ++ [.int .i64 (L.getD i Rw0).time, .int .i64 (L.getD i Rw0).seq, .slv (10) none 4 (flat Cl.cv (((L.getD i Rw0).cells.take (10)).map cutC))], true⟩)]) rfl (Cl_flat _) (.cons (.same _) (.cons (.same _) (.cons (.same _) (.cons (.same _) .nil)))) (.none (.gone (.none (.cons (by decide) (.append (.refl _) (.cons (.same _) (.cons (.same _) (.cons (.sl (sub_short _ _ (by omega))) .nil)))) .nil))))).after ⟨rfl, fun d => .inr rfl, fun k b hb => ?_, rfl⟩
      simp only [Eng.get] at hb ⊢
      split at hb
      · rename_i hk; subst hk; simpa using hb
      · cases hb
    · rw [shortR_small h3]
      refine ((shO_2 (B := B) O L most i hO hi hc h1 h2 h3).freeze 3 (cells := flat Cl.cv (((L.getD i Rw0).cells.take (L.getD i Rw0).cells.length).map cutC ++ (L.getD i Rw0).cells.drop (L.getD i Rw0).cells.length)) (l' := [(0, .s (.slv L.length none 3 (flat Rw.cv L))), (1, .s (.int .i64 most)), (5, .s (.sl 5 0 (O.length + 1) none 3)), (6, .s (.int .i64 ((i + 1 : Nat) : Int)))]) (m' := [(1, none), (3, none), (4, none), (5, some ⟨flat Rw.cv O ++ [.int .i64 (L.getD i Rw0).time, .int .i64 (L.getD i Rw0).seq, .slv ((L.getD i Rw0).cells.length) none 4 (flat Cl.cv (((L.getD i Rw0).cells.take ((L.getD i Rw0).cells.length)).map cutC))], true⟩)]) rfl (Cl_flat _) (.cons (.same _) (.cons (.same _) (.cons (.same _) (.cons (.same _) .nil)))) (.none (.gone (.none (.cons (by decide) (.append (.refl _) (.cons (.same _) (.cons (.same _) (.cons (.sl (sub_short _ _ (by omega))) .nil)))) .nil))))).after ⟨rfl, fun d => .inr rfl, fun k b hb => ?_, rfl⟩
      simp only [Eng.get] at hb ⊢
      split at hb
      · rename_i hk; subst hk; simpa using hb
      · cases hb
  have := key.lift (fun k => if k = 0 then n else c) [0, 5] (c := c) (c' := c + 1) ⟨by simp; omega, by simp; omega, by simp, by omega⟩ (by simp [avNames, svNames]) (by simp [Rw_blk]) (by simp [avNames, svNames]) (by simp [Rw_blk])
  exact this
theorem short_first {B : Nat} (L : List Rw) (most : Int) (i : Nat) (hi : i ≤ 1000) (hc : (L.getD i Rw0).cells.length ≤ 2932031007317) (h1 : (i : Int) < (L.length : Int)) (h2 : (i : Int) < most) :
    CodeDoes Try.prog B (Lf (Lf (Rt (Lf (Rt (Rt (Try.f8.body.getD .skip))))))) ⟨⟨81, [(0, .s (.slv L.length none 3 (flat Rw.cv L))), (1, .s (.int .i64 most)), (5, .s .sl0), (6, .s (.int .i64 (i : Int)))]⟩, [], 0⟩ .normal ⟨⟨81, [(0, .s (.slv L.length none 3 (flat Rw.cv L))), (1, .s (.int .i64 most)), (5, .s (.sl 0 0 ([shortR (L.getD i Rw0)]).length none 3)), (6, .s (.int .i64 ((i + 1 : Nat) : Int)))]⟩, [(0, some ⟨flat Rw.cv ([shortR (L.getD i Rw0)]), true⟩)], 1⟩ := by
  have key : CodeDoes Try.prog B (Lf (Lf (Rt (Lf (Rt (Rt (Try.f8.body.getD .skip))))))) ⟨⟨81, [(0, .s (.slv L.length none 3 (flat Rw.cv L))), (1, .s (.int .i64 most)), (5, .s .sl0), (6, .s (.int .i64 (i : Int)))]⟩, [], 1⟩ .normal ⟨⟨81, [(0, .s (.slv L.length none 3 (flat Rw.cv L))), (1, .s (.int .i64 most)), (5, .s (.sl 5 0 ([shortR (L.getD i Rw0)]).length none 3)), (6, .s (.int .i64 ((i + 1 : Nat) : Int)))]⟩, [(5, some ⟨flat Rw.cv ([shortR (L.getD i Rw0)]), true⟩)], 6⟩ := by
    have e : flat Rw.cv [shortR (L.getD i Rw0)] = Rw.cv (shortR (L.getD i Rw0)) := by simp [flat]
    rw [e]
    by_cases h3 : ((L.getD i Rw0).cells.length : Int) > 10
    · rw [shortR_big h3]
      refine ((shN_1 (B := B) L most i hi hc h1 h2 h3).freeze 3 (cells := flat Cl.cv (((L.getD i Rw0).cells.take 10).map cutC ++ (L.getD i Rw0).cells.drop 10)) (l' := [(0, .s (.slv L.length none 3 (flat Rw.cv L))), (1, .s (.int .i64 most)), (5, .s (.sl 5 0 1 none 3)), (6, .s (.int .i64 ((i + 1 : Nat) : Int)))]) (m' := [(1, none), (3, none), (4, none), (5, some ⟨[.int .i64 (L.getD i Rw0).time, .int .i64 (L.getD i Rw0).seq, .slv 10 none 4 (flat Cl.cv (((L.getD i Rw0).cells.take 10).map cutC))], true⟩)]) rfl (Cl_flat _) (.cons (.same _) (.cons (.same _) (.cons (.same _) (.cons (.same _) .nil)))) (.none (.gone (.none (.cons (by decide) (.cons (.same _) (.cons (.same _) (.cons (.sl (sub_short _ _ (by omega))) .nil))) .nil))))).after ⟨rfl, fun d => .inr rfl, fun k b hb => ?_, rfl⟩
      simp only [Eng.get] at hb ⊢
      split at hb
      · rename_i hk; subst hk; simpa using hb
      · cases hb
    · rw [shortR_small h3]
      refine ((shN_2 (B := B) L most i hi hc h1 h2 h3).freeze 3 (cells := flat Cl.cv (((L.getD i Rw0).cells.take (L.getD i Rw0).cells.length).map cutC ++ (L.getD i Rw0).cells.drop (L.getD i Rw0).cells.length)) (l' := [(0, .s (.slv L.length none 3 (flat Rw.cv L))), (1, .s (.int .i64 most)), (5, .s (.sl 5 0 1 none 3)), (6, .s (.int .i64 ((i + 1 : Nat) : Int)))]) (m' := [(1, none), (3, none), (4, none), (5, some ⟨[.int .i64 (L.getD i Rw0).time, .int .i64 (L.getD i Rw0).seq, .slv (L.getD i Rw0).cells.length none 4 (flat Cl.cv (((L.getD i Rw0).cells.take (L.getD i Rw0).cells.length).map cutC))], true⟩)]) rfl (Cl_flat _) (.cons (.same _) (.cons (.same _) (.cons (.same _) (.cons (.same _) .nil)))) (.none (.gone (.none (.cons (by decide) (.cons (.same _) (.cons (.same _) (.cons (.sl (sub_short _ _ (by omega))) .nil))) .nil))))).after ⟨rfl, fun d => .inr rfl, fun k b hb => ?_, rfl⟩
      simp only [Eng.get] at hb ⊢
      split at hb
      · rename_i hk; subst hk; simpa using hb
      · cases hb
  have := key.lift (fun _ => 0) [5] (c := 0) (c' := 1) ⟨by simp, by simp, by simp, by omega⟩ (by simp [avNames, svNames]) (by simp) (by simp [avNames, svNames]) (by simp [Rw_blk])
  exact this
theorem short_stop {B : Nat} (O L : List Rw) (most : Int) (i n c : Nat) (hn : n < c) (hO : O.length ≤ 1000) (hi : i ≤ 1000) (hc : (L.getD i Rw0).cells.length ≤ 2932031007317) (h1 : ¬ ((i : Int) < (L.length : Int) ∧ (i : Int) < most)) : CodeDoes Try.prog B (Lf (Lf (Rt (Lf (Rt (Rt (Try.f8.body.getD .skip))))))) ⟨⟨81, [(0, .s (.slv L.length none 3 (flat Rw.cv L))), (1, .s (.int .i64 most)), (5, .s (.sl n 0 (O).length none 3)), (6, .s (.int .i64 (i : Int)))]⟩, [(n, some ⟨flat Rw.cv (O), true⟩)], c⟩ (.exit 0) ⟨⟨81, [(0, .s (.slv L.length none 3 (flat Rw.cv L))), (1, .s (.int .i64 most)), (5, .s (.sl n 0 (O).length none 3)), (6, .s (.int .i64 (i : Int)))]⟩, [(n, some ⟨flat Rw.cv (O), true⟩)], c⟩ := by
  have key : CodeDoes Try.prog B (Lf (Lf (Rt (Lf (Rt (Rt (Try.f8.body.getD .skip))))))) ⟨⟨81, [(0, .s (.slv L.length none 3 (flat Rw.cv L))), (1, .s (.int .i64 most)), (5, .s (.sl 0 0 (O).length none 3)), (6, .s (.int .i64 (i : Int)))]⟩, [(0, some ⟨flat Rw.cv (O), true⟩)], 1⟩ (.exit 0) ⟨⟨81, [(0, .s (.slv L.length none 3 (flat Rw.cv L))), (1, .s (.int .i64 most)), (5, .s (.sl 0 0 (O).length none 3)), (6, .s (.int .i64 (i : Int)))]⟩, [(0, some ⟨flat Rw.cv (O), true⟩)], 1⟩ := by
    by_cases h2 : (i : Int) < (L.length : Int)
    · exact shO_3 (B := B) O L most i hO hi hc h2 (fun h => h1 ⟨h2, h⟩)
    · exact shO_4 (B := B) O L most i hO hi hc h2
  have := key.lift (fun _ => n) [0] (c := c) (c' := c) ⟨by simp, by simp; omega, by simp, by omega⟩ (by simp [avNames, svNames]) (by simp [Rw_blk]) (by simp [avNames, svNames]) (by simp [Rw_blk])
  exact this
theorem short_stop0 {B : Nat} (L : List Rw) (most : Int) (i : Nat) (hi : i ≤ 1000) (hc : (L.getD i Rw0).cells.length ≤ 2932031007317) (h1 : ¬ ((i : Int) < (L.length : Int) ∧ (i : Int) < most)) : CodeDoes Try.prog B (Lf (Lf (Rt (Lf (Rt (Rt (Try.f8.body.getD .skip))))))) ⟨⟨81, [(0, .s (.slv L.length none 3 (flat Rw.cv L))), (1, .s (.int .i64 most)), (5, .s .sl0), (6, .s (.int .i64 (i : Int)))]⟩, [], 0⟩ (.exit 0) ⟨⟨81, [(0, .s (.slv L.length none 3 (flat Rw.cv L))), (1, .s (.int .i64 most)), (5, .s .sl0), (6, .s (.int .i64 (i : Int)))]⟩, [], 0⟩ := by
  have key : CodeDoes Try.prog B (Lf (Lf (Rt (Lf (Rt (Rt (Try.f8.body.getD .skip))))))) ⟨⟨81, [(0, .s (.slv L.length none 3 (flat Rw.cv L))), (1, .s (.int .i64 most)), (5, .s .sl0), (6, .s (.int .i64 (i : Int)))]⟩, [], 1⟩ (.exit 0) ⟨⟨81, [(0, .s (.slv L.length none 3 (flat Rw.cv L))), (1, .s (.int .i64 most)), (5, .s .sl0), (6, .s (.int .i64 (i : Int)))]⟩, [], 1⟩ := by
    by_cases h2 : (i : Int) < (L.length : Int)
    · exact shN_3 (B := B) L most i hi hc h2 (fun h => h1 ⟨h2, h⟩)
    · exact shN_4 (B := B) L most i hi hc h2
  have := key.lift (fun _ => 0) [] (c := 0) (c' := 0) ⟨by simp, by simp, by simp, by omega⟩ (by simp [avNames, svNames]) (by simp) (by simp [avNames, svNames]) (by simp)
  exact this
theorem short_rounds {B : Nat} (L : List Rw) (most : Nat) (hm : most ≤ 1000) (hc : ∀ i, (L.getD i Rw0).cells.length ≤ 2932031007317) : ∀ (k i n c : Nat), most - i = k → i ≤ most → i ≤ L.length → n < c → ∃ n' c' j, n' < c' ∧ LoopDoes Try.prog B (Lf (Lf (Rt (Lf (Rt (Rt (Try.f8.body.getD .skip))))))) ⟨⟨81, [(0, .s (.slv L.length none 3 (flat Rw.cv L))), (1, .s (.int .i64 (most : Int))), (5, .s (.sl n 0 ((L.take i).map shortR).length none 3)), (6, .s (.int .i64 (i : Int)))]⟩, [(n, some ⟨flat Rw.cv ((L.take i).map shortR), true⟩)], c⟩ (.exit 0) ⟨⟨81, [(0, .s (.slv L.length none 3 (flat Rw.cv L))), (1, .s (.int .i64 (most : Int))), (5, .s (.sl n' 0 (shortL L most).length none 3)), (6, .s (.int .i64 (j : Int)))]⟩, [(n', some ⟨flat Rw.cv (shortL L most), true⟩)], c'⟩ := by
  intro k
  induction k with
  | zero =>
    intro i n c hk hi hl hn
    obtain rfl : i = most := by omega
    exact ⟨n, c, i, hn, LoopDoes.last (short_stop _ L i i n c hn (by simp; omega) (by omega) (hc i) (by omega)) (by simp)⟩
  | succ k ih =>
    intro i n c hk hi hl hn
    by_cases hlt : i < L.length
    · obtain ⟨n', c', j, g1, g2⟩ := ih (i + 1) c (c + 1) (by omega) (by omega) (by omega) (by omega)
      refine ⟨n', c', j, g1, LoopDoes.more ?_ g2⟩
      have h := short_round (B := B) ((L.take i).map shortR) L most i n c hn (by simp; omega) (by omega) (hc i) (by omega) (by omega)
      have e : (L.take i).map shortR ++ [shortR (L.getD i Rw0)] = (L.take (i + 1)).map shortR := by
        rw [List.take_succ_eq_append_getElem hlt, List.map_append]
        simp [hlt]
      rw [e] at h
      exact h
    · obtain rfl : i = L.length := by omega
      refine ⟨n, c, L.length, hn, LoopDoes.last ?_ (by simp)⟩
      have h := short_stop (B := B) ((L.take L.length).map shortR) L most L.length n c hn (by simp; omega) (by omega) (hc _) (by omega)
      have e : (L.take L.length).map shortR = shortL L most := by
        unfold shortL
        rw [List.take_length, List.take_of_length_le (by omega)]
      rw [e] at h ⊢
      exact h
theorem only5 {k c : Nat} {x y z w : AV} {m : Mem} (hy : y = .any) (hz : z = .any) (hw : w = .any) : Less ⟨⟨k, [(5, x)]⟩, m, c⟩ ⟨⟨k, [(0, y), (1, z), (5, x), (6, w)]⟩, m, c⟩ := by
  subst hy hz hw
  refine ⟨rfl, fun d => ?_, fun n b h => h, rfl⟩
  by_cases h : d = 5
  · subst h; right; rfl
  · left; show (if 5 = d then x else AV.any) = .any; rw [if_neg (fun e => h e.symm)]
theorem short_loop {B : Nat} (L : List Rw) (most : Nat) (hm : most ≤ 1000) (hc : ∀ i, (L.getD i Rw0).cells.length ≤ 2932031007317) : CodeDoes Try.prog B (Lf (Rt (Lf (Rt (Rt (Try.f8.body.getD .skip)))))) ⟨⟨81, [(0, .s (.slv L.length none 3 (flat Rw.cv L))), (1, .s (.int .i64 (most : Int))), (5, .s .sl0), (6, .s (.int .i64 ((0 : Nat) : Int)))]⟩, [], 0⟩ (.exit 0) ⟨⟨81, [(5, .s (.slv (shortL L most).length none 3 (flat Rw.cv (shortL L most))))]⟩, [], 0⟩ := by
  by_cases h0 : (0 : Nat) < L.length ∧ (0 : Nat) < most
  · obtain ⟨n', c', j, g1, g2⟩ := short_rounds (B := B) L most hm hc (most - 1) 1 0 1 rfl (by omega) (by omega) (by omega)
    have h := short_first (B := B) L most 0 (by omega) (hc 0) (by omega) (by omega)
    have e : [shortR (L.getD 0 Rw0)] = (L.take 1).map shortR := by
      obtain ⟨x, r, rfl⟩ : ∃ x r, L = x :: r := by cases L with
        | nil => simp at h0
        | cons x r => exact ⟨x, r, rfl⟩
      simp
    rw [e] at h
    have hl := LoopDoes.more h g2
    have hl2 : CodeDoes Try.prog B (Lf (Rt (Lf (Rt (Rt (Try.f8.body.getD .skip)))))) ⟨⟨81, [(0, .s (.slv L.length none 3 (flat Rw.cv L))), (1, .s (.int .i64 (most : Int))), (5, .s .sl0), (6, .s (.int .i64 ((0 : Nat) : Int)))]⟩, [], 0⟩ (.exit 0) ⟨⟨81, [(0, .s (.slv L.length none 3 (flat Rw.cv L))), (1, .s (.int .i64 (most : Int))), (5, .s (.sl n' 0 (shortL L most).length none 3)), (6, .s (.int .i64 (j : Int)))]⟩, [(n', some ⟨flat Rw.cv (shortL L most), true⟩)], c'⟩ := CodeDoes.loopAt (by kernel_rfl) hl
    have h3 := hl2.freeze n' (cells := flat Rw.cv (shortL L most)) (l' := [(0, .any), (1, .any), (5, .s (.slv (shortL L most).length none 3 (flat Rw.cv (shortL L most)))), (6, .any)]) (m' := [(n', none)]) (by simp [Eng.get]) (Rw_flat _) (.cons (.any _) (.cons (.any _) (.cons (.s (.sl (subRw _))) (.cons (.any _) .nil)))) (.gone .nil)
    have h4 := h3.after (only5 rfl rfl rfl)
    exact h4.pack0 [] (by simp) (by simp [avNames, svNames]) (by simp) (fun n b hb => by cases hb) (by simp [namelessA, namelessV])
  · have h := short_stop0 (B := B) L most 0 (by omega) (hc 0) (by omega)
    have e : shortL L most = [] := by
      unfold shortL
      rcases Nat.eq_zero_or_pos most with h1 | h1
      · rw [h1]; rfl
      · have : L.length = 0 := by omega
        rw [List.eq_nil_of_length_eq_zero this]; simp
    rw [e]
    have h2 := CodeDoes.loopAt (C := (Lf (Rt (Lf (Rt (Rt (Try.f8.body.getD .skip))))))) (by kernel_rfl) (LoopDoes.last h (by simp))
    have h3 := h2.nilv (l' := [(0, .s (.slv L.length none 3 (flat Rw.cv L))), (1, .s (.int .i64 (most : Int))), (5, .s (.slv 0 none 3 [])), (6, .s (.int .i64 ((0 : Nat) : Int)))]) (.cons (.same _) (.cons (.same _) (.cons (.nil 3) (.cons (.same _) .nil))))
    refine h3.after ⟨rfl, fun d => ?_, fun n b h => h, rfl⟩
    by_cases h5 : d = 5
    · subst h5; right; rfl
    · left; show (if 5 = d then (AV.s (.slv 0 none 3 [])) else AV.any) = .any; rw [if_neg (fun e => h5 e.symm)]
theorem short_1 {B : Nat} (L : List Rw) (most : Nat) (hm : most ≤ 1000) (hc : ∀ i, (L.getD i Rw0).cells.length ≤ 2932031007317)  : CodeDoes Try.prog B (Try.f8.body.getD .skip) ⟨⟨81, [(0, .s (.slv L.length none 3 (flat Rw.cv L))), (1, .s (.int .i64 (most : Int)))]⟩, [], 0⟩ Ex.ret ⟨⟨81, [(4, AV.s (SV.slv (List.length (shortL L most)) none 3 (flat Rw.cv (shortL L most))))]⟩, [], 0⟩ :=
  goA_ok mix (tape := [(3, Ans.loop [0, 1, 5, 6] [] (Ex.exit 0) (St.mk (Tm.mk 81 [(5, AV.s (SV.slv (List.length (shortL L most)) none 3 (flat Rw.cv (shortL L most))))]) [] 0))]) (dl := [4]) (nl := []) (C := [(CodeDoes Try.prog B (Lf (Rt (Lf (Rt (Rt (Try.f8.body.getD .skip)))))) (St.mk (Tm.mk 81 [(0, AV.s (SV.slv (List.length L) none 3 (flat Rw.cv L))), (1, AV.s (SV.int IntKind.i64 (↑most : Int))), (5, AV.s SV.sl0), (6, AV.s (SV.int IntKind.i64 (↑0 : Int)))]) [] 0) (Ex.exit 0) (St.mk (Tm.mk 81 [(5, AV.s (SV.slv (List.length (shortL L most)) none 3 (flat Rw.cv (shortL L most))))]) [] 0))]) (by kernel_rfl) ⟨by (apply short_loop <;> first | exact el37 | exact el23 | exact sz35 | exact sz39 | exact by35 | exact by39 | exact zr35 | exact zr39 | exact ag35 | exact ag39 | exact un9 | assumption | rfl | omega | (unfold maxLen; omega) | decide | (simp; done) | (simp; omega)), trivial⟩
theorem short_does (L : List Rw) (most : Nat) (hm : most ≤ 1000) (hc : ∀ i, (L.getD i Rw0).cells.length ≤ 2932031007317) : ValDoes Try.prog 8 [.s (.slv L.length none 3 (flat Rw.cv L)), .s (.int .i64 (most : Int))] (.s (.slv (shortL L most).length none 3 (flat Rw.cv (shortL L most)))) := by
  exact ValDoes.of_code Try.func8 (by kernel_rfl) (by kernel_rfl) (k := 81) (by kernel_rfl) (fun B => ⟨_, _, .inr rfl, short_1 L most hm hc, Eq.trans (b := some (AV.s (SV.slv (List.length (shortL L most)) none 3 (flat Rw.cv (shortL L most))))) (by kernel_rfl) (congrArg some (show (AV.s (SV.slv (List.length (shortL L most)) none 3 (flat Rw.cv (shortL L most)))) = (.s (.slv (shortL L most).length none 3 (flat Rw.cv (shortL L most)))) by rfl))⟩) (by kernel_rfl) (List.all_eq_true.1 (by kernel_rfl))
theorem short_call {B cc : Nat} (L : List Rw) (most : Nat) (hm : most ≤ 1000) (hc : ∀ i, (L.getD i Rw0).cells.length ≤ 2932031007317) : CallDoes Try.prog B 8 [.s (.slv L.length none 3 (flat Rw.cv L)), .s (.int .i64 (most : Int))] [] cc (.s (.slv (shortL L most).length none 3 (flat Rw.cv (shortL L most)))) ([] ++ []) cc := short_does L most hm hc B cc
end Go.Proofs.Ytnhleneknnbhaaa.V
