/- MergeSettles answers true: the law. Printed by gen_settles.py. -/
import Derived.Test.YtiodonkmapaebaaMSettlesC
namespace Go.Proofs.Ytiodonkmapaebaa.MPick
set_option linter.unusedVariables false
set_option linter.unusedSimpArgs false
open Go Go.RowKit Go.Proofs Go.Proofs.Ytiodonkmapaebaa.Eng

theorem call_bare {B : Nat} {f : FuncId} {args : List AV} {v : AV} (h : PureDoes Try.prog f args [] 0 v) (hb : bareA v = true) (hl : args.all (fun x => match x with | .tup _ => false | x => bareA x) = true) (m : Mem) (c : Nat) : CallDoes Try.prog B f args m c v m c := by
  refine h.call0 hb (fun x hx => ?_) m c
  have := List.all_eq_true.1 hl x hx
  cases x with
  | tup l => simp at this
  | _ => exact ⟨this, fun l hl => by cases hl⟩
theorem fill {B : Nat} {a0 a1 : AV} {M0 : Mem} {n nb : Nat} (G : Given a0 a1 M0 n nb) : ∀ (r i : Nat) (L : List Int), i + r = 5 → L.length = 5 → (∀ x ∈ L, 0 ≤ x) → (∀ k, i ≤ k → k < 5 → L.getD k 0 = 0) → L.sum ≤ 30 * (i : Int) →
    ∃ L' : List Int, L'.length = 5 ∧ (∀ x ∈ L', 0 ≤ x) ∧ L'.sum ≤ 150 ∧ LoopDoes Try.prog B (Lf (Lf (Rt (Lf (Rt (Rt (Rt (Try.f4.body.getD .skip)))))))) (sm [(7, .s (.int .i64 i)), (6, .s (.int .i64 L.sum)), (5, LV), (0, a0), (1, a1)] M0 L) (.exit 0) (sm [(6, .s (.int .i64 L'.sum)), (5, LV), (1, a1)] M0 L')
  | 0, i, L, h, hl, hn, hz, hs => by
    obtain rfl : i = 5 := by omega
    refine ⟨L, hl, hn, by omega, ?_⟩
    by_cases hi : 5 < n
    · exact .last (CodeDoes.seq_out (g_l0y a0 a1 M0 L 5 n _ G.l0 (by simp <;> omega) (by decide)) (by decide)) (by decide)
    · exact .last (CodeDoes.seq_out (g_l0x a0 a1 M0 L 5 n _ G.l0 (by simp <;> omega)) (by decide)) (by decide)
  | r + 1, i, L, h, hl, hn, hz, hs => by
    by_cases hi : i < n
    · obtain ⟨o, Z, x, e1, e2, e3⟩ := G.i0 i hi
      obtain ⟨y, y0, y1, hy⟩ := within_does x
      have hz0 := hz i (Nat.le_refl _) (by omega)
      have hs0 := sum_nn L hn
      have hsum := sum_set L i y (by omega)
      obtain ⟨L', k1, k2, k3, k4⟩ := fill (B := B) G r (i + 1) (L.set i y) (by omega) (by simpa using hl) (nn_set hn y0) (fun k g1 g2 => by rw [getD_set_ne (by omega)]; exact hz k (by omega) g2) (by rw [hsum, hz0]; omega)
      refine ⟨L', k1, k2, k3, .more ?_ k4⟩
      refine CodeDoes.seq (g_l0a a0 a1 M0 L i n _ G.l0 (by simp <;> omega) (by simp <;> omega)) (CodeDoes.seq (s1 := (sm [(7, .s (.int .i64 i)), (6, .s (.int .i64 (L.set i y).sum)), (5, LV), (0, a0), (1, a1)] M0 (L.set i y))) (CodeDoes.block ?_ (by intro i h; cases h)) (g_r5 a0 a1 M0 (L.set i y) i _ (wrap_next (by omega))))
      refine CodeDoes.seq (g_r6 a0 a1 M0 L i o L.sum x y Z (by omega) e1 e2 e3 (ho_of hl (by omega)) (call_bare hy rfl rfl _ _)) ?_
      have hc := cell (L.set i y) i (by rw [List.length_set]; omega)
      rw [getD_set_eq (by omega)] at hc
      exact g_r7 a0 a1 M0 (L.set i y) i L.sum y _ (by omega) hc (by rw [hsum, hz0, wrap_id (by omega) (by omega)]; omega)
    · exact ⟨L, hl, hn, by omega, .last (CodeDoes.seq_out (g_l0x a0 a1 M0 L i n _ G.l0 (by simp <;> omega)) (by decide)) (by decide)⟩
theorem settles_does {a0 a1 : AV} {M0 : Mem} {n nb : Nat} (G : Given a0 a1 M0 n nb) : PureDoes Try.prog 4 [a0, a1] M0 2 (.s (.bool true)) := by
  refine PureDoes.of_body (body := Try.f4.body.getD .skip) (e := .ret) (s' := ⟨⟨112, [(4, .s (.bool true))]⟩, [], 3⟩) rfl rfl (by decide) (fun B => ?_) (.inr rfl) rfl
  obtain ⟨L, h1, h2, h3, h4⟩ := fill (B := B) G 5 0 [0, 0, 0, 0, 0] rfl rfl (by decide) (fun k _ hk => by rcases k with _ | _ | _ | _ | _ | k <;> first | rfl | omega) (by decide)
  have h0 := sum_nn L h2
  refine CodeDoes.seq (g_r0 a0 a1 M0) (CodeDoes.seq (g_r1 a0 a1 M0) (CodeDoes.seq (g_r2 a0 a1 M0 _) (CodeDoes.seq (s1 := (sm [(6, .s (.int .i64 L.sum)), (5, LV), (1, a1)] M0 L)) ?_ ?_)))
  · exact CodeDoes.seq (g_r3 a0 a1 M0 _) (CodeDoes.block_exit (LoopDoes.code h4))
  · refine CodeDoes.seq (g_r8 a1 M0 L L.sum (4 * L.sum + 8) (call_bare (fuel_does L.sum h0 (by omega)) rfl rfl _ _)) (CodeDoes.seq_out ?_ (by decide))
    refine CodeDoes.seq (g_r9 a1 M0 L (4 * L.sum + 8)) (CodeDoes.block (LoopDoes.code ?_) (by intro i h; cases h))
    exact settle G (4 * L.sum + 8) (by omega) L.sum.toNat 0 L h1 h2 (by omega) (by omega)
end Go.Proofs.Ytiodonkmapaebaa.MPick
