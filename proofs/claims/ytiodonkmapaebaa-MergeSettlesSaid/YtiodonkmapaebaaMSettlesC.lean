/- MergeSettles answers true: joined. Printed by gen_settles.py. -/
import Derived.Test.YtiodonkmapaebaaMSettlesB
namespace Go.Proofs.Ytiodonkmapaebaa.MPick
set_option linter.unusedVariables false
set_option linter.unusedSimpArgs false
open Go Go.RowKit Go.Proofs Go.Proofs.Ytiodonkmapaebaa.Eng

theorem sum_set : ∀ (L : List Int) (j : Nat) (v : Int), j < L.length → (L.set j v).sum = L.sum - L.getD j 0 + v
  | [], j, v, h => absurd h (by simp)
  | x :: r, 0, v, h => by simp; omega
  | x :: r, j + 1, v, h => by
    have := sum_set r j v (by simpa using h)
    simp only [List.set_cons_succ, List.sum_cons, List.getD_cons_succ, this]
    omega
theorem sum_nn : ∀ (L : List Int), (∀ x ∈ L, 0 ≤ x) → 0 ≤ L.sum
  | [], _ => by simp
  | x :: r, h => by
    have h1 := h x (by simp)
    have h2 := sum_nn r (fun y hy => h y (by simp [hy]))
    simp only [List.sum_cons]
    omega
theorem sum_ge : ∀ (L : List Int) (j : Nat), (∀ x ∈ L, 0 ≤ x) → j < L.length → 0 ≤ L.getD j 0 ∧ L.getD j 0 ≤ L.sum
  | [], j, _, h => absurd h (by simp)
  | x :: r, 0, hx, h => by
    have h1 := hx x (by simp)
    have h2 := sum_nn r (fun y hy => hx y (by simp [hy]))
    simp only [List.getD_cons_zero, List.sum_cons]
    omega
  | x :: r, j + 1, hx, h => by
    have h1 := hx x (by simp)
    have h2 := sum_ge r j (fun y hy => hx y (by simp [hy])) (by simpa using h)
    simp only [List.getD_cons_succ, List.sum_cons]
    omega
theorem nn_set {L : List Int} {j : Nat} {v : Int} (h : ∀ x ∈ L, 0 ≤ x) (hv : 0 ≤ v) : ∀ x ∈ L.set j v, 0 ≤ x := by
  intro x hx
  rcases List.mem_or_eq_of_mem_set hx with h1 | h1
  · exact h x h1
  · omega
theorem getD_set_ne {L : List Int} {j t : Nat} {v : Int} (h : j ≠ t) : (L.set j v).getD t 0 = L.getD t 0 := by
  simp [List.getD_eq_getElem?_getD, List.getElem?_set_ne h]
theorem getD_set_eq {L : List Int} {j : Nat} {v : Int} (h : j < L.length) : (L.set j v).getD j 0 = v := by
  simp [List.getD_eq_getElem?_getD, List.getElem?_set_self h]

/-! ### The calls, from where the law stands -/
theorem at_two {B : Nat} {f : FuncId} {v : AV} {L : List Int} {M0 : Mem} (h : PureDoes Try.prog f [lev 5 none] (mem L) 1 v) (hb : bareA v = true) : CallDoes Try.prog B f [LV] (ms M0 L) 3 v (ms M0 L) 3 := by
  have hV : ∀ x ∈ ints L, rnV (fun _ => 2) x = x := by
    intro x hx
    simp only [ints, List.mem_map] at hx
    obtain ⟨y, _, rfl⟩ := hx
    rfl
  refine h.call hb (fun _ => 2) 3 rfl (bare_lev 5 none) (fun n b hn => ?_)
  obtain ⟨h1, h2, h3⟩ := mem_low L n b hn
  refine ⟨h1, h2, h3, ⟨ints L, true⟩, rfl, ?_⟩
  have hbL : b = ⟨ints L, false⟩ := by
    obtain rfl : n = 0 := by omega
    exact (Option.some.inj (show some (⟨ints L, false⟩ : Blk) = some b from hn)).symm
  subst hbL
  show ints L = (ints L).map _
  exact ((List.map_congr_left (g := id) hV).trans (List.map_id _)).symm
theorem settled_yes (Z : List Int) (n : Nat) (cap : Option Nat) (hz : n ≤ Z.length) (hb : n ≤ 140737488355328) (hj : pick Z n 0 = none) :
    PureDoes Try.prog 8 [lev n cap] (mem Z) 1 (.s (.bool true)) :=
  PureDoes.of_body (body := Try.f8.body.getD .skip) (e := .ret) (s' := ⟨⟨12, [(2, .s (.bool true))]⟩, mem Z, 1⟩) rfl rfl (by decide) (fun B => settled_y Z n cap (call_pick_no Z n cap hz hb hj)) (.inr rfl) rfl
theorem settled_no (Z : List Int) (n : Nat) (cap : Option Nat) (hz : n ≤ Z.length) (hb : n ≤ 140737488355328) (j : Nat) (hj : pick Z n 0 = some j) :
    PureDoes Try.prog 8 [lev n cap] (mem Z) 1 (.s (.bool false)) :=
  PureDoes.of_body (body := Try.f8.body.getD .skip) (e := .ret) (s' := ⟨⟨12, [(2, .s (.bool false))]⟩, mem Z, 1⟩) rfl rfl (by decide) (fun B => settled_n Z n cap j (call_pick_yes Z n cap hz hb j hj)) (.inr rfl) rfl
theorem ho_of {L : List Int} {i : Nat} (hl : L.length = 5) (hi : i < 5) : 0 + ((i : Int)).toNat * 1 < (ints L).length := by
  simp [ints]; omega

/-- What the two rows are. -/
structure Given (a0 a1 : AV) (M0 : Mem) (n nb : Nat) : Prop where
  l0 : evLen Try.prog 22 a0 = some (.s (.int .i64 (n : Int)))
  i0 : ∀ k, k < n → ∃ (o : Nat) (Z : List SV) (x : Int), evIndexAddr Try.prog 22 a0 (.s (.int .i64 (k : Int))) = some (.s (.ptr 0 o)) ∧ get M0 0 = some ⟨Z, false⟩ ∧ Z[o]? = some (.int .i64 x)
  l1 : evLen Try.prog 28 a1 = some (.s (.int .i64 (nb : Int)))
  i1 : ∀ k, k < nb → ∃ (o : Nat) (Z : List SV) (q : Bool), evIndexAddr Try.prog 28 a1 (.s (.int .i64 (k : Int))) = some (.s (.ptr 1 o)) ∧ get M0 1 = some ⟨Z, false⟩ ∧ Z[o]? = some (.bool q)

/-! ### No level asks: it is told so -/
theorem quiet {B : Nat} (M0 : Mem) (L : List Int) (hl : L.length = 5) (ha : ∀ i, i < 5 → asks i (L.getD i 0) = false) : ∀ (r i : Nat), i + r = 4 → LoopDoes Try.prog B (Lf (Lf (Rt (Lf (Lf (Rt (Lf (Rt (Rt (Lf (Lf (Rt (Lf (Lf (Rt (Lf (Rt (Rt (Rt (Rt (Rt (Try.f4.body.getD .skip)))))))))))))))))))))) (sm [(12, .s (.int .i64 (i : Int))), (5, LV)] M0 L) (.exit 4) (sm [(5, LV)] M0 L)
  | 0, i, h => .last (g_fe M0 L i (by simp <;> omega)) (by decide)
  | r + 1, i, h => by
    have h1 := ha i (by omega)
    unfold asks at h1
    rw [if_pos (by omega)] at h1
    exact .more (g_f M0 L i _ (by omega) (by simp <;> omega) (cell L i (by omega)) h1 (wrap_next (by omega))) (quiet M0 L hl ha r (i + 1) (by omega))
theorem done {B : Nat} {a0 a1 : AV} {M0 : Mem} {n nb : Nat} (G : Given a0 a1 M0 n nb) (fu : Int) (st : Nat) (L : List Int) (hl : L.length = 5) (hst : (st : Int) ≤ fu) (hp : pick L 5 0 = none) :
    CodeDoes Try.prog B (Lf (Lf (Rt (Lf (Rt (Rt (Rt (Rt (Rt (Try.f4.body.getD .skip)))))))))) (sm [(9, .s (.int .i64 st)), (8, .s (.int .i64 fu)), (5, LV), (1, a1)] M0 L) .ret ⟨⟨112, [(4, .s (.bool true))]⟩, [], 3⟩ := by
  have ha := pick_none hp
  refine CodeDoes.seq (g_s a1 M0 L fu st (by simpa using hst)) (CodeDoes.seq_out (CodeDoes.block ?_ (by intro i h; cases h)) (by decide))
  refine CodeDoes.seq (g_r12n a1 M0 L fu st (at_two (pick_no L 5 none (by omega) (by omega) hp) rfl)) ?_
  refine CodeDoes.seq (g_q13n a1 M0 L fu st 0 (at_two (settled_yes L 5 none (by omega) (by omega) hp) rfl)) (CodeDoes.seq_out ?_ (by decide))
  refine CodeDoes.seq (g_q15n a1 M0 L fu st 0) (CodeDoes.cond (q := true) rfl ?_)
  have h4 : L.getD 4 0 ≤ 1 := by
    have := ha 4 (by omega) (by omega)
    unfold asks at this
    rw [if_neg (by omega)] at this
    simpa using this
  refine CodeDoes.seq (s1 := sm [(5, LV)] M0 L) ?_ (g_r21 M0 L (L.getD 4 0) (cell L 4 (by omega)) (by simpa using h4) (call_known _ _))
  refine CodeDoes.seq (g_r16 M0 L) (CodeDoes.block_exit (LoopDoes.code ?_))
  exact quiet M0 L hl (fun i hi => ha i (by omega) (by omega)) 4 0 rfl
theorem more {B : Nat} {a0 a1 : AV} {M0 : Mem} {n nb : Nat} (G : Given a0 a1 M0 n nb) (fu : Int) (st : Nat) (L : List Int) (hl : L.length = 5) (hn : ∀ x ∈ L, 0 ≤ x) (hs : L.sum ≤ 100000) (hst : (st : Int) ≤ fu) (hsb : st ≤ 100000) {j : Nat} (hp : pick L 5 0 = some j) :
    ∃ L' : List Int, L'.length = 5 ∧ (∀ x ∈ L', 0 ≤ x) ∧ L'.sum < L.sum ∧ CodeDoes Try.prog B (Lf (Lf (Rt (Lf (Rt (Rt (Rt (Rt (Rt (Try.f4.body.getD .skip)))))))))) (sm [(9, .s (.int .i64 st)), (8, .s (.int .i64 fu)), (5, LV), (1, a1)] M0 L) .normal (sm [(9, .s (.int .i64 ((st + 1 : Nat) : Int))), (8, .s (.int .i64 fu)), (5, LV), (1, a1)] M0 L') := by
  obtain ⟨_, hj, ha, _⟩ := pick_some hp
  have hj5 : j < 5 := by omega
  obtain ⟨g1, g2⟩ := sum_ge L j hn (by omega)
  have hx2 : 2 ≤ L.getD j 0 := by
    unfold asks at ha
    split at ha
    · simp only [decide_eq_true_eq, ge_iff_le] at ha; omega
    · simp only [Bool.and_eq_true, decide_eq_true_eq, gt_iff_lt] at ha; omega
  obtain ⟨t, ht5, hq26⟩ : ∃ t : Nat, t < 5 ∧ ∀ K : List Int, CodeDoes Try.prog B (Lf (Rt (Rt (Rt (Rt (Rt (Rt (Lf (Lf (Rt (Lf (Lf (Rt (Lf (Rt (Rt (Rt (Rt (Rt (Try.f4.body.getD .skip)))))))))))))))))))) (sm [(13, .s (.int .i64 ((j + 1 : Nat) : Int))), (9, .s (.int .i64 st)), (8, .s (.int .i64 fu)), (5, LV), (1, a1)] M0 K) .normal (sm [(13, .s (.int .i64 (t : Int))), (9, .s (.int .i64 st)), (8, .s (.int .i64 fu)), (5, LV), (1, a1)] M0 K) := by
    by_cases h : j + 1 > 4
    · exact ⟨4, by omega, fun K => g_q26b a1 M0 K fu st (j + 1) (by simp <;> omega)⟩
    · exact ⟨j + 1, by omega, fun K => g_q26a a1 M0 K fu st (j + 1) (by simp <;> omega)⟩
  have hl1 : (L.set j 0).length = 5 := by simpa using hl
  have hn1 := nn_set (j := j) (v := 0) hn (by omega)
  have hs1 := sum_set L j 0 (by omega)
  obtain ⟨k1, k2⟩ := sum_ge (L.set j 0) t hn1 (by omega)
  have head : ∀ L', CodeDoes Try.prog B (Rt (Rt (Rt (Rt (Rt (Rt (Rt (Lf (Lf (Rt (Lf (Lf (Rt (Lf (Rt (Rt (Rt (Rt (Rt (Try.f4.body.getD .skip)))))))))))))))))))) (sm [(13, .s (.int .i64 (t : Int))), (9, .s (.int .i64 st)), (8, .s (.int .i64 fu)), (5, LV), (1, a1)] M0 (L.set j 0)) .normal (sm [(9, .s (.int .i64 st)), (8, .s (.int .i64 fu)), (5, LV), (1, a1)] M0 L') → CodeDoes Try.prog B (Lf (Lf (Rt (Lf (Rt (Rt (Rt (Rt (Rt (Try.f4.body.getD .skip)))))))))) (sm [(9, .s (.int .i64 st)), (8, .s (.int .i64 fu)), (5, LV), (1, a1)] M0 L) .normal (sm [(9, .s (.int .i64 ((st + 1 : Nat) : Int))), (8, .s (.int .i64 fu)), (5, LV), (1, a1)] M0 L') := by
    intro L' hq
    refine CodeDoes.seq (g_s a1 M0 L fu st (by simpa using hst)) (CodeDoes.seq (s1 := (sm [(9, .s (.int .i64 st)), (8, .s (.int .i64 fu)), (5, LV), (1, a1)] M0 L')) (CodeDoes.block ?_ (by intro i h; cases h)) (g_r11 a1 M0 L' fu st (wrap_next (by omega))))
    refine CodeDoes.seq (g_r12y a1 M0 L fu st j (at_two (pick_yes L 5 none (by omega) (by omega) j hp) rfl)) ?_
    refine CodeDoes.seq (g_q13y a1 M0 L fu st j (at_two (settled_no L 5 none (by omega) (by omega) j hp) rfl)) ?_
    refine CodeDoes.seq (g_q15y a1 M0 L fu st j) ?_
    refine CodeDoes.seq (g_q22 a1 M0 L fu st j (L.getD j 0) (by omega) (by simp <;> omega) (by simp <;> omega) (cell L j (by omega)) (by rw [beq_eq_false_iff_ne]; omega)) ?_
    refine CodeDoes.seq (g_r24 a1 M0 L fu st j (by omega) (ho_of hl hj5)) ?_
    refine CodeDoes.seq (g_r25 a1 M0 (L.set j 0) fu st j (wrap_next (by omega))) ?_
    exact CodeDoes.seq (hq26 (L.set j 0)) hq
  have hT : ((L.set j 0).set t ((L.set j 0).getD t 0 + 1)).sum < L.sum := by
    rw [sum_set _ _ _ (by omega)]
    omega
  have hN := nn_set (j := t) (v := (L.set j 0).getD t 0 + 1) hn1 (by omega)
  have hw : IntKind.wrap .i64 ((L.set j 0).getD t 0 + 1) = (L.set j 0).getD t 0 + 1 := wrap_id (by omega) (by omega)
  by_cases hb : nb ≤ st
  · exact ⟨_, by simpa using hl, hN, hT, head _ (g_q28a a1 M0 (L.set j 0) fu st t nb _ G.l1 (by omega) (ho_of hl1 ht5) (cell _ t (by omega)) hw (by simp <;> omega))⟩
  · obtain ⟨o, Z, q, e1, e2, e3⟩ := G.i1 st (by omega)
    cases q with
    | false => exact ⟨_, by simpa using hl, hN, hT, head _ (g_q28b a1 M0 (L.set j 0) fu st t nb _ G.l1 (by omega) (ho_of hl1 ht5) (cell _ t (by omega)) hw (by simp <;> omega) o Z e1 e2 e3)⟩
    | true => exact ⟨_, hl1, hn1, by omega, head _ (g_q28c a1 M0 (L.set j 0) fu st t nb _ G.l1 (by omega) (ho_of hl1 ht5) (cell _ t (by omega)) hw (by simp <;> omega) o Z e1 e2 e3)⟩
theorem settle {B : Nat} {a0 a1 : AV} {M0 : Mem} {n nb : Nat} (G : Given a0 a1 M0 n nb) (fu : Int) (hf : fu ≤ 100000) : ∀ (r st : Nat) (L : List Int), L.length = 5 → (∀ x ∈ L, 0 ≤ x) → L.sum ≤ (r : Int) → (st : Int) + r ≤ fu →
    LoopDoes Try.prog B (Lf (Lf (Rt (Lf (Rt (Rt (Rt (Rt (Rt (Try.f4.body.getD .skip)))))))))) (sm [(9, .s (.int .i64 st)), (8, .s (.int .i64 fu)), (5, LV), (1, a1)] M0 L) .ret ⟨⟨112, [(4, .s (.bool true))]⟩, [], 3⟩ := by
  intro r
  induction r with
  | zero =>
    intro st L hl hn hs hst
    cases hp : pick L 5 0 with
    | none => exact .last (done G fu st L hl hst hp) (by decide)
    | some j =>
      exfalso
      obtain ⟨_, h2, h3, _⟩ := pick_some hp
      have h5 := sum_ge L j hn (by omega)
      unfold asks at h3
      split at h3
      · simp only [decide_eq_true_eq, ge_iff_le] at h3; omega
      · simp only [Bool.and_eq_true, decide_eq_true_eq, gt_iff_lt] at h3; omega
  | succ r ih =>
    intro st L hl hn hs hst
    cases hp : pick L 5 0 with
    | none => exact .last (done G fu st L hl (by omega) hp) (by decide)
    | some j =>
      obtain ⟨L', h1, h2, h3, h4⟩ := more (B := B) G fu st L hl hn (by omega) (by omega) (by omega) hp
      exact .more h4 (ih (st + 1) L' h1 h2 (by omega) (by omega))
end Go.Proofs.Ytiodonkmapaebaa.MPick
