/- RowSorts: the walk. Printed by gen_sh.py. -/
import Derived.Test.YtaelliigpclipaaSG
import Derived.Test.YtaelliigpclipaaProg
import Derived.KernelRfl
namespace Go.Proofs.Ytaelliigpclipaa.V
open Go Go.RowKit Go.Proofs Go.Proofs.Ytaelliigpclipaa.Eng Go.Proofs.Ytaelliigpclipaa.VPl
set_option maxRecDepth 100000
set_option linter.unusedVariables false
set_option linter.unusedSimpArgs false

/-- The number that a row bears. -/
def kOf (x : Rw) : Nat := (x.cells.headD Cl0).n.toNat
structure SortOk (M Z : List Rw) : Prop where
  m20 : M.length ≤ 20
  z20 : Z.length ≤ 20
  row : ∀ i, i < Z.length → kOf (Z.getD i Rw0) < M.length ∧ M.getD (kOf (Z.getD i Rw0)) Rw0 = Z.getD i Rw0 ∧ Z.getD i Rw0 = ⟨(Z.getD i Rw0).time, (Z.getD i Rw0).seq, [⟨⟨#[110]⟩, 1, (kOf (Z.getD i Rw0) : Int), ⟨#[]⟩⟩]⟩
  apart : ∀ i j, i < j → j < Z.length → kOf (Z.getD i Rw0) ≠ kOf (Z.getD j Rw0)
  order : ∀ i, 0 < i → i < Z.length → ¬ ltR (Z.getD i Rw0) (Z.getD (i - 1) Rw0) ∧ (ltR (Z.getD (i - 1) Rw0) (Z.getD i Rw0) ∨ kOf (Z.getD (i - 1) Rw0) ≤ kOf (Z.getD i Rw0))
theorem m2_step {B : Nat} {M Z : List Rw} (h : SortOk M Z) (S : List Bool) (i : Nat) (hS : S.length = 20) (hi : i < Z.length) (hs : ∀ k, S.getD k false = true → ∃ j, j < i ∧ kOf (Z.getD j Rw0) = k) : CodeDoes Try.prog B (Lf (Lf (Rt (Lf (Rt (Rt (Rt (Rt (Rt (Rt (Try.f3.body.getD .skip))))))))))) ⟨⟨143, [(3, .s (.slv M.length none 3 (flat Rw.cv M))), (5, .s (.slv Z.length none 3 (flat Rw.cv Z))), (6, .s (.ptr 0 0)), (7, .s (.int .i64 ((i : Int))))]⟩, [(0, some ⟨flat bv (S), true⟩)], 1⟩ .normal ⟨⟨143, [(3, .s (.slv M.length none 3 (flat Rw.cv M))), (5, .s (.slv Z.length none 3 (flat Rw.cv Z))), (6, .s (.ptr 0 0)), (7, .s (.int .i64 (((i + 1 : Nat) : Int))))]⟩, [(0, some ⟨flat bv (S.set (kOf (Z.getD i Rw0)) true), true⟩)], 1⟩ := by
  obtain ⟨r1, r2, r3⟩ := h.row i hi
  have e0 : ((i + 1 : Nat) : Int) = (i : Int) + 1 := by omega
  rw [e0]
  generalize hx : Z.getD i Rw0 = x at r1 r2 r3 ⊢
  generalize hk : kOf x = k at r1 r2 r3 ⊢
  have hsk : S.getD k false = false := by
    cases hb : S.getD k false with
    | false => rfl
    | true =>
      obtain ⟨j, hj, hjk⟩ := hs k hb
      exact absurd (hjk.trans (by rw [hx, hk])) (h.apart j i hj hi)
  have hm : M.getD k Rw0 = ⟨x.time, x.seq, [⟨⟨#[110]⟩, 1, (k : Int), ⟨#[]⟩⟩]⟩ := r2.trans r3
  have hz : Z.getD i Rw0 = ⟨x.time, x.seq, [⟨⟨#[110]⟩, 1, (k : Int), ⟨#[]⟩⟩]⟩ := hx.trans r3
  have hkr := kr_same ⟨x.time, x.seq, [⟨⟨#[110]⟩, 1, (k : Int), ⟨#[]⟩⟩]⟩ (by simp)
  rcases Nat.eq_zero_or_pos i with h0 | h0
  · exact m2Z_1 M Z S i k x.time x.seq 1 ⟨#[110]⟩ ⟨#[]⟩ hi h.z20 h.m20 hS r1 hz hm hsk hkr h0
  · obtain ⟨p1, p2, p3⟩ := h.row (i - 1) (by omega)
    obtain ⟨o1, o2⟩ := h.order i h0 hi
    rw [hx] at o1 o2
    rw [hk] at o2
    generalize hy : Z.getD (i - 1) Rw0 = y at p1 p2 p3 o1 o2
    generalize hk' : kOf y = k' at p1 p2 p3 o2
    have hz' : Z.getD (i - 1) Rw0 = ⟨y.time, y.seq, [⟨⟨#[110]⟩, 1, (k' : Int), ⟨#[]⟩⟩]⟩ := hy.trans p3
    have hl1 := lessR_does x.time x.seq y.time y.seq [⟨⟨#[110]⟩, 1, (k : Int), ⟨#[]⟩⟩] [⟨⟨#[110]⟩, 1, (k' : Int), ⟨#[]⟩⟩]
    have e1 : decide (cmpRw x.time x.seq y.time y.seq < 0) = false := decide_eq_false (fun h => o1 ((cmpRw_lt _ _ _ _).1 h))
    rw [e1] at hl1
    have hl2 := lessR_does y.time y.seq x.time x.seq [⟨⟨#[110]⟩, 1, (k' : Int), ⟨#[]⟩⟩] [⟨⟨#[110]⟩, 1, (k : Int), ⟨#[]⟩⟩]
    generalize hb2 : decide (cmpRw y.time y.seq x.time x.seq < 0) = b2 at hl2
    have hb : b2 = true ∨ k' ≤ k := by
      rcases o2 with o2 | o2
      · left; rw [← hb2]; exact decide_eq_true ((cmpRw_lt _ _ _ _).2 o2)
      · exact .inr o2
    by_cases hc : (!b2) = true
    · have hkk : ¬ ((k' : Int) > (k : Int)) := by
        rcases hb with rfl | hb
        · cases hc
        · omega
      exact m2P_2 M Z S i k x.time x.seq 1 ⟨#[110]⟩ ⟨#[]⟩ hi h.z20 h.m20 hS r1 hz hm hsk hkr h0 y.time y.seq k' hz' hl1 b2 hl2 hb hc hkk
    · exact m2P_3 M Z S i k x.time x.seq 1 ⟨#[110]⟩ ⟨#[]⟩ hi h.z20 h.m20 hS r1 hz hm hsk hkr h0 y.time y.seq k' hz' hl1 b2 hl2 hb hc
theorem m_loop {B : Nat} {M Z : List Rw} (h : SortOk M Z) : CodeDoes Try.prog B (Lf (Rt (Lf (Rt (Rt (Rt (Rt (Rt (Rt (Try.f3.body.getD .skip)))))))))) ⟨⟨143, [(3, .s (.slv M.length none 3 (flat Rw.cv M))), (5, .s (.slv Z.length none 3 (flat Rw.cv Z))), (6, .s (.ptr 0 0)), (7, .s (.int .i64 0))]⟩, [(0, some ⟨[.bool false, .bool false, .bool false, .bool false, .bool false, .bool false, .bool false, .bool false, .bool false, .bool false, .bool false, .bool false, .bool false, .bool false, .bool false, .bool false, .bool false, .bool false, .bool false, .bool false], true⟩)], 1⟩ (.exit 2) ⟨⟨143, [(5, .s (.slv Z.length none 3 (flat Rw.cv Z)))]⟩, [], 1⟩ := by
  have hf := LoopDoes.fold (P := Try.prog) (B := B) (body := (Lf (Lf (Rt (Lf (Rt (Rt (Rt (Rt (Rt (Rt (Try.f3.body.getD .skip)))))))))))) (fun i S => ⟨⟨143, [(3, .s (.slv M.length none 3 (flat Rw.cv M))), (5, .s (.slv Z.length none 3 (flat Rw.cv Z))), (6, .s (.ptr 0 0)), (7, .s (.int .i64 (((i : Nat) : Int))))]⟩, [(0, some ⟨flat bv (S), true⟩)], 1⟩) Z.length (fun i S => S.set (kOf (Z.getD i Rw0)) true) (fun i S => S.length = 20 ∧ ∀ k, S.getD k false = true → ∃ j, j < i ∧ kOf (Z.getD j Rw0) = k) (e2 := .exit 2) (s2 := fun S => ⟨⟨143, [(3, .s (.slv M.length none 3 (flat Rw.cv M))), (5, .s (.slv Z.length none 3 (flat Rw.cv Z))), (6, .s (.ptr 0 0)), (7, .s (.int .i64 ((Z.length : Int))))]⟩, [(0, some ⟨flat bv (S), true⟩)], 1⟩) (by simp) (fun i S hi h => by
      refine ⟨by simp [h.1], fun k hk => ?_⟩
      by_cases hkk : kOf (Z.getD i Rw0) = k
      · exact ⟨i, by omega, hkk⟩
      · have : ∀ a, a ≠ k → (S.set a true).getD k false = S.getD k false := fun a ha => by simp [List.getD_eq_getElem?_getD, List.getElem?_set_ne ha]
        rw [this _ hkk] at hk
        obtain ⟨j, hj, hjk⟩ := h.2 k hk
        exact ⟨j, by omega, hjk⟩) (fun i S hi hS => m2_step h S i hS.1 hi hS.2) (fun S hS => m2E_1 M Z S Z.length (by omega)) (List.replicate 20 false) ⟨by simp, fun k hk => by
      exfalso
      rw [List.getD_eq_getElem?_getD, List.getElem?_replicate] at hk
      split at hk <;> cases hk⟩
  refine (CodeDoes.loopAt (by kernel_rfl) hf).after ⟨rfl, fun d => ?_, fun n b h => (by cases h), rfl⟩
  by_cases d5 : d = 5
  · subst d5; right; rfl
  · left; show (if 5 = d then _ else AV.any) = .any; rw [if_neg (fun e => d5 e.symm)]
theorem PureDoes.any0 {P : Program} {f : FuncId} {v : AV} (h : PureDoes P f [] [] 0 v) (c : Nat) : PureDoes P f [] [] c v :=
  ⟨h.1, fun B ρ M args' w ha hm hfr hs => h.2 B ⟨fun _ => none, ρ.fz⟩ (fun _ => none) args' w ⟨ha.1, fun i x y hx => by simp at hx⟩ (fun n b hn => by cases hn) (fun _ _ => rfl) ⟨hs.heap, fun n b h => (by cases h), fun n n' b b' l l' h => (by cases h), hs.frz, fun n b l h => (by cases h)⟩⟩
theorem known_call {B c : Nat} : CallDoes Try.prog B 14 [] [] c (.s (.bool true)) ([] ++ []) c :=
  (PureDoes.any0 (PureDoes.of_eval (P := Try.prog) (f := 14) (args := []) (m := []) (c := 0) mix (n := 200) (by kernel_rfl)) c).here rfl (by simp) (fun n b h => by cases h)
theorem so2_c {B c len : Nat} {L M : List Rw} (hM : isort0 L = M) (hl : len = L.length) (h0 : 0 < len) (hL : len ≤ 20) (hr : Roomy L) : CallDoes Try.prog B 10 [.s (.slv len none 3 (flat Rw.cv L))] [] c (.s (.slv M.length none 3 (flat Rw.cv M))) ([] ++ []) c := by
  have h := so_c (B := B) (c := c) hM hl h0 hL hr
  have e : M.length = len := by rw [← hM, isort0_len, hl]
  rw [e]
  exact h
attribute [local irreducible] Eng.evAppend Eng.evSlice Eng.less CallDoes Eng.loadG Eng.evIndexAddr Eng.evBin
theorem rsA_1 {B : Nat} (L M Z : List Rw) (hM : someL L = M) (hZ : isort0 M = Z) (hZZ : isort0 Z = Z) (h0 : 0 < L.length) (hm0 : 0 < M.length) (hml : M.length ≤ 20) (hzm : Z.length = M.length) (hrM : Roomy M) (hrZ : Roomy Z) (hok : SortOk M Z) (hcz : ∀ x ∈ Z, x.cells.length ≤ 140737488351232)  : CodeDoes Try.prog B (Try.f3.body.getD .skip) ⟨⟨143, [(0, .s (.slv L.length none 3 (flat Rw.cv L)))]⟩, [], 0⟩ Ex.ret ⟨⟨143, [(2, AV.s (SV.bool true))]⟩, [], 1⟩ :=
  goA_ok mix (tape := [(3, Ans.loop [0, 3, 4] [] (Ex.exit 0) (St.mk (Tm.mk 143 [(3, AV.s (SV.slv (List.length M) none 3 (flat Rw.cv M)))]) [] 0)), (5, Ans.call [] (AV.s (SV.slv (List.length Z) none 3 (flat Rw.cv Z))) [] 0), (11, Ans.val (AV.s (SV.bool Bool.false))), (14, Ans.loop [3, 5, 6, 7] [0] (Ex.exit 2) (St.mk (Tm.mk 143 [(5, AV.s (SV.slv (List.length Z) none 3 (flat Rw.cv Z)))]) [] 1)), (16, Ans.call [] (AV.s (SV.slv (List.length Z) none 3 (flat Rw.cv Z))) [] 1), (18, Ans.call [] (AV.s (SV.bool true)) [] 1), (20, Ans.call [] (AV.s (SV.bool true)) [] 1)]) (dl := [2]) (nl := []) (C := [(CallDoes Try.prog B 14 [] [] 1 (AV.s (SV.bool true)) ([] ++ []) 1), (CallDoes Try.prog B 13 [AV.s (SV.slv (List.length Z) none 3 (flat Rw.cv Z)), AV.s (SV.slv (List.length Z) none 3 (flat Rw.cv Z))] [] 1 (AV.s (SV.bool true)) ([] ++ []) 1), (CallDoes Try.prog B 10 [AV.s (SV.slv (List.length Z) none 3 (flat Rw.cv Z))] [] 1 (AV.s (SV.slv (List.length Z) none 3 (flat Rw.cv Z))) ([] ++ []) 1), (CodeDoes Try.prog B (Lf (Rt (Lf (Rt (Rt (Rt (Rt (Rt (Rt (Try.f3.body.getD .skip)))))))))) (St.mk (Tm.mk 143 [(3, AV.s (SV.slv (List.length M) none 3 (flat Rw.cv M))), (5, AV.s (SV.slv (List.length Z) none 3 (flat Rw.cv Z))), (6, AV.s (SV.ptr 0 0)), (7, AV.s (SV.int IntKind.i64 0))]) [(0, some (Blk.mk [SV.bool false, SV.bool false, SV.bool false, SV.bool false, SV.bool false, SV.bool false, SV.bool false, SV.bool false, SV.bool false, SV.bool false, SV.bool false, SV.bool false, SV.bool false, SV.bool false, SV.bool false, SV.bool false, SV.bool false, SV.bool false, SV.bool false, SV.bool false] true))] 1) (Ex.exit 2) (St.mk (Tm.mk 143 [(5, AV.s (SV.slv (List.length Z) none 3 (flat Rw.cv Z)))]) [] 1)), (some (AV.s (SV.bool ((↑(List.length Z) : Int) != (↑(List.length M) : Int)))) = some (AV.s (SV.bool Bool.false))), (CallDoes Try.prog B 10 [AV.s (SV.slv (List.length M) none 3 (flat Rw.cv M))] [] 0 (AV.s (SV.slv (List.length Z) none 3 (flat Rw.cv Z))) ([] ++ []) 0), (CodeDoes Try.prog B (Lf (Rt (Lf (Rt (Rt (Try.f3.body.getD .skip)))))) (St.mk (Tm.mk 143 [(0, AV.s (SV.slv (List.length L) none 3 (flat Rw.cv L))), (3, AV.s SV.sl0), (4, AV.s (SV.int IntKind.i64 (↑0 : Int)))]) [] 0) (Ex.exit 0) (St.mk (Tm.mk 143 [(3, AV.s (SV.slv (List.length M) none 3 (flat Rw.cv M)))]) [] 0))]) (by kernel_rfl) ⟨show CallDoes Try.prog B 14 [] [] 1 (AV.s (SV.bool true)) ([] ++ []) 1 from by (apply known_call <;> first | exact hM | exact hZ | exact hZZ | exact hrM | exact hrZ | exact hok | exact hcz | exact el23 | exact el22 | exact sz28 | exact sz25 | exact by28 | exact by25 | exact zr28 | exact zr25 | exact ag28 | exact ag25 | exact un9 | assumption | rfl | omega | (unfold maxLen; omega) | decide | (simp; done) | (simp; omega)), show CallDoes Try.prog B 13 [AV.s (SV.slv (List.length Z) none 3 (flat Rw.cv Z)), AV.s (SV.slv (List.length Z) none 3 (flat Rw.cv Z))] [] 1 (AV.s (SV.bool true)) ([] ++ []) 1 from by (apply rows_c <;> first | exact hM | exact hZ | exact hZZ | exact hrM | exact hrZ | exact hok | exact hcz | exact el23 | exact el22 | exact sz28 | exact sz25 | exact by28 | exact by25 | exact zr28 | exact zr25 | exact ag28 | exact ag25 | exact un9 | assumption | rfl | omega | (unfold maxLen; omega) | decide | (simp; done) | (simp; omega)), show CallDoes Try.prog B 10 [AV.s (SV.slv (List.length Z) none 3 (flat Rw.cv Z))] [] 1 (AV.s (SV.slv (List.length Z) none 3 (flat Rw.cv Z))) ([] ++ []) 1 from by (apply so2_c <;> first | exact hM | exact hZ | exact hZZ | exact hrM | exact hrZ | exact hok | exact hcz | exact el23 | exact el22 | exact sz28 | exact sz25 | exact by28 | exact by25 | exact zr28 | exact zr25 | exact ag28 | exact ag25 | exact un9 | assumption | rfl | omega | (unfold maxLen; omega) | decide | (simp; done) | (simp; omega)), by (apply m_loop <;> first | exact hM | exact hZ | exact hZZ | exact hrM | exact hrZ | exact hok | exact hcz | exact el23 | exact el22 | exact sz28 | exact sz25 | exact by28 | exact by25 | exact zr28 | exact zr25 | exact ag28 | exact ag25 | exact un9 | assumption | rfl | omega | (unfold maxLen; omega) | decide | (simp; done) | (simp; omega)), claim_b (by exact bne_eq_false_iff_eq.2 (by first | assumption | omega)), show CallDoes Try.prog B 10 [AV.s (SV.slv (List.length M) none 3 (flat Rw.cv M))] [] 0 (AV.s (SV.slv (List.length Z) none 3 (flat Rw.cv Z))) ([] ++ []) 0 from by (apply so2_c <;> first | exact hM | exact hZ | exact hZZ | exact hrM | exact hrZ | exact hok | exact hcz | exact el23 | exact el22 | exact sz28 | exact sz25 | exact by28 | exact by25 | exact zr28 | exact zr25 | exact ag28 | exact ag25 | exact un9 | assumption | rfl | omega | (unfold maxLen; omega) | decide | (simp; done) | (simp; omega)), by (apply lo_loop <;> first | exact hM | exact hZ | exact hZZ | exact hrM | exact hrZ | exact hok | exact hcz | exact el23 | exact el22 | exact sz28 | exact sz25 | exact by28 | exact by25 | exact zr28 | exact zr25 | exact ag28 | exact ag25 | exact un9 | assumption | rfl | omega | (unfold maxLen; omega) | decide | (simp; done) | (simp; omega)), trivial⟩

theorem PureDoes.anyN {P : Program} {f : FuncId} {args : List AV} {v : AV} (h : PureDoes P f args [] 0 v) (hn : ∀ x ∈ args, x = .s .sl0) (c : Nat) : PureDoes P f args [] c v :=
  ⟨h.1, fun B ρ M args' w ha hm hfr hs => h.2 B ⟨fun _ => none, ρ.fz⟩ (fun _ => none) args' w ⟨ha.1, fun i x y hx hy => by
    obtain rfl := hn x (List.mem_of_getElem? hx)
    have h2 : VR ρ (.s .sl0) y := ha.2 i _ y hx hy
    exact h2⟩ (fun n b hn => by cases hn) (fun _ _ => rfl) ⟨hs.heap, fun n b h => (by cases h), fun n n' b b' l l' h => (by cases h), hs.frz, fun n b l h => (by cases h)⟩⟩
theorem so_nil {B c : Nat} : CallDoes Try.prog B 10 [.s .sl0] [] c (.s .sl0) ([] ++ []) c :=
  (PureDoes.anyN (PureDoes.of_eval (P := Try.prog) (f := 10) (args := [.s .sl0]) (m := []) (c := 0) mix (n := 200) (by kernel_rfl)) (by simp) c).here rfl (by simp [ltA, ltV]) (fun n b h => by cases h)
theorem rows_nil {B c : Nat} : CallDoes Try.prog B 13 [.s .sl0, .s .sl0] [] c (.s (.bool true)) ([] ++ []) c :=
  (PureDoes.anyN (PureDoes.of_eval (P := Try.prog) (f := 13) (args := [.s .sl0, .s .sl0]) (m := []) (c := 0) mix (n := 200) (by kernel_rfl)) (by simp) c).here rfl (by simp [ltA, ltV]) (fun n b h => by cases h)
theorem rsN_1 {B : Nat} (L : List Rw) (h0 : L.length = 0)  : CodeDoes Try.prog B (Try.f3.body.getD .skip) ⟨⟨143, [(0, .s (.slv L.length none 3 (flat Rw.cv L)))]⟩, [], 0⟩ Ex.ret ⟨⟨143, [(2, AV.s (SV.bool true))]⟩, [], 1⟩ :=
  goA_ok mix (tape := [(3, Ans.rounds 1), (7, Ans.val (AV.s (SV.bool Bool.false))), (11, Ans.call [] (AV.s SV.sl0) [] 0), (20, Ans.rounds 1), (26, Ans.call [] (AV.s SV.sl0) [] 1), (28, Ans.call [] (AV.s (SV.bool true)) [] 1), (30, Ans.call [] (AV.s (SV.bool true)) [] 1)]) (dl := [2]) (nl := []) (C := [(CallDoes Try.prog B 14 [] [] 1 (AV.s (SV.bool true)) ([] ++ []) 1), (CallDoes Try.prog B 13 [AV.s SV.sl0, AV.s SV.sl0] [] 1 (AV.s (SV.bool true)) ([] ++ []) 1), (CallDoes Try.prog B 10 [AV.s SV.sl0] [] 1 (AV.s SV.sl0) ([] ++ []) 1), (CallDoes Try.prog B 10 [AV.s SV.sl0] [] 0 (AV.s SV.sl0) ([] ++ []) 0), (some (AV.s (SV.bool (decide (0 < (↑(List.length L) : Int))))) = some (AV.s (SV.bool Bool.false)))]) (by kernel_rfl) ⟨show CallDoes Try.prog B 14 [] [] 1 (AV.s (SV.bool true)) ([] ++ []) 1 from by (apply known_call <;> first | exact el23 | exact el22 | exact sz28 | exact sz25 | exact by28 | exact by25 | exact zr28 | exact zr25 | exact ag28 | exact ag25 | exact un9 | assumption | rfl | omega | (unfold maxLen; omega) | decide | (simp; done) | (simp; omega)), show CallDoes Try.prog B 13 [AV.s SV.sl0, AV.s SV.sl0] [] 1 (AV.s (SV.bool true)) ([] ++ []) 1 from by (apply rows_nil <;> first | exact el23 | exact el22 | exact sz28 | exact sz25 | exact by28 | exact by25 | exact zr28 | exact zr25 | exact ag28 | exact ag25 | exact un9 | assumption | rfl | omega | (unfold maxLen; omega) | decide | (simp; done) | (simp; omega)), show CallDoes Try.prog B 10 [AV.s SV.sl0] [] 1 (AV.s SV.sl0) ([] ++ []) 1 from by (apply so_nil <;> first | exact el23 | exact el22 | exact sz28 | exact sz25 | exact by28 | exact by25 | exact zr28 | exact zr25 | exact ag28 | exact ag25 | exact un9 | assumption | rfl | omega | (unfold maxLen; omega) | decide | (simp; done) | (simp; omega)), show CallDoes Try.prog B 10 [AV.s SV.sl0] [] 0 (AV.s SV.sl0) ([] ++ []) 0 from by (apply so_nil <;> first | exact el23 | exact el22 | exact sz28 | exact sz25 | exact by28 | exact by25 | exact zr28 | exact zr25 | exact ag28 | exact ag25 | exact un9 | assumption | rfl | omega | (unfold maxLen; omega) | decide | (simp; done) | (simp; omega)), claim_b (by exact decide_eq_false (by first | assumption | omega)), trivial⟩
end Go.Proofs.Ytaelliigpclipaa.V
