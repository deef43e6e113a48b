/- Rows alike. Printed by gen_se.py. -/
import Derived.Test.YtaelliigpclipaaSD
import Derived.Test.YtaelliigpclipaaProg
import Derived.KernelRfl
namespace Go.Proofs.Ytaelliigpclipaa.V
open Go Go.RowKit Go.Proofs Go.Proofs.Ytaelliigpclipaa.Eng Go.Proofs.Ytaelliigpclipaa.VPl
set_option maxRecDepth 100000
set_option linter.unusedVariables false
set_option linter.unusedSimpArgs false

@[irreducible] def sameC (x y : Cl) : Bool := allB [(x.col.data.toList == y.col.data.toList), (x.kind == y.kind), (x.n == y.n), (x.s.data.toList == y.s.data.toList)]
theorem neClG {x y : Cl} {b : Bool} (h : sameC x y = b) : Option.map AV.s (evBin Try.prog .neq 28 (.agg [.str x.col, .int .i64 x.kind, .int .i64 x.n, .str x.s]) (.agg [.str y.col, .int .i64 y.kind, .int .i64 y.n, .str y.s])) = some (.s (.bool (!b))) := by
  subst h; unfold sameC; exact neCl
attribute [local irreducible] Eng.evAppend Eng.evSlice Eng.less CallDoes Eng.loadG Eng.evIndexAddr Eng.evBin
theorem csT_1 {B : Nat} (L M : List Cl) (k : Nat) (hl : L.length = M.length) (hL : L.length ≤ 140737488351232) (hk : k < L.length) (hc : sameC (L.getD k Cl0) (M.getD k Cl0) = true)  : CodeDoes Try.prog B (Lf (Lf (Rt (Lf (Rt (Rt (Try.f31.body.getD .skip))))))) ⟨⟨26, [(0, .s (.slv L.length none 4 (flat Cl.cv L))), (1, .s (.slv M.length none 4 (flat Cl.cv M))), (5, .s (.int .i64 (k : Int)))]⟩, [], 0⟩ Ex.normal ⟨⟨26, [(0, AV.s (SV.slv (List.length L) none 4 (flat Cl.cv L))), (1, AV.s (SV.slv (List.length M) none 4 (flat Cl.cv M))), (5, AV.s (SV.int IntKind.i64 ((↑k : Int) + 1)))]⟩, [], 0⟩ :=
  goA_ok mix (tape := [(3, Ans.val (AV.s (SV.bool Bool.true))), (6, Ans.val (AV.s (SV.ptv (Cl.cv (List.getD L k Cl0))))), (10, Ans.val (AV.s (SV.ptv (Cl.cv (List.getD M k Cl0))))), (12, Ans.val (AV.s (SV.bool !true))), (14, Ans.val (AV.s (SV.int IntKind.i64 ((↑k : Int) + 1))))]) (dl := [0, 1, 5]) (nl := []) (C := [(some (AV.s (SV.int IntKind.i64 (IntKind.wrap IntKind.i64 ((↑k : Int) + 1)))) = some (AV.s (SV.int IntKind.i64 ((↑k : Int) + 1)))), ((Option.map AV.s (evBin Try.prog BinOp.neq 28 (AV.agg [SV.str (Cl.col (List.getD L k Cl0)), SV.int IntKind.i64 (Cl.kind (List.getD L k Cl0)), SV.int IntKind.i64 (Cl.n (List.getD L k Cl0)), SV.str (Cl.s (List.getD L k Cl0))]) (AV.agg [SV.str (Cl.col (List.getD M k Cl0)), SV.int IntKind.i64 (Cl.kind (List.getD M k Cl0)), SV.int IntKind.i64 (Cl.n (List.getD M k Cl0)), SV.str (Cl.s (List.getD M k Cl0))]))) = some (AV.s (SV.bool !true))), ((evIndexAddr Try.prog 23 (AV.s (SV.slv (List.length M) none 4 (flat Cl.cv M))) (AV.s (SV.int IntKind.i64 (↑k : Int)))) = some (AV.s (SV.ptv (Cl.cv (List.getD M k Cl0))))), ((evIndexAddr Try.prog 23 (AV.s (SV.slv (List.length L) none 4 (flat Cl.cv L))) (AV.s (SV.int IntKind.i64 (↑k : Int)))) = some (AV.s (SV.ptv (Cl.cv (List.getD L k Cl0))))), (some (AV.s (SV.bool (decide ((↑k : Int) < (↑(List.length L) : Int))))) = some (AV.s (SV.bool Bool.true)))]) (by kernel_rfl) ⟨claim_i (by exact wrap_i64 (by omega) (by omega)), by (apply neClG <;> first | exact hc | exact el23 | exact el22 | exact sz28 | exact sz25 | exact by28 | exact by25 | exact zr28 | exact zr25 | exact ag28 | exact ag25 | exact un9 | assumption | rfl | omega | (unfold maxLen; omega) | decide | (simp; done) | (simp; omega)), by (apply ixCl <;> first | exact hc | exact el23 | exact el22 | exact sz28 | exact sz25 | exact by28 | exact by25 | exact zr28 | exact zr25 | exact ag28 | exact ag25 | exact un9 | assumption | rfl | omega | (unfold maxLen; omega) | decide | (simp; done) | (simp; omega)), by (apply ixCl <;> first | exact hc | exact el23 | exact el22 | exact sz28 | exact sz25 | exact by28 | exact by25 | exact zr28 | exact zr25 | exact ag28 | exact ag25 | exact un9 | assumption | rfl | omega | (unfold maxLen; omega) | decide | (simp; done) | (simp; omega)), claim_b (by exact decide_eq_true (by first | assumption | omega)), trivial⟩
theorem csF_1 {B : Nat} (L M : List Cl) (k : Nat) (hl : L.length = M.length) (hL : L.length ≤ 140737488351232) (hk : k < L.length) (hc : sameC (L.getD k Cl0) (M.getD k Cl0) = false)  : CodeDoes Try.prog B (Lf (Lf (Rt (Lf (Rt (Rt (Try.f31.body.getD .skip))))))) ⟨⟨26, [(0, .s (.slv L.length none 4 (flat Cl.cv L))), (1, .s (.slv M.length none 4 (flat Cl.cv M))), (5, .s (.int .i64 (k : Int)))]⟩, [], 0⟩ Ex.ret ⟨⟨26, [(4, AV.s (SV.bool false))]⟩, [], 0⟩ :=
  goA_ok mix (tape := [(3, Ans.val (AV.s (SV.bool Bool.true))), (6, Ans.val (AV.s (SV.ptv (Cl.cv (List.getD L k Cl0))))), (10, Ans.val (AV.s (SV.ptv (Cl.cv (List.getD M k Cl0))))), (12, Ans.val (AV.s (SV.bool !false)))]) (dl := [4]) (nl := []) (C := [((Option.map AV.s (evBin Try.prog BinOp.neq 28 (AV.agg [SV.str (Cl.col (List.getD L k Cl0)), SV.int IntKind.i64 (Cl.kind (List.getD L k Cl0)), SV.int IntKind.i64 (Cl.n (List.getD L k Cl0)), SV.str (Cl.s (List.getD L k Cl0))]) (AV.agg [SV.str (Cl.col (List.getD M k Cl0)), SV.int IntKind.i64 (Cl.kind (List.getD M k Cl0)), SV.int IntKind.i64 (Cl.n (List.getD M k Cl0)), SV.str (Cl.s (List.getD M k Cl0))]))) = some (AV.s (SV.bool !false))), ((evIndexAddr Try.prog 23 (AV.s (SV.slv (List.length M) none 4 (flat Cl.cv M))) (AV.s (SV.int IntKind.i64 (↑k : Int)))) = some (AV.s (SV.ptv (Cl.cv (List.getD M k Cl0))))), ((evIndexAddr Try.prog 23 (AV.s (SV.slv (List.length L) none 4 (flat Cl.cv L))) (AV.s (SV.int IntKind.i64 (↑k : Int)))) = some (AV.s (SV.ptv (Cl.cv (List.getD L k Cl0))))), (some (AV.s (SV.bool (decide ((↑k : Int) < (↑(List.length L) : Int))))) = some (AV.s (SV.bool Bool.true)))]) (by kernel_rfl) ⟨by (apply neClG <;> first | exact hc | exact el23 | exact el22 | exact sz28 | exact sz25 | exact by28 | exact by25 | exact zr28 | exact zr25 | exact ag28 | exact ag25 | exact un9 | assumption | rfl | omega | (unfold maxLen; omega) | decide | (simp; done) | (simp; omega)), by (apply ixCl <;> first | exact hc | exact el23 | exact el22 | exact sz28 | exact sz25 | exact by28 | exact by25 | exact zr28 | exact zr25 | exact ag28 | exact ag25 | exact un9 | assumption | rfl | omega | (unfold maxLen; omega) | decide | (simp; done) | (simp; omega)), by (apply ixCl <;> first | exact hc | exact el23 | exact el22 | exact sz28 | exact sz25 | exact by28 | exact by25 | exact zr28 | exact zr25 | exact ag28 | exact ag25 | exact un9 | assumption | rfl | omega | (unfold maxLen; omega) | decide | (simp; done) | (simp; omega)), claim_b (by exact decide_eq_true (by first | assumption | omega)), trivial⟩
theorem csE_1 {B : Nat} (L M : List Cl) (k : Nat) (hk : ¬ k < L.length)  : CodeDoes Try.prog B (Lf (Lf (Rt (Lf (Rt (Rt (Try.f31.body.getD .skip))))))) ⟨⟨26, [(0, .s (.slv L.length none 4 (flat Cl.cv L))), (1, .s (.slv M.length none 4 (flat Cl.cv M))), (5, .s (.int .i64 (k : Int)))]⟩, [], 0⟩ (Ex.exit 0) ⟨⟨26, [(0, AV.s (SV.slv (List.length L) none 4 (flat Cl.cv L))), (1, AV.s (SV.slv (List.length M) none 4 (flat Cl.cv M))), (5, AV.s (SV.int IntKind.i64 (↑k : Int)))]⟩, [], 0⟩ :=
  goA_ok mix (tape := [(3, Ans.val (AV.s (SV.bool Bool.false)))]) (dl := [0, 1, 5]) (nl := []) (C := [(some (AV.s (SV.bool (decide ((↑k : Int) < (↑(List.length L) : Int))))) = some (AV.s (SV.bool Bool.false)))]) (by kernel_rfl) ⟨claim_b (by exact decide_eq_false (by first | assumption | omega)), trivial⟩

@[irreducible] def cellsEq (L M : List Cl) : Bool := decide (L.length = M.length) && (List.range L.length).all (fun k => sameC (L.getD k Cl0) (M.getD k Cl0))
theorem str_ext {s t : ByteArray} (h : s.data.toList = t.data.toList) : s = t := by
  obtain ⟨⟨l⟩⟩ := s; obtain ⟨⟨m⟩⟩ := t
  simp at h; subst h; rfl
theorem sameC_iff (x y : Cl) : sameC x y = true ↔ x = y := by
  unfold sameC
  constructor
  · intro h
    simp [allB] at h
    obtain ⟨c, k, n, s⟩ := x
    obtain ⟨c', k', n', s'⟩ := y
    simp only at h
    obtain ⟨h1, h2, h3, h4⟩ := h
    simp only [Cl.mk.injEq]
    refine ⟨?_, h2, h3, ?_⟩ <;> (apply str_ext; grind)
  · rintro rfl; simp [allB]
theorem cellsEq_iff (L M : List Cl) : cellsEq L M = true ↔ L = M := by
  unfold cellsEq
  simp only [Bool.and_eq_true, decide_eq_true_eq, List.all_eq_true, List.mem_range, sameC_iff]
  constructor
  · rintro ⟨h1, h2⟩
    refine List.ext_getElem h1 fun i hi hi' => ?_
    have := h2 i hi
    simpa [hi, hi'] using this
  · rintro rfl; exact ⟨rfl, fun _ _ => rfl⟩
theorem cs_loopT {B : Nat} {L M : List Cl} (hl : L.length = M.length) (h : cellsEq L M = true) (hL : L.length ≤ 140737488351232) : CodeDoes Try.prog B (Lf (Rt (Lf (Rt (Rt (Try.f31.body.getD .skip)))))) ⟨⟨26, [(0, .s (.slv L.length none 4 (flat Cl.cv L))), (1, .s (.slv M.length none 4 (flat Cl.cv M))), (5, .s (.int .i64 ((0 : Nat) : Int)))]⟩, [], 0⟩ (.exit 0) ⟨⟨26, [(0, .s (.slv L.length none 4 (flat Cl.cv L))), (1, .s (.slv M.length none 4 (flat Cl.cv M))), (5, .s (.int .i64 (L.length : Int)))]⟩, [], 0⟩ := by
  refine CodeDoes.loopAt (by kernel_rfl) (LoopDoes.scanAll (fun k => ⟨⟨26, [(0, .s (.slv L.length none 4 (flat Cl.cv L))), (1, .s (.slv M.length none 4 (flat Cl.cv M))), (5, .s (.int .i64 (k : Int)))]⟩, [], 0⟩) L.length (by simp) (fun k hk => ?_) (csE_1 L M L.length (by omega)))
  exact csT_1 L M k hl hL hk (by
    unfold cellsEq at h
    simp only [Bool.and_eq_true, List.all_eq_true, List.mem_range] at h
    exact h.2 k hk)
theorem cs_loopF {B : Nat} {L M : List Cl} (hl : L.length = M.length) (h : cellsEq L M = false) (hL : L.length ≤ 140737488351232) : CodeDoes Try.prog B (Lf (Rt (Lf (Rt (Rt (Try.f31.body.getD .skip)))))) ⟨⟨26, [(0, .s (.slv L.length none 4 (flat Cl.cv L))), (1, .s (.slv M.length none 4 (flat Cl.cv M))), (5, .s (.int .i64 ((0 : Nat) : Int)))]⟩, [], 0⟩ .ret ⟨⟨26, [(4, .s (.bool false))]⟩, [], 0⟩ := by
  rcases first_bad (fun k => sameC (L.getD k Cl0) (M.getD k Cl0)) L.length with h3 | ⟨k, h3, h4, h5⟩
  · exfalso
    have : cellsEq L M = true := by
      unfold cellsEq
      simp only [Bool.and_eq_true, List.all_eq_true, List.mem_range, decide_eq_true_eq]
      exact ⟨hl, h3⟩
    rw [this] at h; cases h
  · exact CodeDoes.loopAt (by kernel_rfl) (LoopDoes.scanHit (fun k => ⟨⟨26, [(0, .s (.slv L.length none 4 (flat Cl.cv L))), (1, .s (.slv M.length none 4 (flat Cl.cv M))), (5, .s (.int .i64 (k : Int)))]⟩, [], 0⟩) k (by simp) (fun i hi => csT_1 L M i hl hL (by omega) (h5 i hi)) (csF_1 L M k hl hL h3 h4))
theorem ckN_1 {B : Nat} (L M : List Cl) (hl : ¬ L.length = M.length)  : CodeDoes Try.prog B (Try.f31.body.getD .skip) ⟨⟨26, [(0, .s (.slv L.length none 4 (flat Cl.cv L))), (1, .s (.slv M.length none 4 (flat Cl.cv M)))]⟩, [], 0⟩ Ex.ret ⟨⟨26, [(4, AV.s (SV.bool false))]⟩, [], 0⟩ :=
  goA_ok mix (tape := [(5, Ans.val (AV.s (SV.bool Bool.true)))]) (dl := [4]) (nl := []) (C := [(some (AV.s (SV.bool ((↑(List.length L) : Int) != (↑(List.length M) : Int)))) = some (AV.s (SV.bool Bool.true)))]) (by kernel_rfl) ⟨claim_b (by exact bne_iff_ne.2 (by first | assumption | omega)), trivial⟩
theorem ckT_1 {B : Nat} (L M : List Cl) (hl : L.length = M.length) (h : cellsEq L M = true) (hL : L.length ≤ 140737488351232)  : CodeDoes Try.prog B (Try.f31.body.getD .skip) ⟨⟨26, [(0, .s (.slv L.length none 4 (flat Cl.cv L))), (1, .s (.slv M.length none 4 (flat Cl.cv M)))]⟩, [], 0⟩ Ex.ret ⟨⟨26, [(4, AV.s (SV.bool true))]⟩, [], 0⟩ :=
  goA_ok mix (tape := [(5, Ans.val (AV.s (SV.bool Bool.false))), (7, Ans.loop [0, 1, 5] [] (Ex.exit 0) (St.mk (Tm.mk 26 [(0, AV.s (SV.slv (List.length L) none 4 (flat Cl.cv L))), (1, AV.s (SV.slv (List.length M) none 4 (flat Cl.cv M))), (5, AV.s (SV.int IntKind.i64 (↑(List.length L) : Int)))]) [] 0))]) (dl := [4]) (nl := []) (C := [(CodeDoes Try.prog B (Lf (Rt (Lf (Rt (Rt (Try.f31.body.getD .skip)))))) (St.mk (Tm.mk 26 [(0, AV.s (SV.slv (List.length L) none 4 (flat Cl.cv L))), (1, AV.s (SV.slv (List.length M) none 4 (flat Cl.cv M))), (5, AV.s (SV.int IntKind.i64 (↑0 : Int)))]) [] 0) (Ex.exit 0) (St.mk (Tm.mk 26 [(0, AV.s (SV.slv (List.length L) none 4 (flat Cl.cv L))), (1, AV.s (SV.slv (List.length M) none 4 (flat Cl.cv M))), (5, AV.s (SV.int IntKind.i64 (↑(List.length L) : Int)))]) [] 0)), (some (AV.s (SV.bool ((↑(List.length L) : Int) != (↑(List.length M) : Int)))) = some (AV.s (SV.bool Bool.false)))]) (by kernel_rfl) ⟨by (apply cs_loopT <;> first | assumption), claim_b (by exact bne_eq_false_iff_eq.2 (by first | assumption | omega)), trivial⟩
theorem ckF_1 {B : Nat} (L M : List Cl) (hl : L.length = M.length) (h : cellsEq L M = false) (hL : L.length ≤ 140737488351232)  : CodeDoes Try.prog B (Try.f31.body.getD .skip) ⟨⟨26, [(0, .s (.slv L.length none 4 (flat Cl.cv L))), (1, .s (.slv M.length none 4 (flat Cl.cv M)))]⟩, [], 0⟩ Ex.ret ⟨⟨26, [(4, AV.s (SV.bool false))]⟩, [], 0⟩ :=
  goA_ok mix (tape := [(5, Ans.val (AV.s (SV.bool Bool.false))), (7, Ans.loop [0, 1, 5] [] (Ex.ret) (St.mk (Tm.mk 26 [(4, AV.s (SV.bool false))]) [] 0))]) (dl := [4]) (nl := []) (C := [(CodeDoes Try.prog B (Lf (Rt (Lf (Rt (Rt (Try.f31.body.getD .skip)))))) (St.mk (Tm.mk 26 [(0, AV.s (SV.slv (List.length L) none 4 (flat Cl.cv L))), (1, AV.s (SV.slv (List.length M) none 4 (flat Cl.cv M))), (5, AV.s (SV.int IntKind.i64 (↑0 : Int)))]) [] 0) (Ex.ret) (St.mk (Tm.mk 26 [(4, AV.s (SV.bool false))]) [] 0)), (some (AV.s (SV.bool ((↑(List.length L) : Int) != (↑(List.length M) : Int)))) = some (AV.s (SV.bool Bool.false)))]) (by kernel_rfl) ⟨by (apply cs_loopF <;> first | assumption), claim_b (by exact bne_eq_false_iff_eq.2 (by first | assumption | omega)), trivial⟩

theorem ck_does (L M : List Cl) (hL : L.length ≤ 140737488351232) : ValDoes Try.prog 31 [.s (.slv L.length none 4 (flat Cl.cv L)), .s (.slv M.length none 4 (flat Cl.cv M))] (.s (.bool (cellsEq L M))) := by
  by_cases hl : L.length = M.length
  · cases h : cellsEq L M with
    | true => exact ValDoes.of_code Try.func31 (by kernel_rfl) (by kernel_rfl) (k := 26) (by kernel_rfl) (fun B => ⟨_, _, .inr rfl, ckT_1 L M hl h hL, by kernel_rfl⟩) (by kernel_rfl) (List.all_eq_true.1 (by kernel_rfl))
    | false => exact ValDoes.of_code Try.func31 (by kernel_rfl) (by kernel_rfl) (k := 26) (by kernel_rfl) (fun B => ⟨_, _, .inr rfl, ckF_1 L M hl h hL, by kernel_rfl⟩) (by kernel_rfl) (List.all_eq_true.1 (by kernel_rfl))
  · have h : cellsEq L M = false := by unfold cellsEq; simp [hl]
    rw [h]
    exact ValDoes.of_code Try.func31 (by kernel_rfl) (by kernel_rfl) (k := 26) (by kernel_rfl) (fun B => ⟨_, _, .inr rfl, ckN_1 L M hl, by kernel_rfl⟩) (by kernel_rfl) (List.all_eq_true.1 (by kernel_rfl))
theorem ck_c {B c : Nat} {L M : List Cl} {b : Bool} {l m : Nat} (hb : cellsEq L M = b) (hl : l = L.length) (hm : m = M.length) (hL : L.length ≤ 140737488351232) : CallDoes Try.prog B 31 [.s (.slv l none 4 (flat Cl.cv L)), .s (.slv m none 4 (flat Cl.cv M))] [] c (.s (.bool b)) ([] ++ []) c := by
  subst hb; subst hl; subst hm; exact ck_does L M hL B c
theorem kr_1 {B : Nat} (t q u p : Int) (L M : List Cl) (b : Bool) (hb : cellsEq L M = b) (hL : L.length ≤ 140737488351232) (h_1 : t = u) (h_2 : q = p) : CodeDoes Try.prog B (Try.f11.body.getD .skip) ⟨⟨24, [(0, .agg [.int .i64 t, .int .i64 q, .slv L.length none 4 (flat Cl.cv L)]), (1, .agg [.int .i64 u, .int .i64 p, .slv M.length none 4 (flat Cl.cv M)])]⟩, [], 0⟩ Ex.ret ⟨⟨24, [(4, AV.s (SV.bool b))]⟩, [(1, some (Blk.mk [SV.int IntKind.i64 u, SV.int IntKind.i64 p, SV.slv (List.length M) none 4 (flat Cl.cv M)] true)), (0, some (Blk.mk [SV.int IntKind.i64 t, SV.int IntKind.i64 q, SV.slv (List.length L) none 4 (flat Cl.cv L)] true))], 2⟩ :=
  goA_ok mix (tape := [(7, Ans.val (AV.s (SV.bool Bool.true))), (13, Ans.val (AV.s (SV.bool Bool.true))), (20, Ans.call [] (AV.s (SV.bool b)) [] 2)]) (dl := [4]) (nl := [1, 0]) (C := [(CallDoes Try.prog B 31 [AV.s (SV.slv (List.length L) none 4 (flat Cl.cv L)), AV.s (SV.slv (List.length M) none 4 (flat Cl.cv M))] [] 2 (AV.s (SV.bool b)) ([] ++ []) 2), (some (AV.s (SV.bool (q == p))) = some (AV.s (SV.bool Bool.true))), (some (AV.s (SV.bool (t == u))) = some (AV.s (SV.bool Bool.true)))]) (by kernel_rfl) ⟨show CallDoes Try.prog B 31 [AV.s (SV.slv (List.length L) none 4 (flat Cl.cv L)), AV.s (SV.slv (List.length M) none 4 (flat Cl.cv M))] [] 2 (AV.s (SV.bool b)) ([] ++ []) 2 from by (apply ck_c <;> first | exact hb | assumption | with_reducible rfl), claim_b (by exact decide_eq_true (by first | assumption | omega)), claim_b (by exact decide_eq_true (by first | assumption | omega)), trivial⟩
theorem kr_2 {B : Nat} (t q u p : Int) (L M : List Cl) (b : Bool) (hb : cellsEq L M = b) (hL : L.length ≤ 140737488351232) (h_1 : t = u) (h_2 : ¬ (q = p)) : CodeDoes Try.prog B (Try.f11.body.getD .skip) ⟨⟨24, [(0, .agg [.int .i64 t, .int .i64 q, .slv L.length none 4 (flat Cl.cv L)]), (1, .agg [.int .i64 u, .int .i64 p, .slv M.length none 4 (flat Cl.cv M)])]⟩, [], 0⟩ Ex.ret ⟨⟨24, [(4, AV.s (SV.bool false))]⟩, [(1, some (Blk.mk [SV.int IntKind.i64 u, SV.int IntKind.i64 p, SV.slv (List.length M) none 4 (flat Cl.cv M)] true)), (0, some (Blk.mk [SV.int IntKind.i64 t, SV.int IntKind.i64 q, SV.slv (List.length L) none 4 (flat Cl.cv L)] true))], 2⟩ :=
  goA_ok mix (tape := [(7, Ans.val (AV.s (SV.bool Bool.true))), (13, Ans.val (AV.s (SV.bool Bool.false)))]) (dl := [4]) (nl := [1, 0]) (C := [(some (AV.s (SV.bool (q == p))) = some (AV.s (SV.bool Bool.false))), (some (AV.s (SV.bool (t == u))) = some (AV.s (SV.bool Bool.true)))]) (by kernel_rfl) ⟨claim_b (by exact decide_eq_false (by first | assumption | omega)), claim_b (by exact decide_eq_true (by first | assumption | omega)), trivial⟩
theorem kr_3 {B : Nat} (t q u p : Int) (L M : List Cl) (b : Bool) (hb : cellsEq L M = b) (hL : L.length ≤ 140737488351232) (h_1 : ¬ (t = u)) : CodeDoes Try.prog B (Try.f11.body.getD .skip) ⟨⟨24, [(0, .agg [.int .i64 t, .int .i64 q, .slv L.length none 4 (flat Cl.cv L)]), (1, .agg [.int .i64 u, .int .i64 p, .slv M.length none 4 (flat Cl.cv M)])]⟩, [], 0⟩ Ex.ret ⟨⟨24, [(4, AV.s (SV.bool false))]⟩, [(1, some (Blk.mk [SV.int IntKind.i64 u, SV.int IntKind.i64 p, SV.slv (List.length M) none 4 (flat Cl.cv M)] true)), (0, some (Blk.mk [SV.int IntKind.i64 t, SV.int IntKind.i64 q, SV.slv (List.length L) none 4 (flat Cl.cv L)] true))], 2⟩ :=
  goA_ok mix (tape := [(7, Ans.val (AV.s (SV.bool Bool.false)))]) (dl := [4]) (nl := [1, 0]) (C := [(some (AV.s (SV.bool (t == u))) = some (AV.s (SV.bool Bool.false)))]) (by kernel_rfl) ⟨claim_b (by exact decide_eq_false (by first | assumption | omega)), trivial⟩

def rowEq (r s : Rw) : Bool := decide (r.time = s.time) && (decide (r.seq = s.seq) && cellsEq r.cells s.cells)
theorem rowEq_iff (r s : Rw) : rowEq r s = true ↔ r = s := by
  unfold rowEq
  simp only [Bool.and_eq_true, decide_eq_true_eq, cellsEq_iff]
  obtain ⟨t, q, L⟩ := r
  obtain ⟨u, p, M⟩ := s
  simp
theorem kr_c {B c l m : Nat} {t q u p : Int} {L M : List Cl} {b : Bool} (hb : rowEq ⟨t, q, L⟩ ⟨u, p, M⟩ = b) (hl : l = L.length) (hm : m = M.length) (hL : L.length ≤ 140737488351232) : CallDoes Try.prog B 11 [.agg [.int .i64 t, .int .i64 q, .slv l none 4 (flat Cl.cv L)], .agg [.int .i64 u, .int .i64 p, .slv m none 4 (flat Cl.cv M)]] [] c (.s (.bool b)) ([] ++ []) c := by
  subst hl; subst hm
  have key : ValDoes Try.prog 11 [.agg [.int .i64 t, .int .i64 q, .slv L.length none 4 (flat Cl.cv L)], .agg [.int .i64 u, .int .i64 p, .slv M.length none 4 (flat Cl.cv M)]] (.s (.bool b)) := by
    unfold rowEq at hb
    simp only at hb
    by_cases h1 : t = u
    · by_cases h2 : q = p
      · simp only [h1, h2, decide_true, Bool.true_and] at hb
        exact ValDoes.of_code Try.func11 (by kernel_rfl) (by kernel_rfl) (k := 24) (by kernel_rfl) (fun B => ⟨_, _, .inr rfl, kr_1 t q u p L M b hb hL h1 h2, by kernel_rfl⟩) (by kernel_rfl) (List.all_eq_true.1 (by kernel_rfl))
      · simp only [h2, decide_false, Bool.false_and, Bool.and_false] at hb
        subst hb
        exact ValDoes.of_code Try.func11 (by kernel_rfl) (by kernel_rfl) (k := 24) (by kernel_rfl) (fun B => ⟨_, _, .inr rfl, kr_2 t q u p L M _ rfl hL h1 h2, by kernel_rfl⟩) (by kernel_rfl) (List.all_eq_true.1 (by kernel_rfl))
    · simp only [h1, decide_false, Bool.false_and] at hb
      subst hb
      exact ValDoes.of_code Try.func11 (by kernel_rfl) (by kernel_rfl) (k := 24) (by kernel_rfl) (fun B => ⟨_, _, .inr rfl, kr_3 t q u p L M _ rfl hL h1, by kernel_rfl⟩) (by kernel_rfl) (List.all_eq_true.1 (by kernel_rfl))
  exact key B c
end Go.Proofs.Ytaelliigpclipaa.V
