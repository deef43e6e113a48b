/- MemNumbersApart: what its proof rests on, part 3 of 3: several texts in one. -/
import Derived.Test.YtaelliigpclipaaPMemNumbersApartB
import Derived.Test.YtaelliigpclipaaProg
import Derived.KernelRfl
import Derived.Test.YtaelliigpclipaaEngRD
namespace Go.Proofs.Ytaelliigpclipaa.V
open Go Go.RowKit Go.Proofs Go.Proofs.Ytaelliigpclipaa.Eng Go.Proofs.Ytaelliigpclipaa.VPl
set_option maxRecDepth 100000
set_option linter.unusedVariables false
set_option linter.unusedSimpArgs false

theorem keptL_all (p : Rw → Bool) (L : List Rw) : keptL p L L.length = (L.filter (fun x => !p x)) := by unfold keptL; rw [List.take_length]
theorem df_start {p : Rw → Bool} {L : List Rw} {j : Nat} (hj : j < L.length) (h1 : p (L.getD j Rw0) = true) (h2 : ∀ i, i < j → p (L.getD i Rw0) = false) : DfInv p L L j (j + 1) := by
  have e : keptL p L j = L.take j := by
    unfold keptL
    rw [List.filter_eq_self]
    intro x hx
    obtain ⟨i, hi, rfl⟩ := List.getElem_of_mem hx
    have hi' : i < j := by simp at hi; omega
    have := h2 i hi'
    have hil : i < L.length := by omega
    simpa [hil] using this
  have e2 : keptL p L (j + 1) = L.take j := by rw [keptL_succ hj, if_pos h1, List.append_nil, e]
  exact ⟨rfl, e2.symm, by rw [e2, List.length_take]; omega, rfl, by omega⟩
theorem df_N {B c n0 n1 n2 : Nat} {L : List Rw} {b0 b1 : List SV} {p : Rw → Bool} {len : Nat} (hl : len = L.length) (hb0 : ∀ v ∈ b0, plainB v = true) (hb1 : ∀ v ∈ b1, plainB v = true) (hcl : ∀ x ∈ L, ValDoes Try.prog 43 [.agg (Rw.cv x), .s (.ptv b0), .s (.ptv b1)] (.s (.bool (p x)))) (hL : L.length ≤ 100000) (hq : ∀ k, k < L.length → p (L.getD k Rw0) = false) (hn0 : n0 < c) (hn1 : n1 < c) (hn2 : n2 < c) (hne01 : n0 ≠ n1) (hne02 : n0 ≠ n2) (hne12 : n1 ≠ n2) : CallDoes Try.prog B 42 [.s (.sl n2 0 len none 3), .s (.fn 43 [(n0, 0), (n1, 0)])] [(n0, some ⟨b0, true⟩), (n1, some ⟨b1, true⟩), (n2, some ⟨flat Rw.cv L, true⟩)] c (.s (.sl n2 0 (L.filter (fun x => !p x)).length none 3)) ([(n0, some ⟨b0, true⟩), (n1, some ⟨b1, true⟩), (n2, some ⟨flat Rw.cv (L.filter (fun x => !p x)), true⟩)] ++ [(n0, some ⟨b0, true⟩), (n1, some ⟨b1, true⟩), (n2, some ⟨flat Rw.cv L, true⟩)]) (c + 0) := by
  subst hl
  have bk0 : blkN ⟨b0, true⟩ = [] := plain_blk hb0
  have bk1 : blkN ⟨b1, true⟩ = [] := plain_blk hb1
  have hf : (L.filter (fun x => !p x)) = L := by
    rw [List.filter_eq_self]
    intro x hx
    obtain ⟨i, hi, rfl⟩ := List.getElem_of_mem hx
    have := hq i hi
    simpa [hi] using this
  rw [hf]
  exact call_gen (args0 := [.s (.sl 2 0 L.length none 3), .s (.fn 43 [(0, 0), (1, 0)])]) (m0 := [(0, some ⟨b0, true⟩), (1, some ⟨b1, true⟩), (2, some ⟨flat Rw.cv L, true⟩)]) (D := [(0, some ⟨b0, true⟩), (1, some ⟨b1, true⟩), (2, some ⟨flat Rw.cv L, true⟩)]) (v0 := .s (.sl 2 0 L.length none 3)) (c' := c + 0) Try.func42 (by kernel_rfl) (by kernel_rfl) (k := 42) (by kernel_rfl) (dfN_1 L.length b0 b1 p L hb0 hb1 hcl rfl hL (cd_ix_none hq)) (.inr rfl) (by kernel_rfl) (fun j => if j = 0 then n0 else if j = 1 then n1 else if j = 2 then n2 else n2) [0, 1, 2] ⟨by first | (simp; done) | (simp; omega), by first | (simp; done) | (simp; omega), by first | (simp; done) | (simp; omega), by omega⟩
    (hD_of (fun x hx => by simp only [List.mem_cons, List.not_mem_nil, or_false] at hx; rcases hx with rfl | rfl | rfl <;> first | exact .inl rfl | exact .inr rfl)) (by simp) (fun x hx => by simp only [List.mem_cons, List.not_mem_nil, or_false] at hx; rcases hx with rfl | rfl | rfl <;> first | exact .inl ⟨_, rfl⟩ | exact .inr ⟨of_decide_eq_true rfl, of_decide_eq_true rfl⟩) (by simp) (by simp [avNames, svNames]) (fun x hx => by simp only [List.mem_cons, List.not_mem_nil, or_false] at hx; rcases hx with rfl | rfl | rfl <;> exact ⟨⟨by simp, of_decide_eq_true rfl⟩, fun b hb => by (first | (cases hb; done) | (obtain rfl := Option.some.inj hb; first | (rw [bk0]; simp; done) | (rw [bk1]; simp; done) | (simp [blkN, svNames]; done) | (simp only [Rw_blk]; simp; done) | (simp [blkN, svNames, List.flatMap]; done)))⟩) (fun x hx => by simp only [List.mem_cons, List.not_mem_nil, or_false] at hx; rcases hx with rfl | rfl | rfl <;> exact fun b hb => by (first | (cases hb; done) | (obtain rfl := Option.some.inj hb; first | (rw [bk0]; simp; done) | (rw [bk1]; simp; done) | (simp [blkN, svNames]; done) | (simp only [Rw_blk]; simp; done) | (simp [blkN, svNames, List.flatMap]; done)))) (by simp [avNames, svNames]) rfl (by (first | rfl | (simp only [rnM, List.map_cons, List.map_nil, Option.map_some, Option.map_none, rnB_nil (Rw_blk _ _), rnB_nil bk0, rnB_nil bk1]; first | done | rfl))) (by (first | rfl | (simp only [rnM, List.map_cons, List.map_nil, Option.map_some, Option.map_none, rnB_nil (Rw_blk _ _), rnB_nil bk0, rnB_nil bk1]; first | done | rfl))) rfl
theorem df_S {B c n0 n1 n2 : Nat} {L : List Rw} {b0 b1 : List SV} {p : Rw → Bool} {len : Nat} (hl : len = L.length) (hb0 : ∀ v ∈ b0, plainB v = true) (hb1 : ∀ v ∈ b1, plainB v = true) (hcl : ∀ x ∈ L, ValDoes Try.prog 43 [.agg (Rw.cv x), .s (.ptv b0), .s (.ptv b1)] (.s (.bool (p x)))) (hL : L.length ≤ 100000) (j : Nat) (hj : j < L.length) (h1 : p (L.getD j Rw0) = true) (h2 : ∀ i, i < j → p (L.getD i Rw0) = false) (hn0 : n0 < c) (hn1 : n1 < c) (hn2 : n2 < c) (hne01 : n0 ≠ n1) (hne02 : n0 ≠ n2) (hne12 : n1 ≠ n2) : CallDoes Try.prog B 42 [.s (.sl n2 0 len none 3), .s (.fn 43 [(n0, 0), (n1, 0)])] [(n0, some ⟨b0, true⟩), (n1, some ⟨b1, true⟩), (n2, some ⟨flat Rw.cv L, true⟩)] c (.s (.sl n2 0 (L.filter (fun x => !p x)).length none 3)) ([(n0, some ⟨b0, true⟩), (n1, some ⟨b1, true⟩), (n2, some ⟨flat Rw.cv (L.filter (fun x => !p x)), true⟩)] ++ [(n0, some ⟨b0, true⟩), (n1, some ⟨b1, true⟩), (n2, some ⟨flat Rw.cv L, true⟩)]) (c + 0) := by
  subst hl
  have bk0 : blkN ⟨b0, true⟩ = [] := plain_blk hb0
  have bk1 : blkN ⟨b1, true⟩ = [] := plain_blk hb1
  obtain ⟨X, i, g1, g2⟩ := df_rounds (B := B) hb0 hb1 hcl rfl hL (L.length - (j + 1)) L j (j + 1) rfl (by omega) (df_start hj h1 h2)
  have hi := g1.il
  have hpre := g1.pre
  rw [keptL_all] at hi hpre
  have hlt : (L.filter (fun x => !p x)).length < L.length := by
    rw [List.length_filter_lt_length_iff_exists]
    exact ⟨L.getD j Rw0, getD_mem hj, by rw [h1]; simp⟩
  subst hi
  have hw := (dfA_1 (B := B) L.length b0 b1 p L X _ j hb0 hb1 hcl rfl hL (cd_ix_some hj h1 h2) hj g1.len.symm hlt (CodeDoes.loopAt (by kernel_rfl) g2)).trunc 2 rfl
  rw [hpre] at hw
  exact call_gen (args0 := [.s (.sl 2 0 L.length none 3), .s (.fn 43 [(0, 0), (1, 0)])]) (m0 := [(0, some ⟨b0, true⟩), (1, some ⟨b1, true⟩), (2, some ⟨flat Rw.cv L, true⟩)]) (D := [(0, some ⟨b0, true⟩), (1, some ⟨b1, true⟩), (2, some ⟨flat Rw.cv (L.filter (fun x => !p x)), true⟩)]) (v0 := .s (.sl 2 0 (L.filter (fun x => !p x)).length none 3)) (c' := c + 0) Try.func42 (by kernel_rfl) (by kernel_rfl) (k := 42) (by kernel_rfl) (hw) (.inr rfl) (by kernel_rfl) (fun j => if j = 0 then n0 else if j = 1 then n1 else if j = 2 then n2 else n2) [0, 1, 2] ⟨by first | (simp; done) | (simp; omega), by first | (simp; done) | (simp; omega), by first | (simp; done) | (simp; omega), by omega⟩
    (hD_of (fun x hx => by simp only [List.mem_cons, List.not_mem_nil, or_false] at hx; rcases hx with rfl | rfl | rfl <;> first | exact .inl rfl | exact .inr rfl)) (by simp) (fun x hx => by simp only [List.mem_cons, List.not_mem_nil, or_false] at hx; rcases hx with rfl | rfl | rfl <;> first | exact .inl ⟨_, rfl⟩ | exact .inr ⟨of_decide_eq_true rfl, of_decide_eq_true rfl⟩) (by simp) (by simp [avNames, svNames]) (fun x hx => by simp only [List.mem_cons, List.not_mem_nil, or_false] at hx; rcases hx with rfl | rfl | rfl <;> exact ⟨⟨by simp, of_decide_eq_true rfl⟩, fun b hb => by (first | (cases hb; done) | (obtain rfl := Option.some.inj hb; first | (rw [bk0]; simp; done) | (rw [bk1]; simp; done) | (simp [blkN, svNames]; done) | (simp only [Rw_blk]; simp; done) | (simp [blkN, svNames, List.flatMap]; done)))⟩) (fun x hx => by simp only [List.mem_cons, List.not_mem_nil, or_false] at hx; rcases hx with rfl | rfl | rfl <;> exact fun b hb => by (first | (cases hb; done) | (obtain rfl := Option.some.inj hb; first | (rw [bk0]; simp; done) | (rw [bk1]; simp; done) | (simp [blkN, svNames]; done) | (simp only [Rw_blk]; simp; done) | (simp [blkN, svNames, List.flatMap]; done)))) (by simp [avNames, svNames]) rfl (by (first | rfl | (simp only [rnM, List.map_cons, List.map_nil, Option.map_some, Option.map_none, rnB_nil (Rw_blk _ _), rnB_nil bk0, rnB_nil bk1]; first | done | rfl))) (by (first | rfl | (simp only [rnM, List.map_cons, List.map_nil, Option.map_some, Option.map_none, rnB_nil (Rw_blk _ _), rnB_nil bk0, rnB_nil bk1]; first | done | rfl))) rfl
theorem df_c {B c n0 n1 n2 : Nat} {L : List Rw} {b0 b1 : List SV} {p : Rw → Bool} {len : Nat} (hl : len = L.length) (hb0 : ∀ v ∈ b0, plainB v = true) (hb1 : ∀ v ∈ b1, plainB v = true) (hcl : ∀ x ∈ L, ValDoes Try.prog 43 [.agg (Rw.cv x), .s (.ptv b0), .s (.ptv b1)] (.s (.bool (p x)))) (hL : L.length ≤ 100000) (hn0 : n0 < c) (hn1 : n1 < c) (hn2 : n2 < c) (hne01 : n0 ≠ n1) (hne02 : n0 ≠ n2) (hne12 : n1 ≠ n2) : CallDoes Try.prog B 42 [.s (.sl n2 0 len none 3), .s (.fn 43 [(n0, 0), (n1, 0)])] [(n0, some ⟨b0, true⟩), (n1, some ⟨b1, true⟩), (n2, some ⟨flat Rw.cv L, true⟩)] c (.s (.sl n2 0 (L.filter (fun x => !p x)).length none 3)) ([(n0, some ⟨b0, true⟩), (n1, some ⟨b1, true⟩), (n2, some ⟨flat Rw.cv (L.filter (fun x => !p x)), true⟩)] ++ [(n0, some ⟨b0, true⟩), (n1, some ⟨b1, true⟩), (n2, some ⟨flat Rw.cv L, true⟩)]) c := by
  rcases first_bad (fun k => !(p (L.getD k Rw0))) L.length with h | ⟨k, h1, h2, h3⟩
  · exact df_N hl hb0 hb1 hcl hL (fun k hk => by simpa using h k hk) hn0 hn1 hn2 hne01 hne02 hne12
  · exact df_S hl hb0 hb1 hcl hL k h1 (by simpa using h2) (fun i hi => by simpa using h3 i hi) hn0 hn1 hn2 hne01 hne02 hne12
attribute [local irreducible] Eng.evAppend Eng.evSlice Eng.less CallDoes Eng.loadG Eng.evIndexAddr Eng.evBin
attribute [local irreducible] ValDoes

theorem one_plain {k : IntKind} {n : Int} : ∀ v ∈ ([.int k n] : List SV), plainB v = true := fun v hv => by simp at hv; subst hv; rfl
theorem df_k {B c n0 n1 n2 : Nat} {L M : List Rw} {b0 b1 : List SV} {p : Rw → Bool} {len : Nat} (hM : (L.filter (fun x => !p x)) = M) (hb0 : ∀ v ∈ b0, plainB v = true) (hb1 : ∀ v ∈ b1, plainB v = true) (hcl : ∀ x ∈ L, ValDoes Try.prog 43 [.agg (Rw.cv x), .s (.ptv b0), .s (.ptv b1)] (.s (.bool (p x)))) (hl : len = L.length) (hL : L.length ≤ 100000) (hn0 : n0 < c) (hn1 : n1 < c) (hn2 : n2 < c) (hne01 : n0 ≠ n1) (hne02 : n0 ≠ n2) (hne12 : n1 ≠ n2) : CallDoes Try.prog B 42 [.s (.sl n2 0 len none 3), .s (.fn 43 [(n0, 0), (n1, 0)])] [(n0, some ⟨b0, true⟩), (n1, some ⟨b1, true⟩), (n2, some ⟨flat Rw.cv L, true⟩)] c (.s (.sl n2 0 M.length none 3)) ([(n0, some ⟨b0, true⟩), (n1, some ⟨b1, true⟩), (n2, some ⟨flat Rw.cv M, true⟩)] ++ [(n0, some ⟨b0, true⟩), (n1, some ⟨b1, true⟩), (n2, some ⟨flat Rw.cv L, true⟩)]) c := by
  subst hM; exact df_c hl hb0 hb1 hcl hL hn0 hn1 hn2 hne01 hne02 hne12
theorem deO_1 {B : Nat} (A A' : List Rw) (p : Pd) (below : Int) (f : Rw → Bool) (hA : A.length ≤ 100000) (hA' : (A.filter (fun x => !f x)) = A') (ha' : A'.length ≤ A.length) (hpl : ∀ v ∈ Pd.cv p, plainB v = true) (hcl : ∀ x ∈ A, ValDoes Try.prog 43 [.agg (Rw.cv x), .s (.ptv [.int .i64 below]), .s (.ptv (Pd.cv p))] (.s (.bool (f x))))  : CodeDoes Try.prog B (Try.f23.body.getD .skip) ⟨⟨29, [(0, .s (.ptr 0 0)), (1, .agg (Pd.cv p)), (2, .s (.int .i64 below))]⟩, [(0, some ⟨[.sl 1 0 A.length none 3], true⟩), (1, some ⟨flat Rw.cv A, true⟩)], 2⟩ Ex.ret ⟨⟨29, [(6, AV.s (SV.int IntKind.i64 ((↑(List.length A) : Int) - (↑(List.length A') : Int))))]⟩, [(0, some (Blk.mk [SV.sl 1 0 (List.length A') none 3] true)), (1, some (Blk.mk (flat Rw.cv A') true))], 4⟩ :=
  goA_ok mix (tape := [(15, Ans.call [3, 2, 1] (AV.s (SV.sl 1 0 (List.length A') none 3)) [(3, some (Blk.mk [sI below] true)), (2, some (Blk.mk (Pd.cv p) true)), (1, some (Blk.mk (flat Rw.cv A') true))] 4), (25, Ans.val (AV.s (sI ((↑(List.length A) : Int) - (↑(List.length A') : Int)))))]) (dl := [6]) (nl := [0, 1]) (C := [(some (AV.s (sI (wI ((↑(List.length A) : Int) - (↑(List.length A') : Int))))) = some (AV.s (sI ((↑(List.length A) : Int) - (↑(List.length A') : Int))))), (CD B 42 [AV.s (SV.sl 1 0 (List.length A) none 3), AV.s (SV.fn 43 ((fun (x : List (Nat × Nat)) => (3, 0) :: x) ((fun (x : List (Nat × Nat)) => (2, 0) :: x) [])))] [(3, some (Blk.mk [sI below] true)), (2, some (Blk.mk (Pd.cv p) true)), (1, some (Blk.mk (flat Rw.cv A) true))] 4 (AV.s (SV.sl 1 0 (List.length A') none 3)) ([(3, some (Blk.mk [sI below] true)), (2, some (Blk.mk (Pd.cv p) true)), (1, some (Blk.mk (flat Rw.cv A') true))] ++ [(3, some (Blk.mk [sI below] true)), (2, some (Blk.mk (Pd.cv p) true)), (1, some (Blk.mk (flat Rw.cv A) true))]) 4)]) (by kernel_rfl) ⟨claim_i (by exact wrap_i64 (by omega) (by omega)), by (apply df_k <;> first | exact hA' | exact hcl | exact hpl | exact one_plain | assumption | rfl | omega), trivial⟩
theorem ix0_1 {B : Nat}   : CodeDoes Try.prog B (Try.f59.body.getD .skip) ⟨⟨19, [(0, .s (.slv 0 none 3 [])), (1, .s (.fn 43 [(0, 0), (1, 0)]))]⟩, [], 2⟩ Ex.ret ⟨⟨19, [(4, AV.s (SV.int IntKind.i64 (-1)))]⟩, [], 2⟩ :=
  goA_ok mix (tape := [(4, Ans.rounds 1)]) (dl := [4]) (nl := []) (C := []) (by kernel_rfl) trivial
theorem trO_1 {B : Nat} (A : List Rw) (h0 : 0 < A.length) (hL : A.length ≤ 1000) (hr : Room2 A)  : CodeDoes Try.prog B (Try.f18.body.getD .skip) ⟨⟨8, [(0, .s (.ptr 0 0))]⟩, [(0, some ⟨[.sl 1 0 A.length none 3], true⟩), (1, some ⟨flat Rw.cv A, true⟩)], 2⟩ Ex.ret ⟨⟨8, [(2, AV.s (SV.sl 2 0 (List.length A) none 3))]⟩, [(0, some (Blk.mk [SV.sl 1 0 (List.length A) none 3] true)), (1, some (Blk.mk (flat Rw.cv A) true)), (2, some (Blk.mk (flat Rw.cv A) true))], 3⟩ :=
  goA_ok mix (tape := [(5, Ans.call [1] (AV.s (SV.sl 2 0 (List.length A) none 3)) [(2, some (Blk.mk (flat Rw.cv A) true)), (1, some (Blk.mk (flat Rw.cv A) true))] 3)]) (dl := [2]) (nl := [0, 1, 2]) (C := [(CD B 28 [AV.s (SV.sl 1 0 (List.length A) none 3)] [(1, some (Blk.mk (flat Rw.cv A) true))] 2 (AV.s (SV.sl 2 0 (List.length A) none 3)) ([(2, some (Blk.mk (flat Rw.cv A) true)), (1, some (Blk.mk (flat Rw.cv A) true))] ++ [(1, some (Blk.mk (flat Rw.cv A) true))]) 3)]) (by kernel_rfl) ⟨by (apply cr_c <;> first | exact hr | assumption | rfl | omega), trivial⟩
theorem nwN_1 {B : Nat}   : CodeDoes Try.prog B (Try.f15.body.getD .skip) ⟨⟨3, []⟩, [], 0⟩ Ex.ret ⟨⟨3, [(0, AV.s (SV.ptr 0 0))]⟩, [(0, some (Blk.mk [SV.sl0] true))], 1⟩ :=
  goA_ok mix (tape := []) (dl := [0]) (nl := [0]) (C := []) (by kernel_rfl) trivial
theorem atE_1 {B : Nat} (t q : Int)  : CodeDoes Try.prog B (Try.f8.body.getD .skip) ⟨⟨13, [(0, .s (.int .i64 t)), (1, .s (.int .i64 q)), (2, .s .sl0)]⟩, [], 0⟩ Ex.ret ⟨⟨13, [(6, AV.s (SV.ptr 0 0))]⟩, [(0, some (Blk.mk [SV.int IntKind.i64 t, SV.int IntKind.i64 q, SV.sl 2 0 0 none 4] true)), (2, some (Blk.mk [] true))], 3⟩ :=
  goA_ok mix (tape := []) (dl := [6]) (nl := [0, 2]) (C := []) (by kernel_rfl) trivial
theorem cwN_1 {B : Nat}   : CodeDoes Try.prog B (Try.f48.body.getD .skip) ⟨⟨8, [(0, .s .sl0)]⟩, [], 0⟩ Ex.ret ⟨⟨8, [(2, AV.s SV.sl0)]⟩, [], 0⟩ :=
  goA_ok mix (tape := []) (dl := [2]) (nl := []) (C := []) (by kernel_rfl) trivial
theorem cwE_1 {B : Nat}   : CodeDoes Try.prog B (Try.f48.body.getD .skip) ⟨⟨8, [(0, .s (.slE 0))]⟩, [], 1⟩ Ex.ret ⟨⟨8, [(2, AV.s (SV.sl 2 0 0 none 3))]⟩, [(2, some (Blk.mk [] true))], 3⟩ :=
  goA_ok mix (tape := []) (dl := [2]) (nl := [2]) (C := []) (by kernel_rfl) trivial
end Go.Proofs.Ytaelliigpclipaa.V
namespace Go.Proofs.Ytaelliigpclipaa.V
open Go Go.RowKit Go.Proofs Go.Proofs.Ytaelliigpclipaa.Eng Go.Proofs.Ytaelliigpclipaa.VPl
set_option maxRecDepth 100000
set_option linter.unusedVariables false
set_option linter.unusedSimpArgs false
theorem del_c {B c t q : Nat} {A A' : List Rw} {p : Pd} {below : Int} {f : Rw → Bool} {len : Nat} (hl : len = A.length) (hA' : (A.filter (fun x => !f x)) = A') (hcl : ∀ x ∈ A, ValDoes Try.prog 43 [.agg (Rw.cv x), .s (.ptv [.int .i64 below]), .s (.ptv (Pd.cv p))] (.s (.bool (f x)))) (hA : A.length ≤ 100000) (ht : t < c) (hq : q < c) (hne01 : t ≠ q) : CallDoes Try.prog B 23 [.s (.ptr t 0), .agg (Pd.cv p), .s (.int .i64 below)] [(t, some ⟨[.sl q 0 len none 3], true⟩), (q, some ⟨flat Rw.cv A, true⟩)] c (.s (.int .i64 ((A.length : Int) - (A'.length : Int)))) ([(t, some ⟨[.sl q 0 A'.length none 3], true⟩), (q, some ⟨flat Rw.cv A', true⟩)] ++ [(t, some ⟨[.sl q 0 len none 3], true⟩), (q, some ⟨flat Rw.cv A, true⟩)]) (c + 0) := by
  subst hl
  exact call_gen (args0 := [.s (.ptr 0 0), .agg (Pd.cv p), .s (.int .i64 below)]) (m0 := [(0, some ⟨[.sl 1 0 A.length none 3], true⟩), (1, some ⟨flat Rw.cv A, true⟩)]) (D := [(0, some ⟨[.sl 1 0 A'.length none 3], true⟩), (1, some ⟨flat Rw.cv A', true⟩)]) (v0 := .s (.int .i64 ((A.length : Int) - (A'.length : Int)))) (c' := c + 0) Try.func23 (by kernel_rfl) (by kernel_rfl) (k := 29) (by kernel_rfl) (deO_1 A A' p below f hA hA' (by rw [← hA']; exact List.length_filter_le _ _) (Pd_plain p) hcl) (.inr rfl) (by kernel_rfl) (fun j => if j = 0 then t else if j = 1 then q else q) [0, 1] ⟨by first | (simp; done) | (simp; omega), by first | (simp; done) | (simp; omega), by first | (simp; done) | (simp; omega), by omega⟩
    (hD_of (fun x hx => by simp only [List.mem_cons, List.not_mem_nil, or_false] at hx; rcases hx with rfl | rfl <;> first | exact .inl rfl | exact .inr rfl)) (by simp) (fun x hx => by simp only [List.mem_cons, List.not_mem_nil, or_false] at hx; rcases hx with rfl | rfl <;> first | exact .inl ⟨_, rfl⟩ | exact .inr ⟨of_decide_eq_true rfl, of_decide_eq_true rfl⟩) (by simp) (by simp [avNames, svNames, show List.flatMap svNames p.cv = [] from List.flatMap_eq_nil_iff.2 fun v hv => plain_names (Pd_plain p v hv)]) (fun x hx => by simp only [List.mem_cons, List.not_mem_nil, or_false] at hx; rcases hx with rfl | rfl <;> exact ⟨⟨by simp, of_decide_eq_true rfl⟩, fun b hb => by (first | (cases hb; done) | (obtain rfl := Option.some.inj hb; first | (simp [blkN, svNames]; done) | (simp only [Rw_blk]; simp; done) | (simp [blkN, svNames, List.flatMap]; done)))⟩) (fun x hx => by simp only [List.mem_cons, List.not_mem_nil, or_false] at hx; rcases hx with rfl | rfl <;> exact fun b hb => by (first | (cases hb; done) | (obtain rfl := Option.some.inj hb; first | (simp [blkN, svNames]; done) | (simp only [Rw_blk]; simp; done) | (simp [blkN, svNames, List.flatMap]; done)))) (by simp [avNames, svNames]) (by rw [List.map_cons, List.map_cons, List.map_cons, List.map_nil, show ∀ σ, rnX σ (.agg (Pd.cv p)) = .agg (Pd.cv p) from fun σ => rnX_fix fun n hn => by rw [nameless_av (nameless_plain (Pd_plain p))] at hn; cases hn]; rfl) (by (first | rfl | (simp only [rnM, List.map_cons, List.map_nil, Option.map_some, Option.map_none, rnB_nil (Rw_blk _ _)]; first | done | rfl))) (by (first | rfl | (simp only [rnM, List.map_cons, List.map_nil, Option.map_some, Option.map_none, rnB_nil (Rw_blk _ _)]; first | done | rfl))) rfl
theorem tr_c {B c t q : Nat} {A : List Rw} {len : Nat} (hl : len = A.length) (h0 : 0 < A.length) (hL : A.length ≤ 1000) (hr : Room2 A) (ht : t < c) (hq : q < c) (hne01 : t ≠ q) : CallDoes Try.prog B 18 [.s (.ptr t 0)] [(t, some ⟨[.sl q 0 len none 3], true⟩), (q, some ⟨flat Rw.cv A, true⟩)] c (.s (.sl c 0 len none 3)) ([(c, some ⟨flat Rw.cv A, true⟩), (t, some ⟨[.sl q 0 len none 3], true⟩), (q, some ⟨flat Rw.cv A, true⟩)] ++ [(t, some ⟨[.sl q 0 len none 3], true⟩), (q, some ⟨flat Rw.cv A, true⟩)]) (c + 1) := by
  subst hl
  exact call_gen (args0 := [.s (.ptr 0 0)]) (m0 := [(0, some ⟨[.sl 1 0 A.length none 3], true⟩), (1, some ⟨flat Rw.cv A, true⟩)]) (D := [(2, some ⟨flat Rw.cv A, true⟩), (0, some ⟨[.sl 1 0 A.length none 3], true⟩), (1, some ⟨flat Rw.cv A, true⟩)]) (v0 := .s (.sl 2 0 A.length none 3)) (c' := c + 1) Try.func18 (by kernel_rfl) (by kernel_rfl) (k := 8) (by kernel_rfl) (trO_1 A h0 hL hr) (.inr rfl) (by kernel_rfl) (fun j => if j = 0 then t else if j = 1 then q else c) [0, 1, 2] ⟨by first | (simp; done) | (simp; omega), by first | (simp; done) | (simp; omega), by first | (simp; done) | (simp; omega), by omega⟩
    (hD_of (fun x hx => by simp only [List.mem_cons, List.not_mem_nil, or_false] at hx; rcases hx with rfl | rfl | rfl <;> first | exact .inl rfl | exact .inr rfl)) (by simp) (fun x hx => by simp only [List.mem_cons, List.not_mem_nil, or_false] at hx; rcases hx with rfl | rfl | rfl <;> first | exact .inl ⟨_, rfl⟩ | exact .inr ⟨of_decide_eq_true rfl, of_decide_eq_true rfl⟩) (by simp) (by simp [avNames, svNames]) (fun x hx => by simp only [List.mem_cons, List.not_mem_nil, or_false] at hx; rcases hx with rfl | rfl <;> exact ⟨⟨by simp, of_decide_eq_true rfl⟩, fun b hb => by (first | (cases hb; done) | (obtain rfl := Option.some.inj hb; first | (simp [blkN, svNames]; done) | (simp only [Rw_blk]; simp; done) | (simp only [Cl_blk]; simp; done) | (simp [blkN, svNames, List.flatMap]; done)))⟩) (fun x hx => by simp only [List.mem_cons, List.not_mem_nil, or_false] at hx; rcases hx with rfl | rfl | rfl <;> exact fun b hb => by (first | (cases hb; done) | (obtain rfl := Option.some.inj hb; first | (simp [blkN, svNames]; done) | (simp only [Rw_blk]; simp; done) | (simp only [Cl_blk]; simp; done) | (simp [blkN, svNames, List.flatMap]; done)))) (by simp [avNames, svNames]) rfl (by (first | rfl | (simp only [rnM, List.map_cons, List.map_nil, Option.map_some, Option.map_none, rnB_nil (Rw_blk _ _), rnB_nil (Cl_blk _ _)]; first | done | rfl))) (by (first | rfl | (simp only [rnM, List.map_cons, List.map_nil, Option.map_some, Option.map_none, rnB_nil (Rw_blk _ _), rnB_nil (Cl_blk _ _)]; first | done | rfl))) rfl
theorem new_c {B c : Nat}     : CallDoes Try.prog B 15 [] [] c (.s (.ptr c 0)) ([(c, some ⟨[.slv 0 none 3 []], true⟩)] ++ []) (c + 1) := by
  exact call_gen (args0 := []) (m0 := []) (D := [(0, some ⟨[.slv 0 none 3 []], true⟩)]) (v0 := .s (.ptr 0 0)) (c' := c + 1) Try.func15 (by kernel_rfl) (by kernel_rfl) (k := 3) (by kernel_rfl) (nwN_1.weakM 0 (ys := [.slv 0 none 3 []]) rfl (.cons (.nil 3) .nil)) (.inr rfl) (by kernel_rfl) (fun j => c) [0] ⟨by first | (simp; done) | (simp; omega), by first | (simp; done) | (simp; omega), by first | (simp; done) | (simp; omega), by omega⟩
    (hD_of (fun x hx => by simp only [List.mem_cons, List.not_mem_nil, or_false] at hx; rcases hx with rfl <;> first | exact .inl rfl | exact .inr rfl)) (by simp) (fun x hx => by simp only [List.mem_cons, List.not_mem_nil, or_false] at hx; rcases hx with rfl <;> first | exact .inl ⟨_, rfl⟩ | exact .inr ⟨of_decide_eq_true rfl, of_decide_eq_true rfl⟩) (by simp) (by simp [avNames, svNames]) (fun x hx => by cases hx) (fun x hx => by simp only [List.mem_cons, List.not_mem_nil, or_false] at hx; rcases hx with rfl <;> exact fun b hb => by (first | (cases hb; done) | (obtain rfl := Option.some.inj hb; first | (simp [blkN, svNames]; done) | (simp only [Rw_blk]; simp; done) | (simp only [Cl_blk]; simp; done) | (simp [blkN, svNames, List.flatMap]; done)))) (by simp [avNames, svNames]) rfl (by (first | rfl | (simp only [rnM, List.map_cons, List.map_nil, Option.map_some, Option.map_none, rnB_nil (Rw_blk _ _), rnB_nil (Cl_blk _ _)]; first | done | rfl))) (by (first | rfl | (simp only [rnM, List.map_cons, List.map_nil, Option.map_some, Option.map_none, rnB_nil (Rw_blk _ _), rnB_nil (Cl_blk _ _)]; first | done | rfl))) rfl

theorem con_ok {L : List Rw} (hR : ∀ x ∈ L, rightB x = true) (hcl : ∀ x ∈ L, x.cells.length ≤ 140737488351232) (hL : L.length ≤ 100000) : ValDoes Try.prog 36 [.s (.slv L.length none 3 (flat Rw.cv L)), .s (.fn 37 [])] (.s (.bool false)) := by
  have h := con_does (fun x => !rightB x) L (fun x hx => a1_does x (hcl x hx)) hL
  have e : L.any (fun x => !rightB x) = false := by
    rw [List.any_eq_false]
    intro x hx
    rw [hR x hx]
    simp
  rw [e] at h
  exact h

theorem at0_does (t q : Int) : ValDoes Try.prog 8 [.s (.int .i64 t), .s (.int .i64 q), .s .sl0] (.agg [.int .i64 t, .int .i64 q, .slv 0 none 4 []]) :=
  ValDoes.of_code Try.func8 (by kernel_rfl) (by kernel_rfl) (k := 13) (by kernel_rfl) (fun B => ⟨_, _, .inr rfl, (atE_1 t q).freeze 2 (l' := [(6, .s (.ptr 0 0))]) (m' := [(0, some ⟨[.int .i64 t, .int .i64 q, .slv 0 none 4 []], true⟩), (2, none)]) rfl (fun v hv => by cases hv) (.cons (.same _) .nil) (.cons (by decide) (.cons (.same _) (.cons (.same _) (.cons (.sl rfl) .nil))) (.gone .nil)), by kernel_rfl⟩) rfl (List.all_eq_true.1 (by kernel_rfl))
theorem adO_yes {B c t q : Nat} {A L M : List Rw} {la ll : Nat} (hla : la = A.length) (hll : ll = L.length) (hM : isort0 (A ++ L) = M) (hr : Room2 (A ++ L)) (hcon : ValDoes Try.prog 36 [.s (.slv L.length none 3 (flat Rw.cv L)), .s (.fn 37 [])] (.s (.bool false))) (hri : risesB M = true) (hml : A.length + L.length = M.length) (h0 : 0 < L.length) (hn : A.length + L.length ≤ 20) (ha : 0 < A.length) (ht : t < c) (hq : q < c) (hne01 : t ≠ q) : CallDoes Try.prog B 17 [.s (.ptr t 0), .s (.slv ll none 3 (flat Rw.cv L))] [(t, some ⟨[.sl q 0 la none 3], true⟩), (q, some ⟨flat Rw.cv A, true⟩)] c (.s (.int .i64 0)) ([(t, some ⟨[.sl c 0 M.length none 3], true⟩), (c, some ⟨flat Rw.cv M, true⟩), (q, none)] ++ [(t, some ⟨[.sl q 0 la none 3], true⟩), (q, some ⟨flat Rw.cv A, true⟩)]) (c + 1) := by
  subst hla; subst hll
  have hw := adOT_1 (B := B) A L M h0 hn hr hM hml ha hcon hri
  rw [hml] at hw
  exact call_gen (args0 := [.s (.ptr 0 0), .s (.slv L.length none 3 (flat Rw.cv L))]) (m0 := [(0, some ⟨[.sl 1 0 A.length none 3], true⟩), (1, some ⟨flat Rw.cv A, true⟩)]) (D := [(0, some ⟨[.sl 4 0 M.length none 3], true⟩), (4, some ⟨flat Rw.cv M, true⟩), (1, none)]) (v0 := .s (.int .i64 0)) (c' := c + 1) Try.func17 (by kernel_rfl) (by kernel_rfl) (k := 23) (by kernel_rfl) (hw) (.inr rfl) (by kernel_rfl) (fun j => if j = 0 then t else if j = 1 then q else c) [0, 1, 4] ⟨by first | (simp; done) | (simp; omega), by first | (simp; done) | (simp; omega), by first | (simp; done) | (simp; omega), by omega⟩
    (hD_of (fun x hx => by simp only [List.mem_cons, List.not_mem_nil, or_false] at hx; rcases hx with rfl | rfl | rfl <;> first | exact .inl rfl | exact .inr rfl)) (by simp) (fun x hx => by simp only [List.mem_cons, List.not_mem_nil, or_false] at hx; rcases hx with rfl | rfl | rfl <;> first | exact .inl ⟨_, rfl⟩ | exact .inr ⟨of_decide_eq_true rfl, of_decide_eq_true rfl⟩) (by simp) (by simp [avNames, svNames]) (fun x hx => by simp only [List.mem_cons, List.not_mem_nil, or_false] at hx; rcases hx with rfl | rfl <;> exact ⟨⟨by simp, of_decide_eq_true rfl⟩, fun b hb => by (first | (cases hb; done) | (obtain rfl := Option.some.inj hb; first | (simp [blkN, svNames]; done) | (simp only [Rw_blk]; simp; done) | (simp only [Cl_blk]; simp; done) | (simp [blkN, svNames, List.flatMap]; done)))⟩) (fun x hx => by simp only [List.mem_cons, List.not_mem_nil, or_false] at hx; rcases hx with rfl | rfl | rfl <;> exact fun b hb => by (first | (cases hb; done) | (obtain rfl := Option.some.inj hb; first | (simp [blkN, svNames]; done) | (simp only [Rw_blk]; simp; done) | (simp only [Cl_blk]; simp; done) | (simp [blkN, svNames, List.flatMap]; done)))) (by simp [avNames, svNames]) rfl (by (first | rfl | (simp only [rnM, List.map_cons, List.map_nil, Option.map_some, Option.map_none, rnB_nil (Rw_blk _ _), rnB_nil (Cl_blk _ _)]; first | done | rfl))) (by (first | rfl | (simp only [rnM, List.map_cons, List.map_nil, Option.map_some, Option.map_none, rnB_nil (Rw_blk _ _), rnB_nil (Cl_blk _ _)]; first | done | rfl))) rfl
theorem adO_no {B c t q : Nat} {A L M : List Rw} {la ll : Nat} (hla : la = A.length) (hll : ll = L.length) (hM : isort0 (A ++ L) = M) (hr : Room2 (A ++ L)) (hcon : ValDoes Try.prog 36 [.s (.slv L.length none 3 (flat Rw.cv L)), .s (.fn 37 [])] (.s (.bool false))) (hri : risesB M = false) (hml : A.length + L.length = M.length) (h0 : 0 < L.length) (hn : A.length + L.length ≤ 20) (ha : 0 < A.length) (ht : t < c) (hq : q < c) (hne01 : t ≠ q) : CallDoes Try.prog B 17 [.s (.ptr t 0), .s (.slv ll none 3 (flat Rw.cv L))] [(t, some ⟨[.sl q 0 la none 3], true⟩), (q, some ⟨flat Rw.cv A, true⟩)] c (.s (.int .i64 21)) ([(t, some ⟨[.sl q 0 la none 3], true⟩), (q, some ⟨flat Rw.cv A, true⟩)] ++ [(t, some ⟨[.sl q 0 la none 3], true⟩), (q, some ⟨flat Rw.cv A, true⟩)]) (c + 0) := by
  subst hla; subst hll
  exact call_gen (args0 := [.s (.ptr 0 0), .s (.slv L.length none 3 (flat Rw.cv L))]) (m0 := [(0, some ⟨[.sl 1 0 A.length none 3], true⟩), (1, some ⟨flat Rw.cv A, true⟩)]) (D := [(0, some ⟨[.sl 1 0 A.length none 3], true⟩), (1, some ⟨flat Rw.cv A, true⟩)]) (v0 := .s (.int .i64 21)) (c' := c + 0) Try.func17 (by kernel_rfl) (by kernel_rfl) (k := 23) (by kernel_rfl) (adON_1 A L M h0 hn hr hM hml ha hcon hri) (.inr rfl) (by kernel_rfl) (fun j => if j = 0 then t else if j = 1 then q else q) [0, 1] ⟨by first | (simp; done) | (simp; omega), by first | (simp; done) | (simp; omega), by first | (simp; done) | (simp; omega), by omega⟩
    (hD_of (fun x hx => by simp only [List.mem_cons, List.not_mem_nil, or_false] at hx; rcases hx with rfl | rfl <;> first | exact .inl rfl | exact .inr rfl)) (by simp) (fun x hx => by simp only [List.mem_cons, List.not_mem_nil, or_false] at hx; rcases hx with rfl | rfl <;> first | exact .inl ⟨_, rfl⟩ | exact .inr ⟨of_decide_eq_true rfl, of_decide_eq_true rfl⟩) (by simp) (by simp [avNames, svNames]) (fun x hx => by simp only [List.mem_cons, List.not_mem_nil, or_false] at hx; rcases hx with rfl | rfl <;> exact ⟨⟨by simp, of_decide_eq_true rfl⟩, fun b hb => by (first | (cases hb; done) | (obtain rfl := Option.some.inj hb; first | (simp [blkN, svNames]; done) | (simp only [Rw_blk]; simp; done) | (simp only [Cl_blk]; simp; done) | (simp [blkN, svNames, List.flatMap]; done)))⟩) (fun x hx => by simp only [List.mem_cons, List.not_mem_nil, or_false] at hx; rcases hx with rfl | rfl <;> exact fun b hb => by (first | (cases hb; done) | (obtain rfl := Option.some.inj hb; first | (simp [blkN, svNames]; done) | (simp only [Rw_blk]; simp; done) | (simp only [Cl_blk]; simp; done) | (simp [blkN, svNames, List.flatMap]; done)))) (by simp [avNames, svNames]) rfl (by (first | rfl | (simp only [rnM, List.map_cons, List.map_nil, Option.map_some, Option.map_none, rnB_nil (Rw_blk _ _), rnB_nil (Cl_blk _ _)]; first | done | rfl))) (by (first | rfl | (simp only [rnM, List.map_cons, List.map_nil, Option.map_some, Option.map_none, rnB_nil (Rw_blk _ _), rnB_nil (Cl_blk _ _)]; first | done | rfl))) rfl
theorem adF_yes {B c t : Nat} {A L M : List Rw} {la ll : Nat} (hla : la = A.length) (hll : ll = L.length) (hM : isort0 (A ++ L) = M) (hr : Room2 (A ++ L)) (hcon : ValDoes Try.prog 36 [.s (.slv L.length none 3 (flat Rw.cv L)), .s (.fn 37 [])] (.s (.bool false))) (hri : risesB M = true) (hml : A.length + L.length = M.length) (h0 : 0 < L.length) (hn : A.length + L.length ≤ 20) (ht : t < c)  : CallDoes Try.prog B 17 [.s (.ptr t 0), .s (.slv ll none 3 (flat Rw.cv L))] [(t, some ⟨[.slv la none 3 (flat Rw.cv A)], true⟩)] c (.s (.int .i64 0)) ([(t, some ⟨[.sl c 0 M.length none 3], true⟩), (c, some ⟨flat Rw.cv M, true⟩)] ++ [(t, some ⟨[.slv la none 3 (flat Rw.cv A)], true⟩)]) (c + 1) := by
  subst hla; subst hll
  have hw := adFT_1 (B := B) A L M h0 hn hr hM hml hcon hri
  rw [hml] at hw
  exact call_gen (args0 := [.s (.ptr 0 0), .s (.slv L.length none 3 (flat Rw.cv L))]) (m0 := [(0, some ⟨[.slv A.length none 3 (flat Rw.cv A)], true⟩)]) (D := [(0, some ⟨[.sl 3 0 M.length none 3], true⟩), (3, some ⟨flat Rw.cv M, true⟩)]) (v0 := .s (.int .i64 0)) (c' := c + 1) Try.func17 (by kernel_rfl) (by kernel_rfl) (k := 23) (by kernel_rfl) (hw) (.inr rfl) (by kernel_rfl) (fun j => if j = 0 then t else c) [0, 3] ⟨by first | (simp; done) | (simp; omega), by first | (simp; done) | (simp; omega), by first | (simp; done) | (simp; omega), by omega⟩
    (hD_of (fun x hx => by simp only [List.mem_cons, List.not_mem_nil, or_false] at hx; rcases hx with rfl | rfl <;> first | exact .inl rfl | exact .inr rfl)) (by simp) (fun x hx => by simp only [List.mem_cons, List.not_mem_nil, or_false] at hx; rcases hx with rfl | rfl <;> first | exact .inl ⟨_, rfl⟩ | exact .inr ⟨of_decide_eq_true rfl, of_decide_eq_true rfl⟩) (by simp) (by simp [avNames, svNames]) (fun x hx => by simp only [List.mem_cons, List.not_mem_nil, or_false] at hx; rcases hx with rfl <;> exact ⟨⟨by simp, of_decide_eq_true rfl⟩, fun b hb => by (first | (cases hb; done) | (obtain rfl := Option.some.inj hb; first | (simp [blkN, svNames]; done) | (simp only [Rw_blk]; simp; done) | (simp only [Cl_blk]; simp; done) | (simp [blkN, svNames, List.flatMap]; done)))⟩) (fun x hx => by simp only [List.mem_cons, List.not_mem_nil, or_false] at hx; rcases hx with rfl | rfl <;> exact fun b hb => by (first | (cases hb; done) | (obtain rfl := Option.some.inj hb; first | (simp [blkN, svNames]; done) | (simp only [Rw_blk]; simp; done) | (simp only [Cl_blk]; simp; done) | (simp [blkN, svNames, List.flatMap]; done)))) (by simp [avNames, svNames]) rfl (by (first | rfl | (simp only [rnM, List.map_cons, List.map_nil, Option.map_some, Option.map_none, rnB_nil (Rw_blk _ _), rnB_nil (Cl_blk _ _)]; first | done | rfl))) (by (first | rfl | (simp only [rnM, List.map_cons, List.map_nil, Option.map_some, Option.map_none, rnB_nil (Rw_blk _ _), rnB_nil (Cl_blk _ _)]; first | done | rfl))) rfl
theorem add1_O {B c n t q la : Nat} {M A : List Rw} {t' q' : Int} {C : List Cl} {lc : Nat} (hlc : lc = C.length) (hM : isort0 (A ++ [⟨t', q', C⟩]) = M) (hr : Room2 (A ++ [⟨t', q', C⟩])) (hcon : ValDoes Try.prog 36 [.s (.slv 1 none 3 (flat Rw.cv [⟨t', q', C⟩])), .s (.fn 37 [])] (.s (.bool false))) (hri : risesB M = true) (hml : A.length + 1 = M.length) (hla : la = A.length) (hn : A.length + 1 ≤ 20) (ha : 0 < A.length) (ht : t < c) (hq : q < c) (htq : t ≠ q) (hnq : n ≠ q) (hnt : n ≠ t) : CallDoes Try.prog B 17 [.s (.ptr t 0), .s (.sl n 0 1 none 3)] ((n, some ⟨[.int .i64 t', .int .i64 q', .slv lc none 4 (flat Cl.cv C)], true⟩) :: [(t, some ⟨[.sl q 0 la none 3], true⟩), (q, some ⟨flat Rw.cv A, true⟩)]) c (.s (.int .i64 0)) (([(t, some ⟨[.sl c 0 M.length none 3], true⟩), (c, some ⟨flat Rw.cv M, true⟩), (q, none)] ++ [(n, none)]) ++ ((n, some ⟨[.int .i64 t', .int .i64 q', .slv lc none 4 (flat Cl.cv C)], true⟩) :: [(t, some ⟨[.sl q 0 la none 3], true⟩), (q, some ⟨flat Rw.cv A, true⟩)])) (c + 1) := by
  subst hlc
  exact ((adO_yes (B := B) (A := A) (L := [⟨t', q', C⟩]) hla rfl hM hr hcon hri hml (of_decide_eq_true rfl) hn ha ht hq htq).thaw (n := n) (cells := flat Rw.cv [⟨t', q', C⟩]) (Rw_flat _) (.cons (.same _) (.cons (.s (.sl (subRw _))) .nil)) (fun b hb => by simp [Eng.get, hnt.symm, hnq.symm] at hb))
theorem add1_E {B c n t : Nat} {M : List Rw} {t' q' : Int} {C : List Cl} {lc : Nat} (hlc : lc = C.length) (hM : isort0 (([] : List Rw) ++ [⟨t', q', C⟩]) = M) (hr : Room2 (([] : List Rw) ++ [⟨t', q', C⟩])) (hcon : ValDoes Try.prog 36 [.s (.slv 1 none 3 (flat Rw.cv [⟨t', q', C⟩])), .s (.fn 37 [])] (.s (.bool false))) (hri : risesB M = true) (hml : ([] : List Rw).length + 1 = M.length) (ht : t < c) (hnt : n ≠ t) : CallDoes Try.prog B 17 [.s (.ptr t 0), .s (.sl n 0 1 none 3)] ((n, some ⟨[.int .i64 t', .int .i64 q', .slv lc none 4 (flat Cl.cv C)], true⟩) :: [(t, some ⟨[.slv 0 none 3 []], true⟩)]) c (.s (.int .i64 0)) (([(t, some ⟨[.sl c 0 M.length none 3], true⟩), (c, some ⟨flat Rw.cv M, true⟩)] ++ [(n, none)]) ++ ((n, some ⟨[.int .i64 t', .int .i64 q', .slv lc none 4 (flat Cl.cv C)], true⟩) :: [(t, some ⟨[.slv 0 none 3 []], true⟩)])) (c + 1) := by
  subst hlc
  exact ((adF_yes (B := B) (A := ([] : List Rw)) (L := [⟨t', q', C⟩]) rfl rfl hM hr hcon hri hml (of_decide_eq_true rfl) (by simp) ht).thaw (n := n) (cells := flat Rw.cv [⟨t', q', C⟩]) (Rw_flat _) (.cons (.same _) (.cons (.s (.sl (subRw _))) .nil)) (fun b hb => by simp [Eng.get, hnt.symm] at hb))
theorem add2_O {B c n t q la : Nat} {M A : List Rw} {a b t' q' : Int}  (hM : isort0 (A ++ [⟨a, b, []⟩, ⟨t', q', []⟩]) = M) (hr : Room2 (A ++ [⟨a, b, []⟩, ⟨t', q', []⟩])) (hcon : ValDoes Try.prog 36 [.s (.slv 2 none 3 (flat Rw.cv [⟨a, b, []⟩, ⟨t', q', []⟩])), .s (.fn 37 [])] (.s (.bool false))) (hri : risesB M = false) (hml : A.length + 2 = M.length) (hla : la = A.length) (hn : A.length + 2 ≤ 20) (ha : 0 < A.length) (ht : t < c) (hq : q < c) (htq : t ≠ q) (hnq : n ≠ q) (hnt : n ≠ t) : CallDoes Try.prog B 17 [.s (.ptr t 0), .s (.sl n 0 2 none 3)] ((n, some ⟨[.int .i64 a, .int .i64 b, .slv 0 none 4 [], .int .i64 t', .int .i64 q', .sl0], true⟩) :: [(t, some ⟨[.sl q 0 la none 3], true⟩), (q, some ⟨flat Rw.cv A, true⟩)]) c (.s (.int .i64 21)) (([(t, some ⟨[.sl q 0 la none 3], true⟩), (q, some ⟨flat Rw.cv A, true⟩)] ++ [(n, none)]) ++ ((n, some ⟨[.int .i64 a, .int .i64 b, .slv 0 none 4 [], .int .i64 t', .int .i64 q', .sl0], true⟩) :: [(t, some ⟨[.sl q 0 la none 3], true⟩), (q, some ⟨flat Rw.cv A, true⟩)])) (c) := by
  exact (CallDoes.weakM n (xs := [.int .i64 a, .int .i64 b, .slv 0 none 4 [], .int .i64 t', .int .i64 q', .sl0]) (ys := flat Rw.cv [⟨a, b, []⟩, ⟨t', q', []⟩]) ((adO_no (B := B) (A := A) (L := [⟨a, b, []⟩, ⟨t', q', []⟩]) hla rfl hM hr hcon hri hml (of_decide_eq_true rfl) hn ha ht hq htq).thaw (n := n) (cells := flat Rw.cv [⟨a, b, []⟩, ⟨t', q', []⟩]) (Rw_flat _) (.cons (.same _) (.cons (.s (.sl (subRw _))) .nil)) (fun b hb => by simp [Eng.get, hnt.symm, hnq.symm] at hb)) (.cons (.refl _) (.cons (.refl _) (.cons (.refl _) (.cons (.refl _) (.cons (.refl _) (.cons (.nil 4) .nil)))))) ⟨(n, none), by simp, rfl⟩)
attribute [local irreducible] Eng.evAppend Eng.evSlice Eng.less CallDoes Eng.loadG Eng.evIndexAddr Eng.evBin
attribute [local irreducible] ValDoes
end Go.Proofs.Ytaelliigpclipaa.V
namespace Go.Proofs.Ytaelliigpclipaa.V
open Go Go.RowKit Go.Proofs Go.Proofs.Ytaelliigpclipaa.Eng Go.Proofs.Ytaelliigpclipaa.VPl
set_option maxRecDepth 100000
set_option linter.unusedVariables false
set_option linter.unusedSimpArgs false

theorem vr_weak {xs ys : List SV} (h : WkL xs ys) : ∀ (ρ : Rho) u, VR ρ (.agg xs) u → VR ρ (.agg ys) u := fun ρ u ⟨cs, h1, h2, h3⟩ => ⟨cs, h1, by rw [← h.get.1]; exact h2, fun i v c hv hc => by
  obtain ⟨x, hx, hw⟩ := h.get.2 i v hv
  exact hw _ _ (h3 i x c hx hc)⟩
theorem rows_does (A : List Rw) (hA : A.length ≤ 1000) (hr : ∀ x ∈ A, x.cells.length ≤ 140737488351232) : ValDoes Try.prog 13 [.s (.slv A.length none 3 (flat Rw.cv A)), .s (.slv A.length none 3 (flat Rw.cv A))] (.s (.bool true)) := fun B c => rows_c rfl hA hr
theorem rows_pk {B c n0 n1 len0 len1 : Nat} {o0 o1 : Bool} {A : List Rw} (hA : A.length ≤ 1000) (hr : ∀ x ∈ A, x.cells.length ≤ 140737488351232) (hl0 : len0 = A.length) (hl1 : len1 = A.length) (hne : n0 ≠ n1) : CallDoes Try.prog B 13 [.s (.sl n0 0 len0 none 3), .s (.sl n1 0 len1 none 3)] [(n0, some ⟨flat Rw.cv A, o0⟩), (n1, some ⟨flat Rw.cv A, o1⟩)] c (.s (.bool true)) ([] ++ [(n0, some ⟨flat Rw.cv A, o0⟩), (n1, some ⟨flat Rw.cv A, o1⟩)]) c := by
  subst hl0
  subst hl1
  exact (rows_does A hA hr).peek rfl (.cons (.s (.sl (b := ⟨flat Rw.cv A, o0⟩) (by simp [Eng.get, *]) (subRw A) (Rw_flat A))) (.cons (.s (.sl (b := ⟨flat Rw.cv A, o1⟩) (by simp [Eng.get, *]) (subRw A) (Rw_flat A))) .nil)) B c
theorem ix0_c {B c n0 n1 : Nat}   (hn0 : n0 < c) (hn1 : n1 < c) (hne01 : n0 ≠ n1) : CallDoes Try.prog B 59 [.s (.slv 0 none 3 []), .s (.fn 43 [(n0, 0), (n1, 0)])] [] c (.s (.int .i64 (-1))) ([] ++ []) (c + 0) := by
  exact call_gen (args0 := [.s (.slv 0 none 3 []), .s (.fn 43 [(0, 0), (1, 0)])]) (m0 := []) (D := []) (v0 := .s (.int .i64 (-1))) (c' := c + 0) Try.func59 (by kernel_rfl) (by kernel_rfl) (k := 19) (by kernel_rfl) (ix0_1) (.inr rfl) (by kernel_rfl) (fun j => if j = 0 then n0 else if j = 1 then n1 else n1) [0, 1] ⟨by first | (simp; done) | (simp; omega), by first | (simp; done) | (simp; omega), by first | (simp; done) | (simp; omega), by omega⟩
    (hD_of (fun x hx => by cases hx)) (by simp) (fun x hx => by cases hx) (by simp) (by simp [avNames, svNames]) (fun x hx => by cases hx) (fun x hx => by cases hx) (by simp [avNames, svNames]) rfl (by (first | rfl | (simp only [rnM, List.map_cons, List.map_nil, Option.map_some, Option.map_none, rnB_nil (Rw_blk _ _)]; first | done | rfl))) (by (first | rfl | (simp only [rnM, List.map_cons, List.map_nil, Option.map_some, Option.map_none, rnB_nil (Rw_blk _ _)]; first | done | rfl))) rfl

theorem cw0_c {B c : Nat} (hc : 0 < c) : CallDoes Try.prog B 48 [.s (.slv 0 none 3 [])] [] c (.s (.slv 0 none 3 [])) ([] ++ []) c :=
  orNil (callRes' ((ValDoes.of_code Try.func48 (by kernel_rfl) (by kernel_rfl) (k := 8) (by kernel_rfl) (fun B => ⟨_, _, .inr rfl, cwN_1, by kernel_rfl⟩) (by kernel_rfl) (List.all_eq_true.1 (by kernel_rfl)) : ValDoes Try.prog 48 [.s .sl0] (.s .sl0)) B c) vr_nil1)
    (call_arg (args0 := [.s (.slE 0)]) (n := 0) Try.func48 (by kernel_rfl) (by kernel_rfl) (k := 8) (by kernel_rfl) (cwE_1.freeze 2 (l' := [(2, .s (.slv 0 none 3 []))]) (m' := [(2, none)]) rfl (fun v hv => by cases hv) (.cons (.s (.sl (by rfl))) .nil) (.gone .nil)) (.inr rfl) (by kernel_rfl) rfl (fun _ => rfl) (by simp [avNames, svNames]) rfl hc)
attribute [local irreducible] Eng.evAppend Eng.evSlice Eng.less CallDoes Eng.loadG Eng.evIndexAddr Eng.evBin
attribute [local irreducible] ValDoes
theorem cp0_1 {B : Nat}   : CodeDoes Try.prog B (Try.f28.body.getD .skip) ⟨⟨24, [(0, .s (.slv 0 none 3 []))]⟩, [], 1⟩ Ex.ret ⟨⟨24, [(2, AV.s (SV.slv 0 none 3 []))]⟩, [], 1⟩ :=
  goA_ok mix (tape := [(2, aC (AV.s (SV.slv 0 none 3 [])) 1), (7, Ans.rounds 1)]) (dl := [2]) (nl := []) (C := [(CD B 48 [AV.s (SV.slv 0 none 3 [])] [] 1 (AV.s (SV.slv 0 none 3 [])) ([] ++ []) 1)]) (by kernel_rfl) ⟨by (apply cw0_c <;> first | omega), trivial⟩
theorem df0_1 {B : Nat}   : CodeDoes Try.prog B (Try.f42.body.getD .skip) ⟨⟨42, [(0, .s (.slv 0 none 3 [])), (1, .s (.fn 43 [(0, 0), (1, 0)]))]⟩, [], 2⟩ Ex.ret ⟨⟨42, [(4, AV.s (SV.slv 0 none 3 []))]⟩, [], 2⟩ :=
  goA_ok mix (tape := [(3, aC (AV.s (sI (-1))) 2)]) (dl := [4]) (nl := []) (C := [(CD B 59 [AV.s (SV.slv 0 none 3 []), AV.s (SV.fn 43 [(0, 0), (1, 0)])] [] 2 (AV.s (sI (-1))) ([] ++ []) 2)]) (by kernel_rfl) ⟨by (apply ix0_c <;> first | omega), trivial⟩
theorem evN_1 {B : Nat}   : CodeDoes Try.prog B (Try.f20.body.getD .skip) ⟨⟨2, []⟩, [], 0⟩ Ex.ret ⟨⟨2, [(0, AV.s (SV.ptr 0 0))]⟩, [(0, some (Blk.mk [SV.int IntKind.i64 1, SV.str (ByteArray.mk #[]), SV.int IntKind.i64 0, SV.int IntKind.i64 0, SV.str (ByteArray.mk #[]), SV.sl0, SV.sl0] true))], 1⟩ :=
  goA_ok mix (tape := []) (dl := [0]) (nl := [0]) (C := []) (by kernel_rfl) trivial
theorem cp0_c {B c z : Nat}   (hz : z < c)  : CallDoes Try.prog B 28 [.s (.slv 0 none 3 [])] [] c (.s (.slv 0 none 3 [])) ([] ++ []) (c + 0) := by
  exact call_gen (args0 := [.s (.slv 0 none 3 [])]) (m0 := []) (D := []) (v0 := .s (.slv 0 none 3 [])) (c' := c + 0) Try.func28 (by kernel_rfl) (by kernel_rfl) (k := 24) (by kernel_rfl) (cp0_1) (.inr rfl) (by kernel_rfl) (fun j => if j = 0 then z else z) [0] ⟨by first | (simp; done) | (simp; omega), by first | (simp; done) | (simp; omega), by first | (simp; done) | (simp; omega), by omega⟩
    (hD_of (fun x hx => by cases hx)) (by simp) (fun x hx => by cases hx) (by simp) (by simp [avNames, svNames]) (fun x hx => by cases hx) (fun x hx => by cases hx) (by simp [avNames, svNames]) rfl (by (first | rfl | (simp only [rnM, List.map_cons, List.map_nil, Option.map_some, Option.map_none, rnB_nil (Rw_blk _ _)]; first | done | rfl))) (by (first | rfl | (simp only [rnM, List.map_cons, List.map_nil, Option.map_some, Option.map_none, rnB_nil (Rw_blk _ _)]; first | done | rfl))) rfl
theorem df0_c {B c n0 n1 : Nat}   (hn0 : n0 < c) (hn1 : n1 < c) (hne01 : n0 ≠ n1) : CallDoes Try.prog B 42 [.s (.slv 0 none 3 []), .s (.fn 43 [(n0, 0), (n1, 0)])] [] c (.s (.slv 0 none 3 [])) ([] ++ []) (c + 0) := by
  exact call_gen (args0 := [.s (.slv 0 none 3 []), .s (.fn 43 [(0, 0), (1, 0)])]) (m0 := []) (D := []) (v0 := .s (.slv 0 none 3 [])) (c' := c + 0) Try.func42 (by kernel_rfl) (by kernel_rfl) (k := 42) (by kernel_rfl) (df0_1) (.inr rfl) (by kernel_rfl) (fun j => if j = 0 then n0 else if j = 1 then n1 else n1) [0, 1] ⟨by first | (simp; done) | (simp; omega), by first | (simp; done) | (simp; omega), by first | (simp; done) | (simp; omega), by omega⟩
    (hD_of (fun x hx => by cases hx)) (by simp) (fun x hx => by cases hx) (by simp) (by simp [avNames, svNames]) (fun x hx => by cases hx) (fun x hx => by cases hx) (by simp [avNames, svNames]) rfl (by (first | rfl | (simp only [rnM, List.map_cons, List.map_nil, Option.map_some, Option.map_none, rnB_nil (Rw_blk _ _)]; first | done | rfl))) (by (first | rfl | (simp only [rnM, List.map_cons, List.map_nil, Option.map_some, Option.map_none, rnB_nil (Rw_blk _ _)]; first | done | rfl))) rfl

theorem cp0_k {B c : Nat} (hc : 0 < c) : CallDoes Try.prog B 28 [.s (.slv 0 none 3 [])] [] c (.s (.slv 0 none 3 [])) ([] ++ []) c := cp0_c (z := 0) hc
/-- A predicate that is true of each row. -/
abbrev every : Pd := .mk 1 ⟨#[]⟩ 0 0 ⟨#[]⟩ [] []
abbrev everyC : List SV := [.int .i64 1, .str ⟨#[]⟩, .int .i64 0, .int .i64 0, .str ⟨#[]⟩, .slv 0 none 1 [], .slv 0 none 7 []]
theorem every_cv : every.cv = everyC := by rw [Pd.cv_mk]; rfl
theorem every_fits : every.fits := by simp [every, Pd.fits, Pd.fitsL]
theorem every_eval (r : Rw) : evalB every r = true := by simp [every, evalB, evalAll]
theorem every_c {B c : Nat} : CallDoes Try.prog B 20 [] [] c (.agg [.int .i64 1, .str ⟨#[]⟩, .int .i64 0, .int .i64 0, .str ⟨#[]⟩, .slv 0 none 1 [], .slv 0 none 7 []]) ([] ++ []) c :=
  callRes' (orVal (ValDoes.of_code Try.func20 (by kernel_rfl) (by kernel_rfl) (k := 2) (by kernel_rfl) (fun B => ⟨_, _, .inr rfl, evN_1, by kernel_rfl⟩) (by kernel_rfl) (List.all_eq_true.1 (by kernel_rfl)) : ValDoes Try.prog 20 [] (.agg [.int .i64 1, .str ⟨#[]⟩, .int .i64 0, .int .i64 0, .str ⟨#[]⟩, .sl0, .sl0]))) (vr_weak (.cons (.refl _) (.cons (.refl _) (.cons (.refl _) (.cons (.refl _) (.cons (.refl _) (.cons (.nil 1) (.cons (.nil 7) .nil))))))))
theorem d1_does (x : Rw) (below : Int) (p : Pd) (hp : p.fits) (hx : x.cells.length ≤ 140737488351232) : ValDoes Try.prog 43 [.agg (Rw.cv x), .s (.ptv [.int .i64 below]), .s (.ptv (Pd.cv p))] (.s (.bool (delB p below x))) := by
  have ha : ∀ y ∈ ([.agg (Rw.cv x), .s (.ptv [.int .i64 below]), .s (.ptv (Pd.cv p))] : List AV), namelessA y = true := fun y hy => by
    simp only [List.mem_cons, List.not_mem_nil, or_false] at hy
    rcases hy with rfl | rfl | rfl
    · exact nameless_plain (Rw_plain x)
    · rfl
    · rfl
  unfold delB
  by_cases h : x.seq < below
  · rw [decide_eq_true h, Bool.true_and]
    exact ValDoes.of_code Try.func43 (by kernel_rfl) (by kernel_rfl) (k := 14) (by kernel_rfl) (fun B => ⟨_, _, .inr rfl, d1V_1 x below p _ (eval_does p x hp hx) h, by kernel_rfl⟩) (by kernel_rfl) ha
  · rw [decide_eq_false h, Bool.false_and]
    exact ValDoes.of_code Try.func43 (by kernel_rfl) (by kernel_rfl) (k := 14) (by kernel_rfl) (fun B => ⟨_, _, .inr rfl, d1V_2 x below p _ (eval_does p x hp hx) h, by kernel_rfl⟩) (by kernel_rfl) ha
theorem trE_1 {B : Nat}   : CodeDoes Try.prog B (Try.f18.body.getD .skip) ⟨⟨8, [(0, .s (.ptr 0 0))]⟩, [(0, some ⟨[.slv 0 none 3 []], true⟩)], 1⟩ Ex.ret ⟨⟨8, [(2, AV.s (SV.slv 0 none 3 []))]⟩, [(0, some (Blk.mk [SV.slv 0 none 3 []] true))], 1⟩ :=
  goA_ok mix (tape := [(5, aC (AV.s (SV.slv 0 none 3 [])) 1)]) (dl := [2]) (nl := [0]) (C := [(CD B 28 [AV.s (SV.slv 0 none 3 [])] [] 1 (AV.s (SV.slv 0 none 3 [])) ([] ++ []) 1)]) (by kernel_rfl) ⟨by (apply cp0_k <;> first | omega), trivial⟩
theorem deE_1 {B : Nat} (p : Pd) (below : Int)  : CodeDoes Try.prog B (Try.f23.body.getD .skip) ⟨⟨29, [(0, .s (.ptr 0 0)), (1, .agg (Pd.cv p)), (2, .s (.int .i64 below))]⟩, [(0, some ⟨[.slv 0 none 3 []], true⟩)], 1⟩ Ex.ret ⟨⟨29, [(6, AV.s (SV.int IntKind.i64 0))]⟩, [(0, some (Blk.mk [SV.slv 0 none 3 []] true))], 3⟩ :=
  goA_ok mix (tape := [(15, aC (AV.s (SV.slv 0 none 3 [])) 3)]) (dl := [6]) (nl := [0]) (C := [(CD B 42 [AV.s (SV.slv 0 none 3 []), AV.s (SV.fn 43 ((fun (x : List (Nat × Nat)) => (2, 0) :: x) ((fun (x : List (Nat × Nat)) => (1, 0) :: x) [])))] [] 3 (AV.s (SV.slv 0 none 3 [])) ([] ++ []) 3)]) (by kernel_rfl) ⟨by (apply df0_c <;> first | omega), trivial⟩
end Go.Proofs.Ytaelliigpclipaa.V
namespace Go.Proofs.Ytaelliigpclipaa.V
open Go Go.RowKit Go.Proofs Go.Proofs.Ytaelliigpclipaa.Eng Go.Proofs.Ytaelliigpclipaa.VPl
set_option maxRecDepth 100000
set_option linter.unusedVariables false
set_option linter.unusedSimpArgs false
theorem del_z {B c t q : Nat} {A : List Rw} {below : Int} {len : Nat} (hl : len = A.length) (hA' : A.filter (fun x => !delB every below x) = []) (hr : ∀ x ∈ A, x.cells.length ≤ 140737488351232) (hA : A.length ≤ 100000) (ht : t < c) (hq : q < c) (hne01 : t ≠ q) : CallDoes Try.prog B 23 [.s (.ptr t 0), .agg everyC, .s (.int .i64 below)] [(t, some ⟨[.sl q 0 len none 3], true⟩), (q, some ⟨flat Rw.cv A, true⟩)] c (.s (.int .i64 ((A.length : Int) - ((0 : Nat) : Int)))) ([(t, some ⟨[.slv 0 none 3 []], true⟩), (q, none)] ++ [(t, some ⟨[.sl q 0 len none 3], true⟩), (q, some ⟨flat Rw.cv A, true⟩)]) (c + 0) := by
  subst hl
  have hw0 := deO_1 (B := B) A [] every below (delB every below) hA hA' (by simp) (Pd_plain _) (fun x hx => d1_does x below every every_fits (hr x hx))
  rw [every_cv] at hw0
  have hw := hw0.freeze 1 (cells := []) (l' := [(6, .s (.int .i64 ((A.length : Int) - ((0 : Nat) : Int))))]) (m' := [(0, some ⟨[.slv 0 none 3 []], true⟩), (1, none)]) rfl (fun v hv => by cases hv) (.cons (.same _) .nil) (.cons (by decide) (.cons (.sl rfl) .nil) (.gone .nil))
  exact call_gen (args0 := [.s (.ptr 0 0), .agg everyC, .s (.int .i64 below)]) (m0 := [(0, some ⟨[.sl 1 0 A.length none 3], true⟩), (1, some ⟨flat Rw.cv A, true⟩)]) (D := [(0, some ⟨[.slv 0 none 3 []], true⟩), (1, none)]) (v0 := .s (.int .i64 ((A.length : Int) - ((0 : Nat) : Int)))) (c' := c + 0) Try.func23 (by kernel_rfl) (by kernel_rfl) (k := 29) (by kernel_rfl) (hw) (.inr rfl) (by kernel_rfl) (fun j => if j = 0 then t else if j = 1 then q else q) [0, 1] ⟨by first | (simp; done) | (simp; omega), by first | (simp; done) | (simp; omega), by first | (simp; done) | (simp; omega), by omega⟩
    (hD_of (fun x hx => by simp only [List.mem_cons, List.not_mem_nil, or_false] at hx; rcases hx with rfl | rfl <;> first | exact .inl rfl | exact .inr rfl)) (by simp) (fun x hx => by simp only [List.mem_cons, List.not_mem_nil, or_false] at hx; rcases hx with rfl | rfl <;> first | exact .inl ⟨_, rfl⟩ | exact .inr ⟨of_decide_eq_true rfl, of_decide_eq_true rfl⟩) (by simp) (by simp [avNames, svNames]) (fun x hx => by simp only [List.mem_cons, List.not_mem_nil, or_false] at hx; rcases hx with rfl | rfl <;> exact ⟨⟨by simp, of_decide_eq_true rfl⟩, fun b hb => by (first | (cases hb; done) | (obtain rfl := Option.some.inj hb; first | (simp [blkN, svNames]; done) | (simp only [Rw_blk]; simp; done) | (simp [blkN, svNames, List.flatMap]; done)))⟩) (fun x hx => by simp only [List.mem_cons, List.not_mem_nil, or_false] at hx; rcases hx with rfl | rfl <;> exact fun b hb => by (first | (cases hb; done) | (obtain rfl := Option.some.inj hb; first | (simp [blkN, svNames]; done) | (simp only [Rw_blk]; simp; done) | (simp [blkN, svNames, List.flatMap]; done)))) (by simp [avNames, svNames]) rfl (by (first | rfl | (simp only [rnM, List.map_cons, List.map_nil, Option.map_some, Option.map_none, rnB_nil (Rw_blk _ _)]; first | done | rfl))) (by (first | rfl | (simp only [rnM, List.map_cons, List.map_nil, Option.map_some, Option.map_none, rnB_nil (Rw_blk _ _)]; first | done | rfl))) rfl

theorem del_y {B c t q : Nat} {A A' : List Rw} {below : Int} {len : Nat} (hl : len = A.length) (hA' : A.filter (fun x => !delB every below x) = A') (hr : ∀ x ∈ A, x.cells.length ≤ 140737488351232) (hA : A.length ≤ 100000) (ht : t < c) (hq : q < c) (hne01 : t ≠ q) : CallDoes Try.prog B 23 [.s (.ptr t 0), .agg [.int .i64 1, .str ⟨#[]⟩, .int .i64 0, .int .i64 0, .str ⟨#[]⟩, .slv 0 none 1 [], .slv 0 none 7 []], .s (.int .i64 below)] [(t, some ⟨[.sl q 0 len none 3], true⟩), (q, some ⟨flat Rw.cv A, true⟩)] c (.s (.int .i64 ((A.length : Int) - (A'.length : Int)))) ([(t, some ⟨[.sl q 0 A'.length none 3], true⟩), (q, some ⟨flat Rw.cv A', true⟩)] ++ [(t, some ⟨[.sl q 0 len none 3], true⟩), (q, some ⟨flat Rw.cv A, true⟩)]) c := by
  have h := del_c (B := B) (c := c) (p := every) (below := below) (f := delB every below) hl hA' (fun x hx => d1_does x below every every_fits (hr x hx)) hA ht hq hne01
  rw [every_cv] at h
  exact h
theorem trE_c {B c t : Nat}   (ht : t < c)  : CallDoes Try.prog B 18 [.s (.ptr t 0)] [(t, some ⟨[.slv 0 none 3 []], true⟩)] c (.s (.slv 0 none 3 [])) ([(t, some ⟨[.slv 0 none 3 []], true⟩)] ++ [(t, some ⟨[.slv 0 none 3 []], true⟩)]) (c + 0) := by
  exact call_gen (args0 := [.s (.ptr 0 0)]) (m0 := [(0, some ⟨[.slv 0 none 3 []], true⟩)]) (D := [(0, some ⟨[.slv 0 none 3 []], true⟩)]) (v0 := .s (.slv 0 none 3 [])) (c' := c + 0) Try.func18 (by kernel_rfl) (by kernel_rfl) (k := 8) (by kernel_rfl) (trE_1) (.inr rfl) (by kernel_rfl) (fun j => if j = 0 then t else t) [0] ⟨by first | (simp; done) | (simp; omega), by first | (simp; done) | (simp; omega), by first | (simp; done) | (simp; omega), by omega⟩
    (hD_of (fun x hx => by simp only [List.mem_cons, List.not_mem_nil, or_false] at hx; rcases hx with rfl <;> first | exact .inl rfl | exact .inr rfl)) (by simp) (fun x hx => by simp only [List.mem_cons, List.not_mem_nil, or_false] at hx; rcases hx with rfl <;> first | exact .inl ⟨_, rfl⟩ | exact .inr ⟨of_decide_eq_true rfl, of_decide_eq_true rfl⟩) (by simp) (by simp [avNames, svNames]) (fun x hx => by simp only [List.mem_cons, List.not_mem_nil, or_false] at hx; rcases hx with rfl <;> exact ⟨⟨by simp, of_decide_eq_true rfl⟩, fun b hb => by (first | (cases hb; done) | (obtain rfl := Option.some.inj hb; first | (simp [blkN, svNames]; done) | (simp only [Rw_blk]; simp; done) | (simp [blkN, svNames, List.flatMap]; done)))⟩) (fun x hx => by simp only [List.mem_cons, List.not_mem_nil, or_false] at hx; rcases hx with rfl <;> exact fun b hb => by (first | (cases hb; done) | (obtain rfl := Option.some.inj hb; first | (simp [blkN, svNames]; done) | (simp only [Rw_blk]; simp; done) | (simp [blkN, svNames, List.flatMap]; done)))) (by simp [avNames, svNames]) rfl (by (first | rfl | (simp only [rnM, List.map_cons, List.map_nil, Option.map_some, Option.map_none, rnB_nil (Rw_blk _ _)]; first | done | rfl))) (by (first | rfl | (simp only [rnM, List.map_cons, List.map_nil, Option.map_some, Option.map_none, rnB_nil (Rw_blk _ _)]; first | done | rfl))) rfl
theorem deE_c {B c t : Nat} {below : Int}  (ht : t < c)  : CallDoes Try.prog B 23 [.s (.ptr t 0), .agg everyC, .s (.int .i64 below)] [(t, some ⟨[.slv 0 none 3 []], true⟩)] c (.s (.int .i64 0)) ([(t, some ⟨[.slv 0 none 3 []], true⟩)] ++ [(t, some ⟨[.slv 0 none 3 []], true⟩)]) (c + 0) := by
  have hw := deE_1 (B := B) every below
  rw [every_cv] at hw
  exact call_gen (args0 := [.s (.ptr 0 0), .agg everyC, .s (.int .i64 below)]) (m0 := [(0, some ⟨[.slv 0 none 3 []], true⟩)]) (D := [(0, some ⟨[.slv 0 none 3 []], true⟩)]) (v0 := .s (.int .i64 0)) (c' := c + 0) Try.func23 (by kernel_rfl) (by kernel_rfl) (k := 29) (by kernel_rfl) (hw) (.inr rfl) (by kernel_rfl) (fun j => if j = 0 then t else t) [0] ⟨by first | (simp; done) | (simp; omega), by first | (simp; done) | (simp; omega), by first | (simp; done) | (simp; omega), by omega⟩
    (hD_of (fun x hx => by simp only [List.mem_cons, List.not_mem_nil, or_false] at hx; rcases hx with rfl <;> first | exact .inl rfl | exact .inr rfl)) (by simp) (fun x hx => by simp only [List.mem_cons, List.not_mem_nil, or_false] at hx; rcases hx with rfl <;> first | exact .inl ⟨_, rfl⟩ | exact .inr ⟨of_decide_eq_true rfl, of_decide_eq_true rfl⟩) (by simp) (by simp [avNames, svNames]) (fun x hx => by simp only [List.mem_cons, List.not_mem_nil, or_false] at hx; rcases hx with rfl <;> exact ⟨⟨by simp, of_decide_eq_true rfl⟩, fun b hb => by (first | (cases hb; done) | (obtain rfl := Option.some.inj hb; first | (simp [blkN, svNames]; done) | (simp only [Rw_blk]; simp; done) | (simp [blkN, svNames, List.flatMap]; done)))⟩) (fun x hx => by simp only [List.mem_cons, List.not_mem_nil, or_false] at hx; rcases hx with rfl <;> exact fun b hb => by (first | (cases hb; done) | (obtain rfl := Option.some.inj hb; first | (simp [blkN, svNames]; done) | (simp only [Rw_blk]; simp; done) | (simp [blkN, svNames, List.flatMap]; done)))) (by simp [avNames, svNames]) rfl (by (first | rfl | (simp only [rnM, List.map_cons, List.map_nil, Option.map_some, Option.map_none, rnB_nil (Rw_blk _ _)]; first | done | rfl))) (by (first | rfl | (simp only [rnM, List.map_cons, List.map_nil, Option.map_some, Option.map_none, rnB_nil (Rw_blk _ _)]; first | done | rfl))) rfl
attribute [local irreducible] Eng.evAppend Eng.evSlice Eng.less CallDoes Eng.loadG Eng.evIndexAddr Eng.evBin
attribute [local irreducible] ValDoes
theorem raO_1 {B : Nat} (L A M M2 : List Rw) (r : Rw) (below : Int) (i : Nat) (ht : ValDoes Try.prog 16 [.agg [.int .i64 (L.getD i Rw0).time, .int .i64 (L.getD i Rw0).seq, .slv (L.getD i Rw0).cells.length none 4 (flat Cl.cv (L.getD i Rw0).cells)], .s (.int .i64 (i : Int))] (.agg [.int .i64 r.time, .int .i64 r.seq, .slv r.cells.length none 4 (flat Cl.cv r.cells)])) (hat : ValDoes Try.prog 8 [.s (.int .i64 500), .s (.int .i64 900), .s .sl0] (.agg [.int .i64 500, .int .i64 900, .slv 0 none 4 []])) (hM : isort0 (A ++ [⟨r.time, r.seq, r.cells⟩]) = M) (hr1 : Room2 (A ++ [⟨r.time, r.seq, r.cells⟩])) (hc1 : ValDoes Try.prog 36 [.s (.slv 1 none 3 (flat Rw.cv [⟨r.time, r.seq, r.cells⟩])), .s (.fn 37 [])] (.s (.bool false))) (hri1 : risesB M = true) (hml1 : (A).length + 1 = M.length) (hM2 : isort0 (M ++ [⟨500, 900, []⟩, ⟨r.time, r.seq, []⟩]) = M2) (hr2 : Room2 (M ++ [⟨500, 900, []⟩, ⟨r.time, r.seq, []⟩])) (hc2 : ValDoes Try.prog 36 [.s (.slv 2 none 3 (flat Rw.cv [⟨500, 900, []⟩, ⟨r.time, r.seq, []⟩])), .s (.fn 37 [])] (.s (.bool false))) (hri2 : risesB M2 = false) (hml2 : M.length + 2 = M2.length) (hrM : Room2 M) (hrM2 : ∀ x ∈ M, x.cells.length ≤ 140737488351232) (hAl : (A).length = i) (hi : i < min L.length 15) (h0 : 0 < i)  : CodeDoes Try.prog B (Lf (Lf (Rt (Lf (Rt (Rt (Rt (Rt (Try.f5.body.getD .skip))))))))) ⟨⟨98, [(0, .s (.slv L.length none 3 (flat Rw.cv L))), (1, .s (.int .i64 below)), (5, .s (.ptr 0 0)), (6, .s (.int .i64 (i : Int))), (7, .s (.int .i64 (i : Int)))]⟩, [(0, some ⟨[.sl 1 0 (A).length none 3], true⟩), (1, some ⟨flat Rw.cv (A), true⟩)], 2⟩ Ex.normal ⟨⟨98, [(0, AV.s (SV.slv (List.length L) none 3 (flat Rw.cv L))), (1, AV.s (SV.int IntKind.i64 below)), (5, AV.s (SV.ptr 0 0)), (6, AV.s (SV.int IntKind.i64 ((↑i : Int) + 1))), (7, AV.s (SV.int IntKind.i64 ((↑i : Int) + 1)))]⟩, [(0, some (Blk.mk [SV.sl 4 0 (List.length M) none 3] true)), (4, some (Blk.mk (flat Rw.cv M) true))], 9⟩ :=
  goA_ok mix (tape := [(3, aT), (6, aT), (10, Ans.val (AV.s (SV.ptv (Rw.cv (List.getD L i Rw0))))), (13, aC (AV.agg [sI (Rw.time r), sI (Rw.seq r), SV.slv (List.length (Rw.cells r)) none 4 (flat Cl.cv (Rw.cells r))]) 2), (19, Ans.call [3, 0, 1] (AV.s (sI 0)) [(0, some (Blk.mk [SV.sl 4 0 (List.length M) none 3] true)), (4, some (Blk.mk (flat Rw.cv M) true)), (1, none), (3, none)] 5), (22, Ans.val (AV.s (sI ((↑i : Int) + 1)))), (25, Ans.call [0, 4] (AV.s (SV.sl 5 0 (List.length M) none 3)) [(5, some (Blk.mk (flat Rw.cv M) true)), (0, some (Blk.mk [SV.sl 4 0 (List.length M) none 3] true)), (4, some (Blk.mk (flat Rw.cv M) true))] 6), (33, aC (AV.agg [sI 500, sI 900, SV.slv 0 none 4 []]) 7), (36, Ans.call [7, 0, 4] (AV.s (sI 21)) [(0, some (Blk.mk [SV.sl 4 0 (List.length M) none 3] true)), (4, some (Blk.mk (flat Rw.cv M) true)), (7, none)] 8), (40, Ans.call [0, 4] (AV.s (SV.sl 8 0 (List.length M) none 3)) [(8, some (Blk.mk (flat Rw.cv M) true)), (0, some (Blk.mk [SV.sl 4 0 (List.length M) none 3] true)), (4, some (Blk.mk (flat Rw.cv M) true))] 9), (42, Ans.call [8, 5] (AV.s (SV.bool true)) [] 9), (46, Ans.val (AV.s (sI ((↑i : Int) + 1))))]) (dl := [0, 1, 5, 6, 7]) (nl := [0, 4]) (C := [(some (AV.s (sI (wI ((↑i : Int) + 1)))) = some (AV.s (sI ((↑i : Int) + 1)))), (CD B 13 [AV.s (SV.sl 8 0 (List.length M) none 3), AV.s (SV.sl 5 0 (List.length M) none 3)] [(8, some (Blk.mk (flat Rw.cv M) true)), (5, some (Blk.mk (flat Rw.cv M) true))] 9 (AV.s (SV.bool true)) ([] ++ [(8, some (Blk.mk (flat Rw.cv M) true)), (5, some (Blk.mk (flat Rw.cv M) true))]) 9), (CD B 18 [AV.s (SV.ptr 0 0)] [(0, some (Blk.mk [SV.sl 4 0 (List.length M) none 3] true)), (4, some (Blk.mk (flat Rw.cv M) true))] 8 (AV.s (SV.sl 8 0 (List.length M) none 3)) ([(8, some (Blk.mk (flat Rw.cv M) true)), (0, some (Blk.mk [SV.sl 4 0 (List.length M) none 3] true)), (4, some (Blk.mk (flat Rw.cv M) true))] ++ [(0, some (Blk.mk [SV.sl 4 0 (List.length M) none 3] true)), (4, some (Blk.mk (flat Rw.cv M) true))]) 9), (CD B 17 [AV.s (SV.ptr 0 0), AV.s (SV.sl 7 0 2 none 3)] [(7, some (Blk.mk [sI 500, sI 900, SV.slv 0 none 4 [], sI (Rw.time r), sI (Rw.seq r), SV.sl0] true)), (0, some (Blk.mk [SV.sl 4 0 (List.length M) none 3] true)), (4, some (Blk.mk (flat Rw.cv M) true))] 8 (AV.s (sI 21)) ([(0, some (Blk.mk [SV.sl 4 0 (List.length M) none 3] true)), (4, some (Blk.mk (flat Rw.cv M) true)), (7, none)] ++ [(7, some (Blk.mk [sI 500, sI 900, SV.slv 0 none 4 [], sI (Rw.time r), sI (Rw.seq r), SV.sl0] true)), (0, some (Blk.mk [SV.sl 4 0 (List.length M) none 3] true)), (4, some (Blk.mk (flat Rw.cv M) true))]) 8), (CD B 8 [AV.s (sI 500), AV.s (sI 900), AV.s SV.sl0] [] 7 (AV.agg [sI 500, sI 900, SV.slv 0 none 4 []]) ([] ++ []) 7), (CD B 18 [AV.s (SV.ptr 0 0)] [(0, some (Blk.mk [SV.sl 4 0 (List.length M) none 3] true)), (4, some (Blk.mk (flat Rw.cv M) true))] 5 (AV.s (SV.sl 5 0 (List.length M) none 3)) ([(5, some (Blk.mk (flat Rw.cv M) true)), (0, some (Blk.mk [SV.sl 4 0 (List.length M) none 3] true)), (4, some (Blk.mk (flat Rw.cv M) true))] ++ [(0, some (Blk.mk [SV.sl 4 0 (List.length M) none 3] true)), (4, some (Blk.mk (flat Rw.cv M) true))]) 6), (some (AV.s (sI (wI ((↑i : Int) + 1)))) = some (AV.s (sI ((↑i : Int) + 1)))), (CD B 17 [AV.s (SV.ptr 0 0), AV.s (SV.sl 3 0 1 none 3)] [(3, some (Blk.mk [sI (Rw.time r), sI (Rw.seq r), SV.slv (List.length (Rw.cells r)) none 4 (flat Cl.cv (Rw.cells r))] true)), (0, some (Blk.mk [SV.sl 1 0 (List.length A) none 3] true)), (1, some (Blk.mk (flat Rw.cv A) true))] 4 (AV.s (sI 0)) ([(0, some (Blk.mk [SV.sl 4 0 (List.length M) none 3] true)), (4, some (Blk.mk (flat Rw.cv M) true)), (1, none), (3, none)] ++ [(3, some (Blk.mk [sI (Rw.time r), sI (Rw.seq r), SV.slv (List.length (Rw.cells r)) none 4 (flat Cl.cv (Rw.cells r))] true)), (0, some (Blk.mk [SV.sl 1 0 (List.length A) none 3] true)), (1, some (Blk.mk (flat Rw.cv A) true))]) 5), (CD B 16 [AV.agg [sI (Rw.time (List.getD L i Rw0)), sI (Rw.seq (List.getD L i Rw0)), SV.slv (List.length (Rw.cells (List.getD L i Rw0))) none 4 (flat Cl.cv (Rw.cells (List.getD L i Rw0)))], AV.s (sI (↑i : Int))] [] 2 (AV.agg [sI (Rw.time r), sI (Rw.seq r), SV.slv (List.length (Rw.cells r)) none 4 (flat Cl.cv (Rw.cells r))]) ([] ++ []) 2), ((evIndexAddr Try.prog 22 (AV.s (SV.slv (List.length L) none 3 (flat Rw.cv L))) (AV.s (sI (↑i : Int)))) = some (AV.s (SV.ptv (Rw.cv (List.getD L i Rw0))))), (IsT (decide ((↑i : Int) < 15))), (IsT (decide ((↑i : Int) < (↑(List.length L) : Int))))]) (by kernel_rfl) ⟨claim_i (by exact wrap_i64 (by omega) (by omega)), by (apply rows_pk <;> first | exact hrM2 | rfl | omega), by (apply tr_c <;> first | exact hrM | rfl | omega), by (apply add2_O <;> first | exact hM2 | exact hr2 | exact hc2 | exact hri2 | exact hml2 | rfl | omega), by (apply v3_c <;> first | exact hat), by (apply tr_c <;> first | exact hrM | rfl | omega), claim_i (by exact wrap_i64 (by omega) (by omega)), by (apply add1_O <;> first | exact hM | exact hr1 | exact hc1 | exact hri1 | exact hml1 | rfl | omega), by (apply v2_c <;> first | exact ht), by (apply ixRw <;> first | rfl | omega), cT (by first | assumption | omega), cT (by first | assumption | omega), trivial⟩
theorem raE_1 {B : Nat} (L A M M2 : List Rw) (r : Rw) (below : Int) (i : Nat) (ht : ValDoes Try.prog 16 [.agg [.int .i64 (L.getD i Rw0).time, .int .i64 (L.getD i Rw0).seq, .slv (L.getD i Rw0).cells.length none 4 (flat Cl.cv (L.getD i Rw0).cells)], .s (.int .i64 (i : Int))] (.agg [.int .i64 r.time, .int .i64 r.seq, .slv r.cells.length none 4 (flat Cl.cv r.cells)])) (hat : ValDoes Try.prog 8 [.s (.int .i64 500), .s (.int .i64 900), .s .sl0] (.agg [.int .i64 500, .int .i64 900, .slv 0 none 4 []])) (hM : isort0 (([] : List Rw) ++ [⟨r.time, r.seq, r.cells⟩]) = M) (hr1 : Room2 (([] : List Rw) ++ [⟨r.time, r.seq, r.cells⟩])) (hc1 : ValDoes Try.prog 36 [.s (.slv 1 none 3 (flat Rw.cv [⟨r.time, r.seq, r.cells⟩])), .s (.fn 37 [])] (.s (.bool false))) (hri1 : risesB M = true) (hml1 : (([] : List Rw)).length + 1 = M.length) (hM2 : isort0 (M ++ [⟨500, 900, []⟩, ⟨r.time, r.seq, []⟩]) = M2) (hr2 : Room2 (M ++ [⟨500, 900, []⟩, ⟨r.time, r.seq, []⟩])) (hc2 : ValDoes Try.prog 36 [.s (.slv 2 none 3 (flat Rw.cv [⟨500, 900, []⟩, ⟨r.time, r.seq, []⟩])), .s (.fn 37 [])] (.s (.bool false))) (hri2 : risesB M2 = false) (hml2 : M.length + 2 = M2.length) (hrM : Room2 M) (hrM2 : ∀ x ∈ M, x.cells.length ≤ 140737488351232) (hAl : (([] : List Rw)).length = i) (hi : i < min L.length 15) (h0 : i = 0)  : CodeDoes Try.prog B (Lf (Lf (Rt (Lf (Rt (Rt (Rt (Rt (Try.f5.body.getD .skip))))))))) ⟨⟨98, [(0, .s (.slv L.length none 3 (flat Rw.cv L))), (1, .s (.int .i64 below)), (5, .s (.ptr 0 0)), (6, .s (.int .i64 (i : Int))), (7, .s (.int .i64 (i : Int)))]⟩, [(0, some ⟨[.slv 0 none 3 []], true⟩)], 1⟩ Ex.normal ⟨⟨98, [(0, AV.s (SV.slv (List.length L) none 3 (flat Rw.cv L))), (1, AV.s (SV.int IntKind.i64 below)), (5, AV.s (SV.ptr 0 0)), (6, AV.s (SV.int IntKind.i64 ((↑i : Int) + 1))), (7, AV.s (SV.int IntKind.i64 ((↑i : Int) + 1)))]⟩, [(0, some (Blk.mk [SV.sl 3 0 (List.length M) none 3] true)), (3, some (Blk.mk (flat Rw.cv M) true))], 8⟩ :=
  goA_ok mix (tape := [(3, aT), (6, aT), (10, Ans.val (AV.s (SV.ptv (Rw.cv (List.getD L i Rw0))))), (13, aC (AV.agg [sI (Rw.time r), sI (Rw.seq r), SV.slv (List.length (Rw.cells r)) none 4 (flat Cl.cv (Rw.cells r))]) 1), (19, Ans.call [2, 0] (AV.s (sI 0)) [(0, some (Blk.mk [SV.sl 3 0 (List.length M) none 3] true)), (3, some (Blk.mk (flat Rw.cv M) true)), (2, none)] 4), (22, Ans.val (AV.s (sI ((↑i : Int) + 1)))), (25, Ans.call [0, 3] (AV.s (SV.sl 4 0 (List.length M) none 3)) [(4, some (Blk.mk (flat Rw.cv M) true)), (0, some (Blk.mk [SV.sl 3 0 (List.length M) none 3] true)), (3, some (Blk.mk (flat Rw.cv M) true))] 5), (33, aC (AV.agg [sI 500, sI 900, SV.slv 0 none 4 []]) 6), (36, Ans.call [6, 0, 3] (AV.s (sI 21)) [(0, some (Blk.mk [SV.sl 3 0 (List.length M) none 3] true)), (3, some (Blk.mk (flat Rw.cv M) true)), (6, none)] 7), (40, Ans.call [0, 3] (AV.s (SV.sl 7 0 (List.length M) none 3)) [(7, some (Blk.mk (flat Rw.cv M) true)), (0, some (Blk.mk [SV.sl 3 0 (List.length M) none 3] true)), (3, some (Blk.mk (flat Rw.cv M) true))] 8), (42, Ans.call [7, 4] (AV.s (SV.bool true)) [] 8), (46, Ans.val (AV.s (sI ((↑i : Int) + 1))))]) (dl := [0, 1, 5, 6, 7]) (nl := [0, 3]) (C := [(some (AV.s (sI (wI ((↑i : Int) + 1)))) = some (AV.s (sI ((↑i : Int) + 1)))), (CD B 13 [AV.s (SV.sl 7 0 (List.length M) none 3), AV.s (SV.sl 4 0 (List.length M) none 3)] [(7, some (Blk.mk (flat Rw.cv M) true)), (4, some (Blk.mk (flat Rw.cv M) true))] 8 (AV.s (SV.bool true)) ([] ++ [(7, some (Blk.mk (flat Rw.cv M) true)), (4, some (Blk.mk (flat Rw.cv M) true))]) 8), (CD B 18 [AV.s (SV.ptr 0 0)] [(0, some (Blk.mk [SV.sl 3 0 (List.length M) none 3] true)), (3, some (Blk.mk (flat Rw.cv M) true))] 7 (AV.s (SV.sl 7 0 (List.length M) none 3)) ([(7, some (Blk.mk (flat Rw.cv M) true)), (0, some (Blk.mk [SV.sl 3 0 (List.length M) none 3] true)), (3, some (Blk.mk (flat Rw.cv M) true))] ++ [(0, some (Blk.mk [SV.sl 3 0 (List.length M) none 3] true)), (3, some (Blk.mk (flat Rw.cv M) true))]) 8), (CD B 17 [AV.s (SV.ptr 0 0), AV.s (SV.sl 6 0 2 none 3)] [(6, some (Blk.mk [sI 500, sI 900, SV.slv 0 none 4 [], sI (Rw.time r), sI (Rw.seq r), SV.sl0] true)), (0, some (Blk.mk [SV.sl 3 0 (List.length M) none 3] true)), (3, some (Blk.mk (flat Rw.cv M) true))] 7 (AV.s (sI 21)) ([(0, some (Blk.mk [SV.sl 3 0 (List.length M) none 3] true)), (3, some (Blk.mk (flat Rw.cv M) true)), (6, none)] ++ [(6, some (Blk.mk [sI 500, sI 900, SV.slv 0 none 4 [], sI (Rw.time r), sI (Rw.seq r), SV.sl0] true)), (0, some (Blk.mk [SV.sl 3 0 (List.length M) none 3] true)), (3, some (Blk.mk (flat Rw.cv M) true))]) 7), (CD B 8 [AV.s (sI 500), AV.s (sI 900), AV.s SV.sl0] [] 6 (AV.agg [sI 500, sI 900, SV.slv 0 none 4 []]) ([] ++ []) 6), (CD B 18 [AV.s (SV.ptr 0 0)] [(0, some (Blk.mk [SV.sl 3 0 (List.length M) none 3] true)), (3, some (Blk.mk (flat Rw.cv M) true))] 4 (AV.s (SV.sl 4 0 (List.length M) none 3)) ([(4, some (Blk.mk (flat Rw.cv M) true)), (0, some (Blk.mk [SV.sl 3 0 (List.length M) none 3] true)), (3, some (Blk.mk (flat Rw.cv M) true))] ++ [(0, some (Blk.mk [SV.sl 3 0 (List.length M) none 3] true)), (3, some (Blk.mk (flat Rw.cv M) true))]) 5), (some (AV.s (sI (wI ((↑i : Int) + 1)))) = some (AV.s (sI ((↑i : Int) + 1)))), (CD B 17 [AV.s (SV.ptr 0 0), AV.s (SV.sl 2 0 1 none 3)] [(2, some (Blk.mk [sI (Rw.time r), sI (Rw.seq r), SV.slv (List.length (Rw.cells r)) none 4 (flat Cl.cv (Rw.cells r))] true)), (0, some (Blk.mk [SV.slv 0 none 3 []] true))] 3 (AV.s (sI 0)) ([(0, some (Blk.mk [SV.sl 3 0 (List.length M) none 3] true)), (3, some (Blk.mk (flat Rw.cv M) true)), (2, none)] ++ [(2, some (Blk.mk [sI (Rw.time r), sI (Rw.seq r), SV.slv (List.length (Rw.cells r)) none 4 (flat Cl.cv (Rw.cells r))] true)), (0, some (Blk.mk [SV.slv 0 none 3 []] true))]) 4), (CD B 16 [AV.agg [sI (Rw.time (List.getD L i Rw0)), sI (Rw.seq (List.getD L i Rw0)), SV.slv (List.length (Rw.cells (List.getD L i Rw0))) none 4 (flat Cl.cv (Rw.cells (List.getD L i Rw0)))], AV.s (sI (↑i : Int))] [] 1 (AV.agg [sI (Rw.time r), sI (Rw.seq r), SV.slv (List.length (Rw.cells r)) none 4 (flat Cl.cv (Rw.cells r))]) ([] ++ []) 1), ((evIndexAddr Try.prog 22 (AV.s (SV.slv (List.length L) none 3 (flat Rw.cv L))) (AV.s (sI (↑i : Int)))) = some (AV.s (SV.ptv (Rw.cv (List.getD L i Rw0))))), (IsT (decide ((↑i : Int) < 15))), (IsT (decide ((↑i : Int) < (↑(List.length L) : Int))))]) (by kernel_rfl) ⟨claim_i (by exact wrap_i64 (by omega) (by omega)), by (apply rows_pk <;> first | exact hrM2 | rfl | omega), by (apply tr_c <;> first | exact hrM | rfl | omega), by (apply add2_O <;> first | exact hM2 | exact hr2 | exact hc2 | exact hri2 | exact hml2 | rfl | omega), by (apply v3_c <;> first | exact hat), by (apply tr_c <;> first | exact hrM | rfl | omega), claim_i (by exact wrap_i64 (by omega) (by omega)), by (apply add1_E <;> first | exact hM | exact hr1 | exact hc1 | exact hri1 | exact hml1 | rfl | omega), by (apply v2_c <;> first | exact ht), by (apply ixRw <;> first | rfl | omega), cT (by first | assumption | omega), cT (by first | assumption | omega), trivial⟩
theorem raOe_1 {B : Nat} (L A : List Rw) (below : Int) (i : Nat) (hi : i = min L.length 15) (h_1 : (↑i : Int) < (↑(List.length L) : Int)) : CodeDoes Try.prog B (Lf (Lf (Rt (Lf (Rt (Rt (Rt (Rt (Try.f5.body.getD .skip))))))))) ⟨⟨98, [(0, .s (.slv L.length none 3 (flat Rw.cv L))), (1, .s (.int .i64 below)), (5, .s (.ptr 0 0)), (6, .s (.int .i64 (i : Int))), (7, .s (.int .i64 (i : Int)))]⟩, [(0, some ⟨[.sl 1 0 (A).length none 3], true⟩), (1, some ⟨flat Rw.cv (A), true⟩)], 2⟩ (Ex.exit 0) ⟨⟨98, [(1, AV.s (SV.int IntKind.i64 below)), (5, AV.s (SV.ptr 0 0)), (6, AV.s (SV.int IntKind.i64 (↑i : Int)))]⟩, [(0, some (Blk.mk [SV.sl 1 0 (List.length A) none 3] true)), (1, some (Blk.mk (flat Rw.cv A) true))], 2⟩ :=
  goA_ok mix (tape := [(3, aT), (6, aF)]) (dl := [1, 5, 6]) (nl := [0, 1]) (C := [(IsF (decide ((↑i : Int) < 15))), (IsT (decide ((↑i : Int) < (↑(List.length L) : Int))))]) (by kernel_rfl) ⟨cF (by first | assumption | omega), cT (by first | assumption | omega), trivial⟩
theorem raOe_2 {B : Nat} (L A : List Rw) (below : Int) (i : Nat) (hi : i = min L.length 15) (h_1 : ¬ ((↑i : Int) < (↑(List.length L) : Int))) : CodeDoes Try.prog B (Lf (Lf (Rt (Lf (Rt (Rt (Rt (Rt (Try.f5.body.getD .skip))))))))) ⟨⟨98, [(0, .s (.slv L.length none 3 (flat Rw.cv L))), (1, .s (.int .i64 below)), (5, .s (.ptr 0 0)), (6, .s (.int .i64 (i : Int))), (7, .s (.int .i64 (i : Int)))]⟩, [(0, some ⟨[.sl 1 0 (A).length none 3], true⟩), (1, some ⟨flat Rw.cv (A), true⟩)], 2⟩ (Ex.exit 0) ⟨⟨98, [(1, AV.s (SV.int IntKind.i64 below)), (5, AV.s (SV.ptr 0 0)), (6, AV.s (SV.int IntKind.i64 (↑i : Int)))]⟩, [(0, some (Blk.mk [SV.sl 1 0 (List.length A) none 3] true)), (1, some (Blk.mk (flat Rw.cv A) true))], 2⟩ :=
  goA_ok mix (tape := [(3, aF)]) (dl := [1, 5, 6]) (nl := [0, 1]) (C := [(IsF (decide ((↑i : Int) < (↑(List.length L) : Int))))]) (by kernel_rfl) ⟨cF (by first | assumption | omega), trivial⟩
theorem raEe_1 {B : Nat} (L : List Rw) (below : Int) (i : Nat) (hi : i = min L.length 15) (h_1 : (↑i : Int) < (↑(List.length L) : Int)) : CodeDoes Try.prog B (Lf (Lf (Rt (Lf (Rt (Rt (Rt (Rt (Try.f5.body.getD .skip))))))))) ⟨⟨98, [(0, .s (.slv L.length none 3 (flat Rw.cv L))), (1, .s (.int .i64 below)), (5, .s (.ptr 0 0)), (6, .s (.int .i64 (i : Int))), (7, .s (.int .i64 (i : Int)))]⟩, [(0, some ⟨[.slv 0 none 3 []], true⟩)], 1⟩ (Ex.exit 0) ⟨⟨98, [(1, AV.s (SV.int IntKind.i64 below)), (5, AV.s (SV.ptr 0 0)), (6, AV.s (SV.int IntKind.i64 (↑i : Int)))]⟩, [(0, some (Blk.mk [SV.slv 0 none 3 []] true))], 1⟩ :=
  goA_ok mix (tape := [(3, aT), (6, aF)]) (dl := [1, 5, 6]) (nl := [0]) (C := [(IsF (decide ((↑i : Int) < 15))), (IsT (decide ((↑i : Int) < (↑(List.length L) : Int))))]) (by kernel_rfl) ⟨cF (by first | assumption | omega), cT (by first | assumption | omega), trivial⟩
theorem raEe_2 {B : Nat} (L : List Rw) (below : Int) (i : Nat) (hi : i = min L.length 15) (h_1 : ¬ ((↑i : Int) < (↑(List.length L) : Int))) : CodeDoes Try.prog B (Lf (Lf (Rt (Lf (Rt (Rt (Rt (Rt (Try.f5.body.getD .skip))))))))) ⟨⟨98, [(0, .s (.slv L.length none 3 (flat Rw.cv L))), (1, .s (.int .i64 below)), (5, .s (.ptr 0 0)), (6, .s (.int .i64 (i : Int))), (7, .s (.int .i64 (i : Int)))]⟩, [(0, some ⟨[.slv 0 none 3 []], true⟩)], 1⟩ (Ex.exit 0) ⟨⟨98, [(1, AV.s (SV.int IntKind.i64 below)), (5, AV.s (SV.ptr 0 0)), (6, AV.s (SV.int IntKind.i64 (↑i : Int)))]⟩, [(0, some (Blk.mk [SV.slv 0 none 3 []] true))], 1⟩ :=
  goA_ok mix (tape := [(3, aF)]) (dl := [1, 5, 6]) (nl := [0]) (C := [(IsF (decide ((↑i : Int) < (↑(List.length L) : Int))))]) (by kernel_rfl) ⟨cF (by first | assumption | omega), trivial⟩
end Go.Proofs.Ytaelliigpclipaa.V
namespace Go.Proofs.Ytaelliigpclipaa.V
open Go Go.RowKit Go.Proofs Go.Proofs.Ytaelliigpclipaa.Eng Go.Proofs.Ytaelliigpclipaa.VPl
set_option linter.unusedVariables false
set_option linter.unusedSimpArgs false

theorem ins_perm (A : List Rw) (x : Rw) : (insRv A x).Perm (x :: A) := by
  induction A with
  | nil => exact .refl _
  | cons y r ih =>
    unfold insRv
    split
    · exact (ih.cons y).trans (.swap x y r)
    · exact .refl _
theorem insAt_at (A : List Rw) (x : Rw) (T : List Rw) : insAt (A.reverse ++ x :: T) A.length = (insRv A x).reverse ++ T := by
  unfold insAt
  have h1 : (A.reverse ++ x :: T).take A.length = A.reverse := List.take_left' (by simp)
  have h2 : (A.reverse ++ x :: T).drop (A.length + 1) = T := by
    have := List.drop_append (l₁ := A.reverse) (l₂ := x :: T) (i := A.length + 1)
    rw [this]
    simp
  have h3 : (A.reverse ++ x :: T).getD A.length Rw0 = x := by simp
  rw [h1, h2, h3, List.reverse_reverse]
theorem foldl_insLen (T A : List Rw) : (T.foldl insRv A).length = A.length + T.length := by
  induction T generalizing A with
  | nil => simp
  | cons x T ih => rw [List.foldl_cons, ih, insRv_len, List.length_cons]; omega
/-- The sort is insertion, one after the other. -/
theorem isort0_eq (M : List Rw) (h0 : 0 < M.length) : isort0 M = (M.foldl insRv []).reverse := by
  have key : ∀ k, k ≤ M.length - 1 → (List.range k).foldl (fun M k => insAt M (k + 1)) M = ((M.take (k + 1)).foldl insRv []).reverse ++ M.drop (k + 1) := by
    intro k
    induction k with
    | zero =>
      intro _
      obtain ⟨x, T, rfl⟩ : ∃ x T, M = x :: T := by cases M with
        | nil => simp at h0
        | cons x T => exact ⟨x, T, rfl⟩
      simp [insRv]
    | succ k ih =>
      intro hk
      rw [List.range_succ, List.foldl_append, ih (by omega)]
      simp only [List.foldl_cons, List.foldl_nil]
      have hlt : k + 1 < M.length := by omega
      have e1 : M.drop (k + 1) = M[k + 1] :: M.drop (k + 1 + 1) := List.drop_eq_getElem_cons hlt
      have e2 : M.take (k + 1 + 1) = M.take (k + 1) ++ [M[k + 1]] := List.take_succ_eq_append_getElem hlt
      have e3 : ((M.take (k + 1)).foldl insRv []).length = k + 1 := by rw [foldl_insLen]; simp; omega
      rw [e1, e2, List.foldl_append]
      have := insAt_at ((M.take (k + 1)).foldl insRv []) M[k + 1] (M.drop (k + 1 + 1))
      rw [e3] at this
      rw [this]
      rfl
  unfold isort0
  rw [key _ (Nat.le_refl _), show M.length - 1 + 1 = M.length by omega, List.take_length, List.drop_length, List.append_nil]
theorem fold_perm (T A : List Rw) : (T.foldl insRv A).Perm (A ++ T) := by
  induction T generalizing A with
  | nil => simp
  | cons x T ih =>
    rw [List.foldl_cons]
    refine (ih _).trans ?_
    have h1 : (insRv A x ++ T).Perm ((x :: A) ++ T) := (ins_perm A x).append_right T
    refine h1.trans ?_
    simp only [List.cons_append]
    exact List.perm_middle.symm
theorem isort0_perm (M : List Rw) (h0 : 0 < M.length) : (isort0 M).Perm M := by
  rw [isort0_eq M h0]
  have := fold_perm M []
  exact (List.reverse_perm _).trans (by simpa using this)

/-- The key of a row. -/
abbrev keyR (x : Rw) : Int × Int := (x.time, x.seq)
theorem cmp_lt {x y : Rw} : cmpRw x.time x.seq y.time y.seq < 0 ↔ ltR x y := cmpRw_lt _ _ _ _
theorem ltR_trans {x y z : Rw} (h : ltR x y) (k : ltR y z) : ltR x z := by unfold ltR at *; omega
theorem ltR_irrefl (x : Rw) : ¬ ltR x x := by unfold ltR; omega
theorem ltR_total {x y : Rw} (h : ¬ ltR x y) (k : keyR x ≠ keyR y) : ltR y x := by
  unfold ltR at *
  simp only [keyR, ne_eq, Prod.mk.injEq] at k
  omega
theorem le_trans' {x y z : Rw} (h : ¬ ltR y x) (k : ¬ ltR z y) : ¬ ltR z x := by unfold ltR at *; omega
/-- Inserting keeps the order (the last first). -/
theorem ins_sorted (A : List Rw) (x : Rw) (hA : A.Pairwise (fun a b => ¬ ltR a b)) : (insRv A x).Pairwise (fun a b => ¬ ltR a b) := by
  induction A with
  | nil => simp [insRv]
  | cons y r ih =>
    rw [List.pairwise_cons] at hA
    unfold insRv
    by_cases h : cmpRw x.time x.seq y.time y.seq < 0
    · rw [if_pos h, List.pairwise_cons]
      refine ⟨fun z hz => ?_, ih hA.2⟩
      rcases List.mem_cons.1 ((ins_perm r x).mem_iff.1 hz) with rfl | hz
      · have := cmp_lt.1 h
        unfold ltR at *; omega
      · exact hA.1 z hz
    · rw [if_neg h, List.pairwise_cons]
      refine ⟨fun z hz => ?_, List.pairwise_cons.2 hA⟩
      have h' : ¬ ltR x y := fun g => h (cmp_lt.2 g)
      rcases List.mem_cons.1 hz with rfl | hz
      · exact h'
      · exact le_trans' (hA.1 z hz) h'
theorem fold_sorted (T A : List Rw) (hA : A.Pairwise (fun a b => ¬ ltR a b)) : (T.foldl insRv A).Pairwise (fun a b => ¬ ltR a b) := by
  induction T generalizing A with
  | nil => exact hA
  | cons x T ih => exact ih _ (ins_sorted A x hA)
theorem isort0_nil : isort0 [] = [] := rfl
theorem isort0_sorted (M : List Rw) : (isort0 M).Pairwise (fun a b => ¬ ltR b a) := by
  rcases Nat.eq_zero_or_pos M.length with h | h
  · obtain rfl := List.eq_nil_of_length_eq_zero h
    rw [isort0_nil]; exact List.Pairwise.nil
  · rw [isort0_eq M h, List.pairwise_reverse]
    exact fold_sorted M [] List.Pairwise.nil
theorem isort0_mem {M : List Rw} {x : Rw} : x ∈ isort0 M ↔ x ∈ M := by
  rcases Nat.eq_zero_or_pos M.length with h | h
  · obtain rfl := List.eq_nil_of_length_eq_zero h
    rw [isort0_nil]
  · exact (isort0_perm M h).mem_iff
theorem isort0_perm' (M : List Rw) : (isort0 M).Perm M := by
  rcases Nat.eq_zero_or_pos M.length with h | h
  · obtain rfl := List.eq_nil_of_length_eq_zero h
    rw [isort0_nil]
  · exact isort0_perm M h
theorem pairwise_of_next {R : Rw → Rw → Prop} (ht : ∀ x y z, R x y → R y z → R x z) : ∀ (L : List Rw), (∀ k, k + 1 < L.length → R (L.getD k Rw0) (L.getD (k + 1) Rw0)) → L.Pairwise R
  | [], _ => List.Pairwise.nil
  | [x], _ => List.pairwise_singleton _ _
  | x :: y :: r, h => by
    have ih := pairwise_of_next ht (y :: r) (fun k hk => h (k + 1) (by simpa using hk))
    have h0 := h 0 (by simp)
    simp only [List.getD_cons_zero, List.getD_cons_succ, Nat.zero_add] at h0
    rw [List.pairwise_cons]
    refine ⟨fun z hz => ?_, ih⟩
    rcases List.mem_cons.1 hz with rfl | hz
    · exact h0
    · exact ht _ _ _ h0 ((List.pairwise_cons.1 ih).1 z hz)
theorem next_of_pairwise {R : Rw → Rw → Prop} {L : List Rw} (h : L.Pairwise R) {i j : Nat} (hij : i < j) (hj : j < L.length) : R (L.getD i Rw0) (L.getD j Rw0) := by
  have := List.pairwise_iff_getElem.1 h i j (by omega) hj hij
  simpa [hj, show i < L.length by omega] using this
end Go.Proofs.Ytaelliigpclipaa.V
namespace Go.Proofs.Ytaelliigpclipaa.V
open Go Go.RowKit Go.Proofs Go.Proofs.Ytaelliigpclipaa.Eng Go.Proofs.Ytaelliigpclipaa.VPl
set_option maxRecDepth 100000
set_option linter.unusedVariables false
set_option linter.unusedSimpArgs false
theorem PureDoes.any0 {P : Program} {f : FuncId} {v : AV} (h : PureDoes P f [] [] 0 v) (c : Nat) : PureDoes P f [] [] c v :=
  ⟨h.1, fun B ρ M args' w ha hm hfr hs => h.2 B ⟨fun _ => none, ρ.fz⟩ (fun _ => none) args' w ⟨ha.1, fun i x y hx => by simp at hx⟩ (fun n b hn => by cases hn) (fun _ _ => rfl) ⟨hs.heap, fun n b h => (by cases h), fun n n' b b' l l' h => (by cases h), hs.frz, fun n b l h => (by cases h)⟩⟩
theorem known_call {B c : Nat} : CallDoes Try.prog B 21 [] [] c (.s (.bool true)) ([] ++ []) c :=
  (PureDoes.any0 (PureDoes.of_eval (P := Try.prog) (f := 21) (args := []) (m := []) (c := 0) mix (n := 400) (by kernel_rfl)) c).here rfl (by simp) (fun n b h => by cases h)

/-- The table behind k rounds. -/
def tb (L : List Rw) : Nat → List Rw
  | 0 => []
  | k + 1 => isort0 (tb L k ++ [tame (L.getD k Rw0) (k : Int)])
structure RoundOk (L A : List Rw) (i : Nat) : Prop where
  right : rightB (tame (L.getD i Rw0) (i : Int)) = true
  rises : risesB (isort0 (A ++ [tame (L.getD i Rw0) (i : Int)])) = true
  taken : risesB (isort0 (isort0 (A ++ [tame (L.getD i Rw0) (i : Int)]) ++ [⟨500, 900, []⟩, ⟨(tame (L.getD i Rw0) (i : Int)).time, (tame (L.getD i Rw0) (i : Int)).seq, []⟩])) = false
  right2 : rightB ⟨(tame (L.getD i Rw0) (i : Int)).time, (tame (L.getD i Rw0) (i : Int)).seq, []⟩ = true
  room : ∀ x ∈ A ++ [tame (L.getD i Rw0) (i : Int)], x.cells.length ≤ 4
  len : A.length = i
theorem right59 : rightB ⟨500, 900, []⟩ = true := by decide
theorem RoundOk.mem {L A : List Rw} {i : Nat} (h : RoundOk L A i) : ∀ x ∈ isort0 (A ++ [tame (L.getD i Rw0) (i : Int)]), x.cells.length ≤ 4 := fun x hx => h.room x ((isort0_perm (A ++ [tame (L.getD i Rw0) (i : Int)]) (by simp)).mem_iff.1 hx)

theorem round_O {B : Nat} {L A : List Rw} {i : Nat} (below : Int) (h : RoundOk L A i) (hi : i < min L.length 15) (h0 : 0 < i) : CodeDoes Try.prog B (Lf (Lf (Rt (Lf (Rt (Rt (Rt (Rt (Try.f5.body.getD .skip))))))))) ⟨⟨98, [(0, .s (.slv L.length none 3 (flat Rw.cv L))), (1, .s (.int .i64 below)), (5, .s (.ptr 0 0)), (6, .s (.int .i64 (i : Int))), (7, .s (.int .i64 (i : Int)))]⟩, [(0, some ⟨[.sl 1 0 (A).length none 3], true⟩), (1, some ⟨flat Rw.cv (A), true⟩)], 2⟩ .normal ⟨⟨98, [(0, .s (.slv L.length none 3 (flat Rw.cv L))), (1, .s (.int .i64 below)), (5, .s (.ptr 0 0)), (6, .s (.int .i64 ((i + 1 : Nat) : Int))), (7, .s (.int .i64 ((i + 1 : Nat) : Int)))]⟩, [(0, some ⟨[.sl 4 0 ((isort0 (A ++ [tame (L.getD i Rw0) (i : Int)]))).length none 3], true⟩), (4, some ⟨flat Rw.cv ((isort0 (A ++ [tame (L.getD i Rw0) (i : Int)]))), true⟩)], 9⟩ :=
  raO_1 L A _ _ (tame (L.getD i Rw0) (i : Int)) below i (tame_does (L.getD i Rw0) (i : Int)) (at0_does 500 900) rfl (fun x hx => Nat.le_trans (h.room x hx) (by decide)) (con_ok (L := [(tame (L.getD i Rw0) (i : Int))]) (fun x hx => by rw [List.mem_singleton] at hx; subst hx; exact h.right) (fun x hx => Nat.le_trans (h.room x (List.mem_append_right _ hx)) (by decide)) (by simp)) h.rises (by rw [isort0_len, List.length_append]; rfl) rfl (fun x hx => by
      rcases List.mem_append.1 hx with hx | hx
      · exact Nat.le_trans (h.mem x hx) (by decide)
      · simp only [List.mem_cons, List.not_mem_nil, or_false] at hx
        rcases hx with rfl | rfl <;> exact Nat.zero_le _) (con_ok (L := [⟨500, 900, []⟩, ⟨(tame (L.getD i Rw0) (i : Int)).time, (tame (L.getD i Rw0) (i : Int)).seq, []⟩]) (fun x hx => by
      simp only [List.mem_cons, List.not_mem_nil, or_false] at hx
      rcases hx with rfl | rfl
      · exact right59
      · exact h.right2) (fun x hx => by
      simp only [List.mem_cons, List.not_mem_nil, or_false] at hx
      rcases hx with rfl | rfl <;> exact Nat.zero_le _) (by simp)) h.taken (by rw [isort0_len (isort0 _ ++ _), List.length_append]; rfl) (fun x hx => Nat.le_trans (h.mem x hx) (by decide)) (fun x hx => Nat.le_trans (h.mem x hx) (by decide)) h.len hi h0
theorem round_E {B : Nat} {L : List Rw} (below : Int) (h : RoundOk L [] 0) (hi : 0 < min L.length 15) : CodeDoes Try.prog B (Lf (Lf (Rt (Lf (Rt (Rt (Rt (Rt (Try.f5.body.getD .skip))))))))) ⟨⟨98, [(0, .s (.slv L.length none 3 (flat Rw.cv L))), (1, .s (.int .i64 below)), (5, .s (.ptr 0 0)), (6, .s (.int .i64 ((0 : Nat) : Int))), (7, .s (.int .i64 ((0 : Nat) : Int)))]⟩, [(0, some ⟨[.slv 0 none 3 []], true⟩)], 1⟩ .normal ⟨⟨98, [(0, .s (.slv L.length none 3 (flat Rw.cv L))), (1, .s (.int .i64 below)), (5, .s (.ptr 0 0)), (6, .s (.int .i64 ((1 : Nat) : Int))), (7, .s (.int .i64 ((1 : Nat) : Int)))]⟩, [(0, some ⟨[.sl 3 0 ((isort0 ([] ++ [tame (L.getD 0 Rw0) ((0 : Nat) : Int)]))).length none 3], true⟩), (3, some ⟨flat Rw.cv ((isort0 ([] ++ [tame (L.getD 0 Rw0) ((0 : Nat) : Int)]))), true⟩)], 8⟩ :=
  raE_1 L [] _ _ (tame (L.getD 0 Rw0) ((0 : Nat) : Int)) below 0 (tame_does (L.getD 0 Rw0) ((0 : Nat) : Int)) (at0_does 500 900) rfl (fun x hx => Nat.le_trans (h.room x hx) (by decide)) (con_ok (L := [(tame (L.getD 0 Rw0) ((0 : Nat) : Int))]) (fun x hx => by rw [List.mem_singleton] at hx; subst hx; exact h.right) (fun x hx => Nat.le_trans (h.room x (List.mem_append_right _ hx)) (by decide)) (by simp)) h.rises (by rw [isort0_len, List.length_append]; rfl) rfl (fun x hx => by
      rcases List.mem_append.1 hx with hx | hx
      · exact Nat.le_trans (h.mem x hx) (by decide)
      · simp only [List.mem_cons, List.not_mem_nil, or_false] at hx
        rcases hx with rfl | rfl <;> exact Nat.zero_le _) (con_ok (L := [⟨500, 900, []⟩, ⟨(tame (L.getD 0 Rw0) ((0 : Nat) : Int)).time, (tame (L.getD 0 Rw0) ((0 : Nat) : Int)).seq, []⟩]) (fun x hx => by
      simp only [List.mem_cons, List.not_mem_nil, or_false] at hx
      rcases hx with rfl | rfl
      · exact right59
      · exact h.right2) (fun x hx => by
      simp only [List.mem_cons, List.not_mem_nil, or_false] at hx
      rcases hx with rfl | rfl <;> exact Nat.zero_le _) (by simp)) h.taken (by rw [isort0_len (isort0 _ ++ _), List.length_append]; rfl) (fun x hx => Nat.le_trans (h.mem x hx) (by decide)) (fun x hx => Nat.le_trans (h.mem x hx) (by decide)) h.len hi rfl
theorem na_loop {B : Nat} {L : List Rw} {below : Int} (hok : ∀ i, i < min L.length 15 → RoundOk L (tb L i) i) : (decide (min L.length 15 ≠ 0) = false ∧ CodeDoes Try.prog B (Lf (Rt (Lf (Rt (Rt (Rt (Rt (Try.f5.body.getD .skip)))))))) ⟨⟨98, [(0, .s (.slv L.length none 3 (flat Rw.cv L))), (1, .s (.int .i64 below)), (5, .s (.ptr 0 0)), (6, .s (.int .i64 ((0 : Nat) : Int))), (7, .s (.int .i64 ((0 : Nat) : Int)))]⟩, [(0, some ⟨[.slv 0 none 3 []], true⟩)], 1⟩ (.exit 0) ⟨⟨98, [(1, .s (.int .i64 below)), (5, .s (.ptr 0 0)), (6, .s (.int .i64 0))]⟩, [(0, some ⟨[.slv 0 none 3 []], true⟩)], 1⟩) ∨
    (decide (min L.length 15 ≠ 0) = true ∧ CodeDoes Try.prog B (Lf (Rt (Lf (Rt (Rt (Rt (Rt (Try.f5.body.getD .skip)))))))) ⟨⟨98, [(0, .s (.slv L.length none 3 (flat Rw.cv L))), (1, .s (.int .i64 below)), (5, .s (.ptr 0 0)), (6, .s (.int .i64 ((0 : Nat) : Int))), (7, .s (.int .i64 ((0 : Nat) : Int)))]⟩, [(0, some ⟨[.slv 0 none 3 []], true⟩)], 1⟩ (.exit 0) ⟨⟨98, [(1, .s (.int .i64 below)), (5, .s (.ptr 0 0)), (6, .s (.int .i64 ((min L.length 15 : Nat) : Int)))]⟩, [(0, some ⟨[.sl 1 0 ((tb L (min L.length 15))).length none 3], true⟩), (1, some ⟨flat Rw.cv ((tb L (min L.length 15))), true⟩)], 2⟩) := by
  refine CodeDoes.collectG (by kernel_rfl) (by simp) (min L.length 15) (fun i => decide (i ≠ 0)) (fun i nn => [(0, .s (.slv L.length none 3 (flat Rw.cv L))), (1, .s (.int .i64 below)), (5, .s (.ptr 0 0)), (6, .s (.int .i64 (i : Int))), (7, .s (.int .i64 (i : Int)))]) (fun i nn => [(0, some ⟨[.sl nn 0 ((tb L i)).length none 3], true⟩), (nn, some ⟨flat Rw.cv ((tb L i)), true⟩)]) (fun i => [(0, .s (.slv L.length none 3 (flat Rw.cv L))), (1, .s (.int .i64 below)), (5, .s (.ptr 0 0)), (6, .s (.int .i64 (i : Int))), (7, .s (.int .i64 (i : Int)))]) (fun i => [(0, some ⟨[.slv 0 none 3 []], true⟩)]) (sE := fun _ => [(1, .s (.int .i64 below)), (5, .s (.ptr 0 0)), (6, .s (.int .i64 ((min L.length 15 : Nat) : Int)))]) (mE := fun nn => [(0, some ⟨[.sl nn 0 ((tb L (min L.length 15))).length none 3], true⟩), (nn, some ⟨flat Rw.cv ((tb L (min L.length 15))), true⟩)]) (sF := [(1, .s (.int .i64 below)), (5, .s (.ptr 0 0)), (6, .s (.int .i64 0))]) (mF := [(0, some ⟨[.slv 0 none 3 []], true⟩)])
    (fun k => ⟨fun σ nn h => by first | rfl | simp [rnL, rnX, rnV, h 0 (by decide)], fun σ nn h => by first | rfl | (simp only [rnM, List.map_cons, List.map_nil, Option.map_some, rnB_nil (Rw_blk _ _)]; first | rfl | simp [rnB, rnV, h 0 (by decide)]), fun nn => by simp [avNames, svNames], fun nn => (fun x hx => by simp only [List.mem_cons, List.not_mem_nil, or_false] at hx; rcases hx with rfl | rfl <;> refine ⟨by simp, fun b hb => ?_⟩ <;> obtain rfl := Option.some.inj hb <;> first | (simp [blkN, svNames]; done) | (simp only [Rw_blk]; simp; done))⟩) (fun k => (by repeat first | exact NL.nil | exact NM.nil | refine NL.cons (by simp [avNames, svNames]) ?_ | refine NM.cons (by decide) (by first | (simp [blkN, svNames]; done) | (simp only [Rw_blk]; simp; done)) ?_)) (fun k => (by repeat first | exact NL.nil | exact NM.nil | refine NL.cons (by simp [avNames, svNames]) ?_ | refine NM.cons (by decide) (by first | (simp [blkN, svNames]; done) | (simp only [Rw_blk]; simp; done)) ?_)) (⟨fun σ nn h => by first | rfl | simp [rnL, rnX, rnV, h 0 (by decide)], fun σ nn h => by first | rfl | (simp only [rnM, List.map_cons, List.map_nil, Option.map_some, rnB_nil (Rw_blk _ _)]; first | rfl | simp [rnB, rnV, h 0 (by decide)]), fun nn => by simp [avNames, svNames], fun nn => (fun x hx => by simp only [List.mem_cons, List.not_mem_nil, or_false] at hx; rcases hx with rfl | rfl <;> refine ⟨by simp, fun b hb => ?_⟩ <;> obtain rfl := Option.some.inj hb <;> first | (simp [blkN, svNames]; done) | (simp only [Rw_blk]; simp; done))⟩) (by repeat first | exact NL.nil | exact NM.nil | refine NL.cons (by simp [avNames, svNames]) ?_ | refine NM.cons (by decide) (by first | (simp [blkN, svNames]; done) | (simp only [Rw_blk]; simp; done)) ?_) (by repeat first | exact NL.nil | exact NM.nil | refine NL.cons (by simp [avNames, svNames]) ?_ | refine NM.cons (by decide) (by first | (simp [blkN, svNames]; done) | (simp only [Rw_blk]; simp; done)) ?_) rfl (fun k hk hq => ⟨by simp, 4, 9, .inr ⟨by decide, by decide⟩, round_O below (hok k hk) hk (by simp at hq; omega)⟩) (fun k hk hq => .inr ⟨by simp, ?_⟩) (fun hq => ?_) (fun hq => ?_)
  · obtain rfl : k = 0 := by simpa using hq
    exact ⟨3, 8, ⟨by decide, by decide⟩, round_E below (hok 0 hk) hk⟩
  · by_cases h : ((min L.length 15 : Nat) : Int) < (L.length : Int)
    · exact ⟨2, by decide, raOe_1 L (tb L (min L.length 15)) below (min L.length 15) rfl h⟩
    · exact ⟨2, by decide, raOe_2 L (tb L (min L.length 15)) below (min L.length 15) rfl h⟩
  · have h0 : min L.length 15 = 0 := by simpa using hq
    rw [h0]
    by_cases h : ((0 : Nat) : Int) < (L.length : Int)
    · exact ⟨1, raEe_1 L below 0 h0.symm h⟩
    · exact ⟨1, raEe_2 L below 0 h0.symm h⟩
attribute [local irreducible] Eng.evAppend Eng.evSlice Eng.less CallDoes Eng.loadG Eng.evIndexAddr Eng.evBin
attribute [local irreducible] ValDoes
theorem nl_1 {B : Nat} (A' : List Rw) (n w i : Nat) (kk want : Int) (hl : A'.length ≤ 1000) (hi : i < A'.length) (hs : ¬ (A'.getD i Rw0).seq < (w : Int))  : CodeDoes Try.prog B (Lf (Lf (Rt (Lf (Rt (Rt (Rt (Rt (Rt (Rt (Rt (Rt (Rt (Rt (Try.f5.body.getD .skip))))))))))))))) ⟨⟨98, [(1, .s (.int .i64 (w : Int))), (6, .s (.int .i64 (n : Int))), (11, .s (.int .i64 kk)), (12, .s (.int .i64 want)), (13, .s (.sl 2 0 A'.length none 3)), (14, .s (.int .i64 (i : Int)))]⟩, [(2, some ⟨flat Rw.cv A', true⟩)], 3⟩ Ex.normal ⟨⟨98, [(1, AV.s (SV.int IntKind.i64 (↑w : Int))), (6, AV.s (SV.int IntKind.i64 (↑n : Int))), (11, AV.s (SV.int IntKind.i64 kk)), (12, AV.s (SV.int IntKind.i64 want)), (13, AV.s (SV.sl 2 0 (List.length A') none 3)), (14, AV.s (SV.int IntKind.i64 ((↑i : Int) + 1)))]⟩, [(2, some (Blk.mk (flat Rw.cv A') true))], 3⟩ :=
  goA_ok mix (tape := [(3, aT), (6, Ans.val (AV.s (SV.ptr 2 (0 + i * 3)))), (8, Ans.val (AV.s (sI (Rw.seq (List.getD A' i Rw0))))), (10, aF), (12, Ans.val (AV.s (sI ((↑i : Int) + 1))))]) (dl := [1, 6, 11, 12, 13, 14]) (nl := [2]) (C := [(some (AV.s (sI (wI ((↑i : Int) + 1)))) = some (AV.s (sI ((↑i : Int) + 1)))), (IsF (decide (Rw.seq (List.getD A' i Rw0) < (↑w : Int)))), ((loadG Try.prog 3 (AV.s (SV.ptr 2 (0 + i * 3 + Field.offset #[Field.mk "Time" 2 0 false "" "" 0, Field.mk "Seq" 3 1 false "" "" 8, Field.mk "Cells" 23 2 false "" "" 16][1]))) fun (x : Nat) => some (Blk.mk (flat Rw.cv A') true)) = some (AV.s (sI (Rw.seq (List.getD A' i Rw0))))), ((evIndexAddr Try.prog 22 (AV.s (SV.sl 2 0 (List.length A') none 3)) (AV.s (sI (↑i : Int)))) = some (AV.s (SV.ptr 2 (0 + i * 3)))), (IsT (decide ((↑i : Int) < (↑(List.length A') : Int))))]) (by kernel_rfl) ⟨claim_i (by exact wrap_i64 (by omega) (by omega)), cF (by first | assumption | omega), by (apply ldRw_seq <;> first | assumption), by (apply ixsRw <;> first | assumption | rfl), cT (by first | assumption | omega), trivial⟩
theorem nlE_1 {B : Nat} (A' : List Rw) (n w i : Nat) (kk want : Int) (hi : i = A'.length)  : CodeDoes Try.prog B (Lf (Lf (Rt (Lf (Rt (Rt (Rt (Rt (Rt (Rt (Rt (Rt (Rt (Rt (Try.f5.body.getD .skip))))))))))))))) ⟨⟨98, [(1, .s (.int .i64 (w : Int))), (6, .s (.int .i64 (n : Int))), (11, .s (.int .i64 kk)), (12, .s (.int .i64 want)), (13, .s (.sl 2 0 A'.length none 3)), (14, .s (.int .i64 (i : Int)))]⟩, [(2, some ⟨flat Rw.cv A', true⟩)], 3⟩ (Ex.exit 2) ⟨⟨98, [(1, AV.s (SV.int IntKind.i64 (↑w : Int))), (6, AV.s (SV.int IntKind.i64 (↑n : Int))), (11, AV.s (SV.int IntKind.i64 kk)), (12, AV.s (SV.int IntKind.i64 want)), (13, AV.s (SV.sl 2 0 (List.length A') none 3)), (14, AV.s (SV.int IntKind.i64 (↑i : Int)))]⟩, [(2, some (Blk.mk (flat Rw.cv A') true))], 3⟩ :=
  goA_ok mix (tape := [(3, aF)]) (dl := [1, 6, 11, 12, 13, 14]) (nl := [2]) (C := [(IsF (decide ((↑i : Int) < (↑(List.length A') : Int))))]) (by kernel_rfl) ⟨cF (by first | assumption | omega), trivial⟩

theorem nl_loop {B : Nat} {A' : List Rw} {n w : Nat} {kk want : Int} (hl : A'.length ≤ 1000) (hs : ∀ x ∈ A', ¬ x.seq < (w : Int)) : CodeDoes Try.prog B (Lf (Rt (Lf (Rt (Rt (Rt (Rt (Rt (Rt (Rt (Rt (Rt (Rt (Try.f5.body.getD .skip)))))))))))))) ⟨⟨98, [(1, .s (.int .i64 (w : Int))), (6, .s (.int .i64 (n : Int))), (11, .s (.int .i64 kk)), (12, .s (.int .i64 want)), (13, .s (.sl 2 0 A'.length none 3)), (14, .s (.int .i64 ((0 : Nat) : Int)))]⟩, [(2, some ⟨flat Rw.cv A', true⟩)], 3⟩ (.exit 2) ⟨⟨98, [(1, .s (.int .i64 (w : Int))), (6, .s (.int .i64 (n : Int))), (11, .s (.int .i64 kk)), (12, .s (.int .i64 want)), (13, .s (.sl 2 0 A'.length none 3)), (14, .s (.int .i64 (A'.length : Int)))]⟩, [(2, some ⟨flat Rw.cv A', true⟩)], 3⟩ :=
  CodeDoes.loopAt (by kernel_rfl) (LoopDoes.scanAll (fun i => ⟨⟨98, [(1, .s (.int .i64 (w : Int))), (6, .s (.int .i64 (n : Int))), (11, .s (.int .i64 kk)), (12, .s (.int .i64 want)), (13, .s (.sl 2 0 A'.length none 3)), (14, .s (.int .i64 (i : Int)))]⟩, [(2, some ⟨flat Rw.cv A', true⟩)], 3⟩) A'.length (by simp) (fun i hi => nl_1 A' n w i kk want hl hi (hs _ (getD_mem hi))) (nlE_1 A' n w A'.length kk want rfl))
theorem naP_1 {B : Nat} (L A A' : List Rw) (below : Int) (n w : Nat) (hl : CodeDoes Try.prog B (Lf (Rt (Lf (Rt (Rt (Rt (Rt (Try.f5.body.getD .skip)))))))) ⟨⟨98, [(0, .s (.slv L.length none 3 (flat Rw.cv L))), (1, .s (.int .i64 below)), (5, .s (.ptr 0 0)), (6, .s (.int .i64 ((0 : Nat) : Int))), (7, .s (.int .i64 ((0 : Nat) : Int)))]⟩, [(0, some ⟨[.slv 0 none 3 []], true⟩)], 1⟩ (.exit 0) ⟨⟨98, [(1, .s (.int .i64 below)), (5, .s (.ptr 0 0)), (6, .s (.int .i64 ((n : Nat) : Int)))]⟩, [(0, some ⟨[.sl 1 0 (A).length none 3], true⟩), (1, some ⟨flat Rw.cv (A), true⟩)], 2⟩) (hw : ValDoes Try.prog 22 [.s (.int .i64 below), .s (.int .i64 0), .s (.int .i64 20)] (.s (.int .i64 (w : Int)))) (hn : n ≤ 15) (hw2 : w ≤ 20) (hA : A.length = n) (hr : ∀ x ∈ A, x.cells.length ≤ 140737488351232) (hA' : A.filter (fun x => !delB every (w : Int) x) = A') (hr' : Room2 A') (h0 : 0 < A'.length) (ha : A'.length = n - w) (hs : ∀ x ∈ A', ¬ x.seq < (w : Int))  : CodeDoes Try.prog B (Try.f5.body.getD .skip) ⟨⟨98, [(0, .s (.slv L.length none 3 (flat Rw.cv L))), (1, .s (.int .i64 below))]⟩, [], 0⟩ Ex.ret ⟨⟨98, [(4, AV.s (SV.bool true))]⟩, [], 3⟩ :=
  goA_ok mix (tape := [(1, Ans.call [] (AV.s (SV.ptr 0 0)) [(0, some (Blk.mk [SV.slv 0 none 3 []] true))] 1), (7, Ans.loop [0, 1, 5, 6, 7] [0] (Ex.exit 0) (St.mk (Tm.mk 98 [(1, AV.s (sI below)), (5, AV.s (SV.ptr 0 0)), (6, AV.s (sI (↑n : Int)))]) [(0, some (Blk.mk [SV.sl 1 0 (List.length A) none 3] true)), (1, some (Blk.mk (flat Rw.cv A) true))] 2)), (9, aC (AV.s (sI (↑w : Int))) 2), (12, aC (AV.agg [sI 1, SV.str (s0_), sI 0, sI 0, SV.str (s0_), SV.slv 0 none 1 [], SV.slv 0 none 7 []]) 2), (14, Ans.call [0, 1] (AV.s (sI ((↑(List.length A) : Int) - (↑(List.length A') : Int)))) [(0, some (Blk.mk [SV.sl 1 0 (List.length A') none 3] true)), (1, some (Blk.mk (flat Rw.cv A') true))] 2), (20, aF), (22, Ans.call [0, 1] (AV.s (SV.sl 2 0 (List.length A') none 3)) [(2, some (Blk.mk (flat Rw.cv A') true)), (0, some (Blk.mk [SV.sl 1 0 (List.length A') none 3] true)), (1, some (Blk.mk (flat Rw.cv A') true))] 3), (25, Ans.loop [1, 6, 11, 12, 13, 14] [2] (Ex.exit 2) (St.mk (Tm.mk 98 [(1, AV.s (sI (↑w : Int))), (6, AV.s (sI (↑n : Int))), (11, AV.s (sI ((↑(List.length A) : Int) - (↑(List.length A') : Int)))), (12, AV.s (sI (↑w : Int))), (13, AV.s (SV.sl 2 0 (List.length A') none 3)), (14, AV.s (sI (↑(List.length A') : Int)))]) [(2, some (Blk.mk (flat Rw.cv A') true))] 3)), (28, aT), (34, Ans.val (AV.s (sI ((↑n : Int) - (↑w : Int))))), (35, aT), (38, aC (AV.s (SV.bool true)) 3)]) (dl := [4]) (nl := []) (C := [(CD B 21 [] [] 3 (AV.s (SV.bool true)) ([] ++ []) 3), (IsT ((↑(List.length A') : Int) == (↑n : Int) - (↑w : Int))), (some (AV.s (sI (wI ((↑n : Int) - (↑w : Int))))) = some (AV.s (sI ((↑n : Int) - (↑w : Int))))), (IsT ((↑(List.length A) : Int) - (↑(List.length A') : Int) == (↑w : Int))), (CodeDoes Try.prog B (Lf (Rt (Lf (Rt (Rt (Rt (Rt (Rt (Rt (Rt (Rt (Rt (Rt (Try.f5.body.getD .skip)))))))))))))) (St.mk (Tm.mk 98 [(1, AV.s (sI (↑w : Int))), (6, AV.s (sI (↑n : Int))), (11, AV.s (sI ((↑(List.length A) : Int) - (↑(List.length A') : Int)))), (12, AV.s (sI (↑w : Int))), (13, AV.s (SV.sl 2 0 (List.length A') none 3)), (14, AV.s (sI (↑0 : Int)))]) [(2, some (Blk.mk (flat Rw.cv A') true))] 3) (Ex.exit 2) (St.mk (Tm.mk 98 [(1, AV.s (sI (↑w : Int))), (6, AV.s (sI (↑n : Int))), (11, AV.s (sI ((↑(List.length A) : Int) - (↑(List.length A') : Int)))), (12, AV.s (sI (↑w : Int))), (13, AV.s (SV.sl 2 0 (List.length A') none 3)), (14, AV.s (sI (↑(List.length A') : Int)))]) [(2, some (Blk.mk (flat Rw.cv A') true))] 3)), (CD B 18 [AV.s (SV.ptr 0 0)] [(0, some (Blk.mk [SV.sl 1 0 (List.length A') none 3] true)), (1, some (Blk.mk (flat Rw.cv A') true))] 2 (AV.s (SV.sl 2 0 (List.length A') none 3)) ([(2, some (Blk.mk (flat Rw.cv A') true)), (0, some (Blk.mk [SV.sl 1 0 (List.length A') none 3] true)), (1, some (Blk.mk (flat Rw.cv A') true))] ++ [(0, some (Blk.mk [SV.sl 1 0 (List.length A') none 3] true)), (1, some (Blk.mk (flat Rw.cv A') true))]) 3), (IsF (decide ((↑n : Int) < (↑w : Int)))), (CD B 23 [AV.s (SV.ptr 0 0), AV.agg [sI 1, SV.str (s0_), sI 0, sI 0, SV.str (s0_), SV.slv 0 none 1 [], SV.slv 0 none 7 []], AV.s (sI (↑w : Int))] [(0, some (Blk.mk [SV.sl 1 0 (List.length A) none 3] true)), (1, some (Blk.mk (flat Rw.cv A) true))] 2 (AV.s (sI ((↑(List.length A) : Int) - (↑(List.length A') : Int)))) ([(0, some (Blk.mk [SV.sl 1 0 (List.length A') none 3] true)), (1, some (Blk.mk (flat Rw.cv A') true))] ++ [(0, some (Blk.mk [SV.sl 1 0 (List.length A) none 3] true)), (1, some (Blk.mk (flat Rw.cv A) true))]) 2), (CD B 20 [] [] 2 (AV.agg [sI 1, SV.str (s0_), sI 0, sI 0, SV.str (s0_), SV.slv 0 none 1 [], SV.slv 0 none 7 []]) ([] ++ []) 2), (CD B 22 [AV.s (sI below), AV.s (sI 0), AV.s (sI 20)] [] 2 (AV.s (sI (↑w : Int))) ([] ++ []) 2), (CodeDoes Try.prog B (Lf (Rt (Lf (Rt (Rt (Rt (Rt (Try.f5.body.getD .skip)))))))) (St.mk (Tm.mk 98 [(0, AV.s (SV.slv (List.length L) none 3 (flat Rw.cv L))), (1, AV.s (sI below)), (5, AV.s (SV.ptr 0 0)), (6, AV.s (sI (↑0 : Int))), (7, AV.s (sI (↑0 : Int)))]) [(0, some (Blk.mk [SV.slv 0 none 3 []] true))] 1) (Ex.exit 0) (St.mk (Tm.mk 98 [(1, AV.s (sI below)), (5, AV.s (SV.ptr 0 0)), (6, AV.s (sI (↑n : Int)))]) [(0, some (Blk.mk [SV.sl 1 0 (List.length A) none 3] true)), (1, some (Blk.mk (flat Rw.cv A) true))] 2)), (CD B 15 [] [] 0 (AV.s (SV.ptr 0 0)) ([(0, some (Blk.mk [SV.slv 0 none 3 []] true))] ++ []) 1)]) (by kernel_rfl) ⟨by (apply known_call), cT (by first | assumption | omega), claim_i (by exact wrap_i64 (by omega) (by omega)), cT (by first | assumption | omega), by (apply nl_loop <;> first | exact hw | exact hA' | exact hr | exact hr' | exact hs | exact el23 | exact el22 | exact sz28 | exact sz25 | exact by28 | exact by25 | exact zr28 | exact zr25 | exact ag28 | exact ag25 | exact un9 | assumption | rfl | omega | (unfold maxLen; omega) | decide | (simp; done) | (simp; omega)), by (apply tr_c <;> first | exact hr' | assumption | rfl | omega), cF (by first | assumption | omega), by (apply del_y <;> first | exact hA' | exact hr | rfl | omega), by (apply every_c), by (apply v3_c <;> first | exact hw), by (apply hl <;> first | exact hw | exact hA' | exact hr | exact hr' | exact hs | exact el23 | exact el22 | exact sz28 | exact sz25 | exact by28 | exact by25 | exact zr28 | exact zr25 | exact ag28 | exact ag25 | exact un9 | assumption | rfl | omega | (unfold maxLen; omega) | decide | (simp; done) | (simp; omega)), by (apply new_c), trivial⟩
theorem naZ_1 {B : Nat} (L A A' : List Rw) (below : Int) (n w : Nat) (hl : CodeDoes Try.prog B (Lf (Rt (Lf (Rt (Rt (Rt (Rt (Try.f5.body.getD .skip)))))))) ⟨⟨98, [(0, .s (.slv L.length none 3 (flat Rw.cv L))), (1, .s (.int .i64 below)), (5, .s (.ptr 0 0)), (6, .s (.int .i64 ((0 : Nat) : Int))), (7, .s (.int .i64 ((0 : Nat) : Int)))]⟩, [(0, some ⟨[.slv 0 none 3 []], true⟩)], 1⟩ (.exit 0) ⟨⟨98, [(1, .s (.int .i64 below)), (5, .s (.ptr 0 0)), (6, .s (.int .i64 ((n : Nat) : Int)))]⟩, [(0, some ⟨[.sl 1 0 (A).length none 3], true⟩), (1, some ⟨flat Rw.cv (A), true⟩)], 2⟩) (hw : ValDoes Try.prog 22 [.s (.int .i64 below), .s (.int .i64 0), .s (.int .i64 20)] (.s (.int .i64 (w : Int)))) (hn : n ≤ 15) (hw2 : w ≤ 20) (hA : A.length = n) (hr : ∀ x ∈ A, x.cells.length ≤ 140737488351232) (hA' : A.filter (fun x => !delB every (w : Int) x) = []) (ha : n ≤ w) (h_1 : (↑n : Int) < (↑w : Int)) : CodeDoes Try.prog B (Try.f5.body.getD .skip) ⟨⟨98, [(0, .s (.slv L.length none 3 (flat Rw.cv L))), (1, .s (.int .i64 below))]⟩, [], 0⟩ Ex.ret ⟨⟨98, [(4, AV.s (SV.bool true))]⟩, [], 2⟩ :=
  goA_ok mix (tape := [(1, Ans.call [] (AV.s (SV.ptr 0 0)) [(0, some (Blk.mk [SV.slv 0 none 3 []] true))] 1), (7, Ans.loop [0, 1, 5, 6, 7] [0] (Ex.exit 0) (St.mk (Tm.mk 98 [(1, AV.s (sI below)), (5, AV.s (SV.ptr 0 0)), (6, AV.s (sI (↑n : Int)))]) [(0, some (Blk.mk [SV.sl 1 0 (List.length A) none 3] true)), (1, some (Blk.mk (flat Rw.cv A) true))] 2)), (9, aC (AV.s (sI (↑w : Int))) 2), (12, aC (AV.agg [sI 1, SV.str (s0_), sI 0, sI 0, SV.str (s0_), SV.slv 0 none 1 [], SV.slv 0 none 7 []]) 2), (14, Ans.call [0, 1] (AV.s (sI ((↑(List.length A) : Int) - (↑0 : Int)))) [(0, some (Blk.mk [SV.slv 0 none 3 []] true)), (1, none)] 2), (20, aT), (24, Ans.call [0] (AV.s (SV.slv 0 none 3 [])) [(0, some (Blk.mk [SV.slv 0 none 3 []] true))] 2), (27, Ans.rounds 1), (34, aT), (40, Ans.val (AV.s (sI ((↑n : Int) - (↑n : Int))))), (41, aT), (44, aC (AV.s (SV.bool true)) 2)]) (dl := [4]) (nl := []) (C := [(CD B 21 [] [] 2 (AV.s (SV.bool true)) ([] ++ []) 2), (IsT (0 == (↑n : Int) - (↑n : Int))), (some (AV.s (sI (wI ((↑n : Int) - (↑n : Int))))) = some (AV.s (sI ((↑n : Int) - (↑n : Int))))), (IsT ((↑(List.length A) : Int) - (↑0 : Int) == (↑n : Int))), (CD B 18 [AV.s (SV.ptr 0 0)] [(0, some (Blk.mk [SV.slv 0 none 3 []] true))] 2 (AV.s (SV.slv 0 none 3 [])) ([(0, some (Blk.mk [SV.slv 0 none 3 []] true))] ++ [(0, some (Blk.mk [SV.slv 0 none 3 []] true))]) 2), (IsT (decide ((↑n : Int) < (↑w : Int)))), (CD B 23 [AV.s (SV.ptr 0 0), AV.agg [sI 1, SV.str (s0_), sI 0, sI 0, SV.str (s0_), SV.slv 0 none 1 [], SV.slv 0 none 7 []], AV.s (sI (↑w : Int))] [(0, some (Blk.mk [SV.sl 1 0 (List.length A) none 3] true)), (1, some (Blk.mk (flat Rw.cv A) true))] 2 (AV.s (sI ((↑(List.length A) : Int) - (↑0 : Int)))) ([(0, some (Blk.mk [SV.slv 0 none 3 []] true)), (1, none)] ++ [(0, some (Blk.mk [SV.sl 1 0 (List.length A) none 3] true)), (1, some (Blk.mk (flat Rw.cv A) true))]) 2), (CD B 20 [] [] 2 (AV.agg [sI 1, SV.str (s0_), sI 0, sI 0, SV.str (s0_), SV.slv 0 none 1 [], SV.slv 0 none 7 []]) ([] ++ []) 2), (CD B 22 [AV.s (sI below), AV.s (sI 0), AV.s (sI 20)] [] 2 (AV.s (sI (↑w : Int))) ([] ++ []) 2), (CodeDoes Try.prog B (Lf (Rt (Lf (Rt (Rt (Rt (Rt (Try.f5.body.getD .skip)))))))) (St.mk (Tm.mk 98 [(0, AV.s (SV.slv (List.length L) none 3 (flat Rw.cv L))), (1, AV.s (sI below)), (5, AV.s (SV.ptr 0 0)), (6, AV.s (sI (↑0 : Int))), (7, AV.s (sI (↑0 : Int)))]) [(0, some (Blk.mk [SV.slv 0 none 3 []] true))] 1) (Ex.exit 0) (St.mk (Tm.mk 98 [(1, AV.s (sI below)), (5, AV.s (SV.ptr 0 0)), (6, AV.s (sI (↑n : Int)))]) [(0, some (Blk.mk [SV.sl 1 0 (List.length A) none 3] true)), (1, some (Blk.mk (flat Rw.cv A) true))] 2)), (CD B 15 [] [] 0 (AV.s (SV.ptr 0 0)) ([(0, some (Blk.mk [SV.slv 0 none 3 []] true))] ++ []) 1)]) (by kernel_rfl) ⟨by (apply known_call), cT (by first | assumption | omega), claim_i (by exact wrap_i64 (by omega) (by omega)), cT (by first | assumption | omega), by (apply trE_c <;> first | omega), cT (by first | assumption | omega), by (apply del_z <;> first | exact hA' | exact hr | rfl | omega), by (apply every_c), by (apply v3_c <;> first | exact hw), by (apply hl <;> first | exact hw | exact hA' | exact hr | exact el23 | exact el22 | exact sz28 | exact sz25 | exact by28 | exact by25 | exact zr28 | exact zr25 | exact ag28 | exact ag25 | exact un9 | assumption | rfl | omega | (unfold maxLen; omega) | decide | (simp; done) | (simp; omega)), by (apply new_c), trivial⟩
theorem naZ_2 {B : Nat} (L A A' : List Rw) (below : Int) (n w : Nat) (hl : CodeDoes Try.prog B (Lf (Rt (Lf (Rt (Rt (Rt (Rt (Try.f5.body.getD .skip)))))))) ⟨⟨98, [(0, .s (.slv L.length none 3 (flat Rw.cv L))), (1, .s (.int .i64 below)), (5, .s (.ptr 0 0)), (6, .s (.int .i64 ((0 : Nat) : Int))), (7, .s (.int .i64 ((0 : Nat) : Int)))]⟩, [(0, some ⟨[.slv 0 none 3 []], true⟩)], 1⟩ (.exit 0) ⟨⟨98, [(1, .s (.int .i64 below)), (5, .s (.ptr 0 0)), (6, .s (.int .i64 ((n : Nat) : Int)))]⟩, [(0, some ⟨[.sl 1 0 (A).length none 3], true⟩), (1, some ⟨flat Rw.cv (A), true⟩)], 2⟩) (hw : ValDoes Try.prog 22 [.s (.int .i64 below), .s (.int .i64 0), .s (.int .i64 20)] (.s (.int .i64 (w : Int)))) (hn : n ≤ 15) (hw2 : w ≤ 20) (hA : A.length = n) (hr : ∀ x ∈ A, x.cells.length ≤ 140737488351232) (hA' : A.filter (fun x => !delB every (w : Int) x) = []) (ha : n ≤ w) (h_1 : ¬ ((↑n : Int) < (↑w : Int))) : CodeDoes Try.prog B (Try.f5.body.getD .skip) ⟨⟨98, [(0, .s (.slv L.length none 3 (flat Rw.cv L))), (1, .s (.int .i64 below))]⟩, [], 0⟩ Ex.ret ⟨⟨98, [(4, AV.s (SV.bool true))]⟩, [], 2⟩ :=
  goA_ok mix (tape := [(1, Ans.call [] (AV.s (SV.ptr 0 0)) [(0, some (Blk.mk [SV.slv 0 none 3 []] true))] 1), (7, Ans.loop [0, 1, 5, 6, 7] [0] (Ex.exit 0) (St.mk (Tm.mk 98 [(1, AV.s (sI below)), (5, AV.s (SV.ptr 0 0)), (6, AV.s (sI (↑n : Int)))]) [(0, some (Blk.mk [SV.sl 1 0 (List.length A) none 3] true)), (1, some (Blk.mk (flat Rw.cv A) true))] 2)), (9, aC (AV.s (sI (↑w : Int))) 2), (12, aC (AV.agg [sI 1, SV.str (s0_), sI 0, sI 0, SV.str (s0_), SV.slv 0 none 1 [], SV.slv 0 none 7 []]) 2), (14, Ans.call [0, 1] (AV.s (sI ((↑(List.length A) : Int) - (↑0 : Int)))) [(0, some (Blk.mk [SV.slv 0 none 3 []] true)), (1, none)] 2), (20, aF), (22, Ans.call [0] (AV.s (SV.slv 0 none 3 [])) [(0, some (Blk.mk [SV.slv 0 none 3 []] true))] 2), (25, Ans.rounds 1), (32, aT), (38, Ans.val (AV.s (sI ((↑n : Int) - (↑w : Int))))), (39, aT), (42, aC (AV.s (SV.bool true)) 2)]) (dl := [4]) (nl := []) (C := [(CD B 21 [] [] 2 (AV.s (SV.bool true)) ([] ++ []) 2), (IsT (0 == (↑n : Int) - (↑w : Int))), (some (AV.s (sI (wI ((↑n : Int) - (↑w : Int))))) = some (AV.s (sI ((↑n : Int) - (↑w : Int))))), (IsT ((↑(List.length A) : Int) - (↑0 : Int) == (↑w : Int))), (CD B 18 [AV.s (SV.ptr 0 0)] [(0, some (Blk.mk [SV.slv 0 none 3 []] true))] 2 (AV.s (SV.slv 0 none 3 [])) ([(0, some (Blk.mk [SV.slv 0 none 3 []] true))] ++ [(0, some (Blk.mk [SV.slv 0 none 3 []] true))]) 2), (IsF (decide ((↑n : Int) < (↑w : Int)))), (CD B 23 [AV.s (SV.ptr 0 0), AV.agg [sI 1, SV.str (s0_), sI 0, sI 0, SV.str (s0_), SV.slv 0 none 1 [], SV.slv 0 none 7 []], AV.s (sI (↑w : Int))] [(0, some (Blk.mk [SV.sl 1 0 (List.length A) none 3] true)), (1, some (Blk.mk (flat Rw.cv A) true))] 2 (AV.s (sI ((↑(List.length A) : Int) - (↑0 : Int)))) ([(0, some (Blk.mk [SV.slv 0 none 3 []] true)), (1, none)] ++ [(0, some (Blk.mk [SV.sl 1 0 (List.length A) none 3] true)), (1, some (Blk.mk (flat Rw.cv A) true))]) 2), (CD B 20 [] [] 2 (AV.agg [sI 1, SV.str (s0_), sI 0, sI 0, SV.str (s0_), SV.slv 0 none 1 [], SV.slv 0 none 7 []]) ([] ++ []) 2), (CD B 22 [AV.s (sI below), AV.s (sI 0), AV.s (sI 20)] [] 2 (AV.s (sI (↑w : Int))) ([] ++ []) 2), (CodeDoes Try.prog B (Lf (Rt (Lf (Rt (Rt (Rt (Rt (Try.f5.body.getD .skip)))))))) (St.mk (Tm.mk 98 [(0, AV.s (SV.slv (List.length L) none 3 (flat Rw.cv L))), (1, AV.s (sI below)), (5, AV.s (SV.ptr 0 0)), (6, AV.s (sI (↑0 : Int))), (7, AV.s (sI (↑0 : Int)))]) [(0, some (Blk.mk [SV.slv 0 none 3 []] true))] 1) (Ex.exit 0) (St.mk (Tm.mk 98 [(1, AV.s (sI below)), (5, AV.s (SV.ptr 0 0)), (6, AV.s (sI (↑n : Int)))]) [(0, some (Blk.mk [SV.sl 1 0 (List.length A) none 3] true)), (1, some (Blk.mk (flat Rw.cv A) true))] 2)), (CD B 15 [] [] 0 (AV.s (SV.ptr 0 0)) ([(0, some (Blk.mk [SV.slv 0 none 3 []] true))] ++ []) 1)]) (by kernel_rfl) ⟨by (apply known_call), cT (by first | assumption | omega), claim_i (by exact wrap_i64 (by omega) (by omega)), cT (by first | assumption | omega), by (apply trE_c <;> first | omega), cF (by first | assumption | omega), by (apply del_z <;> first | exact hA' | exact hr | rfl | omega), by (apply every_c), by (apply v3_c <;> first | exact hw), by (apply hl <;> first | exact hw | exact hA' | exact hr | exact el23 | exact el22 | exact sz28 | exact sz25 | exact by28 | exact by25 | exact zr28 | exact zr25 | exact ag28 | exact ag25 | exact un9 | assumption | rfl | omega | (unfold maxLen; omega) | decide | (simp; done) | (simp; omega)), by (apply new_c), trivial⟩
theorem naN_1 {B : Nat} (L A A' : List Rw) (below : Int) (n w : Nat) (hl : CodeDoes Try.prog B (Lf (Rt (Lf (Rt (Rt (Rt (Rt (Try.f5.body.getD .skip)))))))) ⟨⟨98, [(0, .s (.slv L.length none 3 (flat Rw.cv L))), (1, .s (.int .i64 below)), (5, .s (.ptr 0 0)), (6, .s (.int .i64 ((0 : Nat) : Int))), (7, .s (.int .i64 ((0 : Nat) : Int)))]⟩, [(0, some ⟨[.slv 0 none 3 []], true⟩)], 1⟩ (.exit 0) ⟨⟨98, [(1, .s (.int .i64 below)), (5, .s (.ptr 0 0)), (6, .s (.int .i64 ((0 : Nat) : Int)))]⟩, [(0, some ⟨[.slv 0 none 3 []], true⟩)], 1⟩) (hw : ValDoes Try.prog 22 [.s (.int .i64 below), .s (.int .i64 0), .s (.int .i64 20)] (.s (.int .i64 (w : Int)))) (hw2 : w ≤ 20) (h_1 : 0 < (↑w : Int)) : CodeDoes Try.prog B (Try.f5.body.getD .skip) ⟨⟨98, [(0, .s (.slv L.length none 3 (flat Rw.cv L))), (1, .s (.int .i64 below))]⟩, [], 0⟩ Ex.ret ⟨⟨98, [(4, AV.s (SV.bool true))]⟩, [], 1⟩ :=
  goA_ok mix (tape := [(1, Ans.call [] (AV.s (SV.ptr 0 0)) [(0, some (Blk.mk [SV.slv 0 none 3 []] true))] 1), (7, Ans.loop [0, 1, 5, 6, 7] [0] (Ex.exit 0) (St.mk (Tm.mk 98 [(1, AV.s (sI below)), (5, AV.s (SV.ptr 0 0)), (6, AV.s (sI (↑0 : Int)))]) [(0, some (Blk.mk [SV.slv 0 none 3 []] true))] 1)), (9, aC (AV.s (sI (↑w : Int))) 1), (12, aC (AV.agg [sI 1, SV.str (s0_), sI 0, sI 0, SV.str (s0_), SV.slv 0 none 1 [], SV.slv 0 none 7 []]) 1), (14, Ans.call [0] (AV.s (sI 0)) [(0, some (Blk.mk [SV.slv 0 none 3 []] true))] 1), (20, aT), (24, Ans.call [0] (AV.s (SV.slv 0 none 3 [])) [(0, some (Blk.mk [SV.slv 0 none 3 []] true))] 1), (27, Ans.rounds 1), (44, aC (AV.s (SV.bool true)) 1)]) (dl := [4]) (nl := []) (C := [(CD B 21 [] [] 1 (AV.s (SV.bool true)) ([] ++ []) 1), (CD B 18 [AV.s (SV.ptr 0 0)] [(0, some (Blk.mk [SV.slv 0 none 3 []] true))] 1 (AV.s (SV.slv 0 none 3 [])) ([(0, some (Blk.mk [SV.slv 0 none 3 []] true))] ++ [(0, some (Blk.mk [SV.slv 0 none 3 []] true))]) 1), (IsT (decide (0 < (↑w : Int)))), (CD B 23 [AV.s (SV.ptr 0 0), AV.agg [sI 1, SV.str (s0_), sI 0, sI 0, SV.str (s0_), SV.slv 0 none 1 [], SV.slv 0 none 7 []], AV.s (sI (↑w : Int))] [(0, some (Blk.mk [SV.slv 0 none 3 []] true))] 1 (AV.s (sI 0)) ([(0, some (Blk.mk [SV.slv 0 none 3 []] true))] ++ [(0, some (Blk.mk [SV.slv 0 none 3 []] true))]) 1), (CD B 20 [] [] 1 (AV.agg [sI 1, SV.str (s0_), sI 0, sI 0, SV.str (s0_), SV.slv 0 none 1 [], SV.slv 0 none 7 []]) ([] ++ []) 1), (CD B 22 [AV.s (sI below), AV.s (sI 0), AV.s (sI 20)] [] 1 (AV.s (sI (↑w : Int))) ([] ++ []) 1), (CodeDoes Try.prog B (Lf (Rt (Lf (Rt (Rt (Rt (Rt (Try.f5.body.getD .skip)))))))) (St.mk (Tm.mk 98 [(0, AV.s (SV.slv (List.length L) none 3 (flat Rw.cv L))), (1, AV.s (sI below)), (5, AV.s (SV.ptr 0 0)), (6, AV.s (sI (↑0 : Int))), (7, AV.s (sI (↑0 : Int)))]) [(0, some (Blk.mk [SV.slv 0 none 3 []] true))] 1) (Ex.exit 0) (St.mk (Tm.mk 98 [(1, AV.s (sI below)), (5, AV.s (SV.ptr 0 0)), (6, AV.s (sI (↑0 : Int)))]) [(0, some (Blk.mk [SV.slv 0 none 3 []] true))] 1)), (CD B 15 [] [] 0 (AV.s (SV.ptr 0 0)) ([(0, some (Blk.mk [SV.slv 0 none 3 []] true))] ++ []) 1)]) (by kernel_rfl) ⟨by (apply known_call), by (apply trE_c <;> first | omega), cT (by first | assumption | omega), by (apply deE_c <;> first | omega), by (apply every_c), by (apply v3_c <;> first | exact hw), by (apply hl <;> first | exact hw | exact el23 | exact el22 | exact sz28 | exact sz25 | exact by28 | exact by25 | exact zr28 | exact zr25 | exact ag28 | exact ag25 | exact un9 | assumption | rfl | omega | (unfold maxLen; omega) | decide | (simp; done) | (simp; omega)), by (apply new_c), trivial⟩
theorem naN_2 {B : Nat} (L A A' : List Rw) (below : Int) (n w : Nat) (hl : CodeDoes Try.prog B (Lf (Rt (Lf (Rt (Rt (Rt (Rt (Try.f5.body.getD .skip)))))))) ⟨⟨98, [(0, .s (.slv L.length none 3 (flat Rw.cv L))), (1, .s (.int .i64 below)), (5, .s (.ptr 0 0)), (6, .s (.int .i64 ((0 : Nat) : Int))), (7, .s (.int .i64 ((0 : Nat) : Int)))]⟩, [(0, some ⟨[.slv 0 none 3 []], true⟩)], 1⟩ (.exit 0) ⟨⟨98, [(1, .s (.int .i64 below)), (5, .s (.ptr 0 0)), (6, .s (.int .i64 ((0 : Nat) : Int)))]⟩, [(0, some ⟨[.slv 0 none 3 []], true⟩)], 1⟩) (hw : ValDoes Try.prog 22 [.s (.int .i64 below), .s (.int .i64 0), .s (.int .i64 20)] (.s (.int .i64 (w : Int)))) (hw2 : w ≤ 20) (h_1 : ¬ (0 < (↑w : Int))) : CodeDoes Try.prog B (Try.f5.body.getD .skip) ⟨⟨98, [(0, .s (.slv L.length none 3 (flat Rw.cv L))), (1, .s (.int .i64 below))]⟩, [], 0⟩ Ex.ret ⟨⟨98, [(4, AV.s (SV.bool true))]⟩, [], 1⟩ :=
  goA_ok mix (tape := [(1, Ans.call [] (AV.s (SV.ptr 0 0)) [(0, some (Blk.mk [SV.slv 0 none 3 []] true))] 1), (7, Ans.loop [0, 1, 5, 6, 7] [0] (Ex.exit 0) (St.mk (Tm.mk 98 [(1, AV.s (sI below)), (5, AV.s (SV.ptr 0 0)), (6, AV.s (sI (↑0 : Int)))]) [(0, some (Blk.mk [SV.slv 0 none 3 []] true))] 1)), (9, aC (AV.s (sI (↑w : Int))) 1), (12, aC (AV.agg [sI 1, SV.str (s0_), sI 0, sI 0, SV.str (s0_), SV.slv 0 none 1 [], SV.slv 0 none 7 []]) 1), (14, Ans.call [0] (AV.s (sI 0)) [(0, some (Blk.mk [SV.slv 0 none 3 []] true))] 1), (20, aF), (22, Ans.call [0] (AV.s (SV.slv 0 none 3 [])) [(0, some (Blk.mk [SV.slv 0 none 3 []] true))] 1), (25, Ans.rounds 1), (32, aT), (38, Ans.val (AV.s (sI (0 - (↑w : Int))))), (39, aT), (42, aC (AV.s (SV.bool true)) 1)]) (dl := [4]) (nl := []) (C := [(CD B 21 [] [] 1 (AV.s (SV.bool true)) ([] ++ []) 1), (IsT (0 == 0 - (↑w : Int))), (some (AV.s (sI (wI (0 - (↑w : Int))))) = some (AV.s (sI (0 - (↑w : Int))))), (IsT (0 == (↑w : Int))), (CD B 18 [AV.s (SV.ptr 0 0)] [(0, some (Blk.mk [SV.slv 0 none 3 []] true))] 1 (AV.s (SV.slv 0 none 3 [])) ([(0, some (Blk.mk [SV.slv 0 none 3 []] true))] ++ [(0, some (Blk.mk [SV.slv 0 none 3 []] true))]) 1), (IsF (decide (0 < (↑w : Int)))), (CD B 23 [AV.s (SV.ptr 0 0), AV.agg [sI 1, SV.str (s0_), sI 0, sI 0, SV.str (s0_), SV.slv 0 none 1 [], SV.slv 0 none 7 []], AV.s (sI (↑w : Int))] [(0, some (Blk.mk [SV.slv 0 none 3 []] true))] 1 (AV.s (sI 0)) ([(0, some (Blk.mk [SV.slv 0 none 3 []] true))] ++ [(0, some (Blk.mk [SV.slv 0 none 3 []] true))]) 1), (CD B 20 [] [] 1 (AV.agg [sI 1, SV.str (s0_), sI 0, sI 0, SV.str (s0_), SV.slv 0 none 1 [], SV.slv 0 none 7 []]) ([] ++ []) 1), (CD B 22 [AV.s (sI below), AV.s (sI 0), AV.s (sI 20)] [] 1 (AV.s (sI (↑w : Int))) ([] ++ []) 1), (CodeDoes Try.prog B (Lf (Rt (Lf (Rt (Rt (Rt (Rt (Try.f5.body.getD .skip)))))))) (St.mk (Tm.mk 98 [(0, AV.s (SV.slv (List.length L) none 3 (flat Rw.cv L))), (1, AV.s (sI below)), (5, AV.s (SV.ptr 0 0)), (6, AV.s (sI (↑0 : Int))), (7, AV.s (sI (↑0 : Int)))]) [(0, some (Blk.mk [SV.slv 0 none 3 []] true))] 1) (Ex.exit 0) (St.mk (Tm.mk 98 [(1, AV.s (sI below)), (5, AV.s (SV.ptr 0 0)), (6, AV.s (sI (↑0 : Int)))]) [(0, some (Blk.mk [SV.slv 0 none 3 []] true))] 1)), (CD B 15 [] [] 0 (AV.s (SV.ptr 0 0)) ([(0, some (Blk.mk [SV.slv 0 none 3 []] true))] ++ []) 1)]) (by kernel_rfl) ⟨by (apply known_call), cT (by first | assumption | omega), claim_i (by exact wrap_i64 (by omega) (by omega)), cT (by first | assumption | omega), by (apply trE_c <;> first | omega), cF (by first | assumption | omega), by (apply deE_c <;> first | omega), by (apply every_c), by (apply v3_c <;> first | exact hw), by (apply hl <;> first | exact hw | exact el23 | exact el22 | exact sz28 | exact sz25 | exact by28 | exact by25 | exact zr28 | exact zr25 | exact ag28 | exact ag25 | exact un9 | assumption | rfl | omega | (unfold maxLen; omega) | decide | (simp; done) | (simp; omega)), by (apply new_c), trivial⟩
end Go.Proofs.Ytaelliigpclipaa.V
namespace Go.Proofs.Ytaelliigpclipaa.V
open Go Go.RowKit Go.Proofs Go.Proofs.Ytaelliigpclipaa.Eng Go.Proofs.Ytaelliigpclipaa.VPl
set_option linter.unusedVariables false
set_option linter.unusedSimpArgs false

theorem nm4_less {i j : Nat} (hij : i < j) (hj : j < 4) : Op.bytesLess (nm4 i).data.toList (nm4 j).data.toList = true := by
  have : ∀ i j : Fin 4, i < j → Op.bytesLess (nm4 i).data.toList (nm4 j).data.toList = true := by decide
  exact this ⟨i, by omega⟩ ⟨j, hj⟩ hij
theorem nm4_name (k : Nat) : nameB (nm4 k) = true := by
  unfold nm4
  split
  · decide
  split
  · decide
  split
  · decide
  · decide
theorem cut3_size (s : ByteArray) : (cut3 s).size ≤ 3 := by
  unfold cut3
  split
  · rw [ByteArray.size_extract]; omega
  · omega
theorem tame_app_fine (C : List Cl) (k : Nat) : ∀ c ∈ tame_app C k, fineB c = true ∧ c.col = nm4 k := by
  intro c hc
  unfold tame_app at hc
  split at hc
  · cases hc
  · split at hc
    · rw [List.mem_singleton] at hc; subst hc
      simp [fineB, nm4_name]
    · rw [List.mem_singleton] at hc; subst hc
      have h3 := cut3_size (C.getD k Cl0).s
      refine ⟨?_, rfl⟩
      unfold fineB
      show (if (2 : Int) = 1 then _ else if (2 : Int) = 2 then _ else _) = true
      rw [if_neg (show ¬ (2 : Int) = 1 by decide), if_pos rfl, nm4_name]
      have h4 : (cut3 (C.getD k Cl0).s).size ≤ 40 := by omega
      show (true && true && decide ((cut3 (C.getD k Cl0).s).size ≤ 40)) = true
      rw [decide_eq_true h4]; rfl
theorem tame_cells (C : List Cl) : ∀ k, k ≤ 4 → (coll (tame_app C) k).Pairwise (fun a b => Op.bytesLess a.col.data.toList b.col.data.toList = true) ∧ ∀ c ∈ coll (tame_app C) k, fineB c = true ∧ ∃ j, j < k ∧ c.col = nm4 j := by
  intro k
  induction k with
  | zero => intro _; exact ⟨List.Pairwise.nil, fun c hc => by cases hc⟩
  | succ k ih =>
    intro hk
    obtain ⟨h1, h2⟩ := ih (by omega)
    rw [coll_succ]
    refine ⟨List.pairwise_append.2 ⟨h1, ?_, fun a ha b hb => ?_⟩, fun c hc => ?_⟩
    · have := tame_app_len C k
      match h : tame_app C k, this with
      | [], _ => exact List.Pairwise.nil
      | [x], _ => exact List.pairwise_singleton _ _
    · obtain ⟨_, j, hj, e1⟩ := h2 a ha
      obtain ⟨_, e2⟩ := tame_app_fine C k b hb
      rw [e1, e2]
      exact nm4_less hj (by omega)
    · rcases List.mem_append.1 hc with hc | hc
      · obtain ⟨q1, j, q2, q3⟩ := h2 c hc
        exact ⟨q1, j, by omega, q3⟩
      · obtain ⟨q1, q2⟩ := tame_app_fine C k c hc
        exact ⟨q1, k, by omega, q2⟩
theorem tame_len (x : Rw) (i : Int) : (tame x i).cells.length ≤ 4 := by
  unfold tame
  have := coll_len1 (tame_app_len x.cells) (min 4 x.cells.length)
  show (coll (tame_app x.cells) (min 4 x.cells.length)).length ≤ 4
  omega
theorem tame_seq (x : Rw) (i : Int) : (tame x i).seq = i := by unfold tame; rfl
theorem tame_time (x : Rw) (i : Int) : -100 < (tame x i).time ∧ (tame x i).time < 100 := by
  unfold tame
  show -100 < x.time.tmod 100 ∧ x.time.tmod 100 < 100
  have h1 := Int.tmod_lt_of_pos x.time (show (0 : Int) < 100 by decide)
  refine ⟨?_, h1⟩
  rcases Int.le_total 0 x.time with h | h
  · have := Int.tmod_nonneg 100 h; omega
  · have h2 := Int.tmod_lt_of_pos (-x.time) (show (0 : Int) < 100 by decide)
    rw [Int.neg_tmod] at h2
    omega
theorem tame_right (x : Rw) (i : Int) (h0 : 0 ≤ i) (h1 : i ≤ 1000) : rightB (tame x i) = true := by
  have ht := tame_time x i
  have hs := tame_seq x i
  have hl := tame_len x i
  unfold rightB
  have e : (decide ((tame x i).time < -1099511627776) || decide ((tame x i).time > 1099511627776) || decide ((tame x i).seq < 0) || decide ((tame x i).seq > 1073741824) || decide ((tame x i).cells.length > 8)) = false := by
    rw [hs]
    simp only [Bool.or_eq_false_iff, decide_eq_false_iff_not]
    omega
  rw [e]
  simp only [Bool.not_false, Bool.true_and, List.all_eq_true, List.mem_range]
  have hc : (tame x i).cells = coll (tame_app x.cells) (min 4 x.cells.length) := by unfold tame; rfl
  rw [hc]
  obtain ⟨p1, p2⟩ := tame_cells x.cells (min 4 x.cells.length) (by omega)
  intro k hk
  unfold cellOk
  rw [Bool.and_eq_true]
  refine ⟨(p2 _ (getD_mem hk)).1, ?_⟩
  by_cases h : k > 0
  · have := List.pairwise_iff_getElem.1 p1 (k - 1) k (by omega) hk (by omega)
    have e1 : ∀ (M : List Cl) (j : Nat) (hj : j < M.length), M.getD j Cl0 = M[j] := fun M j hj => by simp [hj]
    rw [e1 _ (k - 1) (by omega), e1 _ k hk, geS, this]
    simp
  · rw [decide_eq_false h]; rfl
theorem right_bare (x : Rw) (i : Int) (h0 : 0 ≤ i) (h1 : i ≤ 1000) : rightB ⟨(tame x i).time, (tame x i).seq, []⟩ = true := by
  have ht := tame_time x i
  have hs := tame_seq x i
  unfold rightB
  simp only [List.length_nil, List.range_zero, List.all_nil, Bool.and_true, Bool.not_eq_true', Bool.or_eq_false_iff, decide_eq_false_iff_not]
  rw [hs]
  omega
/-! ### Order -/
theorem risesB_iff (L : List Rw) : risesB L = true ↔ L.Pairwise ltR := by
  unfold risesB
  rw [List.all_eq_true]
  constructor
  · intro h
    refine pairwise_of_next (R := ltR) (fun x y z h k => ltR_trans h k) L fun k hk => ?_
    have := h k (List.mem_range.2 (by omega))
    exact cmp_lt.1 (of_decide_eq_true this)
  · intro h k hk
    rw [List.mem_range] at hk
    exact decide_eq_true (cmp_lt.2 (next_of_pairwise h (Nat.lt_succ_self k) (by omega)))
theorem strict_of {M : List Rw} (h : M.Pairwise (fun a b => ¬ ltR b a)) (k : M.Pairwise (fun a b => keyR a ≠ keyR b)) : M.Pairwise ltR :=
  (h.and k).imp fun {a b} ⟨h1, h2⟩ => ltR_total h1 (fun e => h2 e.symm)
theorem key_ne_symm : ∀ {a b : Rw}, keyR a ≠ keyR b → keyR b ≠ keyR a := fun h e => h e.symm
/-- The first k rows, tame. -/
def tames (L : List Rw) (k : Nat) : List Rw := (List.range k).map fun i => tame (L.getD i Rw0) (i : Int)
theorem tames_succ (L : List Rw) (k : Nat) : tames L (k + 1) = tames L k ++ [tame (L.getD k Rw0) (k : Int)] := by
  unfold tames; rw [List.range_succ, List.map_append]; rfl
theorem tb_perm (L : List Rw) : ∀ k, (tb L k).Perm (tames L k)
  | 0 => List.Perm.refl _
  | k + 1 => by
    rw [tames_succ, tb]
    exact (isort0_perm' _).trans ((tb_perm L k).append_right _)
theorem tames_seqs (L : List Rw) (k : Nat) : (tames L k).map (·.seq) = (List.range k).map (fun i : Nat => (i : Int)) := by
  unfold tames
  rw [List.map_map]
  exact List.map_congr_left fun i _ => tame_seq _ _
theorem tames_apart (L : List Rw) (k : Nat) : (tames L k).Pairwise (fun a b => keyR a ≠ keyR b) := by
  have h : ((tames L k).map (·.seq)).Pairwise (fun a b => a ≠ b) := by
    rw [tames_seqs, List.pairwise_map]
    exact (List.pairwise_lt_range).imp fun {a b} h e => by omega
  rw [List.pairwise_map] at h
  exact h.imp fun {a b} h e => h (by simp only [keyR, Prod.mk.injEq] at e; exact e.2)
theorem tames_mem {L : List Rw} {k : Nat} {x : Rw} (h : x ∈ tames L k) : ∃ i, i < k ∧ x = tame (L.getD i Rw0) (i : Int) := by
  unfold tames at h
  obtain ⟨i, hi, rfl⟩ := List.mem_map.1 h
  exact ⟨i, List.mem_range.1 hi, rfl⟩
theorem tb_len (L : List Rw) (k : Nat) : (tb L k).length = k := by
  rw [(tb_perm L k).length_eq]; simp [tames]
theorem round_ok (L : List Rw) (i : Nat) (hi : i ≤ 1000) : RoundOk L (tb L i) i := by
  have hp : (tb L (i + 1)).Perm (tames L (i + 1)) := tb_perm L (i + 1)
  refine ⟨tame_right _ _ (by omega) (by omega), ?_, ?_, right_bare _ _ (by omega) (by omega), fun x hx => ?_, tb_len L i⟩
  · show risesB (tb L (i + 1)) = true
    rw [risesB_iff]
    exact strict_of (isort0_sorted _) ((hp.pairwise_iff (R := fun a b => keyR a ≠ keyR b) key_ne_symm).2 (tames_apart L (i + 1)))
  · generalize hr : tame (L.getD i Rw0) (i : Int) = r
    cases hb : risesB (isort0 (isort0 (tb L i ++ [r]) ++ [⟨500, 900, []⟩, ⟨r.time, r.seq, []⟩])) with
    | false => rfl
    | true =>
      exfalso
      have h1 := (risesB_iff _).1 hb
      have h2 : (isort0 (isort0 (tb L i ++ [r]) ++ [⟨500, 900, []⟩, ⟨r.time, r.seq, []⟩])).Pairwise (fun a b => keyR a ≠ keyR b) := h1.imp fun {a b} h e => by
        simp only [keyR, Prod.mk.injEq] at e
        unfold ltR at h; omega
      have h3 := ((isort0_perm' _).pairwise_iff (R := fun a b => keyR a ≠ keyR b) key_ne_symm).1 h2
      have h4 := (List.pairwise_append.1 h3).2.2 r (isort0_mem.2 (by simp)) ⟨r.time, r.seq, []⟩ (by simp)
      exact h4 rfl
  · rcases List.mem_append.1 hx with hx | hx
    · obtain ⟨j, _, rfl⟩ := tames_mem ((tb_perm L i).mem_iff.1 hx)
      exact tame_len _ _
    · rw [List.mem_singleton] at hx; subst hx; exact tame_len _ _
theorem range_above (w : Nat) : ∀ n, ((List.range n).filter (fun k => decide (w ≤ k))).length = n - w
  | 0 => by simp
  | n + 1 => by
    rw [List.range_succ, List.filter_append, List.length_append, range_above w n]
    by_cases h : w ≤ n
    · simp [h]; omega
    · simp [h]; omega
theorem left_len (L : List Rw) (n w : Nat) : ((tb L n).filter (fun x => !delB every (w : Int) x)).length = n - w := by
  rw [((tb_perm L n).filter _).length_eq]
  unfold tames
  rw [List.filter_map, List.length_map, ← range_above w n]
  congr 1
  refine List.filter_congr fun k _ => ?_
  simp only [Function.comp_apply, delB, every_eval, tame_seq, Bool.and_true]
  by_cases h : w ≤ k
  · rw [decide_eq_true h, decide_eq_false (by omega)]; rfl
  · rw [decide_eq_false h, decide_eq_true (by omega)]; rfl
theorem left_seq (L : List Rw) (n w : Nat) : ∀ x ∈ (tb L n).filter (fun x => !delB every (w : Int) x), ¬ x.seq < (w : Int) := by
  intro x hx
  have := (List.mem_filter.1 hx).2
  simp only [delB, every_eval, Bool.and_true, Bool.not_eq_true', decide_eq_false_iff_not] at this
  exact this
theorem tb_cells (L : List Rw) (n : Nat) : ∀ x ∈ tb L n, x.cells.length ≤ 4 := fun x hx => by
  obtain ⟨j, _, rfl⟩ := tames_mem ((tb_perm L n).mem_iff.1 hx)
  exact tame_len _ _
end Go.Proofs.Ytaelliigpclipaa.V
namespace Go.Proofs.Ytaelliigpclipaa.V
open Go Go.RowKit Go.Proofs Go.Proofs.Ytaelliigpclipaa.Eng Go.Proofs.Ytaelliigpclipaa.VPl
set_option maxRecDepth 100000
set_option linter.unusedVariables false
set_option linter.unusedSimpArgs false
attribute [local irreducible] Eng.evAppend Eng.evSlice Eng.less CallDoes Eng.loadG Eng.evIndexAddr Eng.evBin
attribute [local irreducible] ValDoes
theorem wi_1 {B : Nat} (n t : Int) (ht : n.tmod 21 = t) (h1 : -20 ≤ t ∧ t ≤ 20) (h_1 : Int.tmod n 21 < 0) : CodeDoes Try.prog B (Try.f22.body.getD .skip) ⟨⟨24, [(0, .s (.int .i64 n)), (1, .s (.int .i64 0)), (2, .s (.int .i64 20))]⟩, [], 0⟩ Ex.ret ⟨⟨24, [(6, AV.s (SV.int IntKind.i64 (0 + (Int.tmod n 21 + 20 - 0 + 1))))]⟩, [], 0⟩ :=
  goA_ok mix (tape := [(9, aT), (12, Ans.val (AV.s (sI (Int.tmod n 21 + 20)))), (14, Ans.val (AV.s (sI (Int.tmod n 21 + 20 - 0)))), (15, Ans.val (AV.s (sI (Int.tmod n 21 + 20 - 0 + 1)))), (19, Ans.val (AV.s (sI (0 + (Int.tmod n 21 + 20 - 0 + 1)))))]) (dl := [6]) (nl := []) (C := [(some (AV.s (sI (wI (0 + (Int.tmod n 21 + 20 - 0 + 1))))) = some (AV.s (sI (0 + (Int.tmod n 21 + 20 - 0 + 1))))), (some (AV.s (sI (wI (Int.tmod n 21 + 20 - 0 + 1)))) = some (AV.s (sI (Int.tmod n 21 + 20 - 0 + 1)))), (some (AV.s (sI (wI (Int.tmod n 21 + 20 - 0)))) = some (AV.s (sI (Int.tmod n 21 + 20 - 0)))), (some (AV.s (sI (wI (Int.tmod n 21 + 20)))) = some (AV.s (sI (Int.tmod n 21 + 20)))), (IsT (decide (Int.tmod n 21 < 0)))]) (by kernel_rfl) ⟨claim_i (by exact wrap_i64 (by omega) (by omega)), claim_i (by exact wrap_i64 (by omega) (by omega)), claim_i (by exact wrap_i64 (by omega) (by omega)), claim_i (by exact wrap_i64 (by omega) (by omega)), cT (by first | assumption | omega), trivial⟩
theorem wi_2 {B : Nat} (n t : Int) (ht : n.tmod 21 = t) (h1 : -20 ≤ t ∧ t ≤ 20) (h_1 : ¬ (Int.tmod n 21 < 0)) : CodeDoes Try.prog B (Try.f22.body.getD .skip) ⟨⟨24, [(0, .s (.int .i64 n)), (1, .s (.int .i64 0)), (2, .s (.int .i64 20))]⟩, [], 0⟩ Ex.ret ⟨⟨24, [(6, AV.s (SV.int IntKind.i64 (0 + Int.tmod n 21)))]⟩, [], 0⟩ :=
  goA_ok mix (tape := [(9, aF), (12, Ans.val (AV.s (sI (0 + Int.tmod n 21))))]) (dl := [6]) (nl := []) (C := [(some (AV.s (sI (wI (0 + Int.tmod n 21)))) = some (AV.s (sI (0 + Int.tmod n 21)))), (IsF (decide (Int.tmod n 21 < 0)))]) (by kernel_rfl) ⟨claim_i (by exact wrap_i64 (by omega) (by omega)), cF (by first | assumption | omega), trivial⟩

theorem tmod_bounds (n : Int) : -20 ≤ n.tmod 21 ∧ n.tmod 21 ≤ 20 := by
  have h1 := Int.tmod_lt_of_pos n (show (0 : Int) < 21 by decide)
  rcases Int.le_total 0 n with h | h
  · have := Int.tmod_nonneg 21 h; omega
  · have h2 := Int.tmod_lt_of_pos (-n) (show (0 : Int) < 21 by decide)
    rw [Int.neg_tmod] at h2
    omega
theorem within_does (n : Int) : ∃ w : Nat, w ≤ 20 ∧ ValDoes Try.prog 22 [.s (.int .i64 n), .s (.int .i64 0), .s (.int .i64 20)] (.s (.int .i64 (w : Int))) := by
  have hb := tmod_bounds n
  by_cases h : n.tmod 21 < 0
  · refine ⟨(n.tmod 21 + 21).toNat, by omega, ?_⟩
    have e : (((n.tmod 21 + 21).toNat : Nat) : Int) = (0 + (Int.tmod n 21 + 20 - 0 + 1)) := by omega
    rw [e]
    exact ValDoes.of_code Try.func22 (by kernel_rfl) (by kernel_rfl) (k := 24) (by kernel_rfl) (fun B => ⟨_, _, .inr rfl, wi_1 n _ rfl hb h, by kernel_rfl⟩) (by kernel_rfl) (List.all_eq_true.1 (by kernel_rfl))
  · refine ⟨(n.tmod 21).toNat, by omega, ?_⟩
    have e : (((n.tmod 21).toNat : Nat) : Int) = (0 + Int.tmod n 21) := by omega
    rw [e]
    exact ValDoes.of_code Try.func22 (by kernel_rfl) (by kernel_rfl) (k := 24) (by kernel_rfl) (fun B => ⟨_, _, .inr rfl, wi_2 n _ rfl hb h, by kernel_rfl⟩) (by kernel_rfl) (List.all_eq_true.1 (by kernel_rfl))
theorem memNumbersApart_does (L : List Rw) (below : Int) : ValDoes Try.prog 5 [.s (.slv L.length none 3 (flat Rw.cv L)), .s (.int .i64 below)] (.s (.bool true)) := by
  obtain ⟨w, hw2, hw⟩ := within_does below
  have hc := tb_cells L (min L.length 15)
  have hr : ∀ x ∈ tb L (min L.length 15), x.cells.length ≤ 140737488351232 := fun x hx => Nat.le_trans (hc x hx) (by decide)
  have hlen := tb_len L (min L.length 15)
  have hll := left_len L (min L.length 15) w
  have hloop := fun B => na_loop (B := B) (L := L) (below := below) (fun i hi => round_ok L i (by omega))
  by_cases h0 : min L.length 15 = 0
  · have hl : ∀ B, _ := fun B => ((hloop B).resolve_right (fun h => by have := h.1; simp [h0] at this)).2
    by_cases hww : ((0 : Nat) : Int) < (w : Int)
    · exact ValDoes.of_code Try.func5 (by kernel_rfl) (by kernel_rfl) (k := 98) (by kernel_rfl) (fun B => ⟨_, _, .inr rfl, naN_1 L [] [] below 0 w (hl B) hw hw2 hww, by kernel_rfl⟩) (by kernel_rfl) (List.all_eq_true.1 (by kernel_rfl))
    · exact ValDoes.of_code Try.func5 (by kernel_rfl) (by kernel_rfl) (k := 98) (by kernel_rfl) (fun B => ⟨_, _, .inr rfl, naN_2 L [] [] below 0 w (hl B) hw hw2 hww, by kernel_rfl⟩) (by kernel_rfl) (List.all_eq_true.1 (by kernel_rfl))
  · have hl : ∀ B, _ := fun B => ((hloop B).resolve_left (fun h => by have := h.1; simp [h0] at this)).2
    by_cases hz : (tb L (min L.length 15)).filter (fun x => !delB every (w : Int) x) = []
    · have hnw : min L.length 15 ≤ w := by rw [hz] at hll; simp at hll; omega
      by_cases hww : ((min L.length 15 : Nat) : Int) < (w : Int)
      · exact ValDoes.of_code Try.func5 (by kernel_rfl) (by kernel_rfl) (k := 98) (by kernel_rfl) (fun B => ⟨_, _, .inr rfl, naZ_1 L _ [] below (min L.length 15) w (hl B) hw (by omega) hw2 hlen hr hz hnw hww, by kernel_rfl⟩) (by kernel_rfl) (List.all_eq_true.1 (by kernel_rfl))
      · exact ValDoes.of_code Try.func5 (by kernel_rfl) (by kernel_rfl) (k := 98) (by kernel_rfl) (fun B => ⟨_, _, .inr rfl, naZ_2 L _ [] below (min L.length 15) w (hl B) hw (by omega) hw2 hlen hr hz hnw hww, by kernel_rfl⟩) (by kernel_rfl) (List.all_eq_true.1 (by kernel_rfl))
    · exact ValDoes.of_code Try.func5 (by kernel_rfl) (by kernel_rfl) (k := 98) (by kernel_rfl) (fun B => ⟨_, _, .inr rfl, naP_1 L _ _ below (min L.length 15) w (hl B) hw (by omega) hw2 hlen hr rfl (fun x hx => Nat.le_trans (hc x (List.mem_filter.1 hx).1) (by decide)) (List.length_pos_iff.2 hz) hll (left_seq L _ w), by kernel_rfl⟩) (by kernel_rfl) (List.all_eq_true.1 (by kernel_rfl))
end Go.Proofs.Ytaelliigpclipaa.V
namespace Go.Proofs.Ytaelliigpclipaa.V
open Go Go.RowKit Go.Proofs Go.Proofs.Ytaelliigpclipaa.Eng Go.ChangeShapes Go.WideShapes Go.ChangeAt
set_option maxRecDepth 100000
set_option linter.unusedVariables false
set_option linter.unusedSimpArgs false

def ClOk (x : Cl) : Prop := x.col.size ≤ 140737488351232 ∧ (Lit.int .i64 x.kind).wf = true ∧ (Lit.int .i64 x.n).wf = true ∧ x.s.size ≤ 140737488351232
def ClsOk (L : List Cl) : Prop := (∀ z ∈ L, ClOk z ∧ z.cv.length = 4) ∧ L.length ≤ maxLen ∧ L.length * 48 ≤ 140737488351232
def RwOk (x : Rw) : Prop := (Lit.int .i64 x.time).wf = true ∧ (Lit.int .i64 x.seq).wf = true ∧ ClsOk x.cells
def RwsOk (L : List Rw) : Prop := (∀ z ∈ L, RwOk z ∧ z.cv.length = 3) ∧ L.length ≤ maxLen ∧ L.length * 40 ≤ 140737488351232
theorem opens_cl {H : Type} {enc : TypeId × Value → H} {W : World} {base : Nat} {spare : Nat → Bool} {held : Bool} : OpensD enc Try.prog W base spare held 28 4 Cl.cv ClOk :=
  (opensD_struct (f := fun v : ByteArray × Int × Int × ByteArray => [.str v.1] ++ ([.int .i64 v.2.1] ++ ([.int .i64 v.2.2.1] ++ [.str v.2.2.2]))) (fun v => ⟨v.1, v.2.1, v.2.2.1, v.2.2.2⟩) (fun _ => rfl) Try.underlying28 (by kernel_rfl)
    (opensE_cons rfl (by kernel_rfl) (opensD_string Try.underlying9) (opensE_cons rfl (by kernel_rfl) (opensD_int Try.underlying3) (opensE_cons rfl (by kernel_rfl) (opensD_int Try.underlying2) (opensE_one rfl (by kernel_rfl) (opensD_string Try.underlying9)))))).weak
    (fun b hb => by
      obtain ⟨v, rfl, h⟩ := hb
      exact h)
theorem opens_cls {H : Type} {enc : TypeId × Value → H} {W : World} {base : Nat} {spare : Nat → Bool} {held : Bool} : OpensD enc Try.prog W base spare held 23 1 (fun L : List Cl => [.slv L.length none 4 (flat Cl.cv L)]) ClsOk :=
  (opensD_slice Try.underlying23 (by kernel_rfl) (by decide) (B := 48) (by kernel_rfl) Cl_len opens_cl).weak (fun _ h => h)
theorem opens_rw {H : Type} {enc : TypeId × Value → H} {W : World} {base : Nat} {spare : Nat → Bool} {held : Bool} : OpensD enc Try.prog W base spare held 25 3 Rw.cv RwOk :=
  (opensD_struct (f := fun v : Int × Int × List Cl => [.int .i64 v.1] ++ ([.int .i64 v.2.1] ++ [.slv v.2.2.length none 4 (flat Cl.cv v.2.2)])) (fun v => ⟨v.1, v.2.1, v.2.2⟩) (fun _ => rfl) Try.underlying25 (by kernel_rfl)
    (opensE_cons rfl (by kernel_rfl) (opensD_int Try.underlying2) (opensE_cons rfl (by kernel_rfl) (opensD_int Try.underlying3) (opensE_one (sz := 1) (f := fun L : List Cl => [.slv L.length none 4 (flat Cl.cv L)]) (good := ClsOk) rfl (by kernel_rfl) opens_cls)))).weak
    (fun b hb => by
      obtain ⟨v, rfl, h⟩ := hb
      exact h)
theorem opens_rws {H : Type} {enc : TypeId × Value → H} {W : World} {base : Nat} {spare : Nat → Bool} {held : Bool} : OpensD enc Try.prog W base spare held 22 1 (fun L : List Rw => [.slv L.length none 3 (flat Rw.cv L)]) RwsOk :=
  (opensD_slice Try.underlying22 (by kernel_rfl) (by decide) (B := 40) (by kernel_rfl) Rw_len opens_rw).weak (fun _ h => h)
end Go.Proofs.Ytaelliigpclipaa.V
