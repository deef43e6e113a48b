/- Chapter 8: contracts of the zone's functions. Printed by gen_zonec.py. -/
import Derived.Test.YtgejenhcloiieaaZB
import Derived.Test.YtgejenhcloiieaaEngR
import Derived.Test.YtgejenhcloiieaaProg
import Derived.KernelRfl
namespace Go.Proofs.Ytgejenhcloiieaa.Z8
open Go Go.RowKit Go.Proofs Go.Proofs.Ytgejenhcloiieaa.Eng
set_option linter.unusedVariables false
set_option linter.unusedSimpArgs false

theorem zn_get {x : Option Blk} {k n : Nat} {b : Blk} (h : get [(k, x)] n = some b) : k = n ∧ x = some b := by
  rcases get_cons_some h with h | h
  · exact h
  · cases h
/-- Contracts of functions that look at one block and change nothing: under whatever names. -/
theorem call_one {B : Nat} {f : FuncId} {fn : Func} {body : Code} {args0 args : List AV} {b : Blk} {v : AV} {e : Ex} {s' : St} {n c k : Nat} (hf : Try.prog.funcs[f]? = some fn) (hb : fn.body = some body) (hname : (fn.name == "runtime.NumGoroutine") = false) (hk : args0.length + (fn.ntmps - args0.length) = k)
    (h : CodeDoes Try.prog B body ⟨⟨k, enum 0 args0⟩, [(0, some b)], 1⟩ e s') (he : e = .normal ∨ e = .ret) (hr : evResults Try.prog fn s' = some v) (hs' : get s'.m 0 = some b) (hb0 : blkN b = []) (hbr : ∀ σ, rnB σ b = b) (hv : avNames v = []) (hvr : ∀ σ, rnX σ v = v)
    (ha : ∀ x ∈ args0, ∀ n ∈ avNames x, n = 0) (har : args0.map (rnX (fun _ => n)) = args) (hn : n < c) : CallDoes Try.prog B f args [(n, some b)] c v ([(n, some b)] ++ [(n, some b)]) c := by
  have h1 := CallDoes.of_code hf hb hname hk h he hr [(0, some b)] (fun n b' h => by obtain ⟨rfl, h⟩ := zn_get h; exact hs'.trans h) (fun n b' h => ⟨_, List.mem_cons_self .., (zn_get h).1⟩) (fun x hx => .inl (by simp only [List.mem_cons, List.not_mem_nil, or_false] at hx; subst hx; exact ⟨_, rfl⟩))
  have h2 := h1.names (D0 := [(0, some b)]) (fun _ => n) [0] (c := c) (c' := c) ⟨by simp, by simp; omega, by simp, by omega⟩
    (fun x hx n hn => by obtain rfl := ha x hx n hn; exact ⟨by simp, by omega⟩) (by simp) (names_get (by simp [hb0])) (by simp [hv]) (by simp) (names_get' (by simp [hb0])) (fun n b' h => by obtain ⟨rfl, h⟩ := zn_get h; exact h)
    (fun e he _ _ => ⟨_, List.mem_cons_self .., by simp only [List.mem_cons, List.not_mem_nil, or_false] at he; subst he; rfl⟩) (fun x hx _ => by simp only [List.mem_cons, List.not_mem_nil, or_false] at hx; subst hx; exact ⟨_, rfl⟩)
  rw [har, hvr] at h2
  simp only [rnM, List.map_cons, List.map_nil, Option.map_some, hbr] at h2
  exact h2
/-- Contracts of functions that look at no memory. -/
theorem call_none {B : Nat} {f : FuncId} {fn : Func} {body : Code} {args : List AV} {v : AV} {e : Ex} {s' : St} {c k : Nat} (hf : Try.prog.funcs[f]? = some fn) (hb : fn.body = some body) (hname : (fn.name == "runtime.NumGoroutine") = false) (hk : args.length + (fn.ntmps - args.length) = k)
    (h : CodeDoes Try.prog B body ⟨⟨k, enum 0 args⟩, [], 0⟩ e s') (he : e = .normal ∨ e = .ret) (hr : evResults Try.prog fn s' = some v) (hv : avNames v = []) (hvr : ∀ σ, rnX σ v = v) (ha : ∀ x ∈ args, avNames x = []) (har : ∀ σ, args.map (rnX σ) = args) : CallDoes Try.prog B f args [] c v ([] ++ []) c := by
  have h1 := CallDoes.of_code hf hb hname hk h he hr [] (fun n b' h => by cases h) (fun n b' h => by cases h) (fun x hx => by cases hx)
  have h2 := h1.names (D0 := []) id [] (c := c) (c' := c) ⟨by simp, by simp, by simp, by omega⟩ (fun x hx n hn => by rw [ha x hx] at hn; cases hn) (by simp) (fun n b h => by cases h) (by simp [hv]) (by simp) (fun n b h => by cases h) (fun n b h => by cases h) (fun e he => by cases he) (fun x hx => by cases hx)
  rw [har, hvr] at h2
  exact h2
theorem zn_rn (z : Zn) (σ : Nat → Nat) : rnX σ (.agg z.cells) = .agg z.cells := rfl
theorem zn_nm (z : Zn) : avNames (.agg z.cells) = [] := rfl
theorem flat_rnB (σ : Nat → Nat) (L : List Cl) (o : Bool) : rnB σ ⟨flat Cl.cells L, o⟩ = ⟨flat Cl.cells L, o⟩ := by simp only [rnB, cl_bare.flat_rn]
theorem build_callA {B : Nat} {n c a len : Nat} {kind : Int} {A : List Cl} {cp : Option Nat} {o : Bool} (h : n < c) (hA : a + len ≤ A.length) (hl : len ≤ 1000000) (hk : kind = 1 ∨ kind = 2) :
    CallDoes Try.prog B 11 [.s (.int .i64 kind), .s (.sl n (a * 4) len cp 4)] [(n, some ⟨flat Cl.cells A, o⟩)] c (.agg (buildZ kind ((A.drop a).take len)).cells) ([(n, some ⟨flat Cl.cells A, o⟩)] ++ [(n, some ⟨flat Cl.cells A, o⟩)]) c :=
  call_one (args0 := [.s (.int .i64 kind), .s (.sl 0 (a * 4) len cp 4)]) Try.func11 (by kernel_rfl) (by kernel_rfl) (k := 57) (by kernel_rfl) (build_all kind A a len cp o hA hl hk) (.inr rfl) (by kernel_rfl) rfl (cl_bare.blk _ _) (fun σ => flat_rnB σ A o) (zn_nm _) (fun σ => zn_rn _ σ) (by simp [avNames, svNames]) rfl h
theorem build_call {B : Nat} {n c len : Nat} {kind : Int} {A : List Cl} {cp : Option Nat} {o : Bool} (h : n < c) (hA : len = A.length) (hl : len ≤ 1000000) (hk : kind = 1 ∨ kind = 2) :
    CallDoes Try.prog B 11 [.s (.int .i64 kind), .s (.sl n 0 len cp 4)] [(n, some ⟨flat Cl.cells A, o⟩)] c (.agg (buildZ kind A).cells) ([(n, some ⟨flat Cl.cells A, o⟩)] ++ [(n, some ⟨flat Cl.cells A, o⟩)]) c := by
  have := build_callA (B := B) (n := n) (c := c) (a := 0) (len := len) (kind := kind) (A := A) (cp := cp) (o := o) h (by omega) hl hk
  rw [Nat.zero_mul, List.drop_zero, hA, List.take_length] at this
  rw [hA]
  exact this

/-- Contracts of functions that look at one block and hand out a new row. -/
theorem call_fresh {B : Nat} {f : FuncId} {fn : Func} {body : Code} {args0 args : List AV} {b r : Blk} {len sz : Nat} {e : Ex} {s' : St} {n c k : Nat} (hf : Try.prog.funcs[f]? = some fn) (hb : fn.body = some body) (hname : (fn.name == "runtime.NumGoroutine") = false) (hk : args0.length + (fn.ntmps - args0.length) = k)
    (h : CodeDoes Try.prog B body ⟨⟨k, enum 0 args0⟩, [(0, some b)], 1⟩ e s') (he : e = .normal ∨ e = .ret) (hr : evResults Try.prog fn s' = some (.s (.sl 1 0 len none sz))) (hs' : get s'.m 0 = some b) (hs1 : get s'.m 1 = some r) (hc' : 1 < s'.c) (hb0 : blkN b = []) (hbr : ∀ σ, rnB σ b = b) (hr0 : blkN r = []) (hrr : ∀ σ, rnB σ r = r)
    (ha : ∀ x ∈ args0, ∀ n ∈ avNames x, n = 0) (har : args0.map (rnX (fun j => if j = 0 then n else c)) = args) (hn : n < c) : CallDoes Try.prog B f args [(n, some b)] c (.s (.sl c 0 len none sz)) ([(c, some r), (n, some b)] ++ [(n, some b)]) (c + 1) := by
  have two : ∀ {n : Nat} {b' : Blk}, get [(1, some r), (0, some b)] n = some b' → (n = 1 ∧ r = b') ∨ (n = 0 ∧ b = b') := by
    intro n b' h
    rcases get_cons_some h with ⟨rfl, h⟩ | h
    · exact .inl ⟨rfl, Option.some.inj h⟩
    · obtain ⟨rfl, h⟩ := zn_get h
      exact .inr ⟨rfl, Option.some.inj h⟩
  have h1 := CallDoes.of_code hf hb hname hk h he hr [(1, some r), (0, some b)] (fun n b' h => by
    rcases two h with ⟨rfl, rfl⟩ | ⟨rfl, rfl⟩
    · exact hs1
    · exact hs') (fun n b' h => ⟨(0, some b), by simp, (zn_get h).1⟩) (fun x hx => by
    simp only [List.mem_cons, List.not_mem_nil, or_false] at hx
    rcases hx with rfl | rfl
    · exact .inr ⟨by simp, hc'⟩
    · exact .inl ⟨_, rfl⟩)
  have h2 := h1.names (D0 := [(1, some r), (0, some b)]) (fun j => if j = 0 then n else c) [0, 1] (c := c) (c' := c + 1) ⟨by simp; omega, by simp; omega, by simp; omega, by omega⟩
    (fun x hx n hn => by obtain rfl := ha x hx n hn; exact ⟨by simp, by omega⟩) (by simp) (names_get (by simp [hb0])) (by simp [avNames, svNames]) (by simp) (names_get' (by simp [hb0, hr0])) (fun n b' h => by
      rcases two h with ⟨rfl, rfl⟩ | ⟨rfl, rfl⟩ <;> rfl)
    (fun e he hlt _ => by
      simp only [List.mem_cons, List.not_mem_nil, or_false] at he
      rcases he with rfl | rfl
      · exact ⟨(1, some r), by simp, rfl⟩
      · exact ⟨(0, some b), by simp, rfl⟩) (fun x hx hlt => by
      simp only [List.mem_cons, List.not_mem_nil, or_false] at hx
      rcases hx with rfl | rfl
      · exact absurd hlt (by simp)
      · exact ⟨_, rfl⟩)
  rw [har] at h2
  simp only [rnM, List.map_cons, List.map_nil, Option.map_some, hbr, hrr] at h2
  exact h2
theorem few_call {B : Nat} {n c len : Nat} {L : List Cl} {cp : Option Nat} {o : Bool} (h : n < c) (hl : len = L.length) (h0 : 0 < L.length) :
    CallDoes Try.prog B 10 [.s (.sl n 0 len cp 4)] [(n, some ⟨flat Cl.cells L, o⟩)] c (.s (.sl c 0 (fewL L).length none 4)) ([(c, some ⟨flat Cl.cells (fewL L), true⟩), (n, some ⟨flat Cl.cells L, o⟩)] ++ [(n, some ⟨flat Cl.cells L, o⟩)]) (c + 1) := by
  subst hl
  exact call_fresh (args0 := [.s (.sl 0 0 L.length cp 4)]) Try.func10 (by kernel_rfl) (by kernel_rfl) (k := 33) (by kernel_rfl) (few_all L cp o h0) (.inr rfl) (by kernel_rfl) rfl rfl (show 1 < 2 by decide) (cl_bare.blk _ _) (fun σ => flat_rnB σ L o) (cl_bare.blk _ _) (fun σ => flat_rnB σ _ true) (by simp [avNames, svNames]) rfl h
theorem build_nil {B : Nat} (kind : Int) : CodeDoes Try.prog B (Try.f11.body.getD .skip) ⟨⟨57, [(0, .s (.int .i64 kind)), (1, .s .sl0)]⟩, [], 0⟩ Ex.ret ⟨⟨57, [(4, AV.s (SV.ptr 0 0))]⟩, [(0, some (Blk.mk [SV.int IntKind.i64 kind, SV.int IntKind.i64 0, SV.int IntKind.i64 0, SV.int IntKind.i64 0, SV.int IntKind.i64 0, SV.str (ByteArray.mk #[]), SV.str (ByteArray.mk #[])] true))], 2⟩ :=
  goA_ok mix (tape := [(11, Ans.rounds 1)]) (dl := [4]) (nl := [0]) (C := []) (by kernel_rfl) trivial
theorem build_emp {B : Nat} (kind : Int) (cp : Option Nat) : CodeDoes Try.prog B (Try.f11.body.getD .skip) ⟨⟨57, [(0, .s (.int .i64 kind)), (1, .s (.sl 0 0 0 cp 4))]⟩, [], 1⟩ Ex.ret ⟨⟨57, [(4, AV.s (SV.ptr 1 0))]⟩, [(1, some (Blk.mk [SV.int IntKind.i64 kind, SV.int IntKind.i64 0, SV.int IntKind.i64 0, SV.int IntKind.i64 0, SV.int IntKind.i64 0, SV.str (ByteArray.mk #[]), SV.str (ByteArray.mk #[])] true))], 3⟩ :=
  goA_ok mix (tape := [(11, Ans.rounds 1)]) (dl := [4]) (nl := [1]) (C := []) (by kernel_rfl) trivial
theorem few_emp {B : Nat} (cp : Option Nat) : CodeDoes Try.prog B (Try.f10.body.getD .skip) ⟨⟨33, [(0, .s (.sl 0 0 0 cp 4))]⟩, [], 1⟩ Ex.ret ⟨⟨33, [(2, AV.s SV.sl0)]⟩, [], 1⟩ :=
  goA_ok mix (tape := [(3, Ans.rounds 1)]) (dl := [2]) (nl := []) (C := []) (by kernel_rfl) trivial
theorem few_one_s {B : Nat} (x : Cl) (o : Bool) (cp : Option Nat) (hs : 41 < x.s.size) : CodeDoes Try.prog B (Try.f10.body.getD .skip) ⟨⟨33, [(0, .s (.sl 0 0 1 cp 4))]⟩, [(0, some ⟨x.cells, o⟩)], 1⟩ Ex.ret ⟨⟨33, [(2, AV.s (SV.sl 3 0 1 none 4))]⟩, [(0, some (Blk.mk [SV.str (Cl.col x), SV.int IntKind.i64 (Cl.kind x), SV.int IntKind.i64 (Cl.n x), SV.str (Cl.s x)] o)), (3, some (Blk.mk [SV.str (Cl.col x), SV.int IntKind.i64 (Cl.kind x), SV.int IntKind.i64 (Cl.n x), SV.str (ByteArray.extract (Cl.s x) 0 41)] true))], 4⟩ :=
  goA_ok mix (tape := [(3, Ans.rounds 2), (21, Ans.val (AV.s (SV.bool Bool.true))), (24, Ans.val (AV.s (SV.str (ByteArray.extract (Cl.s x) 0 41))))]) (dl := [2]) (nl := [0, 3]) (C := [((evSlice Try.prog 9 (AV.s (SV.str (Cl.s x))) none (some (AV.s (SV.int IntKind.i64 41))) none) = some (AV.s (SV.str (ByteArray.extract (Cl.s x) 0 41)))), (some (AV.s (SV.bool (decide ((↑(ByteArray.size (Cl.s x)) : Int) > 41)))) = some (AV.s (SV.bool Bool.true)))]) (by kernel_rfl) ⟨by (apply claim_strto <;> first | exact el22 | exact sz24 | exact by24 | exact zr24 | exact ag24 | exact un9 | rfl | assumption | omega | (unfold maxLen; omega) | decide), claim_b (by exact decide_eq_true (by omega)), trivial⟩
theorem few_one_n {B : Nat} (x : Cl) (o : Bool) (cp : Option Nat) (hs : ¬ 41 < x.s.size) : CodeDoes Try.prog B (Try.f10.body.getD .skip) ⟨⟨33, [(0, .s (.sl 0 0 1 cp 4))]⟩, [(0, some ⟨x.cells, o⟩)], 1⟩ Ex.ret ⟨⟨33, [(2, AV.s (SV.sl 3 0 1 none 4))]⟩, [(0, some (Blk.mk [SV.str (Cl.col x), SV.int IntKind.i64 (Cl.kind x), SV.int IntKind.i64 (Cl.n x), SV.str (Cl.s x)] o)), (3, some (Blk.mk [SV.str (Cl.col x), SV.int IntKind.i64 (Cl.kind x), SV.int IntKind.i64 (Cl.n x), SV.str (Cl.s x)] true))], 4⟩ :=
  goA_ok mix (tape := [(3, Ans.rounds 2), (21, Ans.val (AV.s (SV.bool Bool.false)))]) (dl := [2]) (nl := [0, 3]) (C := [(some (AV.s (SV.bool (decide ((↑(ByteArray.size (Cl.s x)) : Int) > 41)))) = some (AV.s (SV.bool Bool.false)))]) (by kernel_rfl) ⟨claim_b (by exact decide_eq_false (by omega)), trivial⟩
theorem within_y {B : Nat} (x : Int) (h : ¬ x.tmod 2 < 0) (h2 : x.tmod 2 < 2) : CodeDoes Try.prog B (Try.f9.body.getD .skip) ⟨⟨24, [(0, .s (.int .i64 x)), (1, .s (.int .i64 0)), (2, .s (.int .i64 1))]⟩, [], 0⟩ Ex.ret ⟨⟨24, [(3, AV.any), (4, AV.any), (5, AV.any), (6, AV.s (SV.int IntKind.i64 (0 + Int.tmod x 2)))]⟩, [], 0⟩ :=
  goA_ok mix (tape := [(9, Ans.val (AV.s (SV.bool Bool.false))), (12, Ans.val (AV.s (SV.int IntKind.i64 (0 + Int.tmod x 2))))]) (dl := [3, 4, 5, 6]) (nl := []) (C := [(some (AV.s (SV.int IntKind.i64 (IntKind.wrap IntKind.i64 (0 + Int.tmod x 2)))) = some (AV.s (SV.int IntKind.i64 (0 + Int.tmod x 2)))), (some (AV.s (SV.bool (decide (Int.tmod x 2 < 0)))) = some (AV.s (SV.bool Bool.false)))]) (by kernel_rfl) ⟨claim_i (by exact wrap_i64 (by omega) (by omega)), claim_b (by exact decide_eq_false (by omega)), trivial⟩
theorem within_n {B : Nat} (x : Int) (h : x.tmod 2 < 0) (h2 : -2 < x.tmod 2) : CodeDoes Try.prog B (Try.f9.body.getD .skip) ⟨⟨24, [(0, .s (.int .i64 x)), (1, .s (.int .i64 0)), (2, .s (.int .i64 1))]⟩, [], 0⟩ Ex.ret ⟨⟨24, [(3, AV.any), (4, AV.any), (5, AV.any), (6, AV.s (SV.int IntKind.i64 (0 + (Int.tmod x 2 + 1 - 0 + 1))))]⟩, [], 0⟩ :=
  goA_ok mix (tape := [(9, Ans.val (AV.s (SV.bool Bool.true))), (12, Ans.val (AV.s (SV.int IntKind.i64 (Int.tmod x 2 + 1)))), (14, Ans.val (AV.s (SV.int IntKind.i64 (Int.tmod x 2 + 1 - 0)))), (15, Ans.val (AV.s (SV.int IntKind.i64 (Int.tmod x 2 + 1 - 0 + 1)))), (19, Ans.val (AV.s (SV.int IntKind.i64 (0 + (Int.tmod x 2 + 1 - 0 + 1)))))]) (dl := [3, 4, 5, 6]) (nl := []) (C := [(some (AV.s (SV.int IntKind.i64 (IntKind.wrap IntKind.i64 (0 + (Int.tmod x 2 + 1 - 0 + 1))))) = some (AV.s (SV.int IntKind.i64 (0 + (Int.tmod x 2 + 1 - 0 + 1))))), (some (AV.s (SV.int IntKind.i64 (IntKind.wrap IntKind.i64 (Int.tmod x 2 + 1 - 0 + 1)))) = some (AV.s (SV.int IntKind.i64 (Int.tmod x 2 + 1 - 0 + 1)))), (some (AV.s (SV.int IntKind.i64 (IntKind.wrap IntKind.i64 (Int.tmod x 2 + 1 - 0)))) = some (AV.s (SV.int IntKind.i64 (Int.tmod x 2 + 1 - 0)))), (some (AV.s (SV.int IntKind.i64 (IntKind.wrap IntKind.i64 (Int.tmod x 2 + 1)))) = some (AV.s (SV.int IntKind.i64 (Int.tmod x 2 + 1)))), (some (AV.s (SV.bool (decide (Int.tmod x 2 < 0)))) = some (AV.s (SV.bool Bool.true)))]) (by kernel_rfl) ⟨claim_i (by exact wrap_i64 (by omega) (by omega)), claim_i (by exact wrap_i64 (by omega) (by omega)), claim_i (by exact wrap_i64 (by omega) (by omega)), claim_i (by exact wrap_i64 (by omega) (by omega)), claim_b (by exact decide_eq_true (by omega)), trivial⟩
theorem in_all {B : Nat} (z : Zn) : CodeDoes Try.prog B (Try.f13.body.getD .skip) ⟨⟨18, [(0, .agg z.cells)]⟩, [], 0⟩ Ex.ret ⟨⟨18, [(2, AV.s (SV.ptr 1 0))]⟩, [(1, some (Blk.mk [SV.int IntKind.i64 (Zn.kind z), SV.int IntKind.i64 (Zn.rows z), SV.int IntKind.i64 (Zn.nulls z), SV.int IntKind.i64 (Zn.minN z), SV.int IntKind.i64 (Zn.maxN z), SV.str (Zn.minS z), SV.str (Zn.maxS z)] true))], 2⟩ :=
  goA_ok mix (tape := []) (dl := [2]) (nl := [1]) (C := []) (by kernel_rfl) trivial
theorem few_nil {B : Nat}  : CodeDoes Try.prog B (Try.f10.body.getD .skip) ⟨⟨33, [(0, .s .sl0)]⟩, [], 0⟩ Ex.ret ⟨⟨33, [(2, AV.s SV.sl0)]⟩, [], 0⟩ :=
  goA_ok mix (tape := [(3, Ans.rounds 1)]) (dl := [2]) (nl := []) (C := []) (by kernel_rfl) trivial

/-- Contracts of functions that are handed a row that they do not look at. -/
theorem call_arg {B : Nat} {f : FuncId} {fn : Func} {body : Code} {args0 args : List AV} {v : AV} {e : Ex} {s' : St} {n c k : Nat} (hf : Try.prog.funcs[f]? = some fn) (hb : fn.body = some body) (hname : (fn.name == "runtime.NumGoroutine") = false) (hk : args0.length + (fn.ntmps - args0.length) = k)
    (h : CodeDoes Try.prog B body ⟨⟨k, enum 0 args0⟩, [], 1⟩ e s') (he : e = .normal ∨ e = .ret) (hr : evResults Try.prog fn s' = some v) (hv : avNames v = []) (hvr : ∀ σ, rnX σ v = v)
    (ha : ∀ x ∈ args0, ∀ n ∈ avNames x, n = 0) (har : args0.map (rnX (fun _ => n)) = args) (hn : n < c) : CallDoes Try.prog B f args [] c v ([] ++ []) c := by
  have h1 := CallDoes.of_code hf hb hname hk h he hr [] (fun n b' h => by cases h) (fun n b' h => by cases h) (fun x hx => by cases hx)
  have h2 := h1.names (D0 := []) (fun _ => n) [0] (c := c) (c' := c) ⟨by simp, by simp; omega, by simp, by omega⟩ (fun x hx n hn => by obtain rfl := ha x hx n hn; exact ⟨by simp, by omega⟩) (by simp) (fun n b h => by cases h) (by simp [hv]) (by simp) (fun n b h => by cases h) (fun n b h => by cases h) (fun e he => by cases he) (fun x hx => by cases hx)
  rw [har, hvr] at h2
  exact h2
theorem few_nil_call {B c : Nat} : CallDoes Try.prog B 10 [.s .sl0] [] c (.s .sl0) ([] ++ []) c :=
  call_none Try.func10 (by kernel_rfl) (by kernel_rfl) (k := 33) (by kernel_rfl) few_nil (.inr rfl) (by kernel_rfl) rfl (fun _ => rfl) (by simp [avNames, svNames]) (fun _ => rfl)
theorem few_emp_call {B n c : Nat} {cp : Option Nat} (h : n < c) : CallDoes Try.prog B 10 [.s (.sl n 0 0 cp 4)] [] c (.s .sl0) ([] ++ []) c :=
  call_arg (args0 := [.s (.sl 0 0 0 cp 4)]) Try.func10 (by kernel_rfl) (by kernel_rfl) (k := 33) (by kernel_rfl) (few_emp cp) (.inr rfl) (by kernel_rfl) rfl (fun _ => rfl) (by simp [avNames, svNames]) rfl h
theorem build_nil_call {B c : Nat} {kind : Int} {z : Zn} (hz : buildZ kind [] = z) : CallDoes Try.prog B 11 [.s (.int .i64 kind), .s .sl0] [] c (.agg z.cells) ([] ++ []) c := by
  subst hz
  exact call_none Try.func11 (by kernel_rfl) (by kernel_rfl) (k := 57) (by kernel_rfl) (build_nil kind) (.inr rfl) (by kernel_rfl) rfl (fun _ => rfl) (by simp [avNames, svNames]) (fun _ => rfl)
theorem build_emp_call {B n c : Nat} {kind : Int} {cp : Option Nat} {z : Zn} (h : n < c) (hz : buildZ kind [] = z) : CallDoes Try.prog B 11 [.s (.int .i64 kind), .s (.sl n 0 0 cp 4)] [] c (.agg z.cells) ([] ++ []) c := by
  subst hz
  exact call_arg (args0 := [.s (.int .i64 kind), .s (.sl 0 0 0 cp 4)]) Try.func11 (by kernel_rfl) (by kernel_rfl) (k := 57) (by kernel_rfl) (build_emp kind cp) (.inr rfl) (by kernel_rfl) rfl (fun _ => rfl) (by simp [avNames, svNames]) rfl h
theorem build_eq {B : Nat} {n c len : Nat} {kind : Int} {A : List Cl} {cp : Option Nat} {o : Bool} {z : Zn} (h : n < c) (hz : buildZ kind A = z) (hA : len = A.length) (hl : len ≤ 1000000) (hk : kind = 1 ∨ kind = 2) :
    CallDoes Try.prog B 11 [.s (.int .i64 kind), .s (.sl n 0 len cp 4)] [(n, some ⟨flat Cl.cells A, o⟩)] c (.agg z.cells) ([(n, some ⟨flat Cl.cells A, o⟩)] ++ [(n, some ⟨flat Cl.cells A, o⟩)]) c := by
  subst hz
  exact build_call h hA hl hk
theorem few_one_call {B n c : Nat} {a : ByteArray} {b d : Int} {s : ByteArray} {cp : Option Nat} {o : Bool} {y : Cl} (h : n < c) (hy : cutC ⟨a, b, d, s⟩ = y) :
    CallDoes Try.prog B 10 [.s (.sl n 0 1 cp 4)] [(n, some ⟨[.str a, .int .i64 b, .int .i64 d, .str s], o⟩)] c (.s (.sl c 0 1 none 4)) ([(c, some ⟨y.cells, true⟩), (n, some ⟨[.str a, .int .i64 b, .int .i64 d, .str s], o⟩)] ++ [(n, some ⟨[.str a, .int .i64 b, .int .i64 d, .str s], o⟩)]) (c + 1) := by
  subst hy
  have key : ∃ c', 1 < c' ∧ CodeDoes Try.prog B (Try.f10.body.getD .skip) ⟨⟨33, enum 0 [.s (.sl 0 0 1 cp 4)]⟩, [(0, some ⟨Cl.cells ⟨a, b, d, s⟩, o⟩)], 1⟩ .ret ⟨⟨33, [(2, .s (.sl 1 0 1 none 4))]⟩, [(0, some ⟨Cl.cells ⟨a, b, d, s⟩, o⟩), (1, some ⟨(cutC ⟨a, b, d, s⟩).cells, true⟩)], c'⟩ := by
    refine ⟨2, by omega, ?_⟩
    have pk : ∀ x : Cl, CodeDoes Try.prog B (Try.f10.body.getD .skip) ⟨⟨33, [(0, .s (.sl 0 0 1 cp 4))]⟩, [(0, some ⟨Cl.cells ⟨a, b, d, s⟩, o⟩)], 1⟩ .ret ⟨⟨33, [(2, .s (.sl 3 0 1 none 4))]⟩, [(0, some ⟨Cl.cells ⟨a, b, d, s⟩, o⟩), (3, some ⟨x.cells, true⟩)], 4⟩ →
        CodeDoes Try.prog B (Try.f10.body.getD .skip) ⟨⟨33, [(0, .s (.sl 0 0 1 cp 4))]⟩, [(0, some ⟨Cl.cells ⟨a, b, d, s⟩, o⟩)], 1⟩ .ret ⟨⟨33, [(2, .s (.sl 1 0 1 none 4))]⟩, [(0, some ⟨Cl.cells ⟨a, b, d, s⟩, o⟩), (1, some ⟨x.cells, true⟩)], 2⟩ := by
      intro x h
      have := h.names (fun k => if k = 3 then 1 else k) [0, 3] (c := 1) (c' := 2) ⟨by simp, by simp, by simp, by omega⟩ (by simp [avNames, svNames]) (by simp)
        (names_get (by simp [blkN_nil, blkN_int, blkN_str])) (by simp [avNames, svNames]) (by simp) (names_get' (by simp [blkN_nil, blkN_int, blkN_str]))
      exact this
    refine pk _ ?_
    by_cases hs : 41 < s.size
    · rw [show cutC ⟨a, b, d, s⟩ = ⟨a, b, d, s.extract 0 41⟩ from if_pos hs]
      exact few_one_s ⟨a, b, d, s⟩ o cp hs
    · rw [show cutC ⟨a, b, d, s⟩ = ⟨a, b, d, s⟩ from if_neg hs]
      exact few_one_n ⟨a, b, d, s⟩ o cp hs
  obtain ⟨c', hc', key⟩ := key
  exact call_fresh (args0 := [.s (.sl 0 0 1 cp 4)]) (b := ⟨Cl.cells ⟨a, b, d, s⟩, o⟩) (r := ⟨(cutC ⟨a, b, d, s⟩).cells, true⟩) Try.func10 (by kernel_rfl) (by kernel_rfl) (k := 33) (by kernel_rfl) key (.inr rfl) (by kernel_rfl) rfl rfl hc' rfl (fun _ => rfl) rfl (fun _ => rfl) (by simp [avNames, svNames]) rfl h
theorem in_call {B c : Nat} {zk zr zn za zb : Int} {zs zt : ByteArray} : CallDoes Try.prog B 13 [.agg [.int .i64 zk, .int .i64 zr, .int .i64 zn, .int .i64 za, .int .i64 zb, .str zs, .str zt]] [] c (.agg [.int .i64 zk, .int .i64 zr, .int .i64 zn, .int .i64 za, .int .i64 zb, .str zs, .str zt]) ([] ++ []) c :=
  call_none Try.func13 (by kernel_rfl) (by kernel_rfl) (k := 18) (by kernel_rfl) (in_all ⟨zk, zr, zn, za, zb, zs, zt⟩) (.inr rfl) (by kernel_rfl) rfl (fun _ => rfl) (by simp [avNames, svNames]) (fun _ => rfl)
theorem within_0 {B c : Nat} {x : Int} (h : x % 2 = 0) : CallDoes Try.prog B 9 [.s (.int .i64 x), .s (.int .i64 0), .s (.int .i64 1)] [] c (.s (.int .i64 0)) ([] ++ []) c := by
  have h0 : x.tmod 2 = 0 := Int.tmod_eq_zero_of_dvd (Int.dvd_of_emod_eq_zero h)
  have := within_y (B := B) x (by omega) (by omega)
  rw [h0] at this
  exact call_none Try.func9 (by kernel_rfl) (by kernel_rfl) (k := 24) (by kernel_rfl) this (.inr rfl) (by kernel_rfl) rfl (fun _ => rfl) (by simp [avNames, svNames]) (fun _ => rfl)
theorem within_1 {B c : Nat} {x : Int} (h : ¬ x % 2 = 0) : CallDoes Try.prog B 9 [.s (.int .i64 x), .s (.int .i64 0), .s (.int .i64 1)] [] c (.s (.int .i64 1)) ([] ++ []) c := by
  have h0 : x.tmod 2 ≠ 0 := fun e => h (Int.emod_eq_zero_of_dvd (Int.dvd_of_tmod_eq_zero e))
  have h1 := Int.tmod_lt_of_pos x (show (0 : Int) < 2 by omega)
  have h2 : -2 < Int.tmod x 2 := by
    have := Int.tmod_lt_of_pos (-x) (show (0 : Int) < 2 by omega)
    rw [Int.neg_tmod] at this
    omega
  rcases (show x.tmod 2 = 1 ∨ x.tmod 2 = -1 by omega) with e | e
  · have := within_y (B := B) x (by omega) (by omega)
    rw [e] at this
    exact call_none Try.func9 (by kernel_rfl) (by kernel_rfl) (k := 24) (by kernel_rfl) this (.inr rfl) (by kernel_rfl) rfl (fun _ => rfl) (by simp [avNames, svNames]) (fun _ => rfl)
  · have := within_n (B := B) x (by omega) (by omega)
    rw [e] at this
    exact call_none Try.func9 (by kernel_rfl) (by kernel_rfl) (k := 24) (by kernel_rfl) this (.inr rfl) (by kernel_rfl) rfl (fun _ => rfl) (by simp [avNames, svNames]) (fun _ => rfl)
def kst0 : St := ⟨⟨15, []⟩, [], 0⟩
def kst1 : St := (St.mk (Tm.mk 15 [(1, (AV.s (SV.ptr 10 0))), (0, (AV.s (SV.bool Bool.true)))]) [(10, (Option.some (Blk.mk [(i64 1), (i64 3), (i64 1), (i64 3), (i64 5), (SV.str (ByteArray.mk (Array.mk []))), (SV.str (ByteArray.mk (Array.mk [])))] Bool.true)))] 15)
theorem kck1 : goT Try.prog 2000 (Try.f12.body.getD .skip) kst0 [1, 0] [10] = some (Ex.ret, kst1) := by kernel_rfl
theorem kd1 {B : Nat} : CodeDoes Try.prog B (Try.f12.body.getD .skip) kst0 Ex.ret kst1 := goT_ok mix kck1
theorem kwhole {B : Nat} : CodeDoes Try.prog B (Try.f12.body.getD .skip) kst0 Ex.ret kst1 := kd1
theorem known_pure : PureDoes Try.prog 12 [] [] 0 (.s (.bool true)) := PureDoes.of_pieces (fn := Try.f12) (body := Try.f12.body.getD .skip) (e := Ex.ret) (s' := kst1) (by kernel_rfl) (by kernel_rfl) (by kernel_rfl) (by kernel_rfl) (fun B => kwhole) (.inr rfl) (by kernel_rfl)
theorem known_call {B c : Nat} : CallDoes Try.prog B 12 [] [] c (.s (.bool true)) ([] ++ []) c := PureDoes.call0 known_pure rfl (by simp) [] c
end Go.Proofs.Ytgejenhcloiieaa.Z8
