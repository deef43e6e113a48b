/- RowBack: the law answers true, whatever it is given. -/
import Derived.Test.YtnhleneknnbhaaaRows
import Derived.Test.YtnhleneknnbhaaaEngRS
import Derived.Test.YtnhleneknnbhaaaRW
import Derived.Test.YtnhleneknnbhaaaRX
namespace Go.Proofs.Ytnhleneknnbhaaa.rowBack
open Go Go.ChangeShapes Go.WideShapes Go.ChangeAt Go.RowKit Go.Proofs.Ytnhleneknnbhaaa.Eng Go.Proofs.Ytnhleneknnbhaaa.V
open Go.ChangeMaps (open_string shut_string)
set_option linter.unusedVariables false
theorem own : ownKnob Try.prog.godebug = none := by kernel_rfl
theorem laidOut : laidOutB Try.prog = true := by kernel_rfl

set_option maxRecDepth 100000 in
theorem lifted (os : Os) (started : os.Started) (H : Type) (enc : TypeId × Value → H) :
    ReturnsInHanded {} Try.checked os 5 .any (Rows.rowBackSpec.pre6 enc Try.prog Try.f5 Rows.rowBackRow.domain false) (Rows.rowBackSpec.post enc Try.prog Try.f5 false true false false) := by
  refine returnsInHanded_of_change_sized (C := Try.checked) own started (by kernel_rfl) Try.func5
    (ChangeSpec.witness6 (enc := enc) (C := Try.checked) false ⟨#[], #[.agg #[.int .i64 0, .int .i64 0, .slice none 0 0], .agg #[.int .i64 0, .int .i64 0, .slice none 0 0], .slice none 0 0, .slice none 0 0], []⟩ 8 (by kernel_rfl) (by kernel_rfl) (by kernel_rfl) (by kernel_rfl)) ?_
  intro W base args ds gs before hval0 hW hcnd hsz0 _
  have hsz : (DataW.weightsEach Try.prog (Try.f5.params.toList ++ Rows.rowBackSpec.plain.varTypes Try.prog) (ds ++ gs)).all (· ≤ reachBytes) = true := hsz0
  have hval : ∀ (j : Nat) t v, Try.f5.params[j]? = some t → args[j]? = some v → Value.okWide Try.prog W .any base t v := hval0
  have hW' := hW
  obtain ⟨p, q, hA0, hV, rfl, hfz, hnd⟩ := hW
  have hA : DataW.TrodAll enc Try.prog W 0 (fun _ => true) true Try.f5.params.toList args.toList ds p := hA0
  rw [Try.params5] at hA hval hsz
  obtain ⟨v0, vs0, d0, ds0, p0, q0, hargs, rfl, rfl, h0, r0⟩ := trodAll_cons hA
  obtain ⟨v1, vs1, d1, ds1, p1, q1, rfl, rfl, rfl, h1, r1⟩ := trodAll_cons r0
  obtain ⟨v2, vs2, d2, ds2, p2, q2, rfl, rfl, rfl, h2, r2⟩ := trodAll_cons r1
  obtain ⟨v3, vs3, d3, ds3, p3, q3, rfl, rfl, rfl, h3, r3⟩ := trodAll_cons r2
  obtain ⟨rfl, rfl, rfl⟩ := trodAll_nil r3
  obtain rfl : args = #[v0, v1, v2, v3] := by cases args; simp_all
  obtain ⟨rfl, rfl⟩ := trodVars_none hV
  have k0 := h0
  have lt0 : ∀ x ∈ p0, x.block < W.heap.size := by obtain ⟨m, hm⟩ := k0; exact DataW.trod_lt m _ _ _ hm
  have k1 := h1
  have lt1 : ∀ x ∈ p1, x.block < W.heap.size := by obtain ⟨m, hm⟩ := k1; exact DataW.trod_lt m _ _ _ hm
  have k2 := h2
  have lt2 : ∀ x ∈ p2, x.block < W.heap.size := by obtain ⟨m, hm⟩ := k2; exact DataW.trod_lt m _ _ _ hm
  have k3 := h3
  have lt3 : ∀ x ∈ p3, x.block < W.heap.size := by obtain ⟨m, hm⟩ := k3; exact DataW.trod_lt m _ _ _ hm
  obtain ⟨a0, g0, e0⟩ := deep_struct hsz (j := 0) (t := 39) rfl rfl Try.underlying39 (hval 0 39 v0 rfl rfl) opens_rw h0
  obtain ⟨a1, g1, e1⟩ := deep_struct hsz (j := 1) (t := 39) rfl rfl Try.underlying39 (hval 1 39 v1 rfl rfl) opens_rw h1
  obtain ⟨a2, g2, e2⟩ := deep_cell hsz (j := 2) (t := 43) (f := (fun L : List Int => SV.slv L.length none 1 (flat bc L))) rfl rfl (by obtain ⟨a, l, c, rfl⟩ := okWide_slice Try.underlying43 (hval 2 43 v2 rfl rfl); rfl) opens_bs h2
  obtain ⟨a3, g3, e3⟩ := deep_cell hsz (j := 3) (t := 43) (f := (fun L : List Int => SV.slv L.length none 1 (flat bc L))) rfl rfl (by obtain ⟨a, l, c, rfl⟩ := okWide_slice Try.underlying43 (hval 3 43 v3 rfl rfl); rfl) opens_bs h3
  clear hA0 hval0 hsz0 hsz
  have key : Calls Try.prog 5 #[v0, v1, v2, v3] W (fun e W' => e = .returned (.bool true) ∧ Below W.heap.size W W') := by
    refine ValDoes.of_args (args := [.agg (Rw.cv a0), .agg (Rw.cv a1), .s ((fun L : List Int => SV.slv L.length none 1 (flat bc L)) a2), .s ((fun L : List Int => SV.slv L.length none 1 (flat bc L)) a3)]) (args' := [v0, v1, v2, v3]) ⟨e0 _ rfl, e1 _ rfl, e2 _ rfl, e3 _ rfl, trivial⟩ ?_
    exact rowBack_does a0.time a0.seq a1.time a1.seq a0.cells a1.cells a2 a3 (by have := g0.2.2.2.2; omega) (by have := g1.2.2.2.2; omega) g0.2.2.ok g1.2.2.ok g2.ok.1 g3.ok.1 g2.ok.2 g3.ok.2
  refine key.mono fun e W' ⟨he, bel⟩ => ?_
  subst he
  exact ⟨_, rfl, _, _, _, [], _, [], hW', trodAll_mk1 (shut_bool Try.underlying4 _), (trodAll_cons_mk (Below.trod laidOut (by kernel_rfl) (of_decide_eq_true (by kernel_rfl)) k0 bel lt0) (trodAll_cons_mk (Below.trod laidOut (by kernel_rfl) (of_decide_eq_true (by kernel_rfl)) k1 bel lt1) (trodAll_cons_mk (Below.trod laidOut (by kernel_rfl) (of_decide_eq_true (by kernel_rfl)) k2 bel lt2) (trodAll_cons_mk (Below.trod laidOut (by kernel_rfl) (of_decide_eq_true (by kernel_rfl)) k3 bel lt3) trodAll_mk0)))), rfl, bel.frame _, fun h => by cases h⟩
theorem over : Rows.rowBackRow.holds Try.pinned (OpenSpec.ofChange Rows.rowBackSpec) :=
  OpenClaim.holds_of_wide 5 Try.f5 rfl rfl rfl rfl rfl rfl rfl ⟨rfl, rfl, rfl, rfl, rfl⟩ rfl rfl rfl rfl rfl (by kernel_rfl) Try.func5 (by kernel_rfl)
    (of_decide_eq_true (by kernel_rfl)) (by unfold Func.isWrapper; first | (rw [if_pos (by decide +kernel)]; kernel_rfl) | (rw [if_neg (by decide +kernel)]; exact ⟨rfl, rfl⟩))
    (fun os started H enc _ => lifted os started H enc)
theorem proved : Rows.RowBackSaid := over
#print axioms proved
end Go.Proofs.Ytnhleneknnbhaaa.rowBack
namespace Go.Proofs.Ytnhleneknnbhaaa
/-- The row, under a short name, for the claim. -/
theorem rowBack_holds : Rows.RowBackSaid := rowBack.proved
end Go.Proofs.Ytnhleneknnbhaaa
