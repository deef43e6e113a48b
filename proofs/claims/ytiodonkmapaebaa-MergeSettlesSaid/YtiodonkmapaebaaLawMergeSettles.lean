/- MergeSettles: the law answers true, whatever row it is given. -/
import Derived.Test.YtiodonkmapaebaaRows
import Derived.Test.YtiodonkmapaebaaEngR
import Derived.Test.YtiodonkmapaebaaMSettles
namespace Go.Proofs.Ytiodonkmapaebaa.mergeSettles
open Go.ChangeShapes Go.WideShapes Go.ChangeAt Go.RowKit Go.Proofs.Ytiodonkmapaebaa.Eng
open Go.ChangeMaps (open_string shut_string)
set_option linter.unusedVariables false
theorem own : ownKnob Try.prog.godebug = none := by kernel_rfl
theorem laidOut : laidOutB Try.prog = true := by kernel_rfl

/-- The first argument, as the law's lemmas want it. -/
theorem given0 {W : World} (v0 : Value) (h : v0 = .slice none 0 0 ∨ ∃ (a : Addr) (len cap : Nat) (zs : List Int), v0 = .slice (some a) len cap ∧ a.spot = none ∧ a.block < W.heap.size ∧ len ≤ cap ∧ cap ≤ maxLen ∧ zs.length = cap ∧ cap * 8 ≤ 140737488351232 ∧
      (∀ i, i < zs.length → W.cell? (a.add i) = some (.int .i64 (zs.getD i 0))) ∧ ∀ n ∈ zs, (Lit.int .i64 n).wf = true) :
    ∃ (A : Arg × AV) (n : Nat), (∀ r, A.1 = some r → Reads W r.1 r.2) ∧ (∀ rows : Nat → Arg, rows 0 = A.1 → VR (rhoOf rows) A.2 v0) ∧ evLen Try.prog 22 A.2 = some (.s (.int .i64 (n : Int))) ∧
      ∀ M0, get M0 0 = blkOf A.1 → ∀ k, k < n → ∃ (o : Nat) (Z : List SV) (x : Int), evIndexAddr Try.prog 22 A.2 (.s (.int .i64 (k : Int))) = some (.s (.ptr 0 o)) ∧ get M0 0 = some ⟨Z, false⟩ ∧ Z[o]? = some (.int .i64 x) := by
  rcases h with rfl | ⟨a, len, cap, zs, rfl, h1, h2, h3, h4, h5, h6, h7, h8⟩
  · exact ⟨(none, .s .sl0), 0, fun r hr => absurd (show (none : Arg) = some r from hr) (by simp), fun rows _ => rfl, rfl, fun M0 _ k hk => absurd hk (by omega)⟩
  · refine ⟨(some (a, ints .i64 zs), .s (.sl 0 0 len (some cap) 1)), len, fun r hr => ?_, fun rows hr => VR.row hr h1 h3 h4, rfl, fun M0 hM k hk => ?_⟩
    · obtain rfl := Option.some.inj hr
      exact ints_reads h1 h2 h7
    · exact ⟨_, _, zs.getD k 0, index_sl (s := 1) rfl rfl (by omega) (by omega), hM, MPick.cell zs k (by omega)⟩
/-- The second. -/
theorem given1 {W : World} (v1 : Value) (h : v1 = .slice none 0 0 ∨ ∃ (a : Addr) (len cap : Nat) (zs : List Bool), v1 = .slice (some a) len cap ∧ len ≤ cap ∧ cap ≤ maxLen ∧ zs.length = len ∧ Reads W a (zs.map .bool)) :
    ∃ (A : Arg × AV) (n : Nat), (∀ r, A.1 = some r → Reads W r.1 r.2) ∧ (∀ rows : Nat → Arg, rows 1 = A.1 → VR (rhoOf rows) A.2 v1) ∧ evLen Try.prog 28 A.2 = some (.s (.int .i64 (n : Int))) ∧
      ∀ M0, get M0 1 = blkOf A.1 → ∀ k, k < n → ∃ (o : Nat) (Z : List SV) (q : Bool), evIndexAddr Try.prog 28 A.2 (.s (.int .i64 (k : Int))) = some (.s (.ptr 1 o)) ∧ get M0 1 = some ⟨Z, false⟩ ∧ Z[o]? = some (.bool q) := by
  rcases h with rfl | ⟨a, len, cap, zs, rfl, h3, h4, h5, h7⟩
  · exact ⟨(none, .s .sl0), 0, fun r hr => absurd (show (none : Arg) = some r from hr) (by simp), fun rows _ => rfl, rfl, fun M0 _ k hk => absurd hk (by omega)⟩
  · refine ⟨(some (a, zs.map .bool), .s (.sl 1 0 len (some cap) 1)), len, fun r hr => ?_, fun rows hr => VR.row hr h7.spot h3 h4, rfl, fun M0 hM k hk => ?_⟩
    · obtain rfl := Option.some.inj hr
      exact h7
    · refine ⟨_, _, zs.getD k false, index_sl (s := 1) rfl rfl (by omega) (by omega), hM, ?_⟩
      have hk' : k < zs.length := by omega
      simp [hk']
set_option maxRecDepth 100000 in
theorem lifted (os : Os) (started : os.Started) (H : Type) (enc : TypeId × Value → H) :
    ReturnsInHanded {} Try.checked os 4 .any (Rows.mergeSettlesSpec.pre6 enc Try.prog Try.f4 Rows.mergeSettlesRow.domain false) (Rows.mergeSettlesSpec.post enc Try.prog Try.f4 false true false false) := by
  refine returnsInHanded_of_change_sized (C := Try.checked) own started (by kernel_rfl) Try.func4
    (ChangeSpec.witness6 (enc := enc) (C := Try.checked) false ⟨#[], #[.slice none 0 0, .slice none 0 0], []⟩ 8 (by kernel_rfl) (by kernel_rfl) (by kernel_rfl) (by kernel_rfl)) ?_
  intro W base args ds gs before hval0 hW hcnd hsz0 _
  have hsz : (DataW.weightsEach Try.prog (Try.f4.params.toList ++ Rows.mergeSettlesSpec.plain.varTypes Try.prog) (ds ++ gs)).all (· ≤ reachBytes) = true := hsz0
  have hval : ∀ (j : Nat) t v, Try.f4.params[j]? = some t → args[j]? = some v → Value.okWide Try.prog W .any base t v := hval0
  have hW' := hW
  obtain ⟨p, q, hA0, hV, rfl, hfz, hnd⟩ := hW
  have hA : DataW.TrodAll enc Try.prog W 0 (fun _ => true) true Try.f4.params.toList args.toList ds p := hA0
  rw [Try.params4] at hA hval hsz
  obtain ⟨v0, vs0, d0, ds0, p0, q0, hargs, rfl, rfl, h0, r0⟩ := trodAll_cons hA
  obtain ⟨v1, vs1, d1, ds1, p1, q1, rfl, rfl, rfl, h1, r1⟩ := trodAll_cons r0
  obtain ⟨rfl, rfl, rfl⟩ := trodAll_nil r1
  obtain rfl : args = #[v0, v1] := by cases args; simp_all
  obtain ⟨rfl, rfl⟩ := trodVars_none hV
  have k0 := h0
  have lt0 : ∀ x ∈ p0, x.block < W.heap.size := by obtain ⟨m, hm⟩ := k0; exact DataW.trod_lt m _ _ _ hm
  have k1 := h1
  have lt1 : ∀ x ∈ p1, x.block < W.heap.size := by obtain ⟨m, hm⟩ := k1; exact DataW.trod_lt m _ _ _ hm
  have hrow0 := ints_row hsz (j := 0) (t := 22) rfl rfl Try.underlying22 Try.underlying3 (by kernel_rfl) (B := 8) (by kernel_rfl) (hval 0 22 v0 rfl rfl) h0
  have hrow1 := bools_row Try.underlying28 Try.underlying4 (by kernel_rfl) (hval 1 28 v1 rfl rfl) h1
  clear hA0 hval0 hsz0 hsz
  have key : Calls Try.prog 4 #[v0, v1] W (fun e W' => e = .returned (.bool true) ∧ Below W.heap.size W W') := by
    obtain ⟨A0, n, g1, g2, g3, g4⟩ := given0 v0 hrow0
    obtain ⟨A1, nb, e1, e2, e3, e4⟩ := given1 v1 hrow1
    refine PureDoes.of_args (l := [A0.1, A1.1]) (args := [A0.2, A1.2]) (args' := [v0, v1]) ?_ ⟨g2 _ rfl, e2 _ rfl, trivial⟩ (MPick.settles_does ⟨g3, g4 _ rfl, e3, e4 _ rfl⟩)
    intro x hx r hr
    simp only [List.mem_cons, List.not_mem_nil, or_false] at hx
    rcases hx with rfl | rfl
    · exact g1 r hr
    · exact e1 r hr
  refine key.mono fun e W' ⟨he, bel⟩ => ?_
  subst he
  exact ⟨_, rfl, _, _, _, [], _, [], hW', trodAll_mk1 (shut_bool Try.underlying4 _), (trodAll_cons_mk (Below.trod laidOut (by kernel_rfl) (of_decide_eq_true (by kernel_rfl)) k0 bel lt0) (trodAll_cons_mk (Below.trod laidOut (by kernel_rfl) (of_decide_eq_true (by kernel_rfl)) k1 bel lt1) trodAll_mk0)), rfl, bel.frame _, fun h => by cases h⟩
theorem over : Rows.mergeSettlesRow.holds Try.pinned (OpenSpec.ofChange Rows.mergeSettlesSpec) :=
  OpenClaim.holds_of_wide 4 Try.f4 rfl rfl rfl rfl rfl rfl rfl ⟨rfl, rfl, rfl, rfl, rfl⟩ rfl rfl rfl rfl rfl (by kernel_rfl) Try.func4 (by kernel_rfl)
    (of_decide_eq_true (by kernel_rfl)) (by unfold Func.isWrapper; first | (rw [if_pos (by decide +kernel)]; kernel_rfl) | (rw [if_neg (by decide +kernel)]; exact ⟨rfl, rfl⟩))
    (fun os started H enc _ => lifted os started H enc)
theorem proved : Rows.MergeSettlesSaid := over
#print axioms proved
end Go.Proofs.Ytiodonkmapaebaa.mergeSettles
namespace Go.Proofs.Ytiodonkmapaebaa
/-- The row, under a short name, for the claim. -/
theorem mergeSettles_holds : Rows.MergeSettlesSaid := mergeSettles.proved
end Go.Proofs.Ytiodonkmapaebaa
