/- ZoneJoins: the law answers true, whatever it is given. -/
import Derived.Test.YtgejenhcloiieaaRows
import Derived.Test.YtgejenhcloiieaaEngRS
import Derived.Test.YtgejenhcloiieaaZO
namespace Go.Proofs.Ytgejenhcloiieaa.zoneJoins
open Go.ChangeShapes Go.WideShapes Go.ChangeAt Go.RowKit Go.Proofs.Ytgejenhcloiieaa.Eng Go.Proofs.Ytgejenhcloiieaa.Z8
open Go.ChangeMaps (open_string shut_string)
set_option linter.unusedVariables false
theorem own : ownKnob Try.prog.godebug = none := by kernel_rfl
theorem laidOut : laidOutB Try.prog = true := by kernel_rfl
/-- A cell's own bounds. -/
def CellOk (x : Cl) : Prop := x.col.size ≤ maxLen ∧ (Lit.int .i64 x.kind).wf = true ∧ (Lit.int .i64 x.n).wf = true ∧ x.s.size ≤ maxLen
theorem opens_cell {H : Type} {enc : TypeId × Value → H} {W : World} {base : Nat} {spare : Nat → Bool} {held : Bool} : OpensV enc Try.prog W base spare held 24 4 Cl.cells CellOk :=
  (opensV_struct (f := fun v : ByteArray × Int × Int × ByteArray => [.str v.1] ++ ([.int .i64 v.2.1] ++ ([.int .i64 v.2.2.1] ++ [.str v.2.2.2]))) (fun v => ⟨v.1, v.2.1, v.2.2.1, v.2.2.2⟩) (fun _ => rfl) Try.underlying24 (by kernel_rfl)
    (opensF_cons rfl (by kernel_rfl) (opensV_string Try.underlying9) (opensF_cons rfl (by kernel_rfl) (opensV_int Try.underlying3) (opensF_cons rfl (by kernel_rfl) (opensV_int Try.underlying2) (opensF_one rfl (by kernel_rfl) (opensV_string Try.underlying9)))))).weak
    (fun b hb => by
      obtain ⟨v, rfl, h⟩ := hb
      exact h)

set_option maxRecDepth 100000 in
theorem lifted (os : Os) (started : os.Started) (H : Type) (enc : TypeId × Value → H) :
    ReturnsInHanded {} Try.checked os 5 .any (Rows.zoneJoinsSpec.pre6 enc Try.prog Try.f5 Rows.zoneJoinsRow.domain false) (Rows.zoneJoinsSpec.post enc Try.prog Try.f5 false true false false) := by
  refine returnsInHanded_of_change_sized (C := Try.checked) own started (by kernel_rfl) Try.func5
    (ChangeSpec.witness6 (enc := enc) (C := Try.checked) false ⟨#[], #[.int .i64 0, .slice none 0 0, .int .i64 0, .int .i64 0], []⟩ 8 (by kernel_rfl) (by kernel_rfl) (by kernel_rfl) (by kernel_rfl)) ?_
  intro W base args ds gs before hval0 hW hcnd hsz0 _
  have hsz : (DataW.weightsEach Try.prog (Try.f5.params.toList ++ Rows.zoneJoinsSpec.plain.varTypes Try.prog) (ds ++ gs)).all (· ≤ reachBytes) = true := hsz0
  have hval : ∀ (j : Nat) t v, Try.f5.params[j]? = some t → args[j]? = some v → Value.okWide Try.prog W .any base t v := hval0
  have hW' := hW
  obtain ⟨p, q, hA0, hV, rfl, hfz, hnd⟩ := hW
  have hA : DataW.TrodAll enc Try.prog W 0 (fun _ => true) true Try.f5.params.toList args.toList ds p := hA0
  rw [Try.params5] at hA hval hsz
  obtain ⟨v0, vs0, d0, ds0, p0, q0, hargs, rfl, rfl, h0, r0⟩ := trodAll_cons hA
  obtain ⟨v1, vs1, d1, ds1, p1, q1, rfl, rfl, rfl, h1, r1⟩ := trodAll_cons r0
  obtain ⟨v2, vs2, d2, ds2, p2, q2, rfl, rfl, rfl, h2, r2⟩ := trodAll_cons r1
  obtain ⟨v3, vs3, d3, ds3, p3, q3, rfl, rfl, rfl, h3, r3⟩ := trodAll_cons r2
  obtain ⟨rfl, rfl, rfl⟩ := trodAll_nil r3
  obtain rfl : args = #[v0, v1, v2, v3] := by cases args; simp_all
  obtain ⟨rfl, rfl⟩ := trodVars_none hV
  have k0 := h0
  have lt0 : ∀ x ∈ p0, x.block < W.heap.size := by obtain ⟨m, hm⟩ := k0; exact DataW.trod_lt m _ _ _ hm
  have k1 := h1
  have lt1 : ∀ x ∈ p1, x.block < W.heap.size := by obtain ⟨m, hm⟩ := k1; exact DataW.trod_lt m _ _ _ hm
  have k2 := h2
  have lt2 : ∀ x ∈ p2, x.block < W.heap.size := by obtain ⟨m, hm⟩ := k2; exact DataW.trod_lt m _ _ _ hm
  have k3 := h3
  have lt3 : ∀ x ∈ p3, x.block < W.heap.size := by obtain ⟨m, hm⟩ := k3; exact DataW.trod_lt m _ _ _ hm
  obtain ⟨a0, rfl, rfl, rfl, w0⟩ := open_int Try.underlying3 (hval 0 3 v0 rfl rfl) h0
  have w1 := row_arg hsz (j := 1) (t := 22) rfl rfl (B := 48) (by kernel_rfl) Try.underlying22 (by kernel_rfl) (by decide) (hval 1 22 v1 rfl rfl) opens_cell h1
  obtain ⟨a2, rfl, rfl, rfl, w2⟩ := open_int Try.underlying3 (hval 2 3 v2 rfl rfl) h2
  obtain ⟨a3, rfl, rfl, rfl, w3⟩ := open_int Try.underlying3 (hval 3 3 v3 rfl rfl) h3
  clear hA0 hval0 hsz0 hsz
  have key : Calls Try.prog 5 #[.int .i64 a0, v1, .int .i64 a2, .int .i64 a3] W (fun e W' => e = .returned (.bool true) ∧ Below W.heap.size W W') := by
    rcases w1 with rfl | ⟨a, cap, L, rfl, hl, hm, hr, hg, hb⟩
    · exact PureDoes.of_args (l := [none]) (args := [.s (.int .i64 a0), .s .sl0, .s (.int .i64 a2), .s (.int .i64 a3)]) (args' := [.int .i64 a0, .slice none 0 0, .int .i64 a2, .int .i64 a3]) (fun x hx r hr => by simp only [List.mem_cons, List.not_mem_nil, or_false] at hx; rw [hx] at hr; cases hr) ⟨rfl, rfl, rfl, rfl, trivial⟩ (joins_pure a0 a2 a3 _ _ fun B => (joins_nil a0 a2 a3).before)
    · have hR : ∀ x ∈ [(some (a, flat Cl.cells L) : Arg)], ∀ r, x = some r → Reads W r.1 r.2 := fun x hx r hr' => by
        simp only [List.mem_cons, List.not_mem_nil, or_false] at hx
        rw [hx] at hr'
        obtain rfl := Option.some.inj hr'
        exact hr
      refine PureDoes.of_args (l := [some (a, flat Cl.cells L)]) (args := [.s (.int .i64 a0), .s (.sl 0 0 L.length (some cap) 4), .s (.int .i64 a2), .s (.int .i64 a3)]) (args' := [.int .i64 a0, .slice (some a) L.length cap, .int .i64 a2, .int .i64 a3]) hR ⟨rfl, VR.row rfl hr.spot hl hm, rfl, rfl, trivial⟩ (joins_pure a0 a2 a3 _ _ fun B => ?_)
      by_cases h0 : 0 < L.length
      · exact joins_one a0 a2 a3 L (some cap) false h0
      · have h0 : L.length = 0 := by omega
        rw [h0]
        exact (joins_emp a0 a2 a3 (some cap)).before
  refine key.mono fun e W' ⟨he, bel⟩ => ?_
  subst he
  exact ⟨_, rfl, _, _, _, [], _, [], hW', trodAll_mk1 (shut_bool Try.underlying4 _), (trodAll_cons_mk (shut_int Try.underlying3 w0) (trodAll_cons_mk (Below.trod laidOut (by kernel_rfl) (of_decide_eq_true (by kernel_rfl)) k1 bel lt1) (trodAll_cons_mk (shut_int Try.underlying3 w2) (trodAll_cons_mk (shut_int Try.underlying3 w3) trodAll_mk0)))), rfl, bel.frame _, fun h => by cases h⟩
theorem over : Rows.zoneJoinsRow.holds Try.pinned (OpenSpec.ofChange Rows.zoneJoinsSpec) :=
  OpenClaim.holds_of_wide 5 Try.f5 rfl rfl rfl rfl rfl rfl rfl ⟨rfl, rfl, rfl, rfl, rfl⟩ rfl rfl rfl rfl rfl (by kernel_rfl) Try.func5 (by kernel_rfl)
    (of_decide_eq_true (by kernel_rfl)) (by unfold Func.isWrapper; first | (rw [if_pos (by decide +kernel)]; kernel_rfl) | (rw [if_neg (by decide +kernel)]; exact ⟨rfl, rfl⟩))
    (fun os started H enc _ => lifted os started H enc)
theorem proved : Rows.ZoneJoinsSaid := over
#print axioms proved
end Go.Proofs.Ytgejenhcloiieaa.zoneJoins
namespace Go.Proofs.Ytgejenhcloiieaa
/-- The row, under a short name, for the claim. -/
theorem zoneJoins_holds : Rows.ZoneJoinsSaid := zoneJoins.proved
end Go.Proofs.Ytgejenhcloiieaa
