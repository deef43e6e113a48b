/- RowBack: the join. Printed by gen_rw.py. -/
import Derived.Test.YtnhleneknnbhaaaRV
import Derived.Test.YtnhleneknnbhaaaProg
import Derived.KernelRfl
namespace Go.Proofs.Ytnhleneknnbhaaa.V
open Go Go.RowKit Go.Proofs Go.Proofs.Ytnhleneknnbhaaa.Eng Go.Proofs.Ytnhleneknnbhaaa.VPl
set_option maxRecDepth 100000
set_option linter.unusedVariables false
set_option linter.unusedSimpArgs false

theorem shC_len (L : List Cl) : (shC L).length ≤ 10 := by unfold shC; simp; omega
theorem shC_in {L : List Cl} (h : ∀ x ∈ L, In64 x.n) : ∀ x ∈ shC L, In64 x.n := by
  intro x hx
  unfold shC at hx
  obtain ⟨y, hy, rfl⟩ := List.mem_map.1 hx
  exact h y (List.mem_of_mem_take hy)
theorem dec_any (L : List Int) (hx : ∀ x ∈ L, 0 ≤ x ∧ x ≤ 255) (hL : L.length ≤ 140737488353000) : (∃ w, ¬ w = 0 ∧ ValDoes Try.prog 17 [.s (.slv L.length none 1 (flat bc L)), .s (.int .i64 0)] (decF w)) ∨
    ∃ t q M e, ValDoes Try.prog 17 [.s (.slv L.length none 1 (flat bc L)), .s (.int .i64 0)] (decT ⟨t, q, M⟩ e) ∧ rightB ⟨t, q, M⟩ = true ∧ (∀ x ∈ M, In64 x.n) ∧ 0 ≤ e ∧ e ≤ L.length ∧ L.take e.toNat = encRw ⟨t, q, M⟩ := by
  obtain ⟨t, e1, w1, s1⟩ : ∃ k e w, gzagI L 0 = (k, e, w) := ⟨_, _, _, rfl⟩
  obtain ⟨q, e2, w2, s2⟩ : ∃ k e w, smallI L e1 = (k, e, w) := ⟨_, _, _, rfl⟩
  obtain ⟨n, e3, w3, s3⟩ : ∃ k e w, smallI L e2 = (k, e, w) := ⟨_, _, _, rfl⟩
  obtain ⟨M, e, w, hM⟩ : ∃ M e w, cellsI L n.toNat e3 [] = (M, e, w) := ⟨_, _, _, rfl⟩
  have h := dec_does L 0 t q n e1 e2 e3 w1 w2 w3 e w M hL hx s1 s2 s3 hM
  rcases dec_told hx s1 s2 s3 hM with ⟨w, hw, hv⟩ | ⟨hv, h1, h2, h4, h5, h6⟩
  · exact .inl ⟨w, hw, by rw [← hv]; exact h⟩
  · exact .inr ⟨t, q, M, e, by rw [← hv]; exact h, h1, h2, h4, h5, h6⟩
theorem dec_behind {t q : Int} {M : List Cl} {A : List Int} (hR : rightB ⟨t, q, M⟩ = true) (hn : ∀ x ∈ M, In64 x.n) (hA : A.length ≤ 140737488351232) (hAx : ∀ x ∈ A, 0 ≤ x ∧ x ≤ 255) :
    ValDoes Try.prog 17 [.s (.slv (A ++ encRw ⟨t, q, M⟩).length none 1 (flat bc (A ++ encRw ⟨t, q, M⟩))), .s (.int .i64 (A.length : Int))] (decT ⟨t, q, M⟩ ((A.length + (encRw ⟨t, q, M⟩).length : Nat) : Int)) := by
  have r := rightR hR
  have hl := encRw_len r
  have hx : ∀ x ∈ A ++ encRw ⟨t, q, M⟩, 0 ≤ x ∧ x ≤ 255 := fun x h => (List.mem_append.1 h).elim (hAx x) (encRw_byte r hn x)
  obtain ⟨t', e1, w1, s1⟩ : ∃ k e w, gzagI (A ++ encRw ⟨t, q, M⟩) (A.length : Int) = (k, e, w) := ⟨_, _, _, rfl⟩
  obtain ⟨q', e2, w2, s2⟩ : ∃ k e w, smallI (A ++ encRw ⟨t, q, M⟩) e1 = (k, e, w) := ⟨_, _, _, rfl⟩
  obtain ⟨n, e3, w3, s3⟩ : ∃ k e w, smallI (A ++ encRw ⟨t, q, M⟩) e2 = (k, e, w) := ⟨_, _, _, rfl⟩
  obtain ⟨M', e, w, hM⟩ : ∃ M' e w, cellsI (A ++ encRw ⟨t, q, M⟩) n.toNat e3 [] = (M', e, w) := ⟨_, _, _, rfl⟩
  have h := dec_does (A ++ encRw ⟨t, q, M⟩) (A.length : Int) t' q' n e1 e2 e3 w1 w2 w3 e w M' (by rw [List.length_append]; omega) hx s1 s2 s3 hM
  rw [dec_back hR hn s1 s2 s3 hM] at h
  have e : ((A ++ encRw ⟨t, q, M⟩).length : Int) = ((A.length + (encRw ⟨t, q, M⟩).length : Nat) : Int) := by rw [List.length_append]
  rw [← e]
  exact h
theorem bytes_inj {E F : List Int} (hE : ∀ x ∈ E, 0 ≤ x ∧ x ≤ 255) (hF : ∀ x ∈ F, 0 ≤ x ∧ x ≤ 255) (h : E.map (fun n : Int => UInt8.ofNat n.toNat) = F.map (fun n : Int => UInt8.ofNat n.toNat)) : E = F := by
  have e := bytes_textOf hE
  have f := bytes_textOf hF
  unfold textOf at e f
  rw [h] at e
  rw [← e, f]
theorem kr_any {t q u p : Int} {L M : List Cl} (hL : L.length ≤ 140737488351232) : ValDoes Try.prog 18 [.agg [.int .i64 t, .int .i64 q, .slv L.length none 4 (flat Cl.cv L)], .agg [.int .i64 u, .int .i64 p, .slv M.length none 4 (flat Cl.cv M)]] (.s (.bool (rowEq ⟨t, q, L⟩ ⟨u, p, M⟩))) := fun B c => kr_c rfl rfl rfl hL
theorem rowBack_does (t q u p : Int) (L M : List Cl) (A b : List Int) (hL : L.length ≤ 2932031007317) (hM : M.length ≤ 2932031007317) (hLn : ∀ x ∈ L, In64 x.n) (hMn : ∀ x ∈ M, In64 x.n) (hA : A.length ≤ 140737488351232) (hb : b.length ≤ 140737488351232) (hAx : ∀ x ∈ A, 0 ≤ x ∧ x ≤ 255) (hbx : ∀ x ∈ b, 0 ≤ x ∧ x ≤ 255) : ValDoes Try.prog 5 [.agg [.int .i64 t, .int .i64 q, .slv L.length none 4 (flat Cl.cv L)], .agg [.int .i64 u, .int .i64 p, .slv M.length none 4 (flat Cl.cv M)], .s (.slv A.length none 1 (flat bc A)), .s (.slv b.length none 1 (flat bc b))] (.s (.bool true)) := by
  have hLs := shC_in hLn
  have hMs := shC_in hMn
  have hl' := shC_len L
  have hm' := shC_len M
  generalize hL' : shC L = L' at hLs hl'
  generalize hM' : shC M = M' at hMs hm'
  cases hR : rightB ⟨t, q, L'⟩ with
  | false =>
    have he := enc_bad t q L' (by omega) hR
    rcases dec_any b hbx (by omega) with ⟨w, hw, hd2⟩ | ⟨x, y, C, e, hd2, hRC, h1, h4, h5, h6⟩
    · exact ValDoes.of_code Try.func5 (by kernel_rfl) (by kernel_rfl) (k := 128) (by kernel_rfl) (fun B => ⟨_, _, .inr rfl, rbF0_1 t q u p L M L' M' A b hL hM hL' hM' hl' hm' hA hb hbx hR he w hw hd2, by kernel_rfl⟩) (by kernel_rfl) (List.all_eq_true.1 (by kernel_rfl))
    · have he2 := enc_does x y C hRC h1
      obtain ⟨m, rfl⟩ : ∃ m : Nat, e = m := ⟨e.toNat, by omega⟩
      rw [Int.toNat_natCast] at h6
      have hm : (b.take m).length = m := by rw [List.length_take]; omega
      rw [← h6, hm] at he2
      exact ValDoes.of_code Try.func5 (by kernel_rfl) (by kernel_rfl) (k := 128) (by kernel_rfl) (fun B => ⟨_, _, .inr rfl, rbF1_1 t q u p L M L' M' A b hL hM hL' hM' hl' hm' hA hb hbx hR he x y C m (by omega) (rightR hRC).len hRC hd2 (fun x h => hbx x (List.mem_of_mem_take h)) he2, by kernel_rfl⟩) (by kernel_rfl) (List.all_eq_true.1 (by kernel_rfl))
  | true =>
    have r := rightR hR
    have he := enc_does t q L' hR hLs
    have hd := dec_behind (A := A) hR hLs hA hAx
    have hEl := encRw_len r
    have hEx := encRw_byte r hLs
    have hk := kr_any (t := t) (q := q) (u := t) (p := q) (L := L') (M := L') (by omega)
    rw [(rowEq_iff _ _).2 rfl] at hk
    cases hS : rightB ⟨u, p, M'⟩ with
    | false =>
      have he3 := enc_bad u p M' (by omega) hS
      rcases dec_any b hbx (by omega) with ⟨w, hw, hd2⟩ | ⟨x, y, C, e, hd2, hRC, h1, h4, h5, h6⟩
      · exact ValDoes.of_code Try.func5 (by kernel_rfl) (by kernel_rfl) (k := 128) (by kernel_rfl) (fun B => ⟨_, _, .inr rfl, rbT0_1 t q u p L M L' M' A b hL hM hL' hM' hl' hm' hA hb hbx _ hEl hEx hR he hd hk he3 w hw hd2, by kernel_rfl⟩) (by kernel_rfl) (List.all_eq_true.1 (by kernel_rfl))
      · have he2 := enc_does x y C hRC h1
        obtain ⟨m, rfl⟩ : ∃ m : Nat, e = m := ⟨e.toNat, by omega⟩
        rw [Int.toNat_natCast] at h6
        have hm : (b.take m).length = m := by rw [List.length_take]; omega
        rw [← h6, hm] at he2
        exact ValDoes.of_code Try.func5 (by kernel_rfl) (by kernel_rfl) (k := 128) (by kernel_rfl) (fun B => ⟨_, _, .inr rfl, rbT1_1 t q u p L M L' M' A b hL hM hL' hM' hl' hm' hA hb hbx _ hEl hEx hR he hd hk he3 x y C m (by omega) (rightR hRC).len hRC hd2 (fun x h => hbx x (List.mem_of_mem_take h)) he2, by kernel_rfl⟩) (by kernel_rfl) (List.all_eq_true.1 (by kernel_rfl))
    | true =>
      have s := rightR hS
      have he3 := enc_does u p M' hS hMs
      have hEx' := encRw_byte s hMs
      have hk2 := kr_any (t := t) (q := q) (u := u) (p := p) (L := L') (M := M') (by omega)
      generalize hbd : rowEq ⟨t, q, L'⟩ ⟨u, p, M'⟩ = bb at hk2
      have hbb : ((encRw ⟨t, q, L'⟩).map (fun (n : Int) => UInt8.ofNat n.toNat) == (encRw ⟨u, p, M'⟩).map (fun (n : Int) => UInt8.ofNat n.toNat)) = bb := by
        cases bb with
        | true =>
          have := (rowEq_iff _ _).1 hbd
          rw [this]
          simp
        | false =>
          refine beq_false_of_ne fun h => ?_
          have h2 := enc_inj r s hLs hMs (bytes_inj hEx hEx' h)
          rw [(rowEq_iff _ _).2 h2] at hbd
          cases hbd
      rcases dec_any b hbx (by omega) with ⟨w, hw, hd2⟩ | ⟨x, y, C, e, hd2, hRC, h1, h4, h5, h6⟩
      · exact ValDoes.of_code Try.func5 (by kernel_rfl) (by kernel_rfl) (k := 128) (by kernel_rfl) (fun B => ⟨_, _, .inr rfl, rbU0_1 t q u p L M L' M' A b hL hM hL' hM' hl' hm' hA hb hbx _ hEl hEx hR he hd hk _ hEx' he3 bb hk2 hbb w hw hd2, by kernel_rfl⟩) (by kernel_rfl) (List.all_eq_true.1 (by kernel_rfl))
      · have he2 := enc_does x y C hRC h1
        obtain ⟨m, rfl⟩ : ∃ m : Nat, e = m := ⟨e.toNat, by omega⟩
        rw [Int.toNat_natCast] at h6
        have hm : (b.take m).length = m := by rw [List.length_take]; omega
        rw [← h6, hm] at he2
        exact ValDoes.of_code Try.func5 (by kernel_rfl) (by kernel_rfl) (k := 128) (by kernel_rfl) (fun B => ⟨_, _, .inr rfl, rbU1_1 t q u p L M L' M' A b hL hM hL' hM' hl' hm' hA hb hbx _ hEl hEx hR he hd hk _ hEx' he3 bb hk2 hbb x y C m (by omega) (rightR hRC).len hRC hd2 (fun x h => hbx x (List.mem_of_mem_take h)) he2, by kernel_rfl⟩) (by kernel_rfl) (List.all_eq_true.1 (by kernel_rfl))
end Go.Proofs.Ytnhleneknnbhaaa.V
