/- Chapter 12: what is written is read, and what is read was written so: in plain Lean. By hand. -/
import Derived.Test.YtnhleneknnbhaaaRP
namespace Go.Proofs.Ytnhleneknnbhaaa.V
open Go Go.RowKit Go.Proofs Go.Proofs.Ytnhleneknnbhaaa.Eng Go.Proofs.Ytnhleneknnbhaaa.VPl
set_option linter.unusedVariables false
set_option linter.unusedSimpArgs false

theorem cell_put {A R : List Int} {x : Cl} (f : FineC x) (hn : In64 x.n) : cellI (A ++ encC x ++ R) (A.length : Int) = (x, ((A ++ encC x).length : Int), 0) := by
  have hc := f.col
  have hs := f.s
  have hk := f.kind
  obtain ⟨R1, hR1⟩ : ∃ R1, R1 = (if x.kind = 1 then vput (zigI x.n) else vput (x.s.size : Int) ++ bytesOf x.s) ++ R := ⟨_, rfl⟩
  have e1 : A ++ encC x ++ R = A ++ (vput (x.col.size : Int) ++ bytesOf x.col) ++ (vput x.kind ++ R1) := by rw [hR1]; unfold encC; simp only [List.append_assoc]
  have e2 : A ++ encC x ++ R = A ++ (vput (x.col.size : Int) ++ bytesOf x.col) ++ vput x.kind ++ R1 := by rw [e1]; simp only [List.append_assoc]
  have t1 := gtext_put (A := A) (R := vput x.kind ++ R1) (s := x.col) (most := 12) (by omega) (by omega)
  have t2 := small_put (A := A ++ (vput (x.col.size : Int) ++ bytesOf x.col)) (R := R1) (n := x.kind) (by omega) (by omega)
  rw [← e1] at t1
  rw [← e2] at t2
  unfold cellI
  simp only [t1, t2]
  unfold cellR
  rw [if_neg (by simp), if_neg (by simp)]
  by_cases h1 : x.kind = 1
  · rw [if_pos h1] at hR1 ⊢
    have t3 := gzag_put (A := A ++ (vput (x.col.size : Int) ++ bytesOf x.col) ++ vput x.kind) (R := R) hn
    have e3 : A ++ encC x ++ R = A ++ (vput (x.col.size : Int) ++ bytesOf x.col) ++ vput x.kind ++ vput (zigI x.n) ++ R := by rw [e2, hR1]; simp only [List.append_assoc]
    have e4 : A ++ encC x = A ++ (vput (x.col.size : Int) ++ bytesOf x.col) ++ vput x.kind ++ vput (zigI x.n) := by unfold encC; rw [if_pos h1]; simp only [List.append_assoc]
    rw [← e3] at t3
    simp only [t3]
    rw [e4]
    refine Prod.ext ?_ rfl
    obtain ⟨a, b, c, d⟩ := x
    have := str_nil (f.i h1)
    simp only at this ⊢
    rw [this]
  · rw [if_neg h1] at hR1 ⊢
    rw [if_pos (by omega)]
    have t3 := gtext_put (A := A ++ (vput (x.col.size : Int) ++ bytesOf x.col) ++ vput x.kind) (R := R) (s := x.s) (most := 40) (by omega) (by omega)
    have e3 : A ++ encC x ++ R = A ++ (vput (x.col.size : Int) ++ bytesOf x.col) ++ vput x.kind ++ (vput (x.s.size : Int) ++ bytesOf x.s) ++ R := by rw [e2, hR1]; simp only [List.append_assoc]
    have e4 : A ++ encC x = A ++ (vput (x.col.size : Int) ++ bytesOf x.col) ++ vput x.kind ++ (vput (x.s.size : Int) ++ bytesOf x.s) := by unfold encC; rw [if_neg h1]; simp only [List.append_assoc]
    rw [← e3] at t3
    simp only [t3]
    rw [e4]
    refine Prod.ext ?_ rfl
    obtain ⟨a, b, c, d⟩ := x
    have := f.t h1
    simp only at this ⊢
    rw [this]
theorem cells_put {R : List Int} : ∀ (C : List Cl) (A : List Int) (O : List Cl), (∀ x ∈ C, FineC x) → (∀ x ∈ C, In64 x.n) → cellsI (A ++ C.flatMap encC ++ R) C.length (A.length : Int) O = (O ++ C, ((A ++ C.flatMap encC).length : Int), 0) := by
  intro C
  induction C with
  | nil => intro A O _ _; simp [cellsI]
  | cons x C ih =>
    intro A O hf hn
    have e : A ++ (x :: C).flatMap encC ++ R = A ++ encC x ++ (C.flatMap encC ++ R) := by rw [List.flatMap_cons]; simp only [List.append_assoc]
    have e2 : A ++ (x :: C).flatMap encC ++ R = A ++ encC x ++ C.flatMap encC ++ R := by rw [e]; simp only [List.append_assoc]
    have h := cell_put (A := A) (R := C.flatMap encC ++ R) (hf x (by simp)) (hn x (by simp))
    rw [← e] at h
    rw [List.length_cons]
    unfold cellsI
    rw [h]
    simp only
    rw [if_pos trivial]
    have h2 := ih (A ++ encC x) (O ++ [x]) (fun y hy => hf y (by simp [hy])) (fun y hy => hn y (by simp [hy]))
    rw [← e2] at h2
    rw [h2]
    refine Prod.ext (by simp) (Prod.ext ?_ rfl)
    simp only [List.flatMap_cons, List.append_assoc]

/-- What is read of a row's bytes. -/
theorem reads {A : List Int} {t q : Int} {M : List Cl} (r : RightR t q M) (hn : ∀ x ∈ M, In64 x.n) : ∃ e1 e2 e3, gzagI (A ++ encRw ⟨t, q, M⟩) (A.length : Int) = (t, e1, 0) ∧ smallI (A ++ encRw ⟨t, q, M⟩) e1 = (q, e2, 0) ∧ smallI (A ++ encRw ⟨t, q, M⟩) e2 = ((M.length : Int), e3, 0) ∧
    cellsI (A ++ encRw ⟨t, q, M⟩) M.length e3 [] = (M, ((A ++ encRw ⟨t, q, M⟩).length : Int), 0) := by
  have r0 := r.t0; have r1 := r.t1; have r2 := r.q0; have r3 := r.q1; have r4 := r.len
  have e0 : A ++ encRw ⟨t, q, M⟩ = A ++ vput (zigI t) ++ vput q ++ vput (M.length : Int) ++ M.flatMap encC := by unfold encRw encCs; simp only [List.append_assoc]
  have t1 := gzag_put (A := A) (R := vput q ++ vput (M.length : Int) ++ M.flatMap encC) (a := t) (by unfold In64; omega)
  have t2 := small_put (A := A ++ vput (zigI t)) (R := vput (M.length : Int) ++ M.flatMap encC) (n := q) (by omega) (by omega)
  have t3 := small_put (A := A ++ vput (zigI t) ++ vput q) (R := M.flatMap encC) (n := (M.length : Int)) (by omega) (by omega)
  have t4 := cells_put (R := []) M (A ++ vput (zigI t) ++ vput q ++ vput (M.length : Int)) [] r.fine hn
  have f1 : A ++ encRw ⟨t, q, M⟩ = A ++ vput (zigI t) ++ (vput q ++ vput (M.length : Int) ++ M.flatMap encC) := by rw [e0]; simp only [List.append_assoc]
  have f2 : A ++ encRw ⟨t, q, M⟩ = A ++ vput (zigI t) ++ vput q ++ (vput (M.length : Int) ++ M.flatMap encC) := by rw [e0]; simp only [List.append_assoc]
  rw [← f1] at t1
  rw [← f2] at t2
  rw [← e0] at t3
  rw [List.append_nil, List.nil_append, ← e0] at t4
  exact ⟨_, _, _, t1, t2, t3, t4⟩
theorem enc_inj {t q u p : Int} {L M : List Cl} (r : RightR t q L) (s : RightR u p M) (hL : ∀ x ∈ L, In64 x.n) (hM : ∀ x ∈ M, In64 x.n) (h : encRw ⟨t, q, L⟩ = encRw ⟨u, p, M⟩) : (⟨t, q, L⟩ : Rw) = ⟨u, p, M⟩ := by
  obtain ⟨e1, e2, e3, h1, h2, h3, h4⟩ := reads (A := []) r hL
  obtain ⟨d1, d2, d3, g1, g2, g3, g4⟩ := reads (A := []) s hM
  rw [h] at h1 h2 h3 h4
  rw [h1] at g1
  obtain ⟨rfl, rfl, _⟩ : _ ∧ _ ∧ _ := by simpa only [Prod.mk.injEq] using g1
  rw [h2] at g2
  obtain ⟨rfl, rfl, _⟩ : _ ∧ _ ∧ _ := by simpa only [Prod.mk.injEq] using g2
  rw [h3] at g3
  obtain ⟨g5, rfl, _⟩ : _ ∧ _ ∧ _ := by simpa only [Prod.mk.injEq] using g3
  have g6 : L.length = M.length := by omega
  rw [g6, g4] at h4
  have := congrArg Prod.fst h4
  simp only at this
  rw [this]
theorem encRw_len {t q : Int} {L : List Cl} (r : RightR t q L) : (encRw ⟨t, q, L⟩).length ≤ 1000 := by
  have k1 := (vput_len (zigI t)).2
  have k2 := (vput_len q).2
  have k3 := (vput_len (L.length : Int)).2
  have key : ∀ C : List Cl, (∀ x ∈ C, FineC x) → (C.flatMap encC).length ≤ C.length * 82 := by
    intro C
    induction C with
    | nil => intro _; simp
    | cons x C ih =>
      intro h
      have h1 := encC_len (h x (by simp)).col (h x (by simp)).s
      have h2 := ih (fun y hy => h y (by simp [hy]))
      rw [List.flatMap_cons, List.length_append, List.length_cons]
      omega
  have := key L r.fine
  have := r.len
  unfold encRw encCs
  simp only [List.length_append]
  omega
theorem encC_byte {x : Cl} (f : FineC x) (hn : In64 x.n) : ∀ y ∈ encC x, 0 ≤ y ∧ y ≤ 255 := by
  have a1 := f.kind
  have a2 := f.col
  have a3 := f.s
  have k1 := vput_byte (n := (x.col.size : Int)) (by omega)
  have k2 := vput_byte (n := x.kind) (by omega)
  have k3 := vput_byte (n := zigI x.n) (zigI_range hn).2
  have k4 := vput_byte (n := (x.s.size : Int)) (by omega)
  have k5 := bytesOf_byte x.col
  have k6 := bytesOf_byte x.s
  intro y hy
  unfold encC at hy
  split at hy
  · simp only [List.mem_append] at hy
    rcases hy with hy | hy | hy | hy
    · exact k1 y hy
    · exact k5 y hy
    · exact k2 y hy
    · exact k3 y hy
  · simp only [List.mem_append] at hy
    rcases hy with hy | hy | hy | hy | hy
    · exact k1 y hy
    · exact k5 y hy
    · exact k2 y hy
    · exact k4 y hy
    · exact k6 y hy
theorem encRw_byte {t q : Int} {L : List Cl} (r : RightR t q L) (hn : ∀ x ∈ L, In64 x.n) : ∀ y ∈ encRw ⟨t, q, L⟩, 0 ≤ y ∧ y ≤ 255 := by
  have r0 := r.t0; have r1 := r.t1; have r2 := r.q0; have r3 := r.q1; have r4 := r.len
  have k1 := vput_byte (n := zigI t) (zigI_range (by omega)).2
  have k2 := vput_byte (n := q) (by omega)
  have k3 := vput_byte (n := (L.length : Int)) (by omega)
  intro y hy
  unfold encRw encCs at hy
  simp only [List.mem_append, List.mem_flatMap] at hy
  rcases hy with ((hy | hy) | hy) | ⟨x, hx, hy⟩
  · exact k1 y hy
  · exact k2 y hy
  · exact k3 y hy
  · exact encC_byte (r.fine x hx) (hn x hx) y hy

/-- A cell that is read was written so. -/
theorem cell_ok {L : List Int} {a e : Int} {x : Cl} (hx : ∀ x ∈ L, 0 ≤ x ∧ x ≤ 255) (h : cellI L a = (x, e, 0)) : In64 x.n ∧ Goes L a e (encC x) := by
  unfold cellI at h
  obtain ⟨s, e1, w1, s1⟩ : ∃ s e w, gtextI L a 12 = (s, e, w) := ⟨_, _, _, rfl⟩
  obtain ⟨k, e2, w2, s2⟩ : ∃ s e w, smallI L e1 = (s, e, w) := ⟨_, _, _, rfl⟩
  obtain ⟨n, e3, w3, s3⟩ : ∃ s e w, gzagI L e2 = (s, e, w) := ⟨_, _, _, rfl⟩
  obtain ⟨t, e4, w4, s4⟩ : ∃ s e w, gtextI L e2 40 = (s, e, w) := ⟨_, _, _, rfl⟩
  simp only [s1, s2, s3, s4] at h
  unfold cellR at h
  split at h
  · rename_i h1
    exact absurd (congrArg (fun r => r.2.2) h) h1
  · rename_i h1
    obtain rfl : w1 = 0 := by omega
    split at h
    · rename_i h2
      exact absurd (congrArg (fun r => r.2.2) h) h2
    · rename_i h2
      obtain rfl : w2 = 0 := by omega
      split at h
      · rename_i hk
        obtain ⟨rfl, rfl, rfl⟩ : _ ∧ _ ∧ _ := by simpa only [Prod.mk.injEq] using h
        obtain ⟨_, g1⟩ := gtext_ok hx s1
        obtain ⟨_, g2⟩ := small_ok hx s2 (by omega)
        obtain ⟨i, g3⟩ := gzag_ok hx s3
        refine ⟨i, ?_⟩
        have g := (g1.trans g2).trans g3
        unfold encC
        rw [if_pos hk]
        simpa only [List.append_assoc] using g
      · rename_i hk
        split at h
        · rename_i hk2
          obtain ⟨rfl, rfl, rfl⟩ : _ ∧ _ ∧ _ := by simpa only [Prod.mk.injEq] using h
          obtain ⟨_, g1⟩ := gtext_ok hx s1
          obtain ⟨_, g2⟩ := small_ok hx s2 (by omega)
          obtain ⟨_, g3⟩ := gtext_ok hx s4
          refine ⟨(show In64 0 by decide), ?_⟩
          have g := (g1.trans g2).trans g3
          unfold encC
          rw [if_neg hk]
          simpa only [List.append_assoc] using g
        · exact absurd (congrArg (fun r => r.2.2) h) (show ¬ ((12 : Int) = 0) by decide)
theorem cells_ok {L : List Int} (hx : ∀ x ∈ L, 0 ≤ x ∧ x ≤ 255) : ∀ (n : Nat) (a e : Int) (O M : List Cl), 0 ≤ a → a ≤ L.length → cellsI L n a O = (M, e, 0) → ∃ C, M = O ++ C ∧ C.length = n ∧ Goes L a e (C.flatMap encC) ∧ ∀ x ∈ C, In64 x.n := by
  intro n
  induction n with
  | zero =>
    intro a e O M h0 h1 h
    simp only [cellsI, Prod.mk.injEq, and_true] at h
    obtain ⟨rfl, rfl⟩ := h
    exact ⟨[], by simp, rfl, ⟨h0, by simp, h1, by simp⟩, by simp⟩
  | succ n ih =>
    intro a e O M h0 h1 h
    unfold cellsI at h
    split at h
    · rename_i hw
      obtain ⟨i, g⟩ := cell_ok hx (a := a) (x := (cellI L a).1) (e := (cellI L a).2.1) (Prod.ext rfl (Prod.ext rfl hw))
      obtain ⟨C, c1, c2, c3, c4⟩ := ih _ _ _ _ (by have := g.ae; have := g.a0; omega) g.el h
      refine ⟨(cellI L a).1 :: C, by rw [c1]; simp, by simp [c2], ?_, ?_⟩
      · rw [List.flatMap_cons]
        exact g.trans c3
      · intro x hx
        rcases List.mem_cons.1 hx with rfl | hx
        · exact i
        · exact c4 x hx
    · rename_i hw
      exact absurd (congrArg (fun r => r.2.2) h) hw

/-- What Decode tells of bytes at their head. -/
theorem dec_told {L : List Int} (hx : ∀ x ∈ L, 0 ≤ x ∧ x ≤ 255) {t q n e1 e2 e3 w1 w2 w3 e w : Int} {M : List Cl} (s1 : gzagI L 0 = (t, e1, w1)) (s2 : smallI L e1 = (q, e2, w2)) (s3 : smallI L e2 = (n, e3, w3)) (hM : cellsI L n.toNat e3 [] = (M, e, w)) :
    (∃ w', ¬ w' = 0 ∧ decR t w1 q w2 n w3 M e w = decF w') ∨ (decR t w1 q w2 n w3 M e w = decT ⟨t, q, M⟩ e ∧ rightB ⟨t, q, M⟩ = true ∧ (∀ x ∈ M, In64 x.n) ∧ 0 ≤ e ∧ e ≤ L.length ∧ L.take e.toNat = encRw ⟨t, q, M⟩) := by
  unfold decR
  by_cases h1 : w1 = 0
  case neg => rw [if_pos h1]; exact .inl ⟨_, h1, rfl⟩
  rw [if_neg (by simpa using h1)]
  by_cases h2 : w2 = 0
  case neg => rw [if_pos h2]; exact .inl ⟨_, h2, rfl⟩
  rw [if_neg (by simpa using h2)]
  by_cases h3 : w3 = 0
  case neg => rw [if_pos h3]; exact .inl ⟨_, h3, rfl⟩
  rw [if_neg (by simpa using h3)]
  subst h1 h2 h3
  by_cases h4 : q > 1073741824 ∨ n > 8
  · rw [if_pos h4]; exact .inl ⟨12, by decide, rfl⟩
  rw [if_neg h4]
  by_cases h5 : w = 0
  case neg => rw [if_pos h5]; exact .inl ⟨_, h5, rfl⟩
  rw [if_neg (by simpa using h5)]
  subst h5
  by_cases hR : rightB ⟨t, q, M⟩ = true
  · rw [if_pos hR]
    obtain ⟨i1, g1⟩ := gzag_ok hx s1
    obtain ⟨_, g2⟩ := small_ok hx s2 (by omega)
    obtain ⟨n0, g3⟩ := small_ok hx s3 (by omega)
    have g := (g1.trans g2).trans g3
    obtain ⟨C, c1, c2, c3, c4⟩ := cells_ok hx _ _ _ _ _ (by have := g.ae; have := g.a0; omega) g.el hM
    rw [List.nil_append] at c1
    subst c1
    have g4 := g.trans c3
    have e0 : ((M.length : Nat) : Int) = n := by omega
    refine .inr ⟨rfl, hR, c4, by have := g4.ae; omega, g4.el, ?_⟩
    rw [g4.tk]
    unfold encRw encCs
    simp only [e0, Int.toNat_zero, List.take_zero, List.nil_append]
  · rw [if_neg hR]; exact .inl ⟨12, by decide, rfl⟩
theorem dec_back {A : List Int} {t q : Int} {M : List Cl} (hR : rightB ⟨t, q, M⟩ = true) (hn : ∀ x ∈ M, In64 x.n) {t' q' n e1 e2 e3 w1 w2 w3 e w : Int} {M' : List Cl} (s1 : gzagI (A ++ encRw ⟨t, q, M⟩) (A.length : Int) = (t', e1, w1)) (s2 : smallI (A ++ encRw ⟨t, q, M⟩) e1 = (q', e2, w2))
    (s3 : smallI (A ++ encRw ⟨t, q, M⟩) e2 = (n, e3, w3)) (hM : cellsI (A ++ encRw ⟨t, q, M⟩) n.toNat e3 [] = (M', e, w)) : decR t' w1 q' w2 n w3 M' e w = decT ⟨t, q, M⟩ ((A ++ encRw ⟨t, q, M⟩).length : Int) := by
  have r := rightR hR
  obtain ⟨d1, d2, d3, g1, g2, g3, g4⟩ := reads (A := A) r hn
  rw [g1] at s1
  obtain ⟨rfl, rfl, rfl⟩ : _ ∧ _ ∧ _ := by simpa only [Prod.mk.injEq] using s1
  rw [g2] at s2
  obtain ⟨rfl, rfl, rfl⟩ : _ ∧ _ ∧ _ := by simpa only [Prod.mk.injEq] using s2
  rw [g3] at s3
  obtain ⟨rfl, rfl, rfl⟩ : _ ∧ _ ∧ _ := by simpa only [Prod.mk.injEq] using s3
  rw [Int.toNat_natCast, g4] at hM
  obtain ⟨rfl, rfl, rfl⟩ : _ ∧ _ ∧ _ := by simpa only [Prod.mk.injEq] using hM
  have := r.q1
  have := r.len
  unfold decR
  rw [if_neg (by simp), if_neg (by simp), if_neg (by simp), if_neg (by omega), if_neg (by simp), if_pos hR]
end Go.Proofs.Ytnhleneknnbhaaa.V
