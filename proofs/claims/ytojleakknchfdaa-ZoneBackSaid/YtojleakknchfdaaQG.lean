/- ZoneBack: the join. Printed by gen_qg.py. -/
import Derived.Test.YtojleakknchfdaaQF
import Derived.Test.YtojleakknchfdaaProg
import Derived.KernelRfl
namespace Go.Proofs.Ytojleakknchfdaa.V
open Go Go.RowKit Go.Proofs Go.Proofs.Ytojleakknchfdaa.Eng Go.Proofs.Ytojleakknchfdaa.VPl
set_option maxRecDepth 100000
set_option linter.unusedVariables false
set_option linter.unusedSimpArgs false

theorem fewL_len (L : List Cl) : (fewL L).length ≤ 40 := by unfold fewL; simp; omega
theorem fewL_in {L : List Cl} (h : ∀ x ∈ L, In64 x.n) : ∀ x ∈ fewL L, In64 x.n := by
  intro x hx
  unfold fewL at hx
  obtain ⟨y, hy, rfl⟩ := List.mem_map.1 hx
  exact h y (List.mem_of_mem_take hy)
theorem widZ_in {f : Bool} {z x : Zn} (h1 : In64 z.minN) (h2 : In64 z.maxN) (h3 : In64 x.minN) (h4 : In64 x.maxN) : In64 (widZ f z x).minN ∧ In64 (widZ f z x).maxN := by
  unfold widZ
  split
  · constructor
    · simp only; split <;> assumption
    · simp only; split <;> assumption
  · constructor
    · simp only; split <;> assumption
    · simp only; split <;> assumption
theorem stepZ_in {kind : Int} {p : Zn × Bool} {x : Cl} (h : In64 p.1.minN ∧ In64 p.1.maxN) (hx : In64 x.n) : In64 (stepZ kind p x).1.minN ∧ In64 (stepZ kind p x).1.maxN := by
  have z0 : In64 0 := by decide
  unfold stepZ
  split
  · split
    · exact widZ_in h.1 h.2 hx hx
    · exact widZ_in h.1 h.2 z0 z0
  · exact h
theorem buildP_in {kind : Int} {L : List Cl} (h : ∀ x ∈ L, In64 x.n) : In64 (buildP kind L).1.minN ∧ In64 (buildP kind L).1.maxN := by
  have z0 : In64 0 := by decide
  have key : ∀ (l : List Nat) (p : Zn × Bool), In64 p.1.minN ∧ In64 p.1.maxN → In64 (l.foldl (fun p i => stepZ kind p (L.getD i Cl0)) p).1.minN ∧ In64 (l.foldl (fun p i => stepZ kind p (L.getD i Cl0)) p).1.maxN := by
    intro l
    induction l with
    | nil => intro p hp; exact hp
    | cons i l ih =>
      intro p hp
      refine ih _ (stepZ_in hp ?_)
      by_cases hi : i < L.length
      · have : L.getD i Cl0 = L[i] := by simp [hi]
        rw [this]
        exact h _ (List.getElem_mem hi)
      · have : L.getD i Cl0 = Cl0 := by simp [Nat.le_of_not_lt hi]
        rw [this]
        exact z0
  unfold buildP
  exact key _ _ ⟨z0, z0⟩
theorem dec_any (L : List Int) (hx : ∀ x ∈ L, 0 ≤ x ∧ x ≤ 255) (hL : L.length ≤ 140737488353000) : (∃ w, ¬ w = 0 ∧ ValDoes Try.prog 10 [.s (.slv L.length none 1 (flat bc L)), .s (.int .i64 0)] (decF w)) ∨
    ∃ z e, ValDoes Try.prog 10 [.s (.slv L.length none 1 (flat bc L)), .s (.int .i64 0)] (decT z e) ∧ rightZ z = true ∧ In64 z.minN ∧ In64 z.maxN ∧ 0 ≤ e ∧ e ≤ L.length ∧ L.take e.toNat = encZ z := by
  obtain ⟨k, e1, w1, s1⟩ : ∃ k e w, smallI L 0 = (k, e, w) := ⟨_, _, _, rfl⟩
  obtain ⟨r, e2, w2, s2⟩ : ∃ k e w, smallI L e1 = (k, e, w) := ⟨_, _, _, rfl⟩
  obtain ⟨n, e3, w3, s3⟩ : ∃ k e w, smallI L e2 = (k, e, w) := ⟨_, _, _, rfl⟩
  obtain ⟨z', e4, w4, s4⟩ : ∃ z e w, valsZ ⟨k, r, n, 0, 0, ⟨#[]⟩, ⟨#[]⟩⟩ L e3 = (z, e, w) := ⟨_, _, _, rfl⟩
  have h := dec_does L 0 k e1 w1 r e2 w2 n e3 w3 e4 w4 z' hL hx s1 s2 s3 s4
  rcases dec_told hx s1 s2 s3 s4 with ⟨w, hw, hv⟩ | ⟨z, e, hv, h1, h2, h3, h4, h5, h6⟩
  · exact .inl ⟨w, hw, by rw [← hv]; exact h⟩
  · exact .inr ⟨z, e, by rw [← hv]; exact h, h1, h2, h3, h4, h5, h6⟩
theorem dec_behind {z : Zn} {A : List Int} (hR : rightZ z = true) (ha : In64 z.minN) (hb : In64 z.maxN) (hA : A.length ≤ 140737488351232) (hAx : ∀ x ∈ A, 0 ≤ x ∧ x ≤ 255) :
    ValDoes Try.prog 10 [.s (.slv (A ++ encZ z).length none 1 (flat bc (A ++ encZ z))), .s (.int .i64 (A.length : Int))] (decT z ((A ++ encZ z).length : Int)) := by
  have q := rightZ_ok hR
  have hl := enc_len q
  have hx : ∀ x ∈ A ++ encZ z, 0 ≤ x ∧ x ≤ 255 := fun x h => (List.mem_append.1 h).elim (hAx x) (enc_byte q ha hb x)
  obtain ⟨k, e1, w1, s1⟩ : ∃ k e w, smallI (A ++ encZ z) (A.length : Int) = (k, e, w) := ⟨_, _, _, rfl⟩
  obtain ⟨r, e2, w2, s2⟩ : ∃ k e w, smallI (A ++ encZ z) e1 = (k, e, w) := ⟨_, _, _, rfl⟩
  obtain ⟨n, e3, w3, s3⟩ : ∃ k e w, smallI (A ++ encZ z) e2 = (k, e, w) := ⟨_, _, _, rfl⟩
  obtain ⟨z', e4, w4, s4⟩ : ∃ z' e w, valsZ ⟨k, r, n, 0, 0, ⟨#[]⟩, ⟨#[]⟩⟩ (A ++ encZ z) e3 = (z', e, w) := ⟨_, _, _, rfl⟩
  have h := dec_does (A ++ encZ z) (A.length : Int) k e1 w1 r e2 w2 n e3 w3 e4 w4 z' (by rw [List.length_append]; omega) hx s1 s2 s3 s4
  rw [dec_back hR ha hb s1 s2 s3 s4] at h
  exact h
theorem zoneBack_does (kind : Int) (L : List Cl) (A b : List Int) (hL : ∀ x ∈ L, In64 x.n) (hA : A.length ≤ 140737488351232) (hb : b.length ≤ 140737488351232) (hAx : ∀ x ∈ A, 0 ≤ x ∧ x ≤ 255) (hbx : ∀ x ∈ b, 0 ≤ x ∧ x ≤ 255) : ValDoes Try.prog 3 [.s (.int .i64 kind), .s (.slv L.length none 4 (flat Cl.cv L)), .s (.slv A.length none 1 (flat bc A)), .s (.slv b.length none 1 (flat bc b))] (.s (.bool true)) := by
  have hj2 : (kind % (1 + 1)).toNat ≤ 1 := by omega
  obtain ⟨⟨zk, zr, zn, za, zb, zs, zt⟩, f, hz⟩ : ∃ z f, buildP (1 + ((kind % (1 + 1)).toNat : Int)) (fewL L) = (z, f) := ⟨_, _, rfl⟩
  obtain ⟨i1, i2⟩ := buildP_in (kind := 1 + ((kind % (1 + 1)).toNat : Int)) (fewL_in hL)
  rw [hz] at i1 i2
  by_cases h200 : b.length > 200
  · cases hR : rightZ ⟨zk, zr, zn, za, zb, zs, zt⟩ with
    | true =>
      have q := rightZ_ok hR
      have he := enc_does _ hR i1 i2
      have hd := dec_behind (A := A) hR i1 i2 hA hAx
      have hEl := enc_len q
      have hEx := enc_byte q i1 i2
      unfold encR at he
      have hd' : ValDoes Try.prog 10 [.s (.slv (A ++ encZ ⟨zk, zr, zn, za, zb, zs, zt⟩).length none 1 (flat bc (A ++ encZ ⟨zk, zr, zn, za, zb, zs, zt⟩))), .s (.int .i64 (A.length : Int))] (decT ⟨zk, zr, zn, za, zb, zs, zt⟩ ((A.length + (encZ ⟨zk, zr, zn, za, zb, zs, zt⟩).length : Nat) : Int)) := by rw [← List.length_append]; exact hd
      clear hd
      have hd := hd'
      have hl : (b.take 200).length = 200 := by rw [List.length_take]; omega
      have hx : ∀ x ∈ (b.take 200), 0 ≤ x ∧ x ≤ 255 := fun x h => hbx x (List.mem_of_mem_take h)
      rcases dec_any (b.take 200) hx (by omega) with ⟨w, hw, hd2⟩ | ⟨⟨yk, yr, yn, ya, yb, ys, yt⟩, e, hd2, hR2, h1, h2, h3, h4, h5⟩
      · rw [hl] at hd2
        exact ValDoes.of_code Try.func3 (by kernel_rfl) (by kernel_rfl) (k := 104) (by kernel_rfl) (fun B => ⟨_, _, .inr rfl, zbT10_1 kind L (fewL L) A b f (kind % (1 + 1)).toNat zk zr zn za zb zs zt hA hb hbx rfl (fewL_len L) rfl hj2 hz _ hEl hEx hR he hd h200 0 0 0 0 0 ⟨#[]⟩ ⟨#[]⟩ w hw hd2, by kernel_rfl⟩) (by kernel_rfl) (List.all_eq_true.1 (by kernel_rfl))
      · have he2 := enc_does _ hR2 h1 h2
        obtain ⟨m, rfl⟩ : ∃ m : Nat, e = m := ⟨e.toNat, by omega⟩
        rw [Int.toNat_natCast] at h5
        have hm : ((b.take 200).take m).length = m := by rw [List.length_take]; omega
        unfold encR at he2
        rw [← h5, hm] at he2
        rw [hl] at hd2
        exact ValDoes.of_code Try.func3 (by kernel_rfl) (by kernel_rfl) (k := 104) (by kernel_rfl) (fun B => ⟨_, _, .inr rfl, zbT11_1 kind L (fewL L) A b f (kind % (1 + 1)).toNat zk zr zn za zb zs zt hA hb hbx rfl (fewL_len L) rfl hj2 hz _ hEl hEx hR he hd h200 yk yr yn ya yb ys yt m (by omega) (by omega) hd2 (fun x h => hx x (List.mem_of_mem_take h)) he2, by kernel_rfl⟩) (by kernel_rfl) (List.all_eq_true.1 (by kernel_rfl))
    | false =>
      have he := enc_bad _ hR
      have hl : (b.take 200).length = 200 := by rw [List.length_take]; omega
      have hx : ∀ x ∈ (b.take 200), 0 ≤ x ∧ x ≤ 255 := fun x h => hbx x (List.mem_of_mem_take h)
      rcases dec_any (b.take 200) hx (by omega) with ⟨w, hw, hd2⟩ | ⟨⟨yk, yr, yn, ya, yb, ys, yt⟩, e, hd2, hR2, h1, h2, h3, h4, h5⟩
      · rw [hl] at hd2
        exact ValDoes.of_code Try.func3 (by kernel_rfl) (by kernel_rfl) (k := 104) (by kernel_rfl) (fun B => ⟨_, _, .inr rfl, zbF10_1 kind L (fewL L) A b f (kind % (1 + 1)).toNat zk zr zn za zb zs zt hA hb hbx rfl (fewL_len L) rfl hj2 hz hR he h200 0 0 0 0 0 ⟨#[]⟩ ⟨#[]⟩ w hw hd2, by kernel_rfl⟩) (by kernel_rfl) (List.all_eq_true.1 (by kernel_rfl))
      · have he2 := enc_does _ hR2 h1 h2
        obtain ⟨m, rfl⟩ : ∃ m : Nat, e = m := ⟨e.toNat, by omega⟩
        rw [Int.toNat_natCast] at h5
        have hm : ((b.take 200).take m).length = m := by rw [List.length_take]; omega
        unfold encR at he2
        rw [← h5, hm] at he2
        rw [hl] at hd2
        exact ValDoes.of_code Try.func3 (by kernel_rfl) (by kernel_rfl) (k := 104) (by kernel_rfl) (fun B => ⟨_, _, .inr rfl, zbF11_1 kind L (fewL L) A b f (kind % (1 + 1)).toNat zk zr zn za zb zs zt hA hb hbx rfl (fewL_len L) rfl hj2 hz hR he h200 yk yr yn ya yb ys yt m (by omega) (by omega) hd2 (fun x h => hx x (List.mem_of_mem_take h)) he2, by kernel_rfl⟩) (by kernel_rfl) (List.all_eq_true.1 (by kernel_rfl))
  · cases hR : rightZ ⟨zk, zr, zn, za, zb, zs, zt⟩ with
    | true =>
      have q := rightZ_ok hR
      have he := enc_does _ hR i1 i2
      have hd := dec_behind (A := A) hR i1 i2 hA hAx
      have hEl := enc_len q
      have hEx := enc_byte q i1 i2
      unfold encR at he
      have hd' : ValDoes Try.prog 10 [.s (.slv (A ++ encZ ⟨zk, zr, zn, za, zb, zs, zt⟩).length none 1 (flat bc (A ++ encZ ⟨zk, zr, zn, za, zb, zs, zt⟩))), .s (.int .i64 (A.length : Int))] (decT ⟨zk, zr, zn, za, zb, zs, zt⟩ ((A.length + (encZ ⟨zk, zr, zn, za, zb, zs, zt⟩).length : Nat) : Int)) := by rw [← List.length_append]; exact hd
      clear hd
      have hd := hd'
      have hl : b.length = b.length := by rfl
      have hx : ∀ x ∈ b, 0 ≤ x ∧ x ≤ 255 := hbx
      rcases dec_any b hx (by omega) with ⟨w, hw, hd2⟩ | ⟨⟨yk, yr, yn, ya, yb, ys, yt⟩, e, hd2, hR2, h1, h2, h3, h4, h5⟩
      · rw [hl] at hd2
        exact ValDoes.of_code Try.func3 (by kernel_rfl) (by kernel_rfl) (k := 104) (by kernel_rfl) (fun B => ⟨_, _, .inr rfl, zbT00_1 kind L (fewL L) A b f (kind % (1 + 1)).toNat zk zr zn za zb zs zt hA hb hbx rfl (fewL_len L) rfl hj2 hz _ hEl hEx hR he hd h200 0 0 0 0 0 ⟨#[]⟩ ⟨#[]⟩ w hw hd2, by kernel_rfl⟩) (by kernel_rfl) (List.all_eq_true.1 (by kernel_rfl))
      · have he2 := enc_does _ hR2 h1 h2
        obtain ⟨m, rfl⟩ : ∃ m : Nat, e = m := ⟨e.toNat, by omega⟩
        rw [Int.toNat_natCast] at h5
        have hm : (b.take m).length = m := by rw [List.length_take]; omega
        unfold encR at he2
        rw [← h5, hm] at he2
        rw [hl] at hd2
        exact ValDoes.of_code Try.func3 (by kernel_rfl) (by kernel_rfl) (k := 104) (by kernel_rfl) (fun B => ⟨_, _, .inr rfl, zbT01_1 kind L (fewL L) A b f (kind % (1 + 1)).toNat zk zr zn za zb zs zt hA hb hbx rfl (fewL_len L) rfl hj2 hz _ hEl hEx hR he hd h200 yk yr yn ya yb ys yt m (by omega) (by omega) hd2 (fun x h => hx x (List.mem_of_mem_take h)) he2, by kernel_rfl⟩) (by kernel_rfl) (List.all_eq_true.1 (by kernel_rfl))
    | false =>
      have he := enc_bad _ hR
      have hl : b.length = b.length := by rfl
      have hx : ∀ x ∈ b, 0 ≤ x ∧ x ≤ 255 := hbx
      rcases dec_any b hx (by omega) with ⟨w, hw, hd2⟩ | ⟨⟨yk, yr, yn, ya, yb, ys, yt⟩, e, hd2, hR2, h1, h2, h3, h4, h5⟩
      · rw [hl] at hd2
        exact ValDoes.of_code Try.func3 (by kernel_rfl) (by kernel_rfl) (k := 104) (by kernel_rfl) (fun B => ⟨_, _, .inr rfl, zbF00_1 kind L (fewL L) A b f (kind % (1 + 1)).toNat zk zr zn za zb zs zt hA hb hbx rfl (fewL_len L) rfl hj2 hz hR he h200 0 0 0 0 0 ⟨#[]⟩ ⟨#[]⟩ w hw hd2, by kernel_rfl⟩) (by kernel_rfl) (List.all_eq_true.1 (by kernel_rfl))
      · have he2 := enc_does _ hR2 h1 h2
        obtain ⟨m, rfl⟩ : ∃ m : Nat, e = m := ⟨e.toNat, by omega⟩
        rw [Int.toNat_natCast] at h5
        have hm : (b.take m).length = m := by rw [List.length_take]; omega
        unfold encR at he2
        rw [← h5, hm] at he2
        rw [hl] at hd2
        exact ValDoes.of_code Try.func3 (by kernel_rfl) (by kernel_rfl) (k := 104) (by kernel_rfl) (fun B => ⟨_, _, .inr rfl, zbF01_1 kind L (fewL L) A b f (kind % (1 + 1)).toNat zk zr zn za zb zs zt hA hb hbx rfl (fewL_len L) rfl hj2 hz hR he h200 yk yr yn ya yb ys yt m (by omega) (by omega) hd2 (fun x h => hx x (List.mem_of_mem_take h)) he2, by kernel_rfl⟩) (by kernel_rfl) (List.all_eq_true.1 (by kernel_rfl))
end Go.Proofs.Ytojleakknchfdaa.V
