/- Chapter 8: what is written is read, and what is read was written so: in plain Lean. -/
import Derived.Test.YtojleakknchfdaaQD
namespace Go.Proofs.Ytojleakknchfdaa.V
open Go Go.RowKit Go.Proofs Go.Proofs.Ytojleakknchfdaa.Eng Go.Proofs.Ytojleakknchfdaa.VPl
set_option linter.unusedVariables false
set_option linter.unusedSimpArgs false

theorem bytesOf_byte (s : ByteArray) : ∀ x ∈ bytesOf s, 0 ≤ x ∧ x ≤ 255 := by
  intro x hx
  obtain ⟨b, _, rfl⟩ := List.mem_map.1 hx
  have := b.toNat_lt
  omega
theorem textOf_bytes (s : ByteArray) : textOf (bytesOf s) = s := by
  unfold textOf bytesOf
  rw [List.map_map]
  have : (fun n : Int => UInt8.ofNat n.toNat) ∘ (fun b : UInt8 => (b.toNat : Int)) = id := by
    funext b
    simp
  rw [this, List.map_id]
theorem textOf_size (l : List Int) : (textOf l).size = l.length := by
  show (Array.size _) = _
  simp
theorem bytes_textOf {l : List Int} (h : ∀ x ∈ l, 0 ≤ x ∧ x ≤ 255) : bytesOf (textOf l) = l := by
  unfold bytesOf textOf
  simp only [List.map_map]
  conv => rhs; rw [← List.map_id l]
  refine List.map_congr_left fun x hx => ?_
  have := h x hx
  simp only [Function.comp, UInt8.toNat_ofNat', id]
  omega

theorem small_put {A R : List Int} {n : Int} (h0 : 0 ≤ n) (h1 : n ≤ 1099511627776) : smallI (A ++ vput n ++ R) (A.length : Int) = (n, ((A ++ vput n).length : Int), 0) := by
  unfold smallI
  rw [getI_put h0 (by omega)]
  simp only [capI]
  rw [if_neg (by omega), List.length_append]
  simp
theorem gzag_put {A R : List Int} {a : Int} (h : In64 a) : gzagI (A ++ vput (zigI a) ++ R) (A.length : Int) = (a, ((A ++ vput (zigI a)).length : Int), 0) := by
  unfold gzagI
  rw [getI_put (zigI_range h).1 (zigI_range h).2]
  simp only
  rw [zag_zig a h, List.length_append]
  simp
theorem gtext_put {A R : List Int} {s : ByteArray} {most : Int} (h : (s.size : Int) ≤ most) (h2 : most ≤ 1000000) : gtextI (A ++ (vput (s.size : Int) ++ bytesOf s) ++ R) (A.length : Int) most = (s, ((A ++ (vput (s.size : Int) ++ bytesOf s)).length : Int), 0) := by
  have e : A ++ (vput (s.size : Int) ++ bytesOf s) ++ R = A ++ vput (s.size : Int) ++ (bytesOf s ++ R) := by simp only [List.append_assoc]
  unfold gtextI
  rw [e, getI_put (by omega) (by omega)]
  simp only
  rw [if_neg (by simp), if_neg (by omega), if_neg (by simp only [List.length_append, bytesOf_len]; omega)]
  refine Prod.ext ?_ (Prod.ext ?_ rfl)
  · simp only
    have e1 : ((A.length : Int) + ((vput (s.size : Int)).length : Int)).toNat = (A ++ vput (s.size : Int)).length := by rw [List.length_append]; omega
    rw [e1, List.drop_left, Int.toNat_natCast, ← bytesOf_len s, List.take_left, textOf_bytes]
  · simp only [List.length_append, bytesOf_len]
    omega

/-- Reading such a piece at a goes to e. -/
structure Goes (L : List Int) (a e : Int) (p : List Int) : Prop where
  a0 : 0 ≤ a
  ae : e = a + p.length
  el : e ≤ L.length
  tk : L.take e.toNat = L.take a.toNat ++ p
theorem goes_get {L : List Int} {a v e : Int} (hx : ∀ x ∈ L, 0 ≤ x ∧ x ≤ 255) (h : getI L a = (v, e, 0)) : 0 ≤ v ∧ v ≤ 18446744073709551615 ∧ Goes L a e (vput v) := by
  obtain ⟨h0, h1, h2, h3, h4, h5, r, h6, h7⟩ := getI_ok hx h
  refine ⟨h2, h3, h0, h4, h5, ?_⟩
  have hl : (L.take a.toNat ++ vput v).length = e.toNat := by rw [List.length_append, List.length_take]; omega
  conv => lhs; rw [h7]
  exact List.take_left' hl
theorem small_ok {L : List Int} {a n e : Int} (hx : ∀ x ∈ L, 0 ≤ x ∧ x ≤ 255) (h : smallI L a = (n, e, 0)) (hn : n < 1099511627776) : 0 ≤ n ∧ Goes L a e (vput n) := by
  unfold smallI at h
  obtain ⟨v, e', w, hv⟩ : ∃ v e' w, getI L a = (v, e', w) := ⟨_, _, _, rfl⟩
  rw [hv] at h
  simp only [Prod.mk.injEq] at h
  obtain ⟨h1, rfl, rfl⟩ := h
  obtain ⟨g1, g2, g3⟩ := goes_get hx hv
  have : v = n := by
    simp only [capI] at h1
    split at h1 <;> omega
  subst this
  exact ⟨g1, g3⟩
theorem gzag_ok {L : List Int} {a m e : Int} (hx : ∀ x ∈ L, 0 ≤ x ∧ x ≤ 255) (h : gzagI L a = (m, e, 0)) : In64 m ∧ Goes L a e (vput (zigI m)) := by
  unfold gzagI at h
  obtain ⟨v, e', w, hv⟩ : ∃ v e' w, getI L a = (v, e', w) := ⟨_, _, _, rfl⟩
  rw [hv] at h
  simp only [Prod.mk.injEq] at h
  obtain ⟨rfl, rfl, rfl⟩ := h
  obtain ⟨g1, g2, g3⟩ := goes_get hx hv
  rw [zig_zag v g1]
  exact ⟨zagI_range ⟨g1, g2⟩, g3⟩
theorem Goes.trans {L : List Int} {a e f : Int} {p q : List Int} (h : Goes L a e p) (g : Goes L e f q) : Goes L a f (p ++ q) :=
  ⟨h.a0, by have := h.ae; have := g.ae; rw [List.length_append]; omega, g.el, by rw [g.tk, h.tk, List.append_assoc]⟩
theorem gtext_ok {L : List Int} {a e most : Int} {s : ByteArray} (hx : ∀ x ∈ L, 0 ≤ x ∧ x ≤ 255) (h : gtextI L a most = (s, e, 0)) : (s.size : Int) ≤ most ∧ Goes L a e (vput (s.size : Int) ++ bytesOf s) := by
  unfold gtextI at h
  obtain ⟨v, e', w, hv⟩ : ∃ v e' w, getI L a = (v, e', w) := ⟨_, _, _, rfl⟩
  rw [hv] at h
  simp only at h
  split at h
  · rename_i hw
    simp only [Prod.mk.injEq] at h
    exact absurd h.2.2 hw
  · rename_i hw
    obtain rfl : w = 0 := by omega
    split at h
    · simp at h
    · rename_i h1
      split at h
      · simp at h
      · rename_i h2
        simp only [Prod.mk.injEq, and_true] at h
        obtain ⟨rfl, rfl⟩ := h
        obtain ⟨g1, g2, g3⟩ := goes_get hx hv
        have hae := g3.ae
        have ha0 := g3.a0
        have hl : ((L.drop e'.toNat).take v.toNat).length = v.toNat := by rw [List.length_take, List.length_drop]; omega
        have hb : ∀ x ∈ (L.drop e'.toNat).take v.toNat, 0 ≤ x ∧ x ≤ 255 := fun x h => hx x (List.mem_of_mem_drop (List.mem_of_mem_take h))
        have e1 : (((textOf ((L.drop e'.toNat).take v.toNat)).size : Nat) : Int) = v := by rw [textOf_size, hl]; omega
        rw [e1, bytes_textOf hb]
        refine ⟨by omega, g3.trans ⟨by omega, by rw [hl]; omega, by omega, ?_⟩⟩
        have e2 : (e' + v).toNat = e'.toNat + v.toNat := by omega
        rw [e2, List.take_add]

theorem str_nil {s : ByteArray} (h : s.data.toList = []) : s = ⟨#[]⟩ := by
  obtain ⟨⟨l⟩⟩ := s
  simp at h
  subst h
  rfl
theorem enc_byte {z : Zn} (hR : RightZ z) (ha : In64 z.minN) (hb : In64 z.maxN) : ∀ x ∈ encZ z, 0 ≤ x ∧ x ≤ 255 := by
  have a0 := hR.kind
  have a1 := hR.n0
  have a2 := hR.nr
  have a3 := hR.r1
  have a4 := hR.s
  have a5 := hR.t
  have k1 := vput_byte (n := z.kind) (by omega)
  have k2 := vput_byte (n := z.rows) (by omega)
  have k3 := vput_byte (n := z.nulls) (by omega)
  have k4 := vput_byte (n := zigI z.minN) (zigI_range ha).2
  have k5 := vput_byte (n := zigI z.maxN) (zigI_range hb).2
  have k6 := vput_byte (n := (z.minS.size : Int)) (by omega)
  have k7 := vput_byte (n := (z.maxS.size : Int)) (by omega)
  have k8 := bytesOf_byte z.minS
  have k9 := bytesOf_byte z.maxS
  intro x hx
  unfold encZ at hx
  split at hx
  · simp only [List.mem_append] at hx
    rcases hx with (hx | hx) | hx
    · exact k1 x hx
    · exact k2 x hx
    · exact k3 x hx
  · split at hx
    · simp only [List.mem_append] at hx
      rcases hx with (((hx | hx) | hx) | hx) | hx
      · exact k1 x hx
      · exact k2 x hx
      · exact k3 x hx
      · exact k4 x hx
      · exact k5 x hx
    · simp only [List.mem_append] at hx
      rcases hx with (((((hx | hx) | hx) | hx) | hx) | hx) | hx
      · exact k1 x hx
      · exact k2 x hx
      · exact k3 x hx
      · exact k6 x hx
      · exact k8 x hx
      · exact k7 x hx
      · exact k9 x hx
theorem enc_len {z : Zn} (hR : RightZ z) : (encZ z).length ≤ 150 := by
  have a4 := hR.s
  have a5 := hR.t
  have k1 := (vput_len z.kind).2
  have k2 := (vput_len z.rows).2
  have k3 := (vput_len z.nulls).2
  have k4 := (vput_len (zigI z.minN)).2
  have k5 := (vput_len (zigI z.maxN)).2
  have k6 := (vput_len (z.minS.size : Int)).2
  have k7 := (vput_len (z.maxS.size : Int)).2
  unfold encZ
  split
  · simp only [List.length_append]; omega
  · split
    · simp only [List.length_append]; omega
    · simp only [List.length_append, bytesOf_len]; omega

/-- Decode of what was written, behind anything. -/
theorem dec_back {z : Zn} {A : List Int} (hR : rightZ z = true) (ha : In64 z.minN) (hb : In64 z.maxN) {k e1 w1 r e2 w2 n e3 w3 e4 w4 : Int} {z' : Zn}
    (s1 : smallI (A ++ encZ z) (A.length : Int) = (k, e1, w1)) (s2 : smallI (A ++ encZ z) e1 = (r, e2, w2)) (s3 : smallI (A ++ encZ z) e2 = (n, e3, w3)) (s4 : valsZ ⟨k, r, n, 0, 0, ⟨#[]⟩, ⟨#[]⟩⟩ (A ++ encZ z) e3 = (z', e4, w4)) :
    decR k w1 r w2 n e3 w3 z' e4 w4 = decT z ((A ++ encZ z).length : Int) := by
  have q := rightZ_ok hR
  have a0 := q.kind
  have a1 := q.n0
  have a2 := q.nr
  have a3 := q.r1
  have a4 := q.s
  have a5 := q.t
  obtain ⟨R, hRe⟩ : ∃ R, A ++ encZ z = A ++ vput z.kind ++ vput z.rows ++ vput z.nulls ++ R ∧ (R = if z.rows = z.nulls then [] else if z.kind = 1 then vput (zigI z.minN) ++ vput (zigI z.maxN) else vput (z.minS.size : Int) ++ bytesOf z.minS ++ (vput (z.maxS.size : Int) ++ bytesOf z.maxS)) := by
    refine ⟨_, ?_, rfl⟩
    unfold encZ
    split
    · simp only [List.append_assoc, List.append_nil]
    · split
      · simp only [List.append_assoc]
      · simp only [List.append_assoc]
  obtain ⟨hR1, hR2⟩ := hRe
  have t1 := small_put (A := A) (R := vput z.rows ++ vput z.nulls ++ R) (n := z.kind) (by omega) (by omega)
  have t2 := small_put (A := A ++ vput z.kind) (R := vput z.nulls ++ R) (n := z.rows) (by omega) (by omega)
  have t3 := small_put (A := A ++ vput z.kind ++ vput z.rows) (R := R) (n := z.nulls) (by omega) (by omega)
  have f1 : A ++ encZ z = A ++ vput z.kind ++ (vput z.rows ++ vput z.nulls ++ R) := by rw [hR1]; simp only [List.append_assoc]
  have f2 : A ++ encZ z = A ++ vput z.kind ++ vput z.rows ++ (vput z.nulls ++ R) := by rw [hR1]; simp only [List.append_assoc]
  rw [← f1, s1] at t1
  obtain ⟨rfl, rfl, rfl⟩ : _ ∧ _ ∧ _ := by simpa only [Prod.mk.injEq] using t1
  rw [← f2, s2] at t2
  obtain ⟨rfl, rfl, rfl⟩ : _ ∧ _ ∧ _ := by simpa only [Prod.mk.injEq] using t2
  rw [← hR1, s3] at t3
  obtain ⟨rfl, rfl, rfl⟩ : _ ∧ _ ∧ _ := by simpa only [Prod.mk.injEq] using t3
  unfold decR
  rw [if_neg (by simp), if_neg (by simp), if_neg (by simp), if_neg (by omega)]
  by_cases hE : z.rows = z.nulls
  · rw [if_pos hE] at hR2 ⊢
    subst hR2
    rw [List.append_nil] at hR1
    obtain ⟨b1, b2, b3, b4⟩ := q.e hE
    have e : (⟨z.kind, z.rows, z.nulls, 0, 0, ⟨#[]⟩, ⟨#[]⟩⟩ : Zn) = z := by
      obtain ⟨z1, z2, z3, z4, z5, z6, z7⟩ := z
      simp only at b1 b2 b3 b4 ⊢
      rw [str_nil b3, str_nil b4, b1, b2]
    rw [e, if_pos hR, hR1]
  · rw [if_neg hE] at hR2 ⊢
    by_cases hk : z.kind = 1
    · rw [if_pos hk] at hR2
      have t4 := gzag_put (A := A ++ vput z.kind ++ vput z.rows ++ vput z.nulls) (R := vput (zigI z.maxN)) ha
      have t5 := gzag_put (A := A ++ vput z.kind ++ vput z.rows ++ vput z.nulls ++ vput (zigI z.minN)) (R := []) hb
      have f4 : A ++ encZ z = A ++ vput z.kind ++ vput z.rows ++ vput z.nulls ++ vput (zigI z.minN) ++ vput (zigI z.maxN) := by rw [hR1, hR2]; simp only [List.append_assoc]
      rw [← f4] at t4
      rw [List.append_nil, ← f4] at t5
      unfold valsZ at s4
      simp only at s4
      rw [if_pos hk, t4] at s4
      simp only at s4
      rw [if_pos trivial, t5] at s4
      obtain ⟨rfl, rfl, rfl⟩ : _ ∧ _ ∧ _ := by simpa only [Prod.mk.injEq] using s4
      obtain ⟨b3, b4⟩ := q.i hE hk
      have e : (⟨z.kind, z.rows, z.nulls, z.minN, z.maxN, ⟨#[]⟩, ⟨#[]⟩⟩ : Zn) = z := by
        obtain ⟨z1, z2, z3, z4, z5, z6, z7⟩ := z
        simp only at b3 b4 ⊢
        rw [str_nil b3, str_nil b4]
      rw [if_neg (by simp), e, if_pos hR]
    · rw [if_neg hk] at hR2
      have t4 := gtext_put (A := A ++ vput z.kind ++ vput z.rows ++ vput z.nulls) (R := vput (z.maxS.size : Int) ++ bytesOf z.maxS) (s := z.minS) (most := 40) (by omega) (by omega)
      have t5 := gtext_put (A := A ++ vput z.kind ++ vput z.rows ++ vput z.nulls ++ (vput (z.minS.size : Int) ++ bytesOf z.minS)) (R := []) (s := z.maxS) (most := 40) (by omega) (by omega)
      have f4 : A ++ encZ z = A ++ vput z.kind ++ vput z.rows ++ vput z.nulls ++ (vput (z.minS.size : Int) ++ bytesOf z.minS) ++ (vput (z.maxS.size : Int) ++ bytesOf z.maxS) := by rw [hR1, hR2]; simp only [List.append_assoc]
      rw [← f4] at t4
      rw [List.append_nil, ← f4] at t5
      unfold valsZ at s4
      simp only at s4
      rw [if_neg hk, if_pos (by omega), t4] at s4
      simp only at s4
      rw [if_pos trivial, t5] at s4
      obtain ⟨rfl, rfl, rfl⟩ : _ ∧ _ ∧ _ := by simpa only [Prod.mk.injEq] using s4
      obtain ⟨b3, b4⟩ := q.x hE hk
      have e : (⟨z.kind, z.rows, z.nulls, 0, 0, z.minS, z.maxS⟩ : Zn) = z := by
        obtain ⟨z1, z2, z3, z4, z5, z6, z7⟩ := z
        simp only at b3 b4 ⊢
        rw [b3, b4]
      rw [if_neg (by simp), e, if_pos hR]

/-- What Decode tells of bytes at their head. -/
def Told (L : List Int) (v : AV) : Prop := (∃ w, ¬ w = 0 ∧ v = decF w) ∨ ∃ z e, v = decT z e ∧ rightZ z = true ∧ In64 z.minN ∧ In64 z.maxN ∧ 0 ≤ e ∧ e ≤ L.length ∧ L.take e.toNat = encZ z
theorem dec_told {L : List Int} (hx : ∀ x ∈ L, 0 ≤ x ∧ x ≤ 255) {k e1 w1 r e2 w2 n e3 w3 e4 w4 : Int} {z' : Zn}
    (s1 : smallI L 0 = (k, e1, w1)) (s2 : smallI L e1 = (r, e2, w2)) (s3 : smallI L e2 = (n, e3, w3)) (s4 : valsZ ⟨k, r, n, 0, 0, ⟨#[]⟩, ⟨#[]⟩⟩ L e3 = (z', e4, w4)) : Told L (decR k w1 r w2 n e3 w3 z' e4 w4) := by
  unfold decR
  by_cases h1 : w1 = 0
  case neg => rw [if_pos h1]; exact .inl ⟨_, h1, rfl⟩
  rw [if_neg (by simpa using h1)]
  by_cases h2 : w2 = 0
  case neg => rw [if_pos h2]; exact .inl ⟨_, h2, rfl⟩
  rw [if_neg (by simpa using h2)]
  by_cases h3 : w3 = 0
  case neg => rw [if_pos h3]; exact .inl ⟨_, h3, rfl⟩
  rw [if_neg (by simpa using h3)]
  subst h1 h2 h3
  by_cases h4 : ¬ k = 1 ∧ ¬ k = 2 ∨ n > r ∨ r > 1048576
  · rw [if_pos h4]; exact .inl ⟨12, by decide, rfl⟩
  rw [if_neg h4]
  obtain ⟨_, g1⟩ := small_ok hx s1 (by omega)
  obtain ⟨_, g2⟩ := small_ok hx s2 (by omega)
  obtain ⟨_, g3⟩ := small_ok hx s3 (by omega)
  have g := (g1.trans g2).trans g3
  by_cases hE : r = n
  · rw [if_pos hE]
    by_cases hR : rightZ ⟨k, r, n, 0, 0, ⟨#[]⟩, ⟨#[]⟩⟩ = true
    · rw [if_pos hR]
      refine .inr ⟨_, _, rfl, hR, (show In64 0 by decide), (show In64 0 by decide), by have := g.ae; omega, g.el, ?_⟩
      unfold encZ
      rw [if_pos hE, g.tk]
      rfl
    · rw [if_neg hR]; exact .inl ⟨12, by decide, rfl⟩
  · rw [if_neg hE]
    by_cases h5 : w4 = 0
    case neg => rw [if_pos h5]; exact .inl ⟨_, h5, rfl⟩
    rw [if_neg (by simpa using h5)]
    subst h5
    by_cases hR : rightZ z' = true
    · rw [if_pos hR]
      unfold valsZ at s4
      simp only at s4
      split at s4
      · rename_i hk
        split at s4
        · rename_i h6
          obtain ⟨rfl, h7, h8⟩ : _ ∧ _ ∧ _ := by simpa only [Prod.mk.injEq] using s4
          obtain ⟨i1, g4⟩ := gzag_ok hx (m := (gzagI L e3).1) (e := (gzagI L e3).2.1) (Prod.ext rfl (Prod.ext rfl h6))
          obtain ⟨i2, g5⟩ := gzag_ok hx (m := (gzagI L (gzagI L e3).2.1).1) (e := e4) (Prod.ext rfl (Prod.ext h7 h8))
          have g' := (g.trans g4).trans g5
          refine .inr ⟨_, _, rfl, hR, i1, i2, by have := g'.ae; omega, g'.el, ?_⟩
          unfold encZ
          rw [if_neg hE, if_pos hk, g'.tk]
          rfl
        · rename_i h6
          obtain ⟨rfl, h7, h8⟩ : _ ∧ _ ∧ _ := by simpa only [Prod.mk.injEq] using s4
          exact absurd h8 h6
      · rename_i hk
        split at s4
        · rename_i hk2
          split at s4
          · rename_i h6
            obtain ⟨rfl, h7, h8⟩ : _ ∧ _ ∧ _ := by simpa only [Prod.mk.injEq] using s4
            obtain ⟨i1, g4⟩ := gtext_ok hx (s := (gtextI L e3 40).1) (e := (gtextI L e3 40).2.1) (most := 40) (Prod.ext rfl (Prod.ext rfl h6))
            obtain ⟨i2, g5⟩ := gtext_ok hx (s := (gtextI L (gtextI L e3 40).2.1 40).1) (e := e4) (most := 40) (Prod.ext rfl (Prod.ext h7 h8))
            have g' := (g.trans g4).trans g5
            refine .inr ⟨_, _, rfl, hR, (show In64 0 by decide), (show In64 0 by decide), by have := g'.ae; omega, g'.el, ?_⟩
            unfold encZ
            rw [if_neg hE, if_neg hk, g'.tk]
            simp only [List.append_assoc, List.take_zero, Int.toNat_zero, List.nil_append]
          · rename_i h6
            obtain ⟨rfl, h7, h8⟩ : _ ∧ _ ∧ _ := by simpa only [Prod.mk.injEq] using s4
            exact absurd h8 h6
        · omega
    · rw [if_neg hR]; exact .inl ⟨12, by decide, rfl⟩
end Go.Proofs.Ytojleakknchfdaa.V
