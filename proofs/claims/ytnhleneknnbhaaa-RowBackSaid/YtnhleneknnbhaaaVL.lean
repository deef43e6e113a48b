/- Chapter 1: what is put is got, and what is got was put so: plain. -/
import Derived.Test.YtnhleneknnbhaaaVC
namespace Go.Proofs.Ytnhleneknnbhaaa.V
open Go Go.RowKit Go.Proofs Go.Proofs.Ytnhleneknnbhaaa.Eng Go.Proofs.Ytnhleneknnbhaaa.VPl
set_option linter.unusedVariables false
set_option linter.unusedSimpArgs false
abbrev In64 (a : Int) : Prop := -9223372036854775808 ≤ a ∧ a ≤ 9223372036854775807
theorem bytesOf_byte (s : ByteArray) : ∀ x ∈ bytesOf s, 0 ≤ x ∧ x ≤ 255 := by
  intro x hx
  obtain ⟨b, _, rfl⟩ := List.mem_map.1 hx
  have := b.toNat_lt
  omega
theorem textOf_bytes (s : ByteArray) : textOf (bytesOf s) = s := by
  unfold textOf bytesOf
  rw [List.map_map]
  have : (fun n : Int => UInt8.ofNat n.toNat) ∘ (fun b : UInt8 => (b.toNat : Int)) = id := by
    funext b
    simp
  rw [this, List.map_id]
theorem textOf_size (l : List Int) : (textOf l).size = l.length := by
  show (Array.size _) = _
  simp
theorem bytes_textOf {l : List Int} (h : ∀ x ∈ l, 0 ≤ x ∧ x ≤ 255) : bytesOf (textOf l) = l := by
  unfold bytesOf textOf
  simp only [List.map_map]
  conv => rhs; rw [← List.map_id l]
  refine List.map_congr_left fun x hx => ?_
  have := h x hx
  simp only [Function.comp, UInt8.toNat_ofNat', id]
  omega

theorem small_put {A R : List Int} {n : Int} (h0 : 0 ≤ n) (h1 : n ≤ 1099511627776) : smallI (A ++ vput n ++ R) (A.length : Int) = (n, ((A ++ vput n).length : Int), 0) := by
  unfold smallI
  rw [getI_put h0 (by omega)]
  simp only [capI]
  rw [if_neg (by omega), List.length_append]
  simp
theorem gzag_put {A R : List Int} {a : Int} (h : In64 a) : gzagI (A ++ vput (zigI a) ++ R) (A.length : Int) = (a, ((A ++ vput (zigI a)).length : Int), 0) := by
  unfold gzagI
  rw [getI_put (zigI_range h).1 (zigI_range h).2]
  simp only
  rw [zag_zig a h, List.length_append]
  simp
theorem gtext_put {A R : List Int} {s : ByteArray} {most : Int} (h : (s.size : Int) ≤ most) (h2 : most ≤ 1000000) : gtextI (A ++ (vput (s.size : Int) ++ bytesOf s) ++ R) (A.length : Int) most = (s, ((A ++ (vput (s.size : Int) ++ bytesOf s)).length : Int), 0) := by
  have e : A ++ (vput (s.size : Int) ++ bytesOf s) ++ R = A ++ vput (s.size : Int) ++ (bytesOf s ++ R) := by simp only [List.append_assoc]
  unfold gtextI
  rw [e, getI_put (by omega) (by omega)]
  simp only
  rw [if_neg (by simp), if_neg (by omega), if_neg (by simp only [List.length_append, bytesOf_len]; omega)]
  refine Prod.ext ?_ (Prod.ext ?_ rfl)
  · simp only
    have e1 : ((A.length : Int) + ((vput (s.size : Int)).length : Int)).toNat = (A ++ vput (s.size : Int)).length := by rw [List.length_append]; omega
    rw [e1, List.drop_left, Int.toNat_natCast, ← bytesOf_len s, List.take_left, textOf_bytes]
  · simp only [List.length_append, bytesOf_len]
    omega

/-- Reading such a piece at a goes to e. -/
structure Goes (L : List Int) (a e : Int) (p : List Int) : Prop where
  a0 : 0 ≤ a
  ae : e = a + p.length
  el : e ≤ L.length
  tk : L.take e.toNat = L.take a.toNat ++ p
theorem goes_get {L : List Int} {a v e : Int} (hx : ∀ x ∈ L, 0 ≤ x ∧ x ≤ 255) (h : getI L a = (v, e, 0)) : 0 ≤ v ∧ v ≤ 18446744073709551615 ∧ Goes L a e (vput v) := by
  obtain ⟨h0, h1, h2, h3, h4, h5, r, h6, h7⟩ := getI_ok hx h
  refine ⟨h2, h3, h0, h4, h5, ?_⟩
  have hl : (L.take a.toNat ++ vput v).length = e.toNat := by rw [List.length_append, List.length_take]; omega
  conv => lhs; rw [h7]
  exact List.take_left' hl
theorem small_ok {L : List Int} {a n e : Int} (hx : ∀ x ∈ L, 0 ≤ x ∧ x ≤ 255) (h : smallI L a = (n, e, 0)) (hn : n < 1099511627776) : 0 ≤ n ∧ Goes L a e (vput n) := by
  unfold smallI at h
  obtain ⟨v, e', w, hv⟩ : ∃ v e' w, getI L a = (v, e', w) := ⟨_, _, _, rfl⟩
  rw [hv] at h
  simp only [Prod.mk.injEq] at h
  obtain ⟨h1, rfl, rfl⟩ := h
  obtain ⟨g1, g2, g3⟩ := goes_get hx hv
  have : v = n := by
    simp only [capI] at h1
    split at h1 <;> omega
  subst this
  exact ⟨g1, g3⟩
theorem gzag_ok {L : List Int} {a m e : Int} (hx : ∀ x ∈ L, 0 ≤ x ∧ x ≤ 255) (h : gzagI L a = (m, e, 0)) : In64 m ∧ Goes L a e (vput (zigI m)) := by
  unfold gzagI at h
  obtain ⟨v, e', w, hv⟩ : ∃ v e' w, getI L a = (v, e', w) := ⟨_, _, _, rfl⟩
  rw [hv] at h
  simp only [Prod.mk.injEq] at h
  obtain ⟨rfl, rfl, rfl⟩ := h
  obtain ⟨g1, g2, g3⟩ := goes_get hx hv
  rw [zig_zag v g1]
  exact ⟨zagI_range ⟨g1, g2⟩, g3⟩
theorem Goes.trans {L : List Int} {a e f : Int} {p q : List Int} (h : Goes L a e p) (g : Goes L e f q) : Goes L a f (p ++ q) :=
  ⟨h.a0, by have := h.ae; have := g.ae; rw [List.length_append]; omega, g.el, by rw [g.tk, h.tk, List.append_assoc]⟩
theorem gtext_ok {L : List Int} {a e most : Int} {s : ByteArray} (hx : ∀ x ∈ L, 0 ≤ x ∧ x ≤ 255) (h : gtextI L a most = (s, e, 0)) : (s.size : Int) ≤ most ∧ Goes L a e (vput (s.size : Int) ++ bytesOf s) := by
  unfold gtextI at h
  obtain ⟨v, e', w, hv⟩ : ∃ v e' w, getI L a = (v, e', w) := ⟨_, _, _, rfl⟩
  rw [hv] at h
  simp only at h
  split at h
  · rename_i hw
    simp only [Prod.mk.injEq] at h
    exact absurd h.2.2 hw
  · rename_i hw
    obtain rfl : w = 0 := by omega
    split at h
    · simp at h
    · rename_i h1
      split at h
      · simp at h
      · rename_i h2
        simp only [Prod.mk.injEq, and_true] at h
        obtain ⟨rfl, rfl⟩ := h
        obtain ⟨g1, g2, g3⟩ := goes_get hx hv
        have hae := g3.ae
        have ha0 := g3.a0
        have hl : ((L.drop e'.toNat).take v.toNat).length = v.toNat := by rw [List.length_take, List.length_drop]; omega
        have hb : ∀ x ∈ (L.drop e'.toNat).take v.toNat, 0 ≤ x ∧ x ≤ 255 := fun x h => hx x (List.mem_of_mem_drop (List.mem_of_mem_take h))
        have e1 : (((textOf ((L.drop e'.toNat).take v.toNat)).size : Nat) : Int) = v := by rw [textOf_size, hl]; omega
        rw [e1, bytes_textOf hb]
        refine ⟨by omega, g3.trans ⟨by omega, by rw [hl]; omega, by omega, ?_⟩⟩
        have e2 : (e' + v).toNat = e'.toNat + v.toNat := by omega
        rw [e2, List.take_add]

theorem str_nil {s : ByteArray} (h : s.data.toList = []) : s = ⟨#[]⟩ := by
  obtain ⟨⟨l⟩⟩ := s
  simp at h
  subst h
  rfl
theorem small_bd {L : List Int} {a : Int} (hx : ∀ x ∈ L, 0 ≤ x ∧ x ≤ 255) : 0 ≤ (smallI L a).1 := by
  unfold smallI
  have := (getI_bd (a := a) hx).1
  simp only [capI]
  split <;> omega
end Go.Proofs.Ytnhleneknnbhaaa.V
