/- Chapter 8: what is written is read, and what is read was written so: in plain Lean. -/
import Derived.Test.YtojleakknchfdaaQD
namespace Go.Proofs.Ytojleakknchfdaa.V
open Go Go.RowKit Go.Proofs Go.Proofs.Ytojleakknchfdaa.Eng Go.Proofs.Ytojleakknchfdaa.VPl
set_option linter.unusedVariables false
set_option linter.unusedSimpArgs false

theorem bytesOf_byte (s : ByteArray) : ∀ x ∈ bytesOf s, 0 ≤ x ∧ x ≤ 255 := by
  intro x hx
  obtain ⟨b, _, rfl⟩ := List.mem_map.1 hx
  have := b.toNat_lt
  omega
theorem textOf_bytes (s : ByteArray) : textOf (bytesOf s) = s := by
  unfold textOf bytesOf
  rw [List.map_map]
  have : (fun n : Int => UInt8.ofNat n.toNat) ∘ (fun b : UInt8 => (b.toNat : Int)) = id := by
    funext b
    simp
  rw [this, List.map_id]
theorem textOf_size (l : List Int) : (textOf l).size = l.length := by
  show (Array.size _) = _
  simp
theorem bytes_textOf {l : List Int} (h : ∀ x ∈ l, 0 ≤ x ∧ x ≤ 255) : bytesOf (textOf l) = l := by
  unfold bytesOf textOf
  simp only [List.map_map]
  conv => rhs; rw [← List.map_id l]
  refine List.map_congr_left fun x hx => ?_
  have := h x hx
  simp only [Function.comp, UInt8.toNat_ofNat', id]
  omega

theorem str_nil {s : ByteArray} (h : s.data.toList = []) : s = ⟨#[]⟩ := by
  obtain ⟨⟨l⟩⟩ := s
  simp at h
  subst h
  rfl
theorem enc_byte {z : Zn} (hR : RightZ z) (ha : In64 z.minN) (hb : In64 z.maxN) : ∀ x ∈ encZ z, 0 ≤ x ∧ x ≤ 255 := by
  have a0 := hR.kind
  have a1 := hR.n0
  have a2 := hR.nr
  have a3 := hR.r1
  have a4 := hR.s
  have a5 := hR.t
  have k1 := vput_byte (n := z.kind) (by omega)
  have k2 := vput_byte (n := z.rows) (by omega)
  have k3 := vput_byte (n := z.nulls) (by omega)
  have k4 := vput_byte (n := zigI z.minN) (zigI_range ha).2
  have k5 := vput_byte (n := zigI z.maxN) (zigI_range hb).2
  have k6 := vput_byte (n := (z.minS.size : Int)) (by omega)
  have k7 := vput_byte (n := (z.maxS.size : Int)) (by omega)
  have k8 := bytesOf_byte z.minS
  have k9 := bytesOf_byte z.maxS
  intro x hx
  unfold encZ at hx
  split at hx
  · simp only [List.mem_append] at hx
    rcases hx with (hx | hx) | hx
    · exact k1 x hx
    · exact k2 x hx
    · exact k3 x hx
  · split at hx
    · simp only [List.mem_append] at hx
      rcases hx with (((hx | hx) | hx) | hx) | hx
      · exact k1 x hx
      · exact k2 x hx
      · exact k3 x hx
      · exact k4 x hx
      · exact k5 x hx
    · simp only [List.mem_append] at hx
      rcases hx with (((((hx | hx) | hx) | hx) | hx) | hx) | hx
      · exact k1 x hx
      · exact k2 x hx
      · exact k3 x hx
      · exact k6 x hx
      · exact k8 x hx
      · exact k7 x hx
      · exact k9 x hx
theorem enc_len {z : Zn} (hR : RightZ z) : (encZ z).length ≤ 150 := by
  have a4 := hR.s
  have a5 := hR.t
  have k1 := (vput_len z.kind).2
  have k2 := (vput_len z.rows).2
  have k3 := (vput_len z.nulls).2
  have k4 := (vput_len (zigI z.minN)).2
  have k5 := (vput_len (zigI z.maxN)).2
  have k6 := (vput_len (z.minS.size : Int)).2
  have k7 := (vput_len (z.maxS.size : Int)).2
  unfold encZ
  split
  · simp only [List.length_append]; omega
  · split
    · simp only [List.length_append]; omega
    · simp only [List.length_append, bytesOf_len]; omega

end Go.Proofs.Ytojleakknchfdaa.V
