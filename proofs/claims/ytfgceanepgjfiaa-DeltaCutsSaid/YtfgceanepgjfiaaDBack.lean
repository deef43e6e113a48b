/- Decode behind Encode: whole, too many numbers, and cut off. -/
import Derived.Test.YtfgceanepgjfiaaDDec
namespace Go.Proofs.Ytfgceanepgjfiaa.DBack
open Go.RowKit Go.Proofs.Ytfgceanepgjfiaa.PS Go.Proofs.YtfgceanepgjfiaaW.PrintWords Go.Proofs.YtfgceanepgjfiaaW.PrintLast Go.Proofs.Ytfgceanepgjfiaa.Base Go.Proofs.Ytfgceanepgjfiaa.VPlain Go.Proofs.Ytfgceanepgjfiaa.Zigs Go.Proofs.Ytfgceanepgjfiaa.DPlain Go.Proofs.Ytfgceanepgjfiaa.VGet Go.Proofs.Ytfgceanepgjfiaa.DDec
open Go.Proofs.YtfgceanepgjfiaaW.PrintMore
theorem encD_parts (p m r : List Int) : p ++ encD m ++ r = p ++ vput m.length ++ (enc (dx 0 0 0 m) ++ r) := by
  unfold encD
  simp only [List.append_assoc]
theorem encD_parts2 (p m r : List Int) : p ++ encD m ++ r = (p ++ vput m.length) ++ enc (dx 0 0 0 m) ++ r := by
  unfold encD
  simp only [List.append_assoc]
theorem dec_f {p m r : List Int} {most : Int} (hm : m.length ≤ 1000000000) (hI : ∀ x ∈ m, I64 x) (hmost : (m.length : Int) ≤ most) (hmost2 : most ≤ 1000000000) (hl : (p ++ encD m ++ r).length ≤ 140737488355328) (hb : ∀ x ∈ p ++ encD m ++ r, 0 ≤ x ∧ x ≤ 255) {k : Nat} (hk : (p ++ encD m ++ r).length + m.length + 1 < k) :
    delta_Decode.f k (p ++ encD m ++ r) (p.length : Int) most = some (m, ((p ++ encD m).length : Int), 0) := by
  unfold delta_Decode.f
  have hg : getI (p ++ encD m ++ r) (p.length : Int) = ((m.length : Int), (p.length : Int) + (vput m.length).length, 0) := by
    rw [encD_parts, getI_put (by omega) (by omega)]
  rw [get_f hl hb _ (by omega), Option.bind_some, hg]
  have hu : IntKind.u64.wrap (mx most 0) = most := by unfold mx; rw [if_neg (by omega)]; exact u64_id (by omega) (by omega)
  have hpl : (p.length : Int) + (vput m.length).length = ((p ++ vput m.length).length : Int) := by rw [List.length_append]; push_cast; rfl
  simp only [if_true, hu, hpl]
  rw [if_neg (by omega)]
  have hxl := dx_len m 0 0 0
  have key := dec_loop r (dx 0 0 0 m) (p ++ vput m.length) k 0 m.length [] 0 0 (by omega) (by omega) (by rw [List.length_nil, hxl]; omega) (dx_I m 0 0 0 hI) (by rw [← encD_parts2]; exact hl) (by rw [← encD_parts2]; exact hb) (by rw [← encD_parts2, hxl]; exact hk)
  have hund := und_dx m 0 0 0 hI (by unfold I64; omega) (fun _ => rfl) (by unfold I64; omega)
  rw [encD_parts2]
  refine key.trans ?_
  rw [List.nil_append, hund]
  simp only [encD, List.append_assoc]
theorem dec_few {p m r : List Int} {most : Int} (hm : m.length ≤ 1000000000) (hmost : mx most 0 < m.length) (hmost0 : most ≤ 1000000000) (hl : (p ++ encD m ++ r).length ≤ 140737488355328) (hb : ∀ x ∈ p ++ encD m ++ r, 0 ≤ x ∧ x ≤ 255) {k : Nat} (hk : (p ++ encD m ++ r).length + m.length + 1 < k) :
    delta_Decode.f k (p ++ encD m ++ r) (p.length : Int) most = some ([], 0, 4) := by
  unfold delta_Decode.f
  have hg : getI (p ++ encD m ++ r) (p.length : Int) = ((m.length : Int), (p.length : Int) + (vput m.length).length, 0) := by
    rw [encD_parts, getI_put (by omega) (by omega)]
  rw [get_f hl hb _ (by omega), Option.bind_some, hg]
  have hu : IntKind.u64.wrap (mx most 0) = mx most 0 := by unfold mx at *; split <;> exact u64_id (by omega) (by omega)
  simp only [if_true, hu]
  rw [if_pos (by omega)]
theorem dec_empty {p r : List Int} {most : Int} (hmost0 : most ≤ 1000000000) (hl : (p ++ encD [] ++ r).length ≤ 140737488355328) (hb : ∀ x ∈ p ++ encD [] ++ r, 0 ≤ x ∧ x ≤ 255) {k : Nat} (hk : (p ++ encD [] ++ r).length + 1 < k) :
    ∃ t, delta_Decode.f k (p ++ encD [] ++ r) (p.length : Int) most = some t := by
  unfold delta_Decode.f
  have hg : getI (p ++ encD [] ++ r) (p.length : Int) = (0, (p.length : Int) + (vput 0).length, 0) := by
    rw [encD_parts]
    exact getI_put (n := 0) (by decide) (by decide)
  obtain ⟨k, rfl⟩ : ∃ m, k = m + 1 := ⟨k - 1, by omega⟩
  rw [get_f hl hb _ (by omega), Option.bind_some, hg]
  have hu : ¬ (0 : Int) > IntKind.u64.wrap (mx most 0) := by unfold mx; split <;> rw [u64_id (by omega) (by omega)] <;> omega
  simp only [if_true]
  rw [if_neg hu, delta_Decode.l0, if_neg (by omega)]
  exact ⟨_, rfl⟩
theorem dec_short {m : List Int} {most : Int} (hm : m.length ≤ 1000000000) (hI : ∀ x ∈ m, I64 x) (hmost : (m.length : Int) ≤ most) (hmost2 : most ≤ 1000000000) {c : Nat} (hc : c < (encD m).length) {k : Nat} (hk : (encD m).length + m.length + 1 < k) :
    delta_Decode.f k ((encD m).take c) 0 most = some ([], 0, 10) := by
  have hlen := encD_len m
  have hbyte := encD_byte hm hI
  have hb : ∀ x ∈ (encD m).take c, 0 ≤ x ∧ x ≤ 255 := fun x hx => hbyte x (List.mem_of_mem_take hx)
  have hl : ((encD m).take c).length ≤ 140737488355328 := by rw [List.length_take]; omega
  have hkl : ((encD m).take c).length < k := by rw [List.length_take]; omega
  unfold delta_Decode.f
  rw [get_f hl hb _ hkl, Option.bind_some]
  by_cases h : c < (vput m.length).length
  · have ht : (encD m).take c = [] ++ (vput m.length).take c := by unfold encD; rw [List.take_append_of_le_length (by omega)]; rfl
    have hg := getI_cut (b := []) h
    rw [ht]
    rw [show (([] : List Int).length : Int) = 0 from rfl] at hg
    rw [hg]
    simp only
    rw [if_neg (by decide)]
  · have hxl := dx_len m 0 0 0
    have he : (encD m).length = (vput m.length).length + (enc (dx 0 0 0 m)).length := by unfold encD; rw [List.length_append]
    obtain ⟨a, y, b, q, hab, ht, hq⟩ := enc_take (dx 0 0 0 m) (c - (vput m.length).length) (by omega)
    have ht2 : (encD m).take c = vput m.length ++ enc a ++ (vput (zigI y)).take q := by
      unfold encD
      rw [List.take_append, List.take_of_length_le (by omega), ht, List.append_assoc]
    have hg : getI ((encD m).take c) 0 = ((m.length : Int), ((vput m.length).length : Int), 0) := by
      have := getI_put (b := []) (r := enc a ++ (vput (zigI y)).take q) (n := (m.length : Int)) (by omega) (by omega)
      rw [show (([] : List Int).length : Int) = 0 from rfl, List.nil_append, Int.zero_add] at this
      rw [ht2, List.append_assoc, this]
    rw [hg]
    have hu : IntKind.u64.wrap (mx most 0) = most := by unfold mx; rw [if_neg (by omega)]; exact u64_id (by omega) (by omega)
    simp only [if_true, hu]
    rw [if_neg (by omega)]
    rw [ht2] at hl hb hkl ⊢
    have hal : a.length + 1 + b.length = m.length := by rw [← hxl, hab]; simp only [List.length_append, List.length_cons]; omega
    have hkl2 : (vput m.length ++ enc a ++ (vput (zigI y)).take q).length ≤ (encD m).length := by rw [← ht2, List.length_take]; omega
    exact dec_cut y q hq a (vput m.length) k 0 m.length [] 0 0 (by omega) (by omega) (by rw [List.length_nil]; omega) (fun x hx => dx_I m 0 0 0 hI x (by rw [hab]; simp [hx])) hl hb (by omega)
end Go.Proofs.Ytfgceanepgjfiaa.DBack
