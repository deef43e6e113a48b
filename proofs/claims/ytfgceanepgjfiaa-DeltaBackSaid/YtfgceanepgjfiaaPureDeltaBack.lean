/- What Encode writes behind anything, Decode reads: no condition on the numbers or on what lies ahead. -/
import Derived.Test.YtfgceanepgjfiaaPScolumbariumlaw4DeltaBack
import Derived.Test.YtfgceanepgjfiaaDEnc
import Derived.Test.YtfgceanepgjfiaaDBack
import Derived.Test.YtfgceanepgjfiaaDKnown
import Derived.Test.YtfgceanepgjfiaaSame64
namespace Go.Proofs.Ytfgceanepgjfiaa.Pure
open Go.RowKit Go.Proofs.Ytfgceanepgjfiaa.PS Go.Proofs.YtfgceanepgjfiaaW.PrintWords Go.Proofs.YtfgceanepgjfiaaW.PrintLast Go.Proofs.Ytfgceanepgjfiaa.Base Go.Proofs.Ytfgceanepgjfiaa.VPlain Go.Proofs.Ytfgceanepgjfiaa.Zigs Go.Proofs.Ytfgceanepgjfiaa.DPlain Go.Proofs.Ytfgceanepgjfiaa.DEnc Go.Proofs.Ytfgceanepgjfiaa.DKnown Go.Proofs.Ytfgceanepgjfiaa.DBack Go.Proofs.Ytfgceanepgjfiaa.Same64
open Go.Proofs.YtfgceanepgjfiaaW.PrintMore
theorem DeltaBack : columbariumlaw4_DeltaBack.Pure := by
  intro p l _ hp hpb _ _ hlI
  have hpb : ∀ x ∈ p, 0 ≤ x ∧ x ≤ 255 := fun x hx => u8wf (hpb x hx)
  have hI : ∀ x ∈ l, I64 x := fun x hx => i64wf (hlI x hx)
  refine ⟨p.length + 3000, ?_⟩
  generalize hk : p.length + 3000 = k
  have main : ∀ m : List Int, m.length ≤ 60 → (∀ x ∈ m, I64 x) →
      delta_Encode.f k m = some (encD m) ∧ p.length + (encD m).length < 140737488355328 ∧ delta_Decode.f k (p ++ encD m) (p.length : Int) (m.length : Int) = some (m, ((p ++ encD m).length : Int), 0) ∧
      columbariumbook_Same_int64.f k m m = some true ∧ ∃ t, delta_Decode.f k (p ++ encD m) (p.length : Int) (wrap64 ((m.length : Int) - 1)) = some t ∧ (¬ (m.length : Int) = 0 → t.2.2 = 4) := by
    intro m hm hmI
    have hlen := encD_len m
    have hbyte := encD_byte (by omega) hmI
    have hb : ∀ x ∈ p ++ encD m ++ [], 0 ≤ x ∧ x ≤ 255 := by
      intro x hx
      rw [List.append_nil] at hx
      rcases List.mem_append.1 hx with h | h
      · exact hpb x h
      · exact hbyte x h
    have hle : (p ++ encD m ++ []).length = p.length + (encD m).length := by rw [List.append_nil, List.length_append]
    have hw : wrap64 ((m.length : Int) - 1) = (m.length : Int) - 1 := w64_id (by omega) (by omega)
    refine ⟨enc_f (by omega) hmI (by omega), by omega, ?_, same64_f (by omega) (by omega), ?_⟩
    · have := dec_f (p := p) (m := m) (r := []) (most := (m.length : Int)) (by omega) hmI (by omega) (by omega) (by omega) hb (k := k) (by omega)
      rwa [List.append_nil] at this
    · rw [hw]
      cases m with
      | nil =>
        obtain ⟨t, ht⟩ := dec_empty (p := p) (r := []) (most := (([] : List Int).length : Int) - 1) (by decide) (by omega) hb (k := k) (by omega)
        rw [List.append_nil] at ht
        exact ⟨t, ht, fun h => absurd rfl h⟩
      | cons y m =>
        have hy : (y :: m).length = m.length + 1 := rfl
        have := dec_few (p := p) (m := y :: m) (r := []) (most := ((y :: m).length : Int) - 1) (by omega) (by unfold mx; split <;> omega) (by omega) (by omega) hb (k := k) (by omega)
        rw [List.append_nil] at this
        exact ⟨_, this, fun _ => rfl⟩
  unfold columbariumlaw4_DeltaBack.f
  by_cases h60 : (l.length : Int) > 60
  · have hlen : (l.take 60).length = 60 := by rw [List.length_take]; omega
    obtain ⟨h1, h2, h3, h4, t, h5, h6⟩ := main (l.take 60) (by omega) (fun x hx => hI x (List.mem_of_mem_take hx))
    generalize l.take 60 = m at *
    rw [if_pos h60, if_pos (by omega), Option.bind_some, Option.bind_some, if_pos (by rw [List.length_nil]; omega), Option.bind_some, List.nil_append, h1, Option.bind_some, if_pos h2, Option.bind_some, h3, Option.bind_some]
    rw [if_pos rfl, if_pos rfl, h4, Option.bind_some, if_pos rfl, h5, Option.bind_some]
    rw [if_neg (by omega), if_pos (h6 (by omega)), known_f (by omega), Option.bind_some]
  · obtain ⟨h1, h2, h3, h4, t, h5, h6⟩ := main l (by omega) hI
    rw [if_neg h60, Option.bind_some, if_pos (by rw [List.length_nil]; omega), Option.bind_some, List.nil_append, h1, Option.bind_some, if_pos h2, Option.bind_some, h3, Option.bind_some]
    rw [if_pos rfl, if_pos rfl, h4, Option.bind_some, if_pos rfl, h5, Option.bind_some]
    by_cases h0 : (l.length : Int) = 0
    · rw [if_pos h0, known_f (by omega), Option.bind_some]
    · rw [if_neg h0, if_pos (h6 h0), known_f (by omega), Option.bind_some]
end Go.Proofs.Ytfgceanepgjfiaa.Pure
