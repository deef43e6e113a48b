/- What was written and cut off is told as cut off, and what lies behind is left alone: no condition. -/
import Derived.Test.YtfgceanepgjfiaaPScolumbariumlaw4DeltaCuts
import Derived.Test.YtfgceanepgjfiaaDEnc
import Derived.Test.YtfgceanepgjfiaaDBack
import Derived.Test.YtfgceanepgjfiaaDKnown
import Derived.Test.YtfgceanepgjfiaaSame64
import Derived.Test.YtfgceanepgjfiaaWithin
namespace Go.Proofs.Ytfgceanepgjfiaa.Pure
open Go.RowKit Go.Proofs.Ytfgceanepgjfiaa.PS Go.Proofs.YtfgceanepgjfiaaW.PrintWords Go.Proofs.YtfgceanepgjfiaaW.PrintLast Go.Proofs.Ytfgceanepgjfiaa.Base Go.Proofs.Ytfgceanepgjfiaa.VPlain Go.Proofs.Ytfgceanepgjfiaa.Zigs Go.Proofs.Ytfgceanepgjfiaa.DPlain Go.Proofs.Ytfgceanepgjfiaa.DEnc Go.Proofs.Ytfgceanepgjfiaa.DKnown Go.Proofs.Ytfgceanepgjfiaa.DBack Go.Proofs.Ytfgceanepgjfiaa.Same64 Go.Proofs.Ytfgceanepgjfiaa.Within
open Go.Proofs.YtfgceanepgjfiaaW.PrintMore
theorem DeltaCuts : columbariumlaw4_DeltaCuts.Pure := by
  intro l a p _ _ hlI _ _ hp hpb
  have hpb : ∀ x ∈ p, 0 ≤ x ∧ x ≤ 255 := fun x hx => u8wf (hpb x hx)
  have hI : ∀ x ∈ l, I64 x := fun x hx => i64wf (hlI x hx)
  refine ⟨p.length + 3000, ?_⟩
  generalize hk : p.length + 3000 = k
  have main : ∀ m : List Int, m.length ≤ 60 → (∀ x ∈ m, I64 x) →
      delta_Encode.f k m = some (encD m) ∧ ¬ ((encD m).length : Int) = 0 ∧ (∃ r, columbariumbook_Within.f a 0 (wrap64 (((encD m).length : Int) - 1)) = some r ∧ 0 ≤ r ∧ r ≤ ((encD m).length : Int) ∧ delta_Decode.f k ((encD m).take r.toNat) 0 (m.length : Int) = some ([], 0, 10)) ∧
      (encD m).length < 140737488355328 ∧ (encD m).length + p.length < 140737488355328 ∧ delta_Decode.f k (encD m ++ p) 0 100 = some (m, ((encD m).length : Int), 0) ∧
      columbariumbook_Same_int64.f k m m = some true := by
    intro m hm hmI
    have hlen := encD_len m
    have hbyte := encD_byte (by omega) hmI
    have hb : ∀ x ∈ [] ++ encD m ++ p, 0 ≤ x ∧ x ≤ 255 := by
      intro x hx
      rw [List.nil_append] at hx
      rcases List.mem_append.1 hx with h | h
      · exact hbyte x h
      · exact hpb x h
    have hle : ([] ++ encD m ++ p).length = (encD m).length + p.length := by rw [List.nil_append, List.length_append]
    have hw : wrap64 (((encD m).length : Int) - 1) = ((encD m).length : Int) - 1 := w64_id (by omega) (by omega)
    refine ⟨enc_f (by omega) hmI (by omega), by omega, ?_, by omega, by omega, ?_, same64_f (by omega) (by omega)⟩
    · obtain ⟨r, hr, h0, h1⟩ := within_f (n := a) (hi := ((encD m).length : Int) - 1) (by omega) (by omega)
      rw [hw]
      exact ⟨r, hr, h0, by omega, dec_short (by omega) hmI (by omega) (by omega) (by omega) (by omega)⟩
    · have := dec_f (p := []) (m := m) (r := p) (most := 100) (by omega) hmI (by omega) (by omega) (by omega) hb (k := k) (by omega)
      rwa [List.nil_append] at this
  unfold columbariumlaw4_DeltaCuts.f
  by_cases h60 : (l.length : Int) > 60
  · have hlen : (l.take 60).length = 60 := by rw [List.length_take]; omega
    obtain ⟨h1, h2, ⟨r, hr, h3, h4, h5⟩, h6, h7, h8, h9⟩ := main (l.take 60) (by omega) (fun x hx => hI x (List.mem_of_mem_take hx))
    generalize l.take 60 = m at *
    rw [if_pos h60, if_pos (by omega), Option.bind_some, h1, Option.bind_some, if_neg h2, hr, Option.bind_some, if_pos h3, if_pos h4, h5, Option.bind_some, Option.bind_some, if_pos (by rw [List.length_nil]; omega), Option.bind_some, List.nil_append, if_pos h7, h8, Option.bind_some]
    rw [if_pos rfl, if_pos rfl, if_pos rfl, if_pos (show (((([] : List Int), (0 : Int), (10 : Int)).1.length : Nat) : Int) = 0 from rfl), h9, Option.bind_some, if_pos rfl, known_f (by omega), Option.bind_some]
  · obtain ⟨h1, h2, ⟨r, hr, h3, h4, h5⟩, h6, h7, h8, h9⟩ := main l (by omega) hI
    rw [if_neg h60, h1, Option.bind_some, if_neg h2, hr, Option.bind_some, if_pos h3, if_pos h4, h5, Option.bind_some, Option.bind_some, if_pos (by rw [List.length_nil]; omega), Option.bind_some, List.nil_append, if_pos h7, h8, Option.bind_some]
    rw [if_pos rfl, if_pos rfl, if_pos rfl, if_pos (show (((([] : List Int), (0 : Int), (10 : Int)).1.length : Nat) : Int) = 0 from rfl), h9, Option.bind_some, if_pos rfl, known_f (by omega), Option.bind_some]
end Go.Proofs.Ytfgceanepgjfiaa.Pure
