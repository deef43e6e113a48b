/- Rows of numbers are written and read as the document says, for any numbers and bytes, where what is read is of bulk at most 1048576. -/
import Derived.Test.YtfgceanepgjfiaaUDeltaTells
import Derived.Test.YtfgceanepgjfiaaAllDeltaTellsUpto
namespace Go.Proofs.Ytfgceanepgjfiaa.Pure
open Go.RowKit Go.Proofs.Ytfgceanepgjfiaa.PS Go.Proofs.YtfgceanepgjfiaaW.PrintWords Go.Proofs.YtfgceanepgjfiaaW.PrintLast Go.Proofs.Ytfgceanepgjfiaa.Base Go.Proofs.Ytfgceanepgjfiaa.VPlain Go.Proofs.Ytfgceanepgjfiaa.Zigs Go.Proofs.Ytfgceanepgjfiaa.DPlain Go.Proofs.Ytfgceanepgjfiaa.DEnc Go.Proofs.Ytfgceanepgjfiaa.DKnown Go.Proofs.Ytfgceanepgjfiaa.Ref4 Go.Proofs.Ytfgceanepgjfiaa.Book Go.Proofs.Ytfgceanepgjfiaa.Same64
theorem DeltaTellsUpto : columbariumlaw4_DeltaTells.PureU := by
  intro l b at' most _ _ hl hlI _ _ hb hbb hat hm
  have hlI : ∀ x ∈ l, I64 x := fun x hx => i64wf (hlI x hx)
  have hbb : ∀ x ∈ b, 0 ≤ x ∧ x ≤ 255 := fun x hx => u8wf (hbb x hx)
  have hat := i64wf hat
  have hm : I64 most := i64wf hm
  obtain ⟨K, hK⟩ : ∃ K, K = 4000000 := ⟨_, rfl⟩
  refine ⟨K, ?_⟩
  obtain ⟨t, ht1, ht2, ht3⟩ := dec_both_f (l := b) hb hbb (a := at') (most := most) hat.1 hm (k := K) (by omega)
  have hroomy := roomy_f (l := b) (by omega) 165 (k := K) (by omega)
  have hintact := intact_f (l := b) (by omega) 165 (k := K) (by omega)
  have hknown := known_f (k := K) (by omega)
  have hsame := same64_f (l := t.1) (by omega) (k := K) (by omega)
  have hflen : (b ++ List.replicate 80 (165 : Int)).length = b.length + 80 := by rw [List.length_append, List.length_replicate]
  have htake : (b ++ List.replicate 80 (165 : Int)).take ((b.length : Int) : Int).toNat = b := by rw [Int.toNat_natCast, List.take_left]
  have key : ∀ m : List Int, m.length ≤ 60 → (∀ x ∈ m, I64 x) → delta_Encode.f K m = some (encD m) ∧ columbariumref4_Encode.f K m = some (encD m) := fun m h1 h2 => ⟨enc_f (by omega) h2 (by omega), renc_f (by omega) h2 (by omega)⟩
  unfold columbariumlaw4_DeltaTells.f
  by_cases h60 : (l.length : Int) > 60
  · obtain ⟨e1, e2⟩ := key (l.take 60) (by rw [List.length_take]; omega) (fun x hx => hlI x (List.mem_of_mem_take hx))
    rw [if_pos h60, if_pos (by omega), Option.bind_some, hroomy, Option.bind_some, if_pos (by omega), if_pos (by rw [hflen]; omega), htake, ht1, Option.bind_some, ht2, Option.bind_some, e1, Option.bind_some, e2, Option.bind_some, if_pos rfl, hsame, Option.bind_some, if_pos rfl, if_pos rfl, if_pos rfl, hintact, Option.bind_some, if_pos rfl, hknown]
    rfl
  · obtain ⟨e1, e2⟩ := key l (by omega) hlI
    rw [if_neg h60, hroomy, Option.bind_some, if_pos (by omega), if_pos (by rw [hflen]; omega), htake, ht1, Option.bind_some, ht2, Option.bind_some, e1, Option.bind_some, e2, Option.bind_some, if_pos rfl, hsame, Option.bind_some, if_pos rfl, if_pos rfl, if_pos rfl, hintact, Option.bind_some, if_pos rfl, hknown]
    rfl
end Go.Proofs.Ytfgceanepgjfiaa.Pure
