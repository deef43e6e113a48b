/- Numbers and texts are put and got as the document says, for any bytes and places. -/
import Derived.Test.YtlhomdbkoniheaaPScolumbariumlaw1VarintTells
import Derived.Test.YtlhomdbkoniheaaAllVarintTells
namespace Go.Proofs.Ytlhomdbkoniheaa.Pure
open Go.RowKit Go.Proofs.Ytlhomdbkoniheaa.PS Go.Proofs.YtlhomdbkoniheaaW.PrintWords Go.Proofs.YtlhomdbkoniheaaW.PrintLast Go.Proofs.Ytlhomdbkoniheaa.Base Go.Proofs.Ytlhomdbkoniheaa.VPlain Go.Proofs.Ytlhomdbkoniheaa.VGet Go.Proofs.Ytlhomdbkoniheaa.VPut Go.Proofs.Ytlhomdbkoniheaa.VText Go.Proofs.Ytlhomdbkoniheaa.VPText Go.Proofs.Ytlhomdbkoniheaa.Ref1 Go.Proofs.Ytlhomdbkoniheaa.RText Go.Proofs.Ytlhomdbkoniheaa.Book Go.Proofs.Ytlhomdbkoniheaa.Zigs Go.Proofs.Ytlhomdbkoniheaa.VKnown
theorem vtells_rest {b : List Int} (hl : b.length ≤ 140737488351232) (hb : ∀ x ∈ b, 0 ≤ x ∧ x ≤ 255) {n z at' most : Int} (hn : 0 ≤ n ∧ n ≤ 18446744073709551615) (hz : -9223372036854775808 ≤ z ∧ z ≤ 9223372036854775807) {s : ByteArray} (hs : s.size ≤ 300)
    (hm : -9223372036854775808 ≤ most ∧ most ≤ 9223372036854775807) {k : Nat} (hk : b.length + 1000 < k) : columbariumlaw1_VarintTells.j0 k b n z s at' most = some true := by
  obtain ⟨k, rfl⟩ : ∃ m, k = m + 1 := ⟨k - 1, by omega⟩
  have hroomy := roomy_f (l := b) (by omega) 165 (k := k) (by omega)
  have hintact := intact_f (l := b) (by omega) 165 (k := k) (by omega)
  have hflen : (b ++ List.replicate 80 (165 : Int)).length = b.length + 80 := by rw [List.length_append, List.length_replicate]
  have htake : (b ++ List.replicate 80 (165 : Int)).take ((b.length : Int) : Int).toNat = b := by rw [Int.toNat_natCast, List.take_left]
  rw [columbariumlaw1_VarintTells.j0, hroomy, Option.bind_some, if_pos (by omega), if_pos (by rw [hflen]; omega), htake, Option.bind_some, get_f (by omega) hb _ (by omega), Option.bind_some, rget_f (by omega) hb _ (by omega), Option.bind_some,
    getText_f (by omega) hb _ hm.1 hm.2 (by omega), Option.bind_some, rgetText_f (by omega) hb _ hm.1 hm.2 (by omega), Option.bind_some, if_pos rfl, if_pos rfl, if_pos rfl, if_pos rfl, if_pos rfl, if_pos rfl,
    put_f (by omega) hn.1 hn.2 (by omega), Option.bind_some, rput_f (by omega) hn.1 hn.2 (by omega), Option.bind_some, if_pos rfl, putText_f (by omega) (by omega), Option.bind_some, rputText_f (by omega) (by omega), Option.bind_some, if_pos rfl,
    zig_f hz.1 hz.2, Option.bind_some, rzig_f hz.1 hz.2, Option.bind_some, if_pos rfl, zag_f hn.1 hn.2, Option.bind_some, rzag_f hn.1 hn.2, Option.bind_some, if_pos rfl, hintact, Option.bind_some, if_pos rfl, known_f (by omega)]
  rfl
theorem VarintTells : columbariumlaw1_VarintTells.Pure := by
  intro b n z s at' most _ hl hb hn hz _ _ hm
  have hb : ∀ x ∈ b, 0 ≤ x ∧ x ≤ 255 := fun x hx => u8wf (hb x hx)
  have hn := u64wf hn
  have hz := i64wf hz
  have hm := i64wf hm
  refine ⟨b.length + 2000, ?_⟩
  unfold columbariumlaw1_VarintTells.f
  by_cases h : (s.size : Int) > 300
  · rw [if_pos h, if_pos (by omega), if_pos (by omega)]
    refine vtells_rest (by omega) hb hn hz ?_ hm (by omega)
    rw [ByteArray.size_extract]
    omega
  · rw [if_neg h]
    exact vtells_rest (by omega) hb hn hz (by omega) hm (by omega)
end Go.Proofs.Ytlhomdbkoniheaa.Pure
