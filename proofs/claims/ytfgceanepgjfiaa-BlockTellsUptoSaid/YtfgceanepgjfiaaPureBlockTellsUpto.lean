/- Bytes are sealed and opened as the document says: any bytes, and Seals of which some are turned, or cut off, where what is read is of bulk at most 1048576. -/
import Derived.Test.YtfgceanepgjfiaaUBlockTells
import Derived.Test.YtfgceanepgjfiaaAllBlockTellsUpto
namespace Go.Proofs.Ytfgceanepgjfiaa.Pure
open Go.RowKit Go.Proofs.Ytfgceanepgjfiaa.PS Go.Proofs.YtfgceanepgjfiaaW.PrintWords Go.Proofs.YtfgceanepgjfiaaW.PrintLast Go.Proofs.Ytfgceanepgjfiaa.Base Go.Proofs.Ytfgceanepgjfiaa.CPlain Go.Proofs.Ytfgceanepgjfiaa.BlkPlain Go.Proofs.Ytfgceanepgjfiaa.Blk Go.Proofs.Ytfgceanepgjfiaa.BAll Go.Proofs.Ytfgceanepgjfiaa.BAny Go.Proofs.Ytfgceanepgjfiaa.BWritten Go.Proofs.Ytfgceanepgjfiaa.BKnown Go.Proofs.Ytfgceanepgjfiaa.BFew Go.Proofs.Ytfgceanepgjfiaa.Book Go.Proofs.Ytfgceanepgjfiaa.Within
theorem tells_rest {w b : List Int} (hw : w.length ≤ 5000) (hwb : ∀ x ∈ w, 0 ≤ x ∧ x ≤ 255) (hb : b.length ≤ 1048576) (hbb : ∀ x ∈ b, 0 ≤ x ∧ x ≤ 255) (s : ByteArray) (place : Int) {k : Nat} (hk : 100000000 < k) :
    columbariumlaw6_BlockTells.j0 k s b place w = some true := by
  obtain ⟨k, rfl⟩ : ∃ m, k = m + 1 := ⟨k - 1, by omega⟩
  obtain ⟨y, hy⟩ : ∃ y, y = w ++ b := ⟨_, rfl⟩
  have hyl : y.length ≤ 1053576 := by rw [hy, List.length_append]; omega
  have hyb : ∀ x ∈ y, 0 ≤ x ∧ x ≤ 255 := fun x hx => by
    rw [hy] at hx
    rcases List.mem_append.1 hx with h | h
    · exact hwb x h
    · exact hbb x h
  have hroomy := roomy_f (l := y) (by omega) 165 (k := k) (by omega)
  have hintact := intact_f (l := y) (by omega) 165 (k := k) (by omega)
  have hknown := known_f (k := k) (by omega)
  have hflen : (y ++ List.replicate 80 (165 : Int)).length = y.length + 80 := by rw [List.length_append, List.length_replicate]
  have htake : (y ++ List.replicate 80 (165 : Int)).take ((y.length : Int) : Int).toNat = y := by rw [Int.toNat_natCast, List.take_left]
  have hfew := few_f s
  have hfs := cut200_size s
  have hfb : ∀ x ∈ bytesOf (cut200 s), 0 ≤ x ∧ x ≤ 255 := fun x hx => bytesOf_range hx
  have hfl : (bytesOf (cut200 s)).length ≤ 200 := by rw [bytesOf_size]; exact hfs
  have hseal := seal_f (b := bytesOf (cut200 s)) (by omega) hfb (k := k) (by omega)
  have hrseal := refSeal_f (b := bytesOf (cut200 s)) (by omega) hfb (k := k) (by omega)
  have hopen := open_f (l := y) (by omega) hyb place (k := k) (by omega)
  have hropen := ropen_f (l := y) (by omega) hyb place (k := k) (by omega)
  obtain ⟨hall, hrall⟩ := all_any_f (l := y) (by omega) hyb (f := 1053576) (k := k) hyl (by omega) (by omega)
  have hlen := allP_len (1053576 + 1) y
  have halike := alike_f (l := (allP (1053576 + 1) y).1) (by omega) (k := k) (by omega)
  rw [columbariumlaw6_BlockTells.j0, if_pos (by omega), ← hy, Option.bind_some, hroomy, Option.bind_some, if_pos (by omega), if_pos (by rw [hflen]; omega), htake, Option.bind_some, hfew, Option.bind_some, if_pos (by omega), hseal, Option.bind_some]
  rw [Option.bind_some, if_pos (by omega), hrseal, Option.bind_some, hopen, Option.bind_some, hropen, Option.bind_some, hall, Option.bind_some, hrall, Option.bind_some]
  rw [if_pos rfl, if_pos rfl, if_pos rfl, if_pos rfl, if_pos rfl, halike, Option.bind_some, if_pos rfl, if_pos rfl, if_pos rfl, hintact, Option.bind_some, if_pos rfl, hknown]
  rfl
theorem BlockTellsUpto : columbariumlaw6_BlockTells.PureU := by
  intro s l b a3 a4 a5 _ hl _ _ _ hb hbb _ _ _
  have hbb : ∀ x ∈ b, 0 ≤ x ∧ x ≤ 255 := fun x hx => u8wf (hbb x hx)
  obtain ⟨K, hK⟩ : ∃ K, K = 1000000000 := ⟨_, rfl⟩
  refine ⟨K, ?_⟩
  have hfs := firsts_short l
  have hfl := firsts_len l
  have hwl := sealAll_len (ws := firsts l) (fun b hb => (hfs b hb).1)
  have hwb := sealAll_byte (ws := firsts l) (fun b hb => ⟨by have := (hfs b hb).1; omega, (hfs b hb).2⟩)
  unfold columbariumlaw6_BlockTells.f
  rw [written_f (by omega) (by omega), Option.bind_some]
  generalize sealAll (firsts l) = w at *
  by_cases h0 : (w.length : Int) > 0
  · obtain ⟨r, hr, hr0, hr1⟩ := within_f (n := a3) (hi := (w.length : Int) - 1) (by omega) (by omega)
    rw [if_pos h0, w64_id (n := (w.length : Int) - 1) (by omega) (by omega), hr, Option.bind_some, if_pos (by omega), if_pos (by omega)]
    refine tells_rest (by rw [List.length_set]; omega) (fun x hx => ?_) hb hbb s a5 (by omega)
    rcases List.mem_or_eq_of_mem_set hx with h | rfl
    · exact hwb x h
    · have := bits_range .xor .u8 rfl (rd w r) a4
      have e : (2 : Int) ^ IntKind.u8.bits = 256 := rfl
      omega
  · rw [if_neg h0]
    exact tells_rest (by omega) hwb hb hbb s a5 (by omega)
end Go.Proofs.Ytfgceanepgjfiaa.Pure
