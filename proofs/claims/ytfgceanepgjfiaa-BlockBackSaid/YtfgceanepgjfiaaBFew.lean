/- A string's first 200 bytes, and sealing them. -/
import Derived.Test.YtfgceanepgjfiaaPScolumbariumlaw6few
import Derived.Test.YtfgceanepgjfiaaBlkPlain
namespace Go.Proofs.Ytfgceanepgjfiaa.BFew
open Go.RowKit Go.Proofs.Ytfgceanepgjfiaa.PS Go.Proofs.YtfgceanepgjfiaaW.PrintWords Go.Proofs.YtfgceanepgjfiaaW.PrintLast Go.Proofs.Ytfgceanepgjfiaa.Base Go.Proofs.Ytfgceanepgjfiaa.BlkPlain
/-- The first 200 bytes. -/
def cut200 (a : ByteArray) : ByteArray := if (a.size : Int) > 200 then a.extract 0 200 else a
theorem few_f (a : ByteArray) : columbariumlaw6_few.f a = some (cut200 a) := by
  unfold columbariumlaw6_few.f cut200
  by_cases h : (a.size : Int) > 200
  · rw [if_pos h, if_pos h, if_pos (by decide), if_pos (by omega)]
  · rw [if_neg h, if_neg h]
theorem cut200_size (a : ByteArray) : (cut200 a).size ≤ 200 := by
  unfold cut200
  by_cases h : (a.size : Int) > 200
  · rw [if_pos h, ByteArray.size_extract]; omega
  · rw [if_neg h]; omega
theorem sealL_inj {b c : List Int} (hb : b.length ≤ 1048576) (hc : c.length ≤ 1048576) (h : sealL b = sealL c) : b = c := by
  have h1 := open_seal b [] hb
  have h2 := open_seal c [] hc
  rw [h, h2] at h1
  exact (Prod.ext_iff.1 h1).1.symm
end Go.Proofs.Ytfgceanepgjfiaa.BFew
