/- Chapter 6's runs, and one for each refusal: a closed sentence, no condition. -/
import Derived.Test.YtfgceanepgjfiaaPScolumbariumlaw6BlockNumbers
import Derived.Test.YtfgceanepgjfiaaBlk
import Derived.Test.YtfgceanepgjfiaaBKnown
namespace Go.Proofs.Ytfgceanepgjfiaa.Pure
open Go.RowKit Go.Proofs.Ytfgceanepgjfiaa.PS Go.Proofs.YtfgceanepgjfiaaW.PrintWords Go.Proofs.YtfgceanepgjfiaaW.PrintLast Go.Proofs.Ytfgceanepgjfiaa.Base Go.Proofs.Ytfgceanepgjfiaa.BlkPlain Go.Proofs.Ytfgceanepgjfiaa.Blk Go.Proofs.Ytfgceanepgjfiaa.BKnown
theorem opens {l : List Int} {a : Int} {r : List Int × Int × Int} (h : block_Open.f 200 l a = some r) {k : Nat} (hk : 200 ≤ k) : block_Open.f k l a = some r :=
  at_rounds (fun k => block_Open.mono l a k) hk h
theorem numbers (k : Nat) (hk : 10500000 ≤ k) (n : Nat) (hn : n = 1048576) : columbariumlaw6_BlockNumbers.f k = some true := by
  have hz : ∀ x ∈ List.replicate n (0 : Int), 0 ≤ x ∧ x ≤ 255 := by
    intro x hx
    rw [List.eq_of_mem_replicate hx]
    omega
  have hlen : (List.replicate n (0 : Int)).length = n := List.length_replicate
  have hsl := sealL_len (List.replicate n (0 : Int))
  have hsb := sealL_byte (b := List.replicate n (0 : Int)) (by omega) hz
  have e1 : block_Seal.f k (List.replicate (n + 1) (0 : Int)) = some ([], 3) := seal_long (by rw [List.length_replicate]; omega) k
  have e2 : block_Seal.f k (List.replicate n (0 : Int)) = some (sealL (List.replicate n 0), 0) := seal_f (by omega) hz (by omega)
  have e3 : block_Open.f k (sealL (List.replicate n 0)) 0 = some (List.replicate n 0, ((n + 12 : Nat) : Int), 0) := by
    rw [open_f (by omega) hsb 0 (by omega)]
    have := open_seal (List.replicate n (0 : Int)) [] (by omega)
    rw [List.append_nil, hlen] at this
    unfold openI
    rw [if_neg (by omega), show (0 : Int).toNat = 0 from rfl, List.drop_zero, this]
    simp only [if_true, Int.zero_add]
  have hall : block_All.f k [] = some ([], 0, 0) := at_rounds (fun k => block_All.mono [] k) (show 10 ≤ k by omega) (by decide +kernel)
  have f1 := opens (l := []) (a := 0) (r := ([], 0, 10)) (by decide +kernel) (show 200 ≤ k by omega)
  have f2 := opens (l := []) (a := 1) (r := ([], 0, 1)) (by decide +kernel) (show 200 ≤ k by omega)
  have f3 := opens (l := [1, 0, 0, 0, 255, 255, 255, 255, 1]) (a := 0) (r := ([], 0, 14)) (by decide +kernel) (show 200 ≤ k by omega)
  have f4 := opens (l := [1, 0, 16, 0, 254, 255, 239, 255]) (a := 0) (r := ([], 0, 3)) (by decide +kernel) (show 200 ≤ k by omega)
  have f5 := opens (l := [1, 0, 0, 0, 254, 255, 255, 255, 97, 1, 2, 3]) (a := 0) (r := ([], 0, 10)) (by decide +kernel) (show 200 ≤ k by omega)
  have f6 := opens (l := [1, 0, 0, 0, 254, 255, 255, 255, 97, 1, 2, 3, 4]) (a := 0) (r := ([], 0, 14)) (by decide +kernel) (show 200 ≤ k by omega)
  have g1 : List.replicate 1048577 (0 : Int) = List.replicate (n + 1) 0 := by rw [hn]
  have g2 : List.replicate 1048576 (0 : Int) = List.replicate n 0 := by rw [hn]
  unfold columbariumlaw6_BlockNumbers.f
  rw [g1, g2, if_pos (by omega), e1, Option.bind_some, if_pos (by omega), e2, Option.bind_some, e3, Option.bind_some, f1, Option.bind_some, f2, Option.bind_some, f3, Option.bind_some, f4, Option.bind_some, f5, Option.bind_some, f6, Option.bind_some, hall, Option.bind_some]
  rw [if_pos rfl, if_pos rfl, if_pos (by rw [hlen]; omega), if_pos (by rw [hsl, hlen]), if_pos rfl, if_pos rfl, if_pos rfl, if_pos rfl, if_pos rfl, if_pos rfl, if_pos rfl, if_pos (by simp), if_pos rfl, if_pos rfl, known_f (by omega)]
  rfl
theorem BlockNumbers : columbariumlaw6_BlockNumbers.Pure := ⟨10500000, numbers 10500000 (Nat.le_refl _) 1048576 rfl⟩
end Go.Proofs.Ytfgceanepgjfiaa.Pure
