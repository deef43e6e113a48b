/- What Encode of chapter 4 comes to. -/
import Derived.Test.YtfgceanepgjfiaaPSdeltaEncode
import Derived.Test.YtfgceanepgjfiaaPSvarintPut
import Derived.Test.YtfgceanepgjfiaaDPlain
import Derived.Test.YtfgceanepgjfiaaVPut
namespace Go.Proofs.Ytfgceanepgjfiaa.DEnc
open Go.RowKit Go.Proofs.Ytfgceanepgjfiaa.PS Go.Proofs.YtfgceanepgjfiaaW.PrintWords Go.Proofs.YtfgceanepgjfiaaW.PrintLast Go.Proofs.Ytfgceanepgjfiaa.Base Go.Proofs.Ytfgceanepgjfiaa.VPlain Go.Proofs.Ytfgceanepgjfiaa.Zigs Go.Proofs.Ytfgceanepgjfiaa.DPlain Go.Proofs.Ytfgceanepgjfiaa.VPut

theorem enc_loop (l : List Int) (hl : l.length ≤ 1000000000) (hi64 : ∀ x ∈ l, I64 x) (d : Nat) : ∀ (k i : Nat) (acc : List Int) (last step : Int), i ≤ l.length → l.length - i = d → 3 * d + 20 < k → acc.length + 10 * d ≤ 100000000000 →
    delta_Encode.l0 k acc last step l (l.length : Int) (i : Int) = some (acc ++ enc (dx last step i (l.drop i))) := by
  induction d with
  | zero =>
    intro k i acc last step hi hd hk ha
    obtain ⟨k, rfl⟩ : ∃ m, k = m + 1 := ⟨k - 1, by omega⟩
    have : i = l.length := by omega
    subst this
    rw [delta_Encode.l0, if_neg (by omega), List.drop_length]
    simp [dx, enc]
  | succ d ih =>
    intro k i acc last step hi hd hk ha
    obtain ⟨k, rfl⟩ : ∃ m, k = m + 3 := ⟨k - 3, by omega⟩
    have hlt : i < l.length := by omega
    have hx := hi64 _ (List.getElem_mem hlt)
    rw [← rd_nat hlt] at hx
    have hw : wrap64 ((i : Int) + 1) = ((i + 1 : Nat) : Int) := by rw [w64_id (by omega) (by omega)]; push_cast; rfl
    rw [delta_Encode.l0, if_pos (by omega), if_pos (by omega), if_pos (by omega), drop_rd hlt]
    simp only [dx, enc]
    -- the last step, whatever the difference is
    have j2 : ∀ dd x : Int, I64 x → delta_Encode.j2 (k + 1) acc step (i : Int) (rd l i) dd x l (l.length : Int) (i : Int) =
        some (acc ++ (vput (zigI x) ++ enc (dx (rd l i) (if i > 0 then dd else step) (i + 1) (l.drop (i + 1))))) := by
      intro dd x hxi
      have hz := zig_range hxi.1 hxi.2
      have hv := vput_len (zigI x)
      have hp : varint_Put.f k [] (zigI x) = some (vput (zigI x)) := by
        have := put_f (l := []) (by simp) hz.1 hz.2 (k := k) (by omega)
        rwa [List.nil_append] at this
      rw [delta_Encode.j2]
      by_cases h0 : i > 0
      · rw [if_pos (by omega), zig_f hxi.1 hxi.2, Option.bind_some, hp, Option.bind_some, if_pos (by omega), hw, if_pos h0,
          ih k (i + 1) (acc ++ vput (zigI x)) (rd l i) dd (by omega) (by omega) (by omega) (by rw [List.length_append]; omega), List.append_assoc]
      · rw [if_neg (by omega), zig_f hxi.1 hxi.2, Option.bind_some, hp, Option.bind_some, if_pos (by omega), hw, if_neg h0,
          ih k (i + 1) (acc ++ vput (zigI x)) (rd l i) step (by omega) (by omega) (by omega) (by rw [List.length_append]; omega), List.append_assoc]
    have j1 : ∀ dd : Int, I64 dd → delta_Encode.j1 (k + 2) acc step (i : Int) (rd l i) dd l (l.length : Int) (i : Int) =
        some (acc ++ (vput (zigI (if i > 1 then wrap64 (dd - step) else dd)) ++ enc (dx (rd l i) (if i > 0 then dd else step) (i + 1) (l.drop (i + 1))))) := by
      intro dd hdd
      rw [delta_Encode.j1]
      by_cases h1 : i > 1
      · rw [if_pos (by omega), if_pos h1]
        exact j2 dd _ (w64_I _)
      · rw [if_neg (by omega), if_neg h1]
        exact j2 dd _ hdd
    by_cases h0 : i = 0
    · rw [if_pos (by omega), if_pos h0]
      exact j1 _ hx
    · rw [if_neg (by omega), if_neg h0]
      exact j1 _ (w64_I _)
theorem enc_f {l : List Int} (hl : l.length ≤ 1000000000) (hi64 : ∀ x ∈ l, I64 x) {k : Nat} (hk : 3 * l.length + 20 < k) : delta_Encode.f k l = some (encD l) := by
  unfold delta_Encode.f encD
  have hv := vput_len (l.length : Int)
  have hp : varint_Put.f k [] (l.length : Int) = some (vput l.length) := by
    have := put_f (l := []) (by simp) (n := (l.length : Int)) (by omega) (by omega) (k := k) (by omega)
    rwa [List.nil_append] at this
  rw [u64_id (by omega) (by omega), hp, Option.bind_some]
  have := enc_loop l hl hi64 l.length k 0 (vput l.length) 0 0 (by omega) (by omega) (by omega) (by omega)
  rwa [List.drop_zero] at this
end Go.Proofs.Ytfgceanepgjfiaa.DEnc
