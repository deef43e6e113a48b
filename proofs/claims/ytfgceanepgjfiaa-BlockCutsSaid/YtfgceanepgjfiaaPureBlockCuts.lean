/- Of what was written and cut off, All gives back the whole blocks: no condition. -/
import Derived.Test.YtfgceanepgjfiaaPScolumbariumlaw6BlockCuts
import Derived.Test.YtfgceanepgjfiaaBWritten
import Derived.Test.YtfgceanepgjfiaaBKnown
import Derived.Test.YtfgceanepgjfiaaWithin
namespace Go.Proofs.Ytfgceanepgjfiaa.Pure
open Go.RowKit Go.Proofs.Ytfgceanepgjfiaa.PS Go.Proofs.YtfgceanepgjfiaaW.PrintWords Go.Proofs.YtfgceanepgjfiaaW.PrintLast Go.Proofs.Ytfgceanepgjfiaa.Base Go.Proofs.Ytfgceanepgjfiaa.BlkPlain Go.Proofs.Ytfgceanepgjfiaa.BKnown Go.Proofs.Ytfgceanepgjfiaa.BFew Go.Proofs.Ytfgceanepgjfiaa.BAll Go.Proofs.Ytfgceanepgjfiaa.BWritten Go.Proofs.Ytfgceanepgjfiaa.Within
theorem cuts_loop (l : List ByteArray) (a : List (List Int)) (r e : Int) (hl : a.length ≤ 10) (hal : a.length ≤ l.length) (ha : ∀ b ∈ a, b.length ≤ 200) (he : ∀ i (h : i < a.length) (h2 : i < l.length), a[i] = bytesOf (cut200 l[i]))
    (hr : (e = 0 ∧ ((sealAll a).length : Int) = r) ∨ (e = 10 ∧ ((sealAll a).length : Int) ≠ r)) (d : Nat) : ∀ (k i : Nat), i ≤ a.length → a.length - i = d → d + 300 < k →
    columbariumlaw6_BlockCuts.l0 k l r a ((sealAll a).length : Int) e ((sealAll (a.take i)).length : Int) (i : Int) = some true := by
  induction d with
  | zero =>
    intro k i hi hd hk
    obtain ⟨k, rfl⟩ : ∃ m, k = m + 1 := ⟨k - 1, by omega⟩
    have : i = a.length := by omega
    subst this
    rw [columbariumlaw6_BlockCuts.l0, if_neg (by omega), List.take_length, if_pos rfl]
    rcases hr with ⟨h1, h2⟩ | ⟨h1, h2⟩
    · rw [if_pos h1, if_pos h2, known_f (by omega), Option.bind_some]
    · rw [if_neg (by omega), if_neg h2, if_pos h1, known_f (by omega), Option.bind_some]
  | succ d ih =>
    intro k i hi hd hk
    obtain ⟨k, rfl⟩ : ∃ m, k = m + 1 := ⟨k - 1, by omega⟩
    have h : i < a.length := by omega
    have h2 : i < l.length := by omega
    have hrd : rd_L2 a (i : Int) = a[i] := by
      unfold rd_L2
      rw [Int.toNat_natCast, List.getD_eq_getElem?_getD, List.getElem?_eq_getElem h]
      rfl
    have hb := ha _ (List.getElem_mem h)
    have hs := sealL_len a[i]
    have hlen := sealAll_len (ws := a.take i) (fun b hb => ha b (List.mem_of_mem_take hb))
    rw [List.length_take] at hlen
    have ht : (sealAll (a.take (i + 1))).length = (sealAll (a.take i)).length + (a[i].length + 12) := by
      rw [List.take_succ_eq_append_getElem h, sealAll_append, List.length_append, sealAll, sealAll, List.append_nil, hs]
    have hw : wrap64 (wrap64 (((sealAll (a.take i)).length : Int) + 12) + (a[i].length : Int)) = ((sealAll (a.take (i + 1))).length : Int) := by
      rw [ht, w64_id (n := ((sealAll (a.take i)).length : Int) + 12) (by omega) (by omega), w64_id (by omega) (by omega)]
      omega
    rw [columbariumlaw6_BlockCuts.l0, if_pos (by omega), if_pos (by omega), if_pos (by omega), rdOf_nat h2, few_f, Option.bind_some, hrd, if_pos (by rw [he i h h2, str_bytesOf]), hw,
      show wrap64 ((i : Int) + 1) = ((i + 1 : Nat) : Int) from by rw [w64_id (by omega) (by omega)]; push_cast; rfl]
    exact ih k (i + 1) (by omega) (by omega) (by omega)
theorem BlockCuts : columbariumlaw6_BlockCuts.Pure := by
  intro l n hl _ _
  refine ⟨10490000, ?_⟩
  unfold columbariumlaw6_BlockCuts.f
  have hfs := firsts_short l
  have hfl := firsts_len l
  have hsl := sealAll_len (ws := firsts l) (fun b hb => (hfs b hb).1)
  rw [written_f (by omega) (by omega), Option.bind_some]
  obtain ⟨r, hr, h0, h1⟩ := within_f (n := n) (hi := ((sealAll (firsts l)).length : Int)) (by omega) (by omega)
  obtain ⟨c, rfl⟩ := Int.eq_ofNat_of_zero_le h0
  rw [hr, Option.bind_some, if_pos h0, if_pos h1, Int.toNat_natCast]
  obtain ⟨a, q, t, hw, hc, ht⟩ := sealAll_take (firsts l) (fun b hb => by have := (hfs b hb).1; omega) c (by omega)
  have hlen := congrArg List.length hc
  rw [List.length_take, List.length_append, Nat.min_eq_left (by omega)] at hlen
  have hab : ∀ b ∈ a, b.length ≤ 200 := fun b hb => (hfs b (by rw [hw]; simp [hb])).1
  have hal : a.length ≤ (firsts l).length := by rw [hw, List.length_append]; omega
  have hbyte : ∀ y ∈ sealAll a ++ t, 0 ≤ y ∧ y ≤ 255 := by
    rw [← hc]
    intro y hy
    exact sealAll_byte (fun b hb => ⟨by have := (hfs b hb).1; omega, (hfs b hb).2⟩) y (List.mem_of_mem_take hy)
  have hge : ∀ i (h : i < a.length) (h2 : i < l.length), a[i] = bytesOf (cut200 l[i]) := by
    intro i h h2
    have e : (firsts l)[i]? = some a[i] := by rw [hw, List.getElem?_append_left h, List.getElem?_eq_getElem h]
    unfold firsts at e
    rw [List.getElem?_map, List.getElem?_take, if_pos (by omega), List.getElem?_eq_getElem h2] at e
    exact (Option.some.inj e).symm
  rcases ht with rfl | ⟨hne, ho⟩
  · have hall := all_f (t := []) (x := []) (n := 0) (e := 10) rfl (.inl rfl) (ws := a) (fun b hb => by have := hab b hb; omega) (by omega) (by rw [List.length_append]; omega) hbyte (k := 10490000) (by omega)
    rw [hc, hall, Option.bind_some, if_neg (by show ¬ ((sealAll a).length : Int) > (c : Int); omega), if_neg (by show ¬ (a.length : Int) > (l.length : Int); omega)]
    rw [List.length_nil] at hlen
    exact cuts_loop l a c 0 (by omega) (by omega) hab hge (.inl ⟨rfl, by omega⟩) a.length 10490000 0 (by omega) (by omega) (by omega)
  · have hall := all_f ho (.inr (by decide)) (ws := a) (fun b hb => by have := hab b hb; omega) (by omega) (by rw [List.length_append]; omega) hbyte (k := 10490000) (by omega)
    rw [if_neg hne] at hall
    rw [hc, hall, Option.bind_some, if_neg (by show ¬ ((sealAll a).length : Int) > (c : Int); omega), if_neg (by show ¬ (a.length : Int) > (l.length : Int); omega)]
    have := List.length_pos_iff.2 hne
    exact cuts_loop l a c 10 (by omega) (by omega) hab hge (.inr ⟨rfl, by omega⟩) a.length 10490000 0 (by omega) (by omega) (by omega)
end Go.Proofs.Ytfgceanepgjfiaa.Pure
