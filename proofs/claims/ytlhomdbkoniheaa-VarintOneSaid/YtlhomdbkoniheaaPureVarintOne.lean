/- Bytes that are got are just those that are put for what they are; numbers get no shorter as they grow; for any bytes and numbers. -/
import Derived.Test.YtlhomdbkoniheaaPScolumbariumlaw1VarintOne
import Derived.Test.YtlhomdbkoniheaaVGet
import Derived.Test.YtlhomdbkoniheaaVPut
import Derived.Test.YtlhomdbkoniheaaVKnown
namespace Go.Proofs.Ytlhomdbkoniheaa.Pure
open Go.RowKit Go.Proofs.Ytlhomdbkoniheaa.PS Go.Proofs.YtlhomdbkoniheaaW.PrintWords Go.Proofs.YtlhomdbkoniheaaW.PrintLast Go.Proofs.Ytlhomdbkoniheaa.Base Go.Proofs.Ytlhomdbkoniheaa.VPlain Go.Proofs.Ytlhomdbkoniheaa.VGet Go.Proofs.Ytlhomdbkoniheaa.VPut Go.Proofs.Ytlhomdbkoniheaa.VKnown
theorem put_nil {n : Int} (h0 : 0 ≤ n) (h1 : n ≤ 18446744073709551615) : varint_Put.f 200 [] n = some (vput n) := by
  have := put_f (l := []) (by simp) h0 h1 (k := 200) (by omega)
  rwa [List.nil_append] at this
theorem pair_ok {n m : Int} (h0 : 0 ≤ n) (h1 : n ≤ m) (h2 : m ≤ 18446744073709551615) :
    ((varint_Put.f 200 ([] : List Int) n).bind fun x => (varint_Put.f 200 ([] : List Int) m).bind fun y => if (x.length : Int) ≥ 1 then (if (x.length : Int) ≤ (y.length : Int) then (if (y.length : Int) ≤ 10 then ((columbariumlaw1_known.f 200).bind fun t => (some t)) else (some false)) else (some false)) else (some false)) = some true := by
  have a := vput_len n
  have b := vput_len m
  have c := vput_mono h1
  rw [put_nil h0 (by omega), Option.bind_some, put_nil (by omega) h2, Option.bind_some, if_pos (by omega), if_pos (by omega), if_pos (by omega), known_f (by omega)]
  rfl
theorem VarintOne : columbariumlaw1_VarintOne.Pure := by
  intro l n m _ _ hb hn hm
  have hb : ∀ x ∈ l, 0 ≤ x ∧ x ≤ 255 := fun x hx => u8wf (hb x hx)
  have hn := u64wf hn
  have hm := u64wf hm
  refine ⟨200, ?_⟩
  have tail : (if n > m then ((varint_Put.f 200 ([] : List Int) m).bind fun x => (varint_Put.f 200 ([] : List Int) n).bind fun y => if (x.length : Int) ≥ 1 then (if (x.length : Int) ≤ (y.length : Int) then (if (y.length : Int) ≤ 10 then ((columbariumlaw1_known.f 200).bind fun t => (some t)) else (some false)) else (some false)) else (some false))
      else ((varint_Put.f 200 ([] : List Int) n).bind fun x => (varint_Put.f 200 ([] : List Int) m).bind fun y => if (x.length : Int) ≥ 1 then (if (x.length : Int) ≤ (y.length : Int) then (if (y.length : Int) ≤ 10 then ((columbariumlaw1_known.f 200).bind fun t => (some t)) else (some false)) else (some false)) else (some false))) = some true := by
    by_cases h : n > m
    · rw [if_pos h]
      exact pair_ok hm.1 (by omega) hn.2
    · rw [if_neg h]
      exact pair_ok hn.1 (by omega) hm.2
  have body : ∀ b : List Int, b.length ≤ 30 → (∀ x ∈ b, 0 ≤ x ∧ x ≤ 255) → ∃ v e w, varint_Get.f 200 b 0 = some (v, e, w) ∧ (w = 0 → 1 ≤ e ∧ e ≤ b.length ∧ varint_Put.f 200 [] v = some (vput v) ∧ (strOfNums (vput v)).toList = (strOfNums (b.take e.toNat)).toList) := by
    intro b hl hbb
    refine ⟨(getI b 0).1, (getI b 0).2.1, (getI b 0).2.2, get_f (by omega) hbb 0 (by omega), fun h => ?_⟩
    obtain ⟨_, _, h1, h2, h3, h4, r, h5, _⟩ := getI_ok hbb (a := 0) (v := (getI b 0).1) (e := (getI b 0).2.1) (Prod.ext rfl (Prod.ext rfl h))
    have hv := vput_len (getI b 0).1
    refine ⟨by omega, h4, put_nil h1 h2, ?_⟩
    rw [h3, show ((0 : Int) + ((vput (getI b 0).1).length : Int)).toNat = (vput (getI b 0).1).length from by omega]
    have h5 : b = vput (getI b 0).1 ++ r := h5
    have h6 := congrArg (List.take (vput (getI b 0).1).length) h5
    rw [List.take_left] at h6
    rw [h6]
  unfold columbariumlaw1_VarintOne.f
  by_cases h30 : (l.length : Int) > 30
  · obtain ⟨v, e, w, hg, hw⟩ := body (l.take 30) (by rw [List.length_take]; omega) (fun x hx => hb x (List.mem_of_mem_take hx))
    rw [if_pos h30, if_pos (by omega), Option.bind_some, hg, Option.bind_some]
    show (if w = 0 then _ else _) = _
    by_cases h0 : w = 0
    · obtain ⟨q1, q2, q3, q4⟩ := hw h0
      rw [if_pos h0]
      show (if e < 1 then _ else if e > _ then _ else _) = _
      rw [if_neg (by omega), if_neg (by omega), q3, Option.bind_some, if_pos (show (0 : Int) ≤ e by omega), if_pos q2, if_pos q4]
      exact tail
    · rw [if_neg h0]
      exact tail
  · obtain ⟨v, e, w, hg, hw⟩ := body l (by omega) hb
    rw [if_neg h30, hg, Option.bind_some]
    show (if w = 0 then _ else _) = _
    by_cases h0 : w = 0
    · obtain ⟨q1, q2, q3, q4⟩ := hw h0
      rw [if_pos h0]
      show (if e < 1 then _ else if e > _ then _ else _) = _
      rw [if_neg (by omega), if_neg (by omega), q3, Option.bind_some, if_pos (show (0 : Int) ≤ e by omega), if_pos q2, if_pos q4]
      exact tail
    · rw [if_neg h0]
      exact tail
end Go.Proofs.Ytlhomdbkoniheaa.Pure
