/- What is put is got, behind anything; of each number there is one writing; Zag of Zig is the number: for all bytes, numbers and texts, no condition. -/
import Derived.Test.YthpomojgkhjhbaaPSx20
import Derived.Test.YthpomojgkhjhbaaVarint
import Derived.Test.YthpomojgkhjhbaaZigs
namespace Go.Proofs.Ythpomojgkhjhbaa.Pure
open Go.RowKit Go.Proofs.Ythpomojgkhjhbaa.PS Go.Proofs.YthpomojgkhjhbaaW.PrintWords Go.Proofs.YthpomojgkhjhbaaW.PrintLast Go.Proofs.Ythpomojgkhjhbaa.Base Go.Proofs.Ythpomojgkhjhbaa.VPlain Go.Proofs.Ythpomojgkhjhbaa.Varint Go.Proofs.Ythpomojgkhjhbaa.Zigs

theorem back_any (l : List Int) (hl : l.length ≤ 140737488351232) (hb : ∀ x ∈ l, 0 ≤ x ∧ x ≤ 255) (n m z : Int) (n0 : 0 ≤ n) (n1 : n ≤ 18446744073709551615) (m0 : 0 ≤ m) (m1 : m ≤ 18446744073709551615)
    (z0 : -9223372036854775808 ≤ z) (z1 : z ≤ 9223372036854775807) (s : ByteArray) (hs : s.size ≤ 300) (k : Nat) (hk : l.length + 1000 ≤ k) :
    columbariumlaw1_VarintBack.j0 (k + 1) l n m z s = some true := by
  have hv := vput_len n
  have hvs := vput_len (s.size : Int)
  have hvb := vput_byte n1
  have hsb := vput_byte (show ((s.size : Nat) : Int) ≤ 18446744073709551615 by omega)
  have hx : ∀ x ∈ l ++ vput n ++ vput s.size ++ bytesOf s, 0 ≤ x ∧ x ≤ 255 := by
    intro x h
    simp only [List.mem_append] at h
    rcases h with ((h | h) | h) | h
    · exact hb x h
    · exact hvb x h
    · exact hsb x h
    · exact bytesOf_range h
  have hlen : (l ++ vput n ++ vput s.size ++ bytesOf s).length = l.length + (vput n).length + (vput s.size).length + s.size := by simp [bytesOf_size]; omega
  have e1 : getI (l ++ vput n ++ vput s.size ++ bytesOf s) l.length = (n, (l.length : Int) + (vput n).length, 0) := by
    have := getI_put (b := l) (r := vput s.size ++ bytesOf s) n0 n1
    simpa [List.append_assoc] using this
  have e2 : getT (l ++ vput n ++ vput s.size ++ bytesOf s) ((l.length : Int) + (vput n).length) s.size = (s, ((l ++ vput n ++ vput s.size ++ bytesOf s).length : Int), 0) := by
    unfold getT
    have := getI_put (b := l ++ vput n) (r := bytesOf s) (n := (s.size : Int)) (by omega) (by omega)
    rw [show (((l ++ vput n).length : Nat) : Int) = (l.length : Int) + (vput n).length from by simp] at this
    rw [this]
    simp only
    rw [if_pos trivial, if_neg (by omega), if_neg (by rw [hlen]; omega)]
    have ht : ((l.length : Int) + (vput n).length + (vput s.size).length).toNat = (l ++ vput n ++ vput s.size).length := by simp; omega
    have htt : ((l.length : Int) + (vput n).length + (vput s.size).length + s.size).toNat = (l ++ vput n ++ vput s.size ++ bytesOf s).length := by rw [hlen]; omega
    rw [htt, ht, List.take_length, List.drop_left, str_bytesOf, hlen]
    refine Prod.ext rfl (Prod.ext ?_ rfl)
    simp only
    omega
  simp only [columbariumlaw1_VarintBack.j0]
  rw [put_f (by omega) n0 n1 (by omega)]
  simp only [Option.bind_some]
  rw [putText_f (by rw [List.length_append]; omega) (by omega)]
  simp only [Option.bind_some]
  rw [get_f (by rw [hlen]; omega) hx _ (by rw [hlen]; omega), e1]
  simp only [Option.bind_some]
  rw [getText_f (by rw [hlen]; omega) hx _ (by omega) (by omega) (by rw [hlen]; omega), e2]
  simp only [Option.bind_some, if_true]
  rw [put_f (l := []) (by simp) n0 n1 (by omega), put_f (l := []) (by simp) m0 m1 (by omega), zig_f z0 z1]
  have hzr := zig_range z0 z1
  have hzg := zag_range n0 n1
  simp only [Option.bind_some, List.nil_append]
  rw [zag_f hzr.1 hzr.2, zag_f n0 n1]
  simp only [Option.bind_some]
  rw [zig_f hzg.1 hzg.2, zag_zig, zig_zag n0, known_f (by omega)]
  simp only [Option.bind_some, if_true]
  have hi : (strOfNums (vput n)).toList = (strOfNums (vput m)).toList ↔ n = m := by
    rw [str_inj hvb (vput_byte m1)]
    exact ⟨vput_inj n0 n1 m0 m1, fun h => by rw [h]⟩
  by_cases h : n = m
  · rw [if_pos (hi.2 h), if_pos h]
  · rw [if_neg (fun h2 => h (hi.1 h2)), if_neg h]

theorem VarintBack : columbariumlaw1_VarintBack.Pure := by
  intro l n m z s _ hl hb hn hm hz hs
  have hl2 : l.length ≤ 140737488351232 := by omega
  have hb2 : ∀ x ∈ l, 0 ≤ x ∧ x ≤ 255 := fun x h => u8wf (hb x h)
  have hn := u64wf hn
  have hm := u64wf hm
  have hz := i64wf hz
  refine ⟨l.length + 1001, ?_⟩
  unfold columbariumlaw1_VarintBack.f
  by_cases h : (s.size : Int) > 300
  · rw [if_pos h, if_pos (by decide), if_pos (by omega)]
    exact back_any l hl2 hb2 n m z hn.1 hn.2 hm.1 hm.2 hz.1 hz.2 _ (by simp; omega) (l.length + 1000) (by omega)
  · rw [if_neg h]
    exact back_any l hl2 hb2 n m z hn.1 hn.2 hm.1 hm.2 hz.1 hz.2 _ (by omega) (l.length + 1000) (by omega)
end Go.Proofs.Ythpomojgkhjhbaa.Pure
