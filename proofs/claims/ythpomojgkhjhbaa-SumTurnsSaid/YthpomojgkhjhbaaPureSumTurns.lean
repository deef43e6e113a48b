/- Bytes of which some that stand together, four at most, are turned have another sum, and the FNV of one byte more hangs on the one ahead alone: for all bytes, places and turns, no condition. -/
import Derived.Test.YthpomojgkhjhbaaPSx6
import Derived.Test.YthpomojgkhjhbaaCrc
import Derived.Test.YthpomojgkhjhbaaWithin
namespace Go.Proofs.Ythpomojgkhjhbaa.Pure
open Go.RowKit Go.Proofs.Ythpomojgkhjhbaa.PS Go.Proofs.YthpomojgkhjhbaaW.PrintWords Go.Proofs.YthpomojgkhjhbaaW.PrintLast Go.Proofs.Ythpomojgkhjhbaa.Base Go.Proofs.Ythpomojgkhjhbaa.CPlain Go.Proofs.Ythpomojgkhjhbaa.Crc Go.Proofs.Ythpomojgkhjhbaa.Within

/-- The turned list, i of the four done. -/
def turned (l : List Int) (c : Nat) (w : List Int) : Nat → List Int
  | 0 => l
  | i + 1 => (turned l c w i).set (c + i) (bits .xor .u8 (rd (turned l c w i) ((c + i : Nat) : Int)) (rd w (i : Int)))
theorem turned_len (l : List Int) (c : Nat) (w : List Int) (i : Nat) : (turned l c w i).length = l.length := by
  induction i with
  | zero => rfl
  | succ i ih => simp [turned, ih]
theorem turns_loop (l : List Int) (x2 : Int) (c : Nat) (w : List Int) (hw : w.length = 4) (hl : l.length ≤ 3000) (hc : c + 4 ≤ l.length) (Q : Nat → List Int → Option Bool)
    (hQ : ∀ k m, 0 < k → Q k m = columbariumlaw2_SumTurns.l0 k l x2 m (c : Int) w 4 4) (d : Nat) : ∀ (k i : Nat), i ≤ 4 → 4 - i = d → d < k →
    columbariumlaw2_SumTurns.l0 k l x2 (turned l c w i) (c : Int) w 4 (i : Int) = Q (k - d) (turned l c w 4) := by
  induction d with
  | zero =>
    intro k i hi hd hk
    have : i = 4 := by omega
    subst this
    rw [hQ _ _ (by omega)]
    rfl
  | succ d ih =>
    intro k i hi hd hk
    obtain ⟨k, rfl⟩ : ∃ m, k = m + 1 := ⟨k - 1, by omega⟩
    have hlt : i < 4 := by omega
    have e1 : wrap64 ((c : Int) + i) = ((c + i : Nat) : Int) := by rw [w64_id (by omega) (by omega)]; push_cast; rfl
    have e2 : wrap64 ((i : Int) + 1) = ((i + 1 : Nat) : Int) := by rw [w64_id (by omega) (by omega)]; push_cast; rfl
    rw [columbariumlaw2_SumTurns.l0, if_pos (by omega), if_pos (by omega), if_pos (by omega), e1, if_pos (by omega), if_pos (by rw [turned_len]; omega), e2, Int.toNat_natCast]
    have := ih k (i + 1) (by omega) (by omega) (by omega)
    rw [show k + 1 - (d + 1) = k - d from by omega, ← this]
    rfl
theorem turned_is (p s : List Int) (b0 b1 b2 b3 w x y z : Int) : turned (p ++ b0 :: b1 :: b2 :: b3 :: s) p.length [w, x, y, z] 4 = p ++ bits .xor .u8 b0 w :: bits .xor .u8 b1 x :: bits .xor .u8 b2 y :: bits .xor .u8 b3 z :: s := by
  have g : ∀ (j : Nat) (t : List Int), rd (p ++ t) ((p.length + j : Nat) : Int) = rd t (j : Int) := by
    intro j t
    unfold rd
    rw [Int.toNat_natCast, Int.toNat_natCast, List.getD_eq_getElem?_getD, List.getD_eq_getElem?_getD, List.getElem?_append_right (by omega), Nat.add_sub_cancel_left]
  have st : ∀ (j : Nat) (t : List Int) (u : Int), (p ++ t).set (p.length + j) u = p ++ t.set j u := by
    intro j t u
    rw [List.set_append, if_neg (by omega), Nat.add_sub_cancel_left]
  have r0 : ∀ t : List Int, ∀ a : Int, rd (a :: t) ((0 : Nat) : Int) = a := fun _ _ => rfl
  have rs : ∀ t : List Int, ∀ (a : Int) (j : Nat), rd (a :: t) ((j + 1 : Nat) : Int) = rd t (j : Int) := by
    intro t a j
    unfold rd
    simp
  have t1 : turned (p ++ b0 :: b1 :: b2 :: b3 :: s) p.length [w, x, y, z] 1 = p ++ bits .xor .u8 b0 w :: b1 :: b2 :: b3 :: s := by
    rw [turned, turned, g, st, r0, r0]
    rfl
  have t2 : turned (p ++ b0 :: b1 :: b2 :: b3 :: s) p.length [w, x, y, z] 2 = p ++ bits .xor .u8 b0 w :: bits .xor .u8 b1 x :: b2 :: b3 :: s := by
    rw [turned, t1, g, st, rs, rs, r0, r0]
    rfl
  have t3 : turned (p ++ b0 :: b1 :: b2 :: b3 :: s) p.length [w, x, y, z] 3 = p ++ bits .xor .u8 b0 w :: bits .xor .u8 b1 x :: bits .xor .u8 b2 y :: b3 :: s := by
    rw [turned, t2, g, st, rs, rs, rs, rs, r0, r0]
    rfl
  rw [turned, t3, g, st, rs, rs, rs, rs, rs, rs, r0, r0]
  rfl
theorem byte_xor {b w : Int} (b0 : 0 ≤ b) (b1 : b ≤ 255) (w0 : 0 ≤ w) (w1 : w ≤ 255) : byte (bits .xor .u8 b w) = byte b ^^^ byte w ∧ 0 ≤ bits .xor .u8 b w ∧ bits .xor .u8 b w ≤ 255 := by
  obtain ⟨b, rfl⟩ := Int.eq_ofNat_of_zero_le b0
  obtain ⟨w, rfl⟩ := Int.eq_ofNat_of_zero_le w0
  have hb : b < 2 ^ 8 := by omega
  have hw : w < 2 ^ 8 := by omega
  have e := bits_xor_nat .u8 rfl (a := b) (b := w) hb hw
  have hlt := Nat.xor_lt_two_pow hb hw
  rw [e]
  refine ⟨?_, by omega, by omega⟩
  apply BitVec.eq_of_toNat_eq
  rw [byte_toNat (by omega) (by omega), BitVec.toNat_xor, byte_toNat (by omega) (by omega), byte_toNat (by omega) (by omega)]
  rfl
theorem byte_zero {w : Int} (w0 : 0 ≤ w) (w1 : w ≤ 255) (h : byte w = 0#32) : w = 0 := by
  have := byte_toNat w0 w1
  rw [h] at this
  simp at this
  omega
theorem list4 (l : List Int) (c : Nat) (hc : c + 4 ≤ l.length) : ∃ p b0 b1 b2 b3 s, l = p ++ b0 :: b1 :: b2 :: b3 :: s ∧ p.length = c := by
  refine ⟨l.take c, l[c], l[c + 1], l[c + 2], l[c + 3], l.drop (c + 4), ?_, by simp; omega⟩
  rw [← List.drop_eq_getElem_cons, ← List.drop_eq_getElem_cons, ← List.drop_eq_getElem_cons, ← List.drop_eq_getElem_cons, List.take_append_drop]
theorem SumTurns : columbariumlaw2_SumTurns.Pure := by
  intro l a w x y z _ hl hb ha hw hx hy hz
  have hb : ∀ x ∈ l, 0 ≤ x ∧ x ≤ 255 := fun x h => u8wf (hb x h)
  have hw := u8wf hw
  have hx := u8wf hx
  have hy := u8wf hy
  have hz := u8wf hz
  refine ⟨40000, ?_⟩
  unfold columbariumlaw2_SumTurns.f
  have hk : ∀ k, 200 ≤ k → (columbariumlaw2_known.f k).bind (fun t => some t) = some true := fun k h => by rw [known_f h]; rfl
  by_cases h4 : (l.length : Int) < 4
  · rw [if_pos h4, hk _ (by decide)]
  · rw [if_neg h4]
    by_cases h3 : (l.length : Int) > 3000
    · rw [if_pos h3, hk _ (by decide)]
    · rw [if_neg h3]
      by_cases h0 : bits .or .u8 (bits .or .u8 (bits .or .u8 w x) y) z = 0
      · rw [if_pos h0, hk _ (by decide)]
      · rw [if_neg h0, Option.bind_some, List.length_nil, if_pos (by omega), w64_id (n := (l.length : Int) - 4) (by omega) (by omega)]
        obtain ⟨c, hc, hc0, hc1⟩ := within_f (n := a) (hi := (l.length : Int) - 4) (by omega) (by omega)
        obtain ⟨c, rfl⟩ := Int.eq_ofNat_of_zero_le hc0
        rw [hc, Option.bind_some, Option.bind_some, List.nil_append]
        have hloop := turns_loop l w c [w, x, y, z] rfl (by omega) (by omega) (fun k m => columbariumlaw2_SumTurns.l0 k l w m (c : Int) [w, x, y, z] 4 4) (fun _ _ _ => rfl) 4 40000 0 (by omega) (by omega) (by omega)
        show columbariumlaw2_SumTurns.l0 40000 l w (turned l c [w, x, y, z] 0) (c : Int) [w, x, y, z] 4 ((0 : Nat) : Int) = some true
        rw [hloop]
        show columbariumlaw2_SumTurns.l0 (39995 + 1) l w (turned l c [w, x, y, z] 4) (c : Int) [w, x, y, z] 4 4 = some true
        obtain ⟨p, b0, b1, b2, b3, s, rfl, rfl⟩ := list4 l c (by omega)
        rw [turned_is]
        have q0 := hb b0 (by simp)
        have q1 := hb b1 (by simp)
        have q2 := hb b2 (by simp)
        have q3 := hb b3 (by simp)
        obtain ⟨x0, y0⟩ := byte_xor q0.1 q0.2 hw.1 hw.2
        obtain ⟨x1, y1⟩ := byte_xor q1.1 q1.2 hx.1 hx.2
        obtain ⟨x2, y2⟩ := byte_xor q2.1 q2.2 hy.1 hy.2
        obtain ⟨x3, y3⟩ := byte_xor q3.1 q3.2 hz.1 hz.2
        have hbt : ∀ u ∈ p ++ bits .xor .u8 b0 w :: bits .xor .u8 b1 x :: bits .xor .u8 b2 y :: bits .xor .u8 b3 z :: s, 0 ≤ u ∧ u ≤ 255 := by
          intro u hu
          simp only [List.mem_append, List.mem_cons] at hu
          rcases hu with hu | rfl | rfl | rfl | rfl | hu
          · exact hb u (by simp [hu])
          · exact y0
          · exact y1
          · exact y2
          · exact y3
          · exact hb u (by simp [hu])
        have hlen : (p ++ bits .xor .u8 b0 w :: bits .xor .u8 b1 x :: bits .xor .u8 b2 y :: bits .xor .u8 b3 z :: s).length = (p ++ b0 :: b1 :: b2 :: b3 :: s).length := by simp
        have hne : ¬ crcI (p ++ bits .xor .u8 b0 w :: bits .xor .u8 b1 x :: bits .xor .u8 b2 y :: bits .xor .u8 b3 z :: s) = crcI (p ++ b0 :: b1 :: b2 :: b3 :: s) := by
          intro he
          unfold crcI at he
          have he2 : (crcV 0xffffffff#32 (p ++ bits .xor .u8 b0 w :: bits .xor .u8 b1 x :: bits .xor .u8 b2 y :: bits .xor .u8 b3 z :: s)) = (crcV 0xffffffff#32 (p ++ b0 :: b1 :: b2 :: b3 :: s)) := BitVec.eq_of_toNat_eq (by omega)
          rw [crcV_append, crcV_append] at he2
          simp only [crcV_cons, x0, x1, x2, x3] at he2
          have h8 : ∀ u : Int, 0 ≤ u → u ≤ 255 → (byte u).toNat < 256 := fun u a b => by rw [byte_toNat a b]; omega
          obtain ⟨k0, k1, k2, k3⟩ := turn4 _ _ _ _ _ _ _ _ _ (h8 w hw.1 hw.2) (h8 x hx.1 hx.2) (h8 y hy.1 hy.2) (h8 z hz.1 hz.2) (crcV_inj s he2)
          have e0 := byte_zero hw.1 hw.2 k0
          have e1 := byte_zero hx.1 hx.2 k1
          have e2 := byte_zero hy.1 hy.2 k2
          have e3 := byte_zero hz.1 hz.2 k3
          subst e0 e1 e2 e3
          exact h0 (by decide)
        have hs : (strOfNums (p ++ b0 :: b1 :: b2 :: b3 :: s)).size = (p ++ b0 :: b1 :: b2 :: b3 :: s).length := strOfNums_size _
        have hs1 : (strOfNums [w]).size = 1 := strOfNums_size _
        rw [columbariumlaw2_SumTurns.l0, if_neg (by decide), crc_f (by rw [hlen]; omega) hbt (by rw [hlen]; omega), Option.bind_some, crc_f (by omega) hb (by omega), Option.bind_some, if_neg hne, Option.bind_some, if_pos (by rw [hs, hs1]; omega)]
        have hsz : (strOfNums (p ++ b0 :: b1 :: b2 :: b3 :: s) ++ strOfNums [w]).size = (p ++ b0 :: b1 :: b2 :: b3 :: s).length + 1 := by rw [ByteArray.size_append, hs, hs1]
        have hap : bytesOf (strOfNums (p ++ b0 :: b1 :: b2 :: b3 :: s) ++ strOfNums [w]) = (p ++ b0 :: b1 :: b2 :: b3 :: s) ++ [w] := by
          have : bytesOf (strOfNums (p ++ b0 :: b1 :: b2 :: b3 :: s) ++ strOfNums [w]) = bytesOf (strOfNums (p ++ b0 :: b1 :: b2 :: b3 :: s)) ++ bytesOf (strOfNums [w]) := by
            unfold bytesOf
            rw [← List.map_append]
            congr 1
          rw [this, bytesOf_str hb, bytesOf_str (by intro u hu; simp at hu; subst hu; exact hw)]
        rw [fnv_f (by rw [hsz]; omega) (by rw [hsz]; omega), Option.bind_some, fnv_f (by rw [hs]; omega) (by rw [hs]; omega), Option.bind_some, hap, bytesOf_str hb]
        have hfin : fnvI ((p ++ b0 :: b1 :: b2 :: b3 :: s) ++ [w]) = IntKind.u64.wrap (bits .xor .u64 (fnvI (p ++ b0 :: b1 :: b2 :: b3 :: s)) (IntKind.u64.wrap w) * 1099511628211) := by
          unfold fnvI
          rw [List.foldl_append]
          rfl
        rw [if_pos hfin, hk _ (by decide)]
end Go.Proofs.Ythpomojgkhjhbaa.Pure
