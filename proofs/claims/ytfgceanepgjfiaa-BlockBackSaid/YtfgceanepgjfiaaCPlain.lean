/- The CRC of chapter 2 as steps on 32 bits, in plain Lean: it is linear, and no step forgets anything. -/
import Derived.Test.YtfgceanepgjfiaaBase
namespace Go.Proofs.Ytfgceanepgjfiaa.CPlain
open Go.RowKit Go.Proofs.YtfgceanepgjfiaaW.PrintWords Go.Proofs.Ytfgceanepgjfiaa.Base

def R (v : BitVec 32) : BitVec 32 := if v.getLsbD 0 then (v >>> 1) ^^^ 0x82f63b78#32 else v >>> 1
def Rn : Nat → BitVec 32 → BitVec 32
  | 0, v => v
  | n + 1, v => Rn n (R v)
def byte (x : Int) : BitVec 32 := BitVec.ofNat 32 x.toNat
def crcV (v : BitVec 32) (l : List Int) : BitVec 32 := l.foldl (fun c x => Rn 8 (c ^^^ byte x)) v

theorem byte_toNat {x : Int} (h0 : 0 ≤ x) (h1 : x ≤ 255) : (byte x).toNat = x.toNat := by
  unfold byte
  rw [BitVec.toNat_ofNat]
  omega
theorem shr_xor (a b : BitVec 32) : (a ^^^ b) >>> 1 = (a >>> 1) ^^^ (b >>> 1) := by
  apply BitVec.eq_of_getLsbD_eq
  intro i _
  simp
theorem R_xor (a b : BitVec 32) : R (a ^^^ b) = R a ^^^ R b := by
  unfold R
  rw [BitVec.getLsbD_xor, shr_xor]
  cases a.getLsbD 0 <;> cases b.getLsbD 0
  · simp
  · simp [BitVec.xor_assoc]
  · simp only [Bool.xor_false, if_true, if_false, Bool.false_eq_true]
    rw [BitVec.xor_assoc, BitVec.xor_assoc, BitVec.xor_comm (b >>> 1)]
  · simp only [Bool.xor_self, if_true, if_false, Bool.false_eq_true]
    rw [BitVec.xor_assoc (a >>> 1), ← BitVec.xor_assoc 0x82f63b78#32, BitVec.xor_comm 0x82f63b78#32 (b >>> 1), BitVec.xor_assoc (b >>> 1), BitVec.xor_self, BitVec.xor_zero]
theorem R_zero {v : BitVec 32} (h : R v = 0#32) : v = 0#32 := by
  unfold R at h
  cases hb : v.getLsbD 0 with
  | true =>
    rw [hb, if_pos rfl] at h
    have h31 := congrArg (fun u : BitVec 32 => u.getLsbD 31) h
    simp only [BitVec.getLsbD_xor, BitVec.getLsbD_ushiftRight] at h31
    rw [BitVec.getLsbD_of_ge v (1 + 31) (by omega)] at h31
    exact absurd h31 (by decide)
  | false =>
    rw [hb, if_neg (by decide)] at h
    apply BitVec.eq_of_getLsbD_eq
    intro i _
    cases i with
    | zero => rw [hb]; simp
    | succ i =>
      have := congrArg (fun u : BitVec 32 => u.getLsbD i) h
      simp only [BitVec.getLsbD_ushiftRight, Nat.add_comm 1 i] at this
      rw [this]
      simp
theorem Rn_xor (n : Nat) : ∀ a b, Rn n (a ^^^ b) = Rn n a ^^^ Rn n b := by
  induction n with
  | zero => intro a b; rfl
  | succ n ih => intro a b; unfold Rn; rw [R_xor, ih]
theorem Rn_zero (n : Nat) : ∀ {v : BitVec 32}, Rn n v = 0#32 → v = 0#32 := by
  induction n with
  | zero => intro v h; exact h
  | succ n ih => intro v h; exact R_zero (ih h)
theorem Rn_of_zero (n : Nat) : Rn n 0#32 = 0#32 := by
  induction n with
  | zero => rfl
  | succ n ih => unfold Rn; rw [show R 0#32 = 0#32 from by decide]; exact ih
theorem Rn_inj (n : Nat) {a b : BitVec 32} (h : Rn n a = Rn n b) : a = b := by
  rw [← BitVec.xor_eq_zero_iff] at h ⊢
  rw [← Rn_xor] at h
  exact Rn_zero n h
theorem R_shl (v : BitVec 32) (n : Nat) (hv : v.toNat * 2 ^ (n + 1) < 2 ^ 32) : R (v <<< (n + 1)) = v <<< n := by
  unfold R
  have hl : (v <<< (n + 1)).getLsbD 0 = false := by simp
  rw [hl, if_neg (by decide)]
  apply BitVec.eq_of_toNat_eq
  rw [BitVec.toNat_ushiftRight, BitVec.toNat_shiftLeft, BitVec.toNat_shiftLeft, Nat.shiftLeft_eq, Nat.shiftLeft_eq, Nat.shiftRight_eq_div_pow, Nat.mod_eq_of_lt hv]
  have e : v.toNat * 2 ^ (n + 1) = v.toNat * 2 ^ n * 2 := by rw [Nat.pow_succ, Nat.mul_assoc]
  rw [e] at hv ⊢
  rw [Nat.mod_eq_of_lt (by omega)]
  omega
theorem Rn_shl (n : Nat) : ∀ v : BitVec 32, v.toNat * 2 ^ n < 2 ^ 32 → Rn n (v <<< n) = v := by
  induction n with
  | zero => intro v _; simp [Rn]
  | succ n ih =>
    intro v hv
    unfold Rn
    rw [R_shl v n hv]
    have e : v.toNat * 2 ^ (n + 1) = v.toNat * 2 ^ n * 2 := by rw [Nat.pow_succ, Nat.mul_assoc]
    exact ih v (by omega)
theorem crcV_nil (v : BitVec 32) : crcV v [] = v := rfl
theorem crcV_cons (v : BitVec 32) (x : Int) (l : List Int) : crcV v (x :: l) = crcV (Rn 8 (v ^^^ byte x)) l := rfl
theorem crcV_append (v : BitVec 32) (a b : List Int) : crcV v (a ++ b) = crcV (crcV v a) b := by unfold crcV; rw [List.foldl_append]
theorem crcV_inj (l : List Int) : ∀ {a b : BitVec 32}, crcV a l = crcV b l → a = b := by
  induction l with
  | nil => intro a b h; exact h
  | cons x l ih =>
    intro a b h
    have := Rn_inj 8 (ih h)
    exact (BitVec.xor_left_inj _).1 this
theorem shl_byte {b u : BitVec 32} (hb : b.toNat < 256) (hu : u.toNat < 2 ^ 24) (h : b = u <<< 8) : b = 0#32 ∧ u = 0#32 := by
  have hn := congrArg BitVec.toNat h
  rw [BitVec.toNat_shiftLeft, Nat.shiftLeft_eq, Nat.mod_eq_of_lt (by omega)] at hn
  have h0 : u.toNat = 0 := by omega
  have hu0 : u = 0#32 := BitVec.eq_of_toNat_eq (by simpa using h0)
  subst hu0
  exact ⟨by rw [h]; rfl, rfl⟩
/-- A turn of four bytes that stand together is seen. -/
theorem turn4 (v : BitVec 32) (b0 b1 b2 b3 w x y z : BitVec 32) (hw : w.toNat < 256) (hx : x.toNat < 256) (hy : y.toNat < 256) (hz : z.toNat < 256)
    (h : Rn 8 (Rn 8 (Rn 8 (Rn 8 (v ^^^ (b0 ^^^ w)) ^^^ (b1 ^^^ x)) ^^^ (b2 ^^^ y)) ^^^ (b3 ^^^ z)) = Rn 8 (Rn 8 (Rn 8 (Rn 8 (v ^^^ b0) ^^^ b1) ^^^ b2) ^^^ b3)) :
    w = 0#32 ∧ x = 0#32 ∧ y = 0#32 ∧ z = 0#32 := by
  have step : ∀ a b c d : BitVec 32, Rn 8 (a ^^^ (b ^^^ c)) = Rn 8 (d ^^^ b) → c = d ^^^ a := by
    intro a b c d h
    have h := Rn_inj 8 h
    have h2 : (a ^^^ c) ^^^ b = d ^^^ b := by rw [← h, BitVec.xor_assoc, BitVec.xor_comm c b]
    have h3 := (BitVec.xor_left_inj _).1 h2
    rw [← h3, BitVec.xor_comm a c, BitVec.xor_assoc, BitVec.xor_self, BitVec.xor_zero]
  have lin : ∀ a b : BitVec 32, ∀ u : BitVec 32, u.toNat < 2 ^ 24 → u = Rn 8 a ^^^ Rn 8 b → a ^^^ b = u <<< 8 := by
    intro a b u hu he
    rw [← Rn_xor] at he
    exact Rn_inj 8 (by rw [← he, Rn_shl 8 u (by omega)])
  have two : ∀ a b c d : BitVec 32, (d ^^^ b) ^^^ (a ^^^ (b ^^^ c)) = c ^^^ (d ^^^ a) := by
    intro a b c d
    have e : (d ^^^ b) ^^^ (a ^^^ (b ^^^ c)) = (b ^^^ b) ^^^ (c ^^^ (d ^^^ a)) := by ac_rfl
    rw [e, BitVec.xor_self, BitVec.zero_xor]
  have e3 := step _ _ _ _ h
  have u3 : z.toNat < 2 ^ 24 := by omega
  have l3 := lin _ _ z u3 e3
  rw [two] at l3
  obtain ⟨V2, hV2⟩ : ∃ V, V = y ^^^ z <<< 8 := ⟨_, rfl⟩
  have e2 : V2 = Rn 8 (Rn 8 (v ^^^ b0) ^^^ b1) ^^^ Rn 8 (Rn 8 (v ^^^ (b0 ^^^ w)) ^^^ (b1 ^^^ x)) := by
    rw [hV2, ← l3, ← BitVec.xor_assoc, BitVec.xor_self, BitVec.zero_xor]
  have hs : ∀ u : BitVec 32, u.toNat < 2 ^ 16 → (u <<< 8).toNat < 2 ^ 24 := by
    intro u hu
    rw [BitVec.toNat_shiftLeft, Nat.shiftLeft_eq, Nat.mod_eq_of_lt (by omega)]
    omega
  have hs8 : ∀ u : BitVec 32, u.toNat < 2 ^ 8 → (u <<< 8).toNat < 2 ^ 16 := by
    intro u hu
    rw [BitVec.toNat_shiftLeft, Nat.shiftLeft_eq, Nat.mod_eq_of_lt (by omega)]
    omega
  have hV2n : V2.toNat < 2 ^ 16 := by rw [hV2, BitVec.toNat_xor]; exact Nat.xor_lt_two_pow (by omega) (hs8 z (by omega))
  have l2 := lin _ _ V2 (by omega) e2
  rw [two] at l2
  obtain ⟨V1, hV1⟩ : ∃ V, V = x ^^^ V2 <<< 8 := ⟨_, rfl⟩
  have e1 : V1 = Rn 8 (v ^^^ b0) ^^^ Rn 8 (v ^^^ (b0 ^^^ w)) := by
    rw [hV1, ← l2, ← BitVec.xor_assoc, BitVec.xor_self, BitVec.zero_xor]
  have hV1n : V1.toNat < 2 ^ 24 := by rw [hV1, BitVec.toNat_xor]; exact Nat.xor_lt_two_pow (by omega) (hs V2 hV2n)
  have l1 := lin _ _ V1 hV1n e1
  rw [two, BitVec.xor_self, BitVec.xor_zero] at l1
  obtain ⟨h0, hV⟩ := shl_byte hw hV1n l1
  rw [hV1, BitVec.xor_eq_zero_iff] at hV
  obtain ⟨h1, hV'⟩ := shl_byte hx (by omega) hV
  rw [hV2, BitVec.xor_eq_zero_iff] at hV'
  obtain ⟨h2, h3⟩ := shl_byte hy (by omega) hV'
  exact ⟨h0, h1, h2, h3⟩
/-- Three rows and the one that all three make. -/
theorem crcV_mix : ∀ (a b c d : List Int) (va vb vc vd : BitVec 32), a.length = b.length → a.length = c.length → a.length = d.length → (∀ i, byte (d.getD i 0) = byte (a.getD i 0) ^^^ byte (b.getD i 0) ^^^ byte (c.getD i 0)) → vd = va ^^^ vb ^^^ vc →
    crcV vd d = crcV va a ^^^ crcV vb b ^^^ crcV vc c
  | [], [], [], [], _, _, _, _, _, _, _, _, h => h
  | x :: a, y :: b, z :: c, u :: d, va, vb, vc, vd, h1, h2, h3, hi, h => by
    simp only [crcV_cons]
    refine crcV_mix a b c d _ _ _ _ (by simpa using h1) (by simpa using h2) (by simpa using h3) (fun i => by simpa using hi (i + 1)) ?_
    have h0 := hi 0
    simp only [List.getD_cons_zero] at h0
    rw [h, h0, ← Rn_xor, ← Rn_xor]
    congr 1
    ac_rfl
end Go.Proofs.Ytfgceanepgjfiaa.CPlain
