/- My plain texts of this seat, one behind the other. -/
import Derived.Laws.BitsLemmas
import Derived.RowKit
import Derived.Test.YtfgceanepgjfiaaWWords
import Derived.Test.YtfgceanepgjfiaaPSsumCrc
import Derived.Test.YtfgceanepgjfiaaPSblockSeal
import Derived.Test.YtfgceanepgjfiaaPSblockOpen
import Derived.Test.YtfgceanepgjfiaaPSblockAll
import Derived.Test.YtfgceanepgjfiaaPScolumbariumref2Crc
import Derived.Test.YtfgceanepgjfiaaPScolumbariumlaw6few
import Derived.Test.YtfgceanepgjfiaaPScolumbariumlaw6known
import Derived.Test.YtfgceanepgjfiaaPScolumbariumlaw6written
import Derived.Test.YtfgceanepgjfiaaPScolumbariumref6All
import Derived.Test.YtfgceanepgjfiaaPScolumbariumref6Open
import Derived.Test.YtfgceanepgjfiaaPScolumbariumlaw6alike
/- Plain words on bits, wraps and lists that the proofs of this seat share. -/
namespace Go.Proofs.Ytfgceanepgjfiaa.Base
open Go.RowKit Go.Proofs.YtfgceanepgjfiaaW.PrintWords

theorem u64_wrap (n : Int) : IntKind.u64.wrap n = n % 18446744073709551616 := by simp [IntKind.wrap, IntKind.bits, IntKind.signed]
theorem u64_id {n : Int} (h0 : 0 ≤ n) (h1 : n < 18446744073709551616) : IntKind.u64.wrap n = n := by rw [u64_wrap]; omega
theorem u32_id {n : Int} (h0 : 0 ≤ n) (h1 : n < 4294967296) : IntKind.u32.wrap n = n := by rw [IntKind.wrap_u32]; omega
theorem w64_id {n : Int} (h0 : -9223372036854775808 ≤ n) (h1 : n ≤ 9223372036854775807) : wrap64 n = n := by unfold wrap64; omega
theorem u8wf {x : Int} (h : (Lit.int .u8 x).wf = true) : 0 ≤ x ∧ x ≤ 255 := by
  simp [Lit.wf, IntKind.min, IntKind.max, IntKind.signed, IntKind.bits] at h
  omega
theorem u32wf {x : Int} (h : (Lit.int .u32 x).wf = true) : 0 ≤ x ∧ x ≤ 4294967295 := by
  simp [Lit.wf, IntKind.min, IntKind.max, IntKind.signed, IntKind.bits] at h
  omega
theorem u64wf {x : Int} (h : (Lit.int .u64 x).wf = true) : 0 ≤ x ∧ x ≤ 18446744073709551615 := by
  simp [Lit.wf, IntKind.min, IntKind.max, IntKind.signed, IntKind.bits] at h
  omega
theorem i64wf {x : Int} (h : (Lit.int .i64 x).wf = true) : -9223372036854775808 ≤ x ∧ x ≤ 9223372036854775807 := by
  simp [Lit.wf, IntKind.min, IntKind.max, IntKind.signed, IntKind.bits] at h
  omega

/-- and, or, exclusive or of numbers that fit are those of Nat. -/
theorem bits_and_nat (k : IntKind) (hs : k.signed = false) {a b : Nat} (ha : a < 2 ^ k.bits) (hb : b < 2 ^ k.bits) : bits .and k a b = ((a &&& b : Nat) : Int) := by
  have hk : ∀ n : Int, 0 ≤ n → n < 2 ^ k.bits → k.wrap n = n := fun n h0 h1 => by
    simp only [IntKind.wrap, hs]
    simp
    exact Int.emod_eq_of_lt h0 h1
  exact (bits_nat k k.bits (Nat.le_refl _) hk a b ha hb).1
theorem bits_or_nat (k : IntKind) (hs : k.signed = false) {a b : Nat} (ha : a < 2 ^ k.bits) (hb : b < 2 ^ k.bits) : bits .or k a b = ((a ||| b : Nat) : Int) := by
  have hk : ∀ n : Int, 0 ≤ n → n < 2 ^ k.bits → k.wrap n = n := fun n h0 h1 => by
    simp only [IntKind.wrap, hs]
    simp
    exact Int.emod_eq_of_lt h0 h1
  exact (bits_nat k k.bits (Nat.le_refl _) hk a b ha hb).2
theorem bits_xor_nat (k : IntKind) (hs : k.signed = false) {a b : Nat} (ha : a < 2 ^ k.bits) (hb : b < 2 ^ k.bits) : bits .xor k a b = ((a ^^^ b : Nat) : Int) := by
  have ha' : a % 2 ^ k.bits = a := Nat.mod_eq_of_lt ha
  have hb' : b % 2 ^ k.bits = b := Nat.mod_eq_of_lt hb
  simp only [bits, BitVec.ofInt_natCast, BitVec.toNat_xor, BitVec.toNat_ofNat, ha', hb']
  simp only [IntKind.wrap, hs]
  simp
  exact Int.emod_eq_of_lt (by omega) (by exact_mod_cast Nat.xor_lt_two_pow ha hb)
theorem xor_bv32 (a b : BitVec 32) : bits .xor .u32 (a.toNat : Int) (b.toNat : Int) = ((a ^^^ b).toNat : Int) := by
  rw [bits_xor_nat .u32 rfl a.isLt b.isLt, BitVec.toNat_xor]
theorem xor_bv64 (a b : BitVec 64) : bits .xor .u64 (a.toNat : Int) (b.toNat : Int) = ((a ^^^ b).toNat : Int) := by
  rw [bits_xor_nat .u64 rfl a.isLt b.isLt, BitVec.toNat_xor]
theorem xor_bv8 (a b : BitVec 8) : bits .xor .u8 (a.toNat : Int) (b.toNat : Int) = ((a ^^^ b).toNat : Int) := by
  rw [bits_xor_nat .u8 rfl a.isLt b.isLt, BitVec.toNat_xor]
theorem or_bv8 (a b : BitVec 8) : bits .or .u8 (a.toNat : Int) (b.toNat : Int) = ((a ||| b).toNat : Int) := by
  rw [bits_or_nat .u8 rfl a.isLt b.isLt, BitVec.toNat_or]
theorem byte_bv {x : Int} (h0 : 0 ≤ x) (h1 : x ≤ 255) : ∃ b : BitVec 8, x = (b.toNat : Int) := ⟨BitVec.ofNat 8 x.toNat, by simp; omega⟩
theorem bits_range (op : BinOp) (k : IntKind) (hs : k.signed = false) (x y : Int) : 0 ≤ bits op k x y ∧ bits op k x y < 2 ^ k.bits := by
  simp only [bits, IntKind.wrap, hs]
  simp
  exact ⟨Int.emod_nonneg _ (by have : (0 : Int) < 2 ^ k.bits := Int.pow_pos (by decide); omega), Int.emod_lt_of_pos _ (Int.pow_pos (by decide))⟩

theorem and127 {x : Int} (h0 : 0 ≤ x) (h1 : x ≤ 255) : bits .and .u8 x 127 = x % 128 := bits_mask .u8 8 (by decide) wraps_u8 7 (by decide) x h0 (by omega)
theorem or128 {x : Int} (h0 : 0 ≤ x) (h1 : x ≤ 255) : bits .or .u8 x 128 = x % 128 + 128 := by
  obtain ⟨n, rfl⟩ := Int.eq_ofNat_of_zero_le h0
  have h : ∀ n : Fin 256, ((n.val ||| 128 : Nat)) = n.val % 128 + 128 := by decide +kernel
  have h2 := h ⟨n, by omega⟩
  have e := bits_or_nat .u8 rfl (a := n) (b := 128) (by show n < 256; omega) (by decide)
  rw [show ((128 : Int)) = ((128 : Nat) : Int) from rfl, e, show n ||| 128 = n % 128 + 128 from h2]
  omega
theorem and1_u32 {x : Int} (h0 : 0 ≤ x) (h1 : x < 4294967296) : bits .and .u32 x 1 = x % 2 :=
  bits_mask .u32 32 (by decide) (fun n a b => u32_id a (by simpa using b)) 1 (by decide) x h0 (by simpa using h1)
theorem and1_u64 {x : Int} (h0 : 0 ≤ x) (h1 : x < 18446744073709551616) : bits .and .u64 x 1 = x % 2 :=
  bits_mask .u64 64 (by decide) (fun n a b => u64_id a (by simpa using b)) 1 (by decide) x h0 (by simpa using h1)

theorem xor_u64_ones {x : Int} (h0 : 0 ≤ x) (h1 : x < 18446744073709551616) : bits .xor .u64 x 18446744073709551615 = 18446744073709551615 - x := by
  obtain ⟨n, rfl⟩ := Int.eq_ofNat_of_zero_le h0
  have hn : n < 2 ^ 64 := by omega
  have e := xor_bv64 (BitVec.ofNat 64 n) (BitVec.allOnes 64)
  have e1 : (BitVec.ofNat 64 n).toNat = n := by simp only [BitVec.toNat_ofNat]; omega
  have e2 : (BitVec.allOnes 64).toNat = 18446744073709551615 := by decide
  rw [e1, e2, BitVec.xor_allOnes, BitVec.toNat_not, e1] at e
  rw [show ((18446744073709551615 : Int)) = ((18446744073709551615 : Nat) : Int) from rfl, e]
  omega
theorem xor_u32_ones {x : Int} (h0 : 0 ≤ x) (h1 : x < 4294967296) : bits .xor .u32 4294967295 x = 4294967295 - x := by
  obtain ⟨n, rfl⟩ := Int.eq_ofNat_of_zero_le h0
  have hn : n < 2 ^ 32 := by omega
  have e := xor_bv32 (BitVec.allOnes 32) (BitVec.ofNat 32 n)
  have e1 : (BitVec.ofNat 32 n).toNat = n := by simp only [BitVec.toNat_ofNat]; omega
  have e2 : (BitVec.allOnes 32).toNat = 4294967295 := by decide
  rw [e1, e2, BitVec.allOnes_xor, BitVec.toNat_not, e1] at e
  rw [show ((4294967295 : Int)) = ((4294967295 : Nat) : Int) from rfl, e]
  omega
theorem xor_u64_zero {x : Int} (h0 : 0 ≤ x) (h1 : x < 18446744073709551616) : bits .xor .u64 x 0 = x := by
  obtain ⟨n, rfl⟩ := Int.eq_ofNat_of_zero_le h0
  have e := bits_xor_nat .u64 rfl (a := n) (b := 0) (by show n < 2 ^ 64; omega) (by decide)
  rw [show ((0 : Int)) = ((0 : Nat) : Int) from rfl, e, Nat.xor_zero]
theorem xor_i64_zero {x : Int} (h0 : -9223372036854775808 ≤ x) (h1 : x ≤ 9223372036854775807) : bits .xor .i64 x 0 = x := by
  have e : (BitVec.ofInt 64 x ^^^ BitVec.ofInt 64 0).toNat = (x % 18446744073709551616).toNat := by
    rw [show BitVec.ofInt 64 0 = 0#64 from by decide, BitVec.xor_zero, BitVec.toNat_ofInt]
    rfl
  show IntKind.i64.wrap (((BitVec.ofInt 64 x ^^^ BitVec.ofInt 64 0).toNat : Nat) : Int) = x
  rw [e, IntKind.wrap_i64]
  omega
theorem xor_i64_neg {x : Int} (h0 : -9223372036854775808 ≤ x) (h1 : x ≤ 9223372036854775807) : bits .xor .i64 x (-1) = -x - 1 := by
  have e : (BitVec.ofInt 64 x ^^^ BitVec.ofInt 64 (-1)).toNat = 18446744073709551615 - (x % 18446744073709551616).toNat := by
    rw [show BitVec.ofInt 64 (-1) = BitVec.allOnes 64 from by decide, BitVec.xor_allOnes, BitVec.toNat_not, BitVec.toNat_ofInt]
    rfl
  show IntKind.i64.wrap (((BitVec.ofInt 64 x ^^^ BitVec.ofInt 64 (-1)).toNat : Nat) : Int) = -x - 1
  rw [e, IntKind.wrap_i64]
  omega

/-- rd within the list. -/
theorem rd_get {l : List Int} {i : Int} (h0 : 0 ≤ i) (h1 : i < l.length) : rd l i = l[i.toNat]'(by omega) := by
  unfold rd
  rw [List.getD_eq_getElem?_getD, List.getElem?_eq_getElem (by omega)]
  rfl
theorem rd_nat {l : List Int} {i : Nat} (h1 : i < l.length) : rd l (i : Int) = l[i] := by
  rw [rd_get (by omega) (by omega)]
  rfl
theorem drop_rd {l : List Int} {i : Nat} (h1 : i < l.length) : l.drop i = rd l (i : Int) :: l.drop (i + 1) := by
  rw [rd_nat h1]
  exact List.drop_eq_getElem_cons h1
theorem rd_drop (l : List Int) (a i : Nat) : rd (l.drop a) (i : Int) = rd l ((a + i : Nat) : Int) := by
  unfold rd
  rw [List.getD_eq_getElem?_getD, List.getD_eq_getElem?_getD, List.getElem?_drop]
  simp only [Int.toNat_natCast]

theorem bytesOf_size (s : ByteArray) : (bytesOf s).length = s.size := bytesOf_length s
theorem bytesOf_range {s : ByteArray} {x : Int} (h : x ∈ bytesOf s) : 0 ≤ x ∧ x ≤ 255 := by
  unfold bytesOf at h
  obtain ⟨b, _, rfl⟩ := List.mem_map.1 h
  have := b.toNat_lt
  omega
theorem bt_rd (s : ByteArray) (i : Nat) (h : i < s.size) : bt s (i : Int) = rd (bytesOf s) (i : Int) := by
  unfold bt rd bytesOf
  have h2 : i < s.data.toList.length := by simpa using h
  simp only [Int.toNat_natCast, dif_pos h, List.getD_eq_getElem?_getD, List.getElem?_map, List.getElem?_eq_getElem h2]
  simp
  rfl
theorem toList_is (s : ByteArray) : s.toList = s.data.toList := ByteArray.toList_eq s
theorem str_ext {a b : ByteArray} (h : a.toList = b.toList) : a = b := by
  rw [toList_is, toList_is] at h
  cases a; cases b
  congr 1
  exact Array.ext' h
theorem bytesOf_str {l : List Int} (hb : ∀ x ∈ l, 0 ≤ x ∧ x ≤ 255) : bytesOf (strOfNums l) = l := by
  unfold bytesOf
  rw [strOfNums_data, List.map_map]
  conv => rhs; rw [← List.map_id l]
  refine List.map_congr_left fun x hx => ?_
  have := hb x hx
  simp only [Function.comp, id]
  rw [UInt8.toNat_ofNat']
  omega
theorem str_bytesOf (s : ByteArray) : strOfNums (bytesOf s) = s := by
  refine str_ext ?_
  rw [toList_is, toList_is, strOfNums_data]
  unfold bytesOf
  rw [List.map_map]
  conv => rhs; rw [← List.map_id s.data.toList]
  refine List.map_congr_left fun x _ => ?_
  simp
theorem str_inj {l m : List Int} (hl : ∀ x ∈ l, 0 ≤ x ∧ x ≤ 255) (hm : ∀ x ∈ m, 0 ≤ x ∧ x ≤ 255) : (strOfNums l).toList = (strOfNums m).toList ↔ l = m := by
  refine ⟨fun h => ?_, fun h => by rw [h]⟩
  have := congrArg bytesOf (str_ext h)
  rwa [bytesOf_str hl, bytesOf_str hm] at this
theorem str_is {l : List Int} {s : ByteArray} (hl : ∀ x ∈ l, 0 ≤ x ∧ x ≤ 255) : (strOfNums l).toList = s.toList ↔ l = bytesOf s := by
  refine ⟨fun h => ?_, fun h => by rw [h, str_bytesOf]⟩
  have := congrArg bytesOf (str_ext h)
  rwa [bytesOf_str hl] at this
end Go.Proofs.Ytfgceanepgjfiaa.Base

/- The CRC of chapter 2 as steps on 32 bits, in plain Lean: it is linear, and no step forgets anything. -/
namespace Go.Proofs.Ytfgceanepgjfiaa.CPlain
open Go.RowKit Go.Proofs.YtfgceanepgjfiaaW.PrintWords Go.Proofs.Ytfgceanepgjfiaa.Base

def R (v : BitVec 32) : BitVec 32 := if v.getLsbD 0 then (v >>> 1) ^^^ 0x82f63b78#32 else v >>> 1
def Rn : Nat → BitVec 32 → BitVec 32
  | 0, v => v
  | n + 1, v => Rn n (R v)
def byte (x : Int) : BitVec 32 := BitVec.ofNat 32 x.toNat
def crcV (v : BitVec 32) (l : List Int) : BitVec 32 := l.foldl (fun c x => Rn 8 (c ^^^ byte x)) v

theorem byte_toNat {x : Int} (h0 : 0 ≤ x) (h1 : x ≤ 255) : (byte x).toNat = x.toNat := by
  unfold byte
  rw [BitVec.toNat_ofNat]
  omega
theorem shr_xor (a b : BitVec 32) : (a ^^^ b) >>> 1 = (a >>> 1) ^^^ (b >>> 1) := by
  apply BitVec.eq_of_getLsbD_eq
  intro i _
  simp
theorem R_xor (a b : BitVec 32) : R (a ^^^ b) = R a ^^^ R b := by
  unfold R
  rw [BitVec.getLsbD_xor, shr_xor]
  cases a.getLsbD 0 <;> cases b.getLsbD 0
  · simp
  · simp [BitVec.xor_assoc]
  · simp only [Bool.xor_false, if_true, if_false, Bool.false_eq_true]
    rw [BitVec.xor_assoc, BitVec.xor_assoc, BitVec.xor_comm (b >>> 1)]
  · simp only [Bool.xor_self, if_true, if_false, Bool.false_eq_true]
    rw [BitVec.xor_assoc (a >>> 1), ← BitVec.xor_assoc 0x82f63b78#32, BitVec.xor_comm 0x82f63b78#32 (b >>> 1), BitVec.xor_assoc (b >>> 1), BitVec.xor_self, BitVec.xor_zero]
theorem R_zero {v : BitVec 32} (h : R v = 0#32) : v = 0#32 := by
  unfold R at h
  cases hb : v.getLsbD 0 with
  | true =>
    rw [hb, if_pos rfl] at h
    have h31 := congrArg (fun u : BitVec 32 => u.getLsbD 31) h
    simp only [BitVec.getLsbD_xor, BitVec.getLsbD_ushiftRight] at h31
    rw [BitVec.getLsbD_of_ge v (1 + 31) (by omega)] at h31
    exact absurd h31 (by decide)
  | false =>
    rw [hb, if_neg (by decide)] at h
    apply BitVec.eq_of_getLsbD_eq
    intro i _
    cases i with
    | zero => rw [hb]; simp
    | succ i =>
      have := congrArg (fun u : BitVec 32 => u.getLsbD i) h
      simp only [BitVec.getLsbD_ushiftRight, Nat.add_comm 1 i] at this
      rw [this]
      simp
theorem Rn_xor (n : Nat) : ∀ a b, Rn n (a ^^^ b) = Rn n a ^^^ Rn n b := by
  induction n with
  | zero => intro a b; rfl
  | succ n ih => intro a b; unfold Rn; rw [R_xor, ih]
theorem Rn_zero (n : Nat) : ∀ {v : BitVec 32}, Rn n v = 0#32 → v = 0#32 := by
  induction n with
  | zero => intro v h; exact h
  | succ n ih => intro v h; exact R_zero (ih h)
theorem Rn_of_zero (n : Nat) : Rn n 0#32 = 0#32 := by
  induction n with
  | zero => rfl
  | succ n ih => unfold Rn; rw [show R 0#32 = 0#32 from by decide]; exact ih
theorem Rn_inj (n : Nat) {a b : BitVec 32} (h : Rn n a = Rn n b) : a = b := by
  rw [← BitVec.xor_eq_zero_iff] at h ⊢
  rw [← Rn_xor] at h
  exact Rn_zero n h
theorem R_shl (v : BitVec 32) (n : Nat) (hv : v.toNat * 2 ^ (n + 1) < 2 ^ 32) : R (v <<< (n + 1)) = v <<< n := by
  unfold R
  have hl : (v <<< (n + 1)).getLsbD 0 = false := by simp
  rw [hl, if_neg (by decide)]
  apply BitVec.eq_of_toNat_eq
  rw [BitVec.toNat_ushiftRight, BitVec.toNat_shiftLeft, BitVec.toNat_shiftLeft, Nat.shiftLeft_eq, Nat.shiftLeft_eq, Nat.shiftRight_eq_div_pow, Nat.mod_eq_of_lt hv]
  have e : v.toNat * 2 ^ (n + 1) = v.toNat * 2 ^ n * 2 := by rw [Nat.pow_succ, Nat.mul_assoc]
  rw [e] at hv ⊢
  rw [Nat.mod_eq_of_lt (by omega)]
  omega
theorem Rn_shl (n : Nat) : ∀ v : BitVec 32, v.toNat * 2 ^ n < 2 ^ 32 → Rn n (v <<< n) = v := by
  induction n with
  | zero => intro v _; simp [Rn]
  | succ n ih =>
    intro v hv
    unfold Rn
    rw [R_shl v n hv]
    have e : v.toNat * 2 ^ (n + 1) = v.toNat * 2 ^ n * 2 := by rw [Nat.pow_succ, Nat.mul_assoc]
    exact ih v (by omega)
theorem crcV_nil (v : BitVec 32) : crcV v [] = v := rfl
theorem crcV_cons (v : BitVec 32) (x : Int) (l : List Int) : crcV v (x :: l) = crcV (Rn 8 (v ^^^ byte x)) l := rfl
theorem crcV_append (v : BitVec 32) (a b : List Int) : crcV v (a ++ b) = crcV (crcV v a) b := by unfold crcV; rw [List.foldl_append]
theorem crcV_inj (l : List Int) : ∀ {a b : BitVec 32}, crcV a l = crcV b l → a = b := by
  induction l with
  | nil => intro a b h; exact h
  | cons x l ih =>
    intro a b h
    have := Rn_inj 8 (ih h)
    exact (BitVec.xor_left_inj _).1 this
theorem shl_byte {b u : BitVec 32} (hb : b.toNat < 256) (hu : u.toNat < 2 ^ 24) (h : b = u <<< 8) : b = 0#32 ∧ u = 0#32 := by
  have hn := congrArg BitVec.toNat h
  rw [BitVec.toNat_shiftLeft, Nat.shiftLeft_eq, Nat.mod_eq_of_lt (by omega)] at hn
  have h0 : u.toNat = 0 := by omega
  have hu0 : u = 0#32 := BitVec.eq_of_toNat_eq (by simpa using h0)
  subst hu0
  exact ⟨by rw [h]; rfl, rfl⟩
/-- A turn of four bytes that stand together is seen. -/
theorem turn4 (v : BitVec 32) (b0 b1 b2 b3 w x y z : BitVec 32) (hw : w.toNat < 256) (hx : x.toNat < 256) (hy : y.toNat < 256) (hz : z.toNat < 256)
    (h : Rn 8 (Rn 8 (Rn 8 (Rn 8 (v ^^^ (b0 ^^^ w)) ^^^ (b1 ^^^ x)) ^^^ (b2 ^^^ y)) ^^^ (b3 ^^^ z)) = Rn 8 (Rn 8 (Rn 8 (Rn 8 (v ^^^ b0) ^^^ b1) ^^^ b2) ^^^ b3)) :
    w = 0#32 ∧ x = 0#32 ∧ y = 0#32 ∧ z = 0#32 := by
  have step : ∀ a b c d : BitVec 32, Rn 8 (a ^^^ (b ^^^ c)) = Rn 8 (d ^^^ b) → c = d ^^^ a := by
    intro a b c d h
    have h := Rn_inj 8 h
    have h2 : (a ^^^ c) ^^^ b = d ^^^ b := by rw [← h, BitVec.xor_assoc, BitVec.xor_comm c b]
    have h3 := (BitVec.xor_left_inj _).1 h2
    rw [← h3, BitVec.xor_comm a c, BitVec.xor_assoc, BitVec.xor_self, BitVec.xor_zero]
  have lin : ∀ a b : BitVec 32, ∀ u : BitVec 32, u.toNat < 2 ^ 24 → u = Rn 8 a ^^^ Rn 8 b → a ^^^ b = u <<< 8 := by
    intro a b u hu he
    rw [← Rn_xor] at he
    exact Rn_inj 8 (by rw [← he, Rn_shl 8 u (by omega)])
  have two : ∀ a b c d : BitVec 32, (d ^^^ b) ^^^ (a ^^^ (b ^^^ c)) = c ^^^ (d ^^^ a) := by
    intro a b c d
    have e : (d ^^^ b) ^^^ (a ^^^ (b ^^^ c)) = (b ^^^ b) ^^^ (c ^^^ (d ^^^ a)) := by ac_rfl
    rw [e, BitVec.xor_self, BitVec.zero_xor]
  have e3 := step _ _ _ _ h
  have u3 : z.toNat < 2 ^ 24 := by omega
  have l3 := lin _ _ z u3 e3
  rw [two] at l3
  obtain ⟨V2, hV2⟩ : ∃ V, V = y ^^^ z <<< 8 := ⟨_, rfl⟩
  have e2 : V2 = Rn 8 (Rn 8 (v ^^^ b0) ^^^ b1) ^^^ Rn 8 (Rn 8 (v ^^^ (b0 ^^^ w)) ^^^ (b1 ^^^ x)) := by
    rw [hV2, ← l3, ← BitVec.xor_assoc, BitVec.xor_self, BitVec.zero_xor]
  have hs : ∀ u : BitVec 32, u.toNat < 2 ^ 16 → (u <<< 8).toNat < 2 ^ 24 := by
    intro u hu
    rw [BitVec.toNat_shiftLeft, Nat.shiftLeft_eq, Nat.mod_eq_of_lt (by omega)]
    omega
  have hs8 : ∀ u : BitVec 32, u.toNat < 2 ^ 8 → (u <<< 8).toNat < 2 ^ 16 := by
    intro u hu
    rw [BitVec.toNat_shiftLeft, Nat.shiftLeft_eq, Nat.mod_eq_of_lt (by omega)]
    omega
  have hV2n : V2.toNat < 2 ^ 16 := by rw [hV2, BitVec.toNat_xor]; exact Nat.xor_lt_two_pow (by omega) (hs8 z (by omega))
  have l2 := lin _ _ V2 (by omega) e2
  rw [two] at l2
  obtain ⟨V1, hV1⟩ : ∃ V, V = x ^^^ V2 <<< 8 := ⟨_, rfl⟩
  have e1 : V1 = Rn 8 (v ^^^ b0) ^^^ Rn 8 (v ^^^ (b0 ^^^ w)) := by
    rw [hV1, ← l2, ← BitVec.xor_assoc, BitVec.xor_self, BitVec.zero_xor]
  have hV1n : V1.toNat < 2 ^ 24 := by rw [hV1, BitVec.toNat_xor]; exact Nat.xor_lt_two_pow (by omega) (hs V2 hV2n)
  have l1 := lin _ _ V1 hV1n e1
  rw [two, BitVec.xor_self, BitVec.xor_zero] at l1
  obtain ⟨h0, hV⟩ := shl_byte hw hV1n l1
  rw [hV1, BitVec.xor_eq_zero_iff] at hV
  obtain ⟨h1, hV'⟩ := shl_byte hx (by omega) hV
  rw [hV2, BitVec.xor_eq_zero_iff] at hV'
  obtain ⟨h2, h3⟩ := shl_byte hy (by omega) hV'
  exact ⟨h0, h1, h2, h3⟩
/-- Three rows and the one that all three make. -/
theorem crcV_mix : ∀ (a b c d : List Int) (va vb vc vd : BitVec 32), a.length = b.length → a.length = c.length → a.length = d.length → (∀ i, byte (d.getD i 0) = byte (a.getD i 0) ^^^ byte (b.getD i 0) ^^^ byte (c.getD i 0)) → vd = va ^^^ vb ^^^ vc →
    crcV vd d = crcV va a ^^^ crcV vb b ^^^ crcV vc c
  | [], [], [], [], _, _, _, _, _, _, _, _, h => h
  | x :: a, y :: b, z :: c, u :: d, va, vb, vc, vd, h1, h2, h3, hi, h => by
    simp only [crcV_cons]
    refine crcV_mix a b c d _ _ _ _ (by simpa using h1) (by simpa using h2) (by simpa using h3) (fun i => by simpa using hi (i + 1)) ?_
    have h0 := hi 0
    simp only [List.getD_cons_zero] at h0
    rw [h, h0, ← Rn_xor, ← Rn_xor]
    congr 1
    ac_rfl
end Go.Proofs.Ytfgceanepgjfiaa.CPlain

/- Chapter 6's frames as lists of bytes, in plain Lean. -/
namespace Go.Proofs.Ytfgceanepgjfiaa.BlkPlain
open Go.RowKit Go.Proofs.YtfgceanepgjfiaaW.PrintWords Go.Proofs.Ytfgceanepgjfiaa.Base Go.Proofs.Ytfgceanepgjfiaa.CPlain

def crcI (l : List Int) : Int := 4294967295 - ((crcV 0xffffffff#32 l).toNat : Int)
theorem crcI_range (l : List Int) : 0 ≤ crcI l ∧ crcI l ≤ 4294967295 := by
  have := (crcV 0xffffffff#32 l).isLt
  unfold crcI
  omega
def B4 (n : Int) : List Int := [n % 256, n / 256 % 256, n / 65536 % 256, n / 16777216 % 256]
def get4 (l : List Int) : Int := rd l 0 + 256 * rd l 1 + 65536 * rd l 2 + 16777216 * rd l 3
def sealL (b : List Int) : List Int := B4 b.length ++ B4 (4294967295 - (b.length : Int)) ++ b ++ B4 (crcI b)
/-- What a Seal at the list's begin is: its bytes, how long it is, or why not. -/
def openL (l : List Int) : List Int × Int × Int :=
  if (l.length : Int) < 8 then ([], 0, 10) else
  if get4 (l.drop 4) = 4294967295 - get4 l then
    (if get4 l > 1048576 then ([], 0, 3) else
     if (l.length : Int) - 8 - 4 < get4 l then ([], 0, 10) else
     if get4 (l.drop (8 + get4 l).toNat) = crcI ((l.take (8 + get4 l).toNat).drop 8) then ((l.take (8 + get4 l).toNat).drop 8, 8 + get4 l + 4, 0) else ([], 0, 14))
  else ([], 0, 14)
def openI (l : List Int) (a : Int) : List Int × Int × Int :=
  if a < 0 ∨ a > l.length then ([], 0, 1) else
  match openL (l.drop a.toNat) with
  | (x, n, e) => if e = 0 then (x, a + n, 0) else ([], 0, e)

theorem B4_len (n : Int) : (B4 n).length = 4 := rfl
theorem B4_byte {n : Int} (_ : 0 ≤ n) : ∀ x ∈ B4 n, 0 ≤ x ∧ x ≤ 255 := by
  intro x hx
  simp [B4] at hx
  omega
theorem get4_B4 {n : Int} (h0 : 0 ≤ n) (h1 : n ≤ 4294967295) (r : List Int) : get4 (B4 n ++ r) = n := by
  have e : get4 (B4 n ++ r) = n % 256 + 256 * (n / 256 % 256) + 65536 * (n / 65536 % 256) + 16777216 * (n / 16777216 % 256) := rfl
  rw [e]
  omega
theorem get4_cons (a b c d : Int) (r : List Int) : get4 (a :: b :: c :: d :: r) = a + 256 * b + 65536 * c + 16777216 * d := rfl
theorem get4_range {l : List Int} (hb : ∀ x ∈ l, 0 ≤ x ∧ x ≤ 255) : 0 ≤ get4 l ∧ get4 l ≤ 4294967295 := by
  have h : ∀ i : Int, 0 ≤ rd l i ∧ rd l i ≤ 255 := by
    intro i
    unfold rd
    rw [List.getD_eq_getElem?_getD]
    cases hg : l[i.toNat]? with
    | none => simp
    | some x => exact hb x (List.mem_of_getElem? hg)
  have h0 := h 0
  have h1 := h 1
  have h2 := h 2
  have h3 := h 3
  unfold get4
  omega
/-- Four bytes are those of their number. -/
theorem B4_get4 {a b c d : Int} (ha : 0 ≤ a ∧ a ≤ 255) (hb : 0 ≤ b ∧ b ≤ 255) (hc : 0 ≤ c ∧ c ≤ 255) (hd : 0 ≤ d ∧ d ≤ 255) : B4 (a + 256 * b + 65536 * c + 16777216 * d) = [a, b, c, d] := by
  unfold B4
  have e0 : (a + 256 * b + 65536 * c + 16777216 * d) % 256 = a := by omega
  have e1 : (a + 256 * b + 65536 * c + 16777216 * d) / 256 % 256 = b := by omega
  have e2 : (a + 256 * b + 65536 * c + 16777216 * d) / 65536 % 256 = c := by omega
  have e3 : (a + 256 * b + 65536 * c + 16777216 * d) / 16777216 % 256 = d := by omega
  rw [e0, e1, e2, e3]
theorem sealL_len (b : List Int) : (sealL b).length = b.length + 12 := by
  unfold sealL
  simp only [List.length_append, B4_len]
  omega
theorem sealL_byte {b : List Int} (hl : b.length ≤ 1048576) (hb : ∀ x ∈ b, 0 ≤ x ∧ x ≤ 255) : ∀ x ∈ sealL b, 0 ≤ x ∧ x ≤ 255 := by
  intro x hx
  unfold sealL at hx
  simp only [List.mem_append] at hx
  rcases hx with ((hx | hx) | hx) | hx
  · exact B4_byte (by omega) x hx
  · exact B4_byte (by omega) x hx
  · exact hb x hx
  · exact B4_byte (crcI_range b).1 x hx
/-- The parts of a Seal, whatever stands behind it. -/
theorem sealL_parts (b r : List Int) (hl : b.length ≤ 1048576) : get4 (sealL b ++ r) = b.length ∧ get4 ((sealL b ++ r).drop 4) = 4294967295 - (b.length : Int) ∧ ((sealL b ++ r).take (8 + b.length)).drop 8 = b ∧ get4 ((sealL b ++ r).drop (8 + b.length)) = crcI b := by
  have hc := crcI_range b
  have e : sealL b ++ r = B4 b.length ++ (B4 (4294967295 - (b.length : Int)) ++ (b ++ (B4 (crcI b) ++ r))) := by
    unfold sealL
    simp only [List.append_assoc]
  refine ⟨?_, ?_, ?_, ?_⟩
  · rw [e]; exact get4_B4 (by omega) (by omega) _
  · rw [e, List.drop_left' (B4_len _)]; exact get4_B4 (by omega) (by omega) _
  · have e2 : sealL b ++ r = (B4 b.length ++ B4 (4294967295 - (b.length : Int)) ++ b) ++ (B4 (crcI b) ++ r) := by
      unfold sealL
      simp only [List.append_assoc]
    rw [e2, List.take_left' (by simp only [List.length_append, B4_len]), List.drop_left' (by simp only [List.length_append, B4_len])]
  · have e2 : sealL b ++ r = (B4 b.length ++ B4 (4294967295 - (b.length : Int)) ++ b) ++ (B4 (crcI b) ++ r) := by
      unfold sealL
      simp only [List.append_assoc]
    rw [e2, List.drop_left' (by simp only [List.length_append, B4_len])]
    exact get4_B4 hc.1 hc.2 _
/-- What was sealed is opened, whatever stands behind. -/
theorem open_seal (b r : List Int) (hl : b.length ≤ 1048576) : openL (sealL b ++ r) = (b, ((b.length + 12 : Nat) : Int), 0) := by
  obtain ⟨h1, h2, h3, h4⟩ := sealL_parts b r hl
  have hlen : (sealL b ++ r).length = b.length + 12 + r.length := by rw [List.length_append, sealL_len]
  unfold openL
  have e8 : (8 + (b.length : Int)).toNat = 8 + b.length := by omega
  rw [if_neg (by omega), h1, h2, if_pos rfl, if_neg (by omega), if_neg (by omega), e8, h3, h4, if_pos rfl]
  refine Prod.ext rfl (Prod.ext ?_ rfl)
  simp only
  omega
theorem front {l : List Int} {n : Nat} (h : n + 1 ≤ l.length) : ∃ a t, l = a :: t ∧ n ≤ t.length := by
  cases l with
  | nil => simp at h
  | cons a t => exact ⟨a, t, rfl, by simpa using h⟩
theorem front4 {l : List Int} {n : Nat} (h : n + 4 ≤ l.length) : ∃ a b c d t, l = a :: b :: c :: d :: t ∧ n ≤ t.length := by
  obtain ⟨a, t1, e1, h1⟩ := front (n := n + 3) h
  obtain ⟨b, t2, e2, h2⟩ := front (n := n + 2) h1
  obtain ⟨c, t3, e3, h3⟩ := front (n := n + 1) h2
  obtain ⟨d, t4, e4, h4⟩ := front (n := n) h3
  exact ⟨a, b, c, d, t4, by rw [e1, e2, e3, e4], h4⟩
/-- What is opened was a Seal. -/
theorem open_ok {l x : List Int} {n : Int} (hb : ∀ u ∈ l, 0 ≤ u ∧ u ≤ 255) (h : openL l = (x, n, 0)) : ∃ r, l = sealL x ++ r ∧ n = ((x.length + 12 : Nat) : Int) ∧ x.length ≤ 1048576 := by
  unfold openL at h
  split at h
  · simp at h
  · rename_i h8
    split at h
    · rename_i h4
      split at h
      · simp at h
      · rename_i h20
        split at h
        · simp at h
        · rename_i hfit
          split at h
          · rename_i hsum
            simp only [Prod.mk.injEq, and_true] at h
            obtain ⟨hx, hn⟩ := h
            have hr := get4_range hb
            obtain ⟨s, hs⟩ : ∃ s : Nat, get4 l = s := ⟨(get4 l).toNat, by omega⟩
            rw [hs] at h4 h20 hfit hsum hx hn
            have e8 : (8 + (s : Int)).toNat = 8 + s := by omega
            rw [e8] at hsum hx
            have hxl : x.length = s := by rw [← hx, List.length_drop, List.length_take]; omega
            obtain ⟨a0, a1, a2, a3, t, rfl, h8'⟩ := front4 (l := l) (n := 4) (by omega)
            obtain ⟨b0, b1, b2, b3, t, rfl, _⟩ := front4 (l := t) (n := 0) h8'
            have m : ∀ u ∈ [a0, a1, a2, a3, b0, b1, b2, b3], 0 ≤ u ∧ u ≤ 255 := fun u hu => hb u (by simp at hu; simp; omega)
            have hx2 : t.take s = x := by
              rw [← hx, Nat.add_comm 8 s]
              rfl
            have ht : 4 ≤ (t.drop s).length := by
              simp only [List.length_cons] at hfit
              rw [List.length_drop]
              omega
            have hd : (a0 :: a1 :: a2 :: a3 :: b0 :: b1 :: b2 :: b3 :: t).drop (8 + s) = t.drop s := by
              rw [Nat.add_comm 8 s]
              rfl
            rw [hd] at hsum
            rw [hx] at hsum
            obtain ⟨c0, c1, c2, c3, r, hq, _⟩ := front4 (l := t.drop s) (n := 0) ht
            have mc : ∀ u ∈ [c0, c1, c2, c3], 0 ≤ u ∧ u ≤ 255 := fun u hu => hb u (by
              have : u ∈ t.drop s := by rw [hq]; simp at hu; simp; omega
              have := List.mem_of_mem_drop this
              simp [this])
            rw [hq, get4_cons] at hsum
            rw [get4_cons] at hs
            have h4' : get4 (b0 :: b1 :: b2 :: b3 :: t) = 4294967295 - (s : Int) := h4
            rw [get4_cons] at h4'
            have k0 := B4_get4 (m a0 (by simp)) (m a1 (by simp)) (m a2 (by simp)) (m a3 (by simp))
            have k1 := B4_get4 (m b0 (by simp)) (m b1 (by simp)) (m b2 (by simp)) (m b3 (by simp))
            have k2 := B4_get4 (mc c0 (by simp)) (mc c1 (by simp)) (mc c2 (by simp)) (mc c3 (by simp))
            rw [hs] at k0
            rw [h4'] at k1
            rw [hsum] at k2
            refine ⟨r, ?_, by omega, by omega⟩
            unfold sealL
            rw [hxl, k0, k1, k2]
            have htt : t = x ++ c0 :: c1 :: c2 :: c3 :: r := by rw [← hx2, ← hq, List.take_append_drop]
            rw [htt]
            simp
          · simp at h
    · simp at h
end Go.Proofs.Ytfgceanepgjfiaa.BlkPlain

/- What Crc comes to. -/
namespace Go.Proofs.Ytfgceanepgjfiaa.CrcF
open Go.RowKit Go.Proofs.Ytfgceanepgjfiaa.PS Go.Proofs.YtfgceanepgjfiaaW.PrintWords Go.Proofs.YtfgceanepgjfiaaW.PrintLast Go.Proofs.Ytfgceanepgjfiaa.Base Go.Proofs.Ytfgceanepgjfiaa.CPlain Go.Proofs.Ytfgceanepgjfiaa.BlkPlain
theorem crc_round (l : List Int) (len i : Int) (n : Nat) : ∀ (k : Nat) (v : BitVec 32), n ≤ 8 → sum_Crc.l1 (k + n + 1) (v.toNat : Int) l len i ((8 - n : Nat) : Int) = sum_Crc.l0 k ((Rn n v).toNat : Int) l len (wrap64 (i + 1)) := by
  induction n with
  | zero =>
    intro k v _
    simp only [sum_Crc.l1]
    rw [if_neg (by decide)]
    rfl
  | succ n ih =>
    intro k v hn
    rw [show k + (n + 1) + 1 = (k + n + 1) + 1 from by omega, sum_Crc.l1]
    have hv := v.isLt
    have hw : wrap64 (((8 - (n + 1) : Nat) : Int) + 1) = ((8 - n : Nat) : Int) := by rw [w64_id (by omega) (by omega)]; omega
    have hd : (v.toNat : Int) / (2 : Int) = ((v >>> 1).toNat : Int) := by rw [BitVec.toNat_ushiftRight, Nat.shiftRight_eq_div_pow]; omega
    have hb : v.getLsbD 0 = decide (v.toNat % 2 = 1) := by
      rw [BitVec.getLsbD, Nat.testBit_zero]
    rw [if_pos (by omega), and1_u32 (by omega) (by omega), hw, hd]
    have hR : Rn (n + 1) v = Rn n (R v) := rfl
    rw [hR]
    by_cases h : v.toNat % 2 = 1
    · rw [if_pos (by omega)]
      have := xor_bv32 (v >>> 1) 0x82f63b78#32
      rw [show ((0x82f63b78#32 : BitVec 32).toNat : Int) = 2197175160 from rfl] at this
      rw [this, ih k _ (by omega)]
      unfold R
      rw [hb, if_pos (by simpa using h)]
    · rw [if_neg (by omega), ih k _ (by omega)]
      unfold R
      rw [hb, if_neg (by simpa using h)]
theorem crc_loop (l : List Int) (hl : l.length ≤ 140737488355328) (hb : ∀ x ∈ l, 0 ≤ x ∧ x ≤ 255) (d : Nat) : ∀ (k i : Nat) (v : BitVec 32), i ≤ l.length → l.length - i = d → 10 * d < k →
    sum_Crc.l0 k (v.toNat : Int) l (l.length : Int) (i : Int) = some (4294967295 - ((crcV v (l.drop i)).toNat : Int)) := by
  induction d with
  | zero =>
    intro k i v hi hd hk
    obtain ⟨k, rfl⟩ : ∃ m, k = m + 1 := ⟨k - 1, by omega⟩
    have : i = l.length := by omega
    subst this
    have hv := v.isLt
    simp only [sum_Crc.l0]
    rw [if_neg (by omega), List.drop_length, xor_u32_ones (by omega) (by omega)]
    rfl
  | succ d ih =>
    intro k i v hi hd hk
    obtain ⟨k, rfl⟩ : ∃ m, k = m + 10 := ⟨k - 10, by omega⟩
    have hlt : i < l.length := by omega
    have hc := hb _ (List.getElem_mem hlt)
    rw [← rd_nat hlt] at hc
    rw [show k + 10 = (k + 8 + 1) + 1 from rfl, sum_Crc.l0]
    rw [if_pos (by omega), if_pos (by omega), if_pos (by omega), Int.emod_eq_of_lt hc.1 (by omega)]
    have e : rd l i = ((byte (rd l i)).toNat : Int) := by rw [byte_toNat hc.1 hc.2]; omega
    have hx := xor_bv32 v (byte (rd l i))
    rw [← e] at hx
    rw [hx, show (0 : Int) = ((8 - 8 : Nat) : Int) from rfl, crc_round l _ _ 8 k _ (by omega), show wrap64 ((i : Int) + 1) = ((i + 1 : Nat) : Int) from by rw [w64_id (by omega) (by omega)]; push_cast; rfl,
      ih k (i + 1) _ (by omega) (by omega) (by omega), drop_rd hlt, crcV_cons]
theorem crc_f {l : List Int} (hl : l.length ≤ 140737488355328) (hb : ∀ x ∈ l, 0 ≤ x ∧ x ≤ 255) {k : Nat} (hk : 10 * l.length < k) : sum_Crc.f k l = some (crcI l) := by
  unfold sum_Crc.f crcI
  have := crc_loop l hl hb l.length k 0 0xffffffff#32 (by omega) (by omega) (by omega)
  rwa [List.drop_zero] at this
end Go.Proofs.Ytfgceanepgjfiaa.CrcF

/- What Seal, Open and All of chapter 6 come to, whatever they are handed. -/
namespace Go.Proofs.Ytfgceanepgjfiaa.Blk
open Go.RowKit Go.Proofs.Ytfgceanepgjfiaa.PS Go.Proofs.YtfgceanepgjfiaaW.PrintWords Go.Proofs.YtfgceanepgjfiaaW.PrintLast Go.Proofs.Ytfgceanepgjfiaa.Base Go.Proofs.Ytfgceanepgjfiaa.CPlain Go.Proofs.Ytfgceanepgjfiaa.BlkPlain Go.Proofs.Ytfgceanepgjfiaa.CrcF

theorem put4_f {l : List Int} (hl : l.length ≤ 140737488355000) (n : Int) : block_put.f l n = some (l ++ B4 n) := by
  unfold block_put.f
  rw [Option.bind_some, if_pos (by simp; omega)]
  rfl
theorem or_bytes {a b c d : Int} (ha : 0 ≤ a ∧ a ≤ 255) (hb : 0 ≤ b ∧ b ≤ 255) (hc : 0 ≤ c ∧ c ≤ 255) (hd : 0 ≤ d ∧ d ≤ 255) :
    bits .or .u32 (bits .or .u32 (bits .or .u32 (a % 4294967296) (((b % 4294967296) * 256) % 4294967296)) (((c % 4294967296) * 65536) % 4294967296)) (((d % 4294967296) * 16777216) % 4294967296) = a + 256 * b + 65536 * c + 16777216 * d := by
  rw [show a % 4294967296 = a from by omega, show ((b % 4294967296) * 256) % 4294967296 = 256 * b from by omega, show ((c % 4294967296) * 65536) % 4294967296 = 65536 * c from by omega, show ((d % 4294967296) * 16777216) % 4294967296 = 16777216 * d from by omega]
  obtain ⟨a, rfl⟩ := Int.eq_ofNat_of_zero_le ha.1
  obtain ⟨b, rfl⟩ := Int.eq_ofNat_of_zero_le hb.1
  obtain ⟨c, rfl⟩ := Int.eq_ofNat_of_zero_le hc.1
  obtain ⟨d, rfl⟩ := Int.eq_ofNat_of_zero_le hd.1
  have o : ∀ (x y i : Nat), x < 2 ^ i → x < 2 ^ 32 → 2 ^ i * y < 2 ^ 32 → bits .or .u32 (x : Int) ((2 ^ i * y : Nat) : Int) = ((2 ^ i * y + x : Nat) : Int) := by
    intro x y i hx h1 h2
    rw [bits_or_nat .u32 rfl h1 h2, Nat.or_comm, ← Nat.two_pow_add_eq_or_of_lt hx y]
  have e1 := o a b 8 (by omega) (by omega) (by omega)
  have e2 := o (2 ^ 8 * b + a) c 16 (by omega) (by omega) (by omega)
  have e3 := o (2 ^ 16 * c + (2 ^ 8 * b + a)) d 24 (by omega) (by omega) (by omega)
  rw [show (256 : Int) * (b : Int) = ((2 ^ 8 * b : Nat) : Int) from by omega, e1, show (65536 : Int) * (c : Int) = ((2 ^ 16 * c : Nat) : Int) from by omega, e2, show (16777216 : Int) * (d : Int) = ((2 ^ 24 * d : Nat) : Int) from by omega, e3]
  omega
theorem rd_byte {l : List Int} (hb : ∀ x ∈ l, 0 ≤ x ∧ x ≤ 255) (i : Int) : 0 ≤ rd l i ∧ rd l i ≤ 255 := by
  unfold rd
  rw [List.getD_eq_getElem?_getD]
  cases hg : l[i.toNat]? with
  | none => simp
  | some x => exact hb x (List.mem_of_getElem? hg)
theorem get4_f {l : List Int} (hl : 4 ≤ l.length) (hb : ∀ x ∈ l, 0 ≤ x ∧ x ≤ 255) : block_get.f l = some (get4 l) := by
  unfold block_get.f
  rw [if_pos (by omega), if_pos (by omega), if_pos (by omega), if_pos (by omega), or_bytes (rd_byte hb 0) (rd_byte hb 1) (rd_byte hb 2) (rd_byte hb 3)]
  rfl
theorem seal_f {b : List Int} (hl : b.length ≤ 1048576) (hb : ∀ x ∈ b, 0 ≤ x ∧ x ≤ 255) {k : Nat} (hk : 10 * b.length < k) : block_Seal.f k b = some (sealL b, 0) := by
  unfold block_Seal.f
  rw [if_neg (by omega), Int.emod_eq_of_lt (by omega) (by omega), put4_f (by simp), Option.bind_some, xor_u32_ones (by omega) (by omega), put4_f (by simp [B4_len]), Option.bind_some, if_pos (by simp only [List.nil_append, List.length_append, B4_len]; omega), crc_f (by omega) hb hk, Option.bind_some,
    put4_f (by simp only [List.nil_append, List.length_append, B4_len]; omega), Option.bind_some]
  rfl
theorem seal_long {b : List Int} (hl : 1048576 < b.length) (k : Nat) : block_Seal.f k b = some ([], 3) := by
  unfold block_Seal.f
  rw [if_pos (by omega)]
theorem open_f {l : List Int} (hl : l.length ≤ 140737488355328) (hb : ∀ x ∈ l, 0 ≤ x ∧ x ≤ 255) (a : Int) {k : Nat} (hk : 10485770 < k) : block_Open.f k l a = some (openI l a) := by
  obtain ⟨k, rfl⟩ : ∃ m, k = m + 1 := ⟨k - 1, by omega⟩
  unfold block_Open.f openI
  by_cases h0 : a < 0
  · rw [if_pos h0, if_pos (.inl h0), block_Open.j0, if_pos rfl]
  · rw [if_neg h0]
    by_cases h1 : a > l.length
    · rw [if_pos (.inr h1), decide_eq_true h1, block_Open.j0, if_pos rfl]
    · rw [if_neg (by omega), decide_eq_false h1, block_Open.j0, if_neg (by decide), if_pos (by omega), if_pos (by omega), Option.bind_some]
      have hbd : ∀ x ∈ l.drop a.toNat, 0 ≤ x ∧ x ≤ 255 := fun x hx => hb x (List.mem_of_mem_drop hx)
      have hld : (l.drop a.toNat).length ≤ l.length := by rw [List.length_drop]; omega
      have hsum : a + (l.drop a.toNat).length = l.length := by rw [List.length_drop]; omega
      obtain ⟨d, hd⟩ : ∃ d, d = l.drop a.toNat := ⟨_, rfl⟩
      rw [← hd] at hbd hld hsum ⊢
      unfold openL
      by_cases h8 : (d.length : Int) < 8
      · rw [if_pos h8, if_pos h8]
        rfl
      · have hbd4 : ∀ x ∈ d.drop 4, 0 ≤ x ∧ x ≤ 255 := fun x hx => hbd x (List.mem_of_mem_drop hx)
        have hr := get4_range hbd
        rw [if_neg h8, if_neg h8, get4_f (by omega) hbd, Option.bind_some, if_pos (by omega), get4_f (by rw [List.length_drop]; omega) hbd4, Option.bind_some, xor_u32_ones hr.1 (by omega)]
        by_cases h4 : get4 (d.drop 4) = 4294967295 - get4 d
        · rw [if_pos h4, if_pos h4]
          by_cases h20 : get4 d > 1048576
          · rw [if_pos h20, if_pos h20]
            rfl
          · rw [if_neg h20, if_neg h20, w64_id (n := (d.length : Int) - 8) (by omega) (by omega), w64_id (n := (d.length : Int) - 8 - 4) (by omega) (by omega), w64_id (n := get4 d) (by omega) (by omega)]
            by_cases hf : (d.length : Int) - 8 - 4 < get4 d
            · rw [if_pos hf, if_pos hf]
              rfl
            · have hbe : ∀ x ∈ d.drop (8 + get4 d).toNat, 0 ≤ x ∧ x ≤ 255 := fun x hx => hbd x (List.mem_of_mem_drop hx)
              have hbm : ∀ x ∈ (d.take (8 + get4 d).toNat).drop 8, 0 ≤ x ∧ x ≤ 255 := fun x hx => hbd x (List.mem_of_mem_take (List.mem_of_mem_drop hx))
              have hml : ((d.take (8 + get4 d).toNat).drop 8).length ≤ 1048576 := by rw [List.length_drop, List.length_take]; omega
              rw [if_neg hf, if_neg hf, w64_id (n := 8 + get4 d) (by omega) (by omega), if_pos (by omega), if_pos (by omega), get4_f (by rw [List.length_drop]; omega) hbe, Option.bind_some, if_pos (by omega)]
              first
                | rw [crc_f (by omega) hbm (by omega), Option.bind_some]
                | rw [Option.bind_some, crc_f (by omega) hbm (by omega), Option.bind_some]
              by_cases hs : get4 (d.drop (8 + get4 d).toNat) = crcI ((d.take (8 + get4 d).toNat).drop 8)
              · rw [if_pos hs, if_pos hs, Option.bind_some]
                rw [w64_id (n := a + (8 + get4 d)) (by omega) (by omega), w64_id (n := a + (8 + get4 d) + 4) (by omega) (by omega)]
                first
                  | rw [List.nil_append, if_pos (by rw [List.length_nil]; omega)]
                  | rw [if_pos (by rw [List.length_nil]; omega), List.nil_append]
                simp only [if_true]
                congr 3
                omega
              · rw [if_neg hs, if_neg hs]
                rfl
        · rw [if_neg h4, if_neg h4]
          rfl
end Go.Proofs.Ytfgceanepgjfiaa.Blk

/- Sealed blocks behind one another: as lists, and what All comes to on them. -/
namespace Go.Proofs.Ytfgceanepgjfiaa.BAll
open Go.RowKit Go.Proofs.Ytfgceanepgjfiaa.PS Go.Proofs.YtfgceanepgjfiaaW.PrintWords Go.Proofs.YtfgceanepgjfiaaW.PrintLast Go.Proofs.Ytfgceanepgjfiaa.Base Go.Proofs.Ytfgceanepgjfiaa.BlkPlain Go.Proofs.Ytfgceanepgjfiaa.Blk
/-- Sealed, one behind another. -/
def sealAll : List (List Int) → List Int
  | [] => []
  | b :: t => sealL b ++ sealAll t
theorem sealAll_append (a b : List (List Int)) : sealAll (a ++ b) = sealAll a ++ sealAll b := by
  induction a with
  | nil => rfl
  | cons x a ih => simp only [List.cons_append, sealAll, ih, List.append_assoc]
theorem sealAll_byte {ws : List (List Int)} (h : ∀ b ∈ ws, b.length ≤ 1048576 ∧ ∀ x ∈ b, 0 ≤ x ∧ x ≤ 255) : ∀ x ∈ sealAll ws, 0 ≤ x ∧ x ≤ 255 := by
  induction ws with
  | nil => intro x hx; simp [sealAll] at hx
  | cons b t ih =>
    intro x hx
    simp only [sealAll] at hx
    rcases List.mem_append.1 hx with hx | hx
    · have hb := h b (by simp)
      exact sealL_byte hb.1 hb.2 x hx
    · exact ih (fun c hc => h c (by simp [hc])) x hx
theorem open_cut {b : List Int} (hb : b.length ≤ 1048576) {m : Nat} (hm : m < (sealL b).length) : openL ((sealL b).take m) = ([], 0, 10) := by
  have hl := sealL_len b
  have hlen : ((sealL b).take m).length = m := by rw [List.length_take]; omega
  unfold openL
  by_cases h8 : m < 8
  · rw [if_pos (by omega)]
  · rw [if_neg (by omega)]
    obtain ⟨q, rfl⟩ : ∃ q, m = 8 + q := ⟨m - 8, by omega⟩
    have e : (sealL b).take (8 + q) = B4 b.length ++ (B4 (4294967295 - (b.length : Int)) ++ (b ++ B4 (crcI b)).take q) := by
      unfold sealL
      rw [List.append_assoc, List.append_assoc, List.take_append, List.take_of_length_le (by rw [B4_len]; omega), List.take_append, List.take_of_length_le (by rw [B4_len, B4_len]; omega), B4_len, B4_len, show 8 + q - 4 - 4 = q from by omega]
    have g1 : get4 ((sealL b).take (8 + q)) = b.length := by rw [e]; exact get4_B4 (by omega) (by omega) _
    have g2 : get4 (((sealL b).take (8 + q)).drop 4) = 4294967295 - (b.length : Int) := by
      rw [e, List.drop_append, List.drop_of_length_le (by rw [B4_len]; omega), B4_len, Nat.sub_self, List.drop_zero, List.nil_append]
      exact get4_B4 (by omega) (by omega) _
    rw [g1, g2, if_pos rfl, if_neg (by omega), if_pos (by omega)]
theorem sealAll_take (ws : List (List Int)) : (∀ b ∈ ws, b.length ≤ 1048576) → ∀ c, c ≤ (sealAll ws).length → ∃ a r t, ws = a ++ r ∧ (sealAll ws).take c = sealAll a ++ t ∧ (t = [] ∨ t ≠ [] ∧ openL t = ([], 0, 10)) := by
  induction ws with
  | nil => intro _ c _; exact ⟨[], [], [], rfl, by simp [sealAll], .inl rfl⟩
  | cons b ws ih =>
    intro hb c hc
    simp only [sealAll, List.length_append] at hc ⊢
    by_cases h : c < (sealL b).length
    · refine ⟨[], b :: ws, (sealL b).take c, rfl, by rw [List.take_append_of_le_length (by omega)]; rfl, ?_⟩
      by_cases h0 : c = 0
      · subst h0; exact .inl rfl
      · refine .inr ⟨?_, open_cut (hb b (by simp)) h⟩
        intro he
        have := congrArg List.length he
        rw [List.length_take, List.length_nil] at this
        omega
    · obtain ⟨a, r, t, rfl, h2, h3⟩ := ih (fun c hc => hb c (by simp [hc])) (c - (sealL b).length) (by omega)
      refine ⟨b :: a, r, t, rfl, ?_, h3⟩
      rw [List.take_append, List.take_of_length_le (by omega), h2, sealAll, List.append_assoc]
/-- All over whole blocks and then a rest that opens to nothing. -/
theorem all_loop (t : List Int) (x : List Int) (n e : Int) (ht : openL t = (x, n, e)) (he : t = [] ∨ e ≠ 0) (ws : List (List Int)) : ∀ (pre : List Int) (acc : List (List Int)) (k : Nat), (∀ b ∈ ws, b.length ≤ 1048576) → acc.length + ws.length ≤ 1000000000 →
    (pre ++ sealAll ws ++ t).length ≤ 140737488355328 → (∀ y ∈ pre ++ sealAll ws ++ t, 0 ≤ y ∧ y ≤ 255) → 10485772 + ws.length < k →
    block_All.l0 k (pre ++ sealAll ws ++ t) acc (pre.length : Int) = some (acc ++ ws, ((pre ++ sealAll ws).length : Int), if t = [] then 0 else e) := by
  induction ws with
  | nil =>
    intro pre acc k _ ha hl hb hk
    obtain ⟨k, rfl⟩ : ∃ m, k = m + 1 := ⟨k - 1, by omega⟩
    simp only [sealAll, List.append_nil] at hl hb ⊢
    rw [block_All.l0]
    by_cases h : t = []
    · subst h
      rw [if_neg (by rw [List.append_nil]; omega), if_pos rfl]
    · rw [if_pos (by rw [List.length_append]; have := List.length_pos_iff.2 h; omega), open_f hl hb _ (by simp only [List.length_nil] at hk; omega), Option.bind_some]
      have ho : openI (pre ++ t) (pre.length : Int) = ([], 0, e) := by
        unfold openI
        rw [if_neg (by rw [List.length_append]; push_cast; omega), Int.toNat_natCast, List.drop_left, ht]
        rcases he with he | he
        · exact absurd he h
        · show (if e = 0 then (x, (pre.length : Int) + n, 0) else ([], 0, e)) = _
          rw [if_neg he]
      have hne : ¬ e = 0 := by rcases he with he | he; exact absurd he h; exact he
      rw [ho, if_neg hne, if_neg h]
  | cons b ws ih =>
    intro pre acc k hw ha hl hb hk
    obtain ⟨k, rfl⟩ : ∃ m, k = m + 1 := ⟨k - 1, by omega⟩
    have hbl := hw b (by simp)
    have hsl := sealL_len b
    have e1 : pre ++ sealAll (b :: ws) ++ t = (pre ++ sealL b) ++ sealAll ws ++ t := by simp only [sealAll, List.append_assoc]
    have e2 : pre ++ sealAll (b :: ws) ++ t = pre ++ (sealL b ++ (sealAll ws ++ t)) := by simp only [sealAll, List.append_assoc]
    have ho : openI (pre ++ sealAll (b :: ws) ++ t) (pre.length : Int) = (b, ((pre ++ sealL b).length : Int), 0) := by
      rw [e2]
      unfold openI
      rw [if_neg (by rw [List.length_append]; push_cast; omega), Int.toNat_natCast, List.drop_left, open_seal _ _ hbl]
      show (b, (pre.length : Int) + ((b.length + 12 : Nat) : Int), 0) = _
      rw [List.length_append, hsl, ← Int.natCast_add]
    rw [block_All.l0, if_pos (by rw [e2, List.length_append, List.length_append]; omega), open_f hl hb _ (by simp only [List.length_cons] at hk; omega), Option.bind_some, ho]
    simp only [List.length_cons] at ha hk
    rw [if_pos rfl, if_pos (by omega)]
    have key := ih (pre ++ sealL b) (acc ++ [b]) k (fun c hc => hw c (by simp [hc])) (by rw [List.length_append, List.length_singleton]; omega) (by rw [← e1]; exact hl) (by rw [← e1]; exact hb) (by omega)
    rw [← e1] at key
    refine key.trans ?_
    simp only [sealAll, List.append_assoc, List.cons_append, List.nil_append]
theorem all_f {t : List Int} {x : List Int} {n e : Int} (ht : openL t = (x, n, e)) (he : t = [] ∨ e ≠ 0) {ws : List (List Int)} (hw : ∀ b ∈ ws, b.length ≤ 1048576) (ha : ws.length ≤ 1000000000)
    (hl : (sealAll ws ++ t).length ≤ 140737488355328) (hb : ∀ y ∈ sealAll ws ++ t, 0 ≤ y ∧ y ≤ 255) {k : Nat} (hk : 10485772 + ws.length < k) :
    block_All.f k (sealAll ws ++ t) = some (ws, ((sealAll ws).length : Int), if t = [] then 0 else e) := by
  unfold block_All.f
  have := all_loop t x n e ht he ws [] [] k hw (by rw [List.length_nil]; omega) (by rw [List.nil_append]; exact hl) (by rw [List.nil_append]; exact hb) hk
  simpa using this
end Go.Proofs.Ytfgceanepgjfiaa.BAll

/- What the document's own Crc comes to (seats without Fnv). -/
namespace Go.Proofs.Ytfgceanepgjfiaa.CrcRefF
open Go.RowKit Go.Proofs.Ytfgceanepgjfiaa.PS Go.Proofs.YtfgceanepgjfiaaW.PrintWords Go.Proofs.YtfgceanepgjfiaaW.PrintLast Go.Proofs.Ytfgceanepgjfiaa.Base Go.Proofs.Ytfgceanepgjfiaa.CPlain Go.Proofs.Ytfgceanepgjfiaa.BlkPlain
theorem xor_ones' {x : Int} (h0 : 0 ≤ x) (h1 : x < 4294967296) : bits .xor .u32 x 4294967295 = 4294967295 - x := by
  obtain ⟨n, rfl⟩ := Int.eq_ofNat_of_zero_le h0
  have hn : n < 2 ^ 32 := by omega
  have e := xor_bv32 (BitVec.ofNat 32 n) (BitVec.allOnes 32)
  have e1 : (BitVec.ofNat 32 n).toNat = n := by simp only [BitVec.toNat_ofNat]; omega
  have e2 : (BitVec.allOnes 32).toNat = 4294967295 := by decide
  rw [e1, e2, BitVec.xor_allOnes, BitVec.toNat_not, e1] at e
  rw [show ((4294967295 : Int)) = ((4294967295 : Nat) : Int) from rfl, e]
  omega
theorem round (l : List Int) (i : Int) (n : Nat) : ∀ (k : Nat) (v : BitVec 32), n ≤ 8 → columbariumref2_Crc.l1 (k + n + 1) l (v.toNat : Int) i ((8 - n : Nat) : Int) = columbariumref2_Crc.l0 k l ((Rn n v).toNat : Int) (wrap64 (i + 1)) := by
  induction n with
  | zero =>
    intro k v _
    rw [columbariumref2_Crc.l1, if_neg (by decide)]
    rfl
  | succ n ih =>
    intro k v hn
    rw [show k + (n + 1) + 1 = (k + n + 1) + 1 from by omega, columbariumref2_Crc.l1]
    have hv := v.isLt
    have hw : wrap64 (((8 - (n + 1) : Nat) : Int) + 1) = ((8 - n : Nat) : Int) := by rw [w64_id (by omega) (by omega)]; omega
    have hd : (v.toNat : Int) / (2 : Int) = ((v >>> 1).toNat : Int) := by rw [BitVec.toNat_ushiftRight, Nat.shiftRight_eq_div_pow]; omega
    have hb : v.getLsbD 0 = decide (v.toNat % 2 = 1) := by rw [BitVec.getLsbD, Nat.testBit_zero]
    rw [if_pos (by omega), and1_u32 (by omega) (by omega), hw, hd]
    have hR : Rn (n + 1) v = Rn n (R v) := rfl
    rw [hR]
    by_cases h : v.toNat % 2 = 1
    · rw [if_pos (by omega)]
      have := xor_bv32 (v >>> 1) 0x82f63b78#32
      rw [show ((0x82f63b78#32 : BitVec 32).toNat : Int) = 2197175160 from rfl] at this
      rw [this, ih k _ (by omega)]
      unfold R
      rw [hb, if_pos (by simpa using h)]
    · rw [if_neg (by omega), ih k _ (by omega)]
      unfold R
      rw [hb, if_neg (by simpa using h)]
theorem loop (l : List Int) (hl : l.length ≤ 140737488355328) (hb : ∀ x ∈ l, 0 ≤ x ∧ x ≤ 255) (d : Nat) : ∀ (k i : Nat) (v : BitVec 32), i ≤ l.length → l.length - i = d → 10 * d < k →
    columbariumref2_Crc.l0 k l (v.toNat : Int) (i : Int) = some (4294967295 - ((crcV v (l.drop i)).toNat : Int)) := by
  induction d with
  | zero =>
    intro k i v hi hd hk
    obtain ⟨k, rfl⟩ : ∃ m, k = m + 1 := ⟨k - 1, by omega⟩
    have : i = l.length := by omega
    subst this
    have hv := v.isLt
    rw [columbariumref2_Crc.l0, if_neg (by omega), List.drop_length, xor_ones' (by omega) (by omega)]
    rfl
  | succ d ih =>
    intro k i v hi hd hk
    obtain ⟨k, rfl⟩ : ∃ m, k = m + 10 := ⟨k - 10, by omega⟩
    have hlt : i < l.length := by omega
    have hc := hb _ (List.getElem_mem hlt)
    rw [← rd_nat hlt] at hc
    rw [show k + 10 = (k + 8 + 1) + 1 from rfl, columbariumref2_Crc.l0, if_pos (by omega), if_pos (by omega), Int.emod_eq_of_lt hc.1 (by omega)]
    have e : rd l i = ((byte (rd l i)).toNat : Int) := by rw [byte_toNat hc.1 hc.2]; omega
    have hx := xor_bv32 v (byte (rd l i))
    rw [← e] at hx
    rw [hx, show (0 : Int) = ((8 - 8 : Nat) : Int) from rfl, round l _ 8 k _ (by omega), show wrap64 ((i : Int) + 1) = ((i + 1 : Nat) : Int) from by rw [w64_id (by omega) (by omega)]; push_cast; rfl,
      ih k (i + 1) _ (by omega) (by omega) (by omega), drop_rd hlt, crcV_cons]
theorem crcRef_f {l : List Int} (hl : l.length ≤ 140737488355328) (hb : ∀ x ∈ l, 0 ≤ x ∧ x ≤ 255) {k : Nat} (hk : 10 * l.length < k) : columbariumref2_Crc.f k l = some (crcI l) := by
  unfold columbariumref2_Crc.f crcI
  have := loop l hl hb l.length k 0 0xffffffff#32 (by omega) (by omega) (by omega)
  rwa [List.drop_zero] at this
end Go.Proofs.Ytfgceanepgjfiaa.CrcRefF

/- A string's first 200 bytes, and sealing them. -/
namespace Go.Proofs.Ytfgceanepgjfiaa.BFew
open Go.RowKit Go.Proofs.Ytfgceanepgjfiaa.PS Go.Proofs.YtfgceanepgjfiaaW.PrintWords Go.Proofs.YtfgceanepgjfiaaW.PrintLast Go.Proofs.Ytfgceanepgjfiaa.Base Go.Proofs.Ytfgceanepgjfiaa.BlkPlain
/-- The first 200 bytes. -/
def cut200 (a : ByteArray) : ByteArray := if (a.size : Int) > 200 then a.extract 0 200 else a
theorem few_f (a : ByteArray) : columbariumlaw6_few.f a = some (cut200 a) := by
  unfold columbariumlaw6_few.f cut200
  by_cases h : (a.size : Int) > 200
  · rw [if_pos h, if_pos h, if_pos (by decide), if_pos (by omega)]
  · rw [if_neg h, if_neg h]
theorem cut200_size (a : ByteArray) : (cut200 a).size ≤ 200 := by
  unfold cut200
  by_cases h : (a.size : Int) > 200
  · rw [if_pos h, ByteArray.size_extract]; omega
  · rw [if_neg h]; omega
theorem sealL_inj {b c : List Int} (hb : b.length ≤ 1048576) (hc : c.length ≤ 1048576) (h : sealL b = sealL c) : b = c := by
  have h1 := open_seal b [] hb
  have h2 := open_seal c [] hc
  rw [h, h2] at h1
  exact (Prod.ext_iff.1 h1).1.symm
end Go.Proofs.Ytfgceanepgjfiaa.BFew

/- Some of chapter 6's runs. -/
namespace Go.Proofs.Ytfgceanepgjfiaa.BKnown
open Go.RowKit Go.Proofs.Ytfgceanepgjfiaa.PS Go.Proofs.YtfgceanepgjfiaaW.PrintWords Go.Proofs.YtfgceanepgjfiaaW.PrintLast
theorem known_f {k : Nat} (hk : 200 ≤ k) : columbariumlaw6_known.f k = some true :=
  at_rounds columbariumlaw6_known.mono hk (by decide +kernel)
end Go.Proofs.Ytfgceanepgjfiaa.BKnown

/- What chapter 6's own Seal comes to, and the first ten strings sealed. -/
namespace Go.Proofs.Ytfgceanepgjfiaa.BWritten
open Go.RowKit Go.Proofs.Ytfgceanepgjfiaa.PS Go.Proofs.YtfgceanepgjfiaaW.PrintWords Go.Proofs.YtfgceanepgjfiaaW.PrintLast Go.Proofs.Ytfgceanepgjfiaa.Base Go.Proofs.Ytfgceanepgjfiaa.BlkPlain Go.Proofs.Ytfgceanepgjfiaa.CrcRefF Go.Proofs.Ytfgceanepgjfiaa.BFew Go.Proofs.Ytfgceanepgjfiaa.BAll
theorem refSeal_f {b : List Int} (hl : b.length ≤ 1048576) (hb : ∀ x ∈ b, 0 ≤ x ∧ x ≤ 255) {k : Nat} (hk : 10 * b.length < k) : columbariumref6_Seal.f k b = some (sealL b, 0) := by
  unfold columbariumref6_Seal.f
  have f4 : ∀ n, columbariumref6_four.f n = some (B4 n) := fun n => rfl
  have e : (b.length : Int) % 4294967296 = (b.length : Int) := by omega
  have hB : ∀ n, (B4 n).length = 4 := B4_len
  rw [if_neg (by omega), e, f4, Option.bind_some, xor_u32_ones (by omega) (by omega), f4, Option.bind_some, if_pos (by rw [hB, hB]; omega), Option.bind_some, if_pos (by rw [List.length_append, hB, hB]; omega), Option.bind_some, crcRef_f (by omega) hb hk, Option.bind_some, f4, Option.bind_some,
    if_pos (by rw [List.length_append, List.length_append, hB, hB, hB]; omega)]
  rfl
/-- The first ten, cut. -/
def firsts (l : List ByteArray) : List (List Int) := (l.take 10).map fun a => bytesOf (cut200 a)
theorem firsts_short (l : List ByteArray) : ∀ b ∈ firsts l, b.length ≤ 200 ∧ ∀ x ∈ b, 0 ≤ x ∧ x ≤ 255 := by
  intro b hb
  unfold firsts at hb
  obtain ⟨a, _, rfl⟩ := List.mem_map.1 hb
  exact ⟨by rw [bytesOf_size]; exact cut200_size a, fun x hx => bytesOf_range hx⟩
theorem firsts_len (l : List ByteArray) : (firsts l).length ≤ 10 ∧ (firsts l).length ≤ l.length := by
  unfold firsts
  rw [List.length_map, List.length_take]
  omega
theorem sealAll_len {ws : List (List Int)} (h : ∀ b ∈ ws, b.length ≤ 200) : 12 * ws.length ≤ (sealAll ws).length ∧ (sealAll ws).length ≤ 212 * ws.length := by
  induction ws with
  | nil => simp [sealAll]
  | cons b t ih =>
    have := ih (fun c hc => h c (by simp [hc]))
    have hb := h b (by simp)
    have hs := sealL_len b
    rw [sealAll, List.length_append, List.length_cons]
    omega
theorem rdOf_nat {l : List ByteArray} {i : Nat} (h : i < l.length) : rdOf ByteArray.empty l (i : Int) = l[i] := by
  unfold rdOf
  rw [Int.toNat_natCast, List.getD_eq_getElem?_getD, List.getElem?_eq_getElem h]
  rfl
theorem written_loop (l : List ByteArray) (_hl : l.length ≤ 140737488355328) (d : Nat) : ∀ (k i : Nat) (acc : List Int), i ≤ 10 → i ≤ l.length → 10 - i = d → 2 * d + 2010 < k → acc.length ≤ 212 * i →
    columbariumlaw6_written.l0 k l acc (i : Int) = some (acc ++ sealAll (((l.drop i).take (10 - i)).map fun a => bytesOf (cut200 a))) := by
  induction d with
  | zero =>
    intro k i acc h10 hi hd hk ha
    obtain ⟨k, rfl⟩ : ∃ m, k = m + 2 := ⟨k - 2, by omega⟩
    have : i = 10 := by omega
    subst this
    rw [columbariumlaw6_written.l0]
    have e : columbariumlaw6_written.j1 (k + 1) l acc ((10 : Nat) : Int) false = some acc := by rw [columbariumlaw6_written.j1, if_neg (by decide)]
    rw [show decide (((10 : Nat) : Int) < 10) = false from rfl, e]
    split <;> simp [sealAll]
  | succ d ih =>
    intro k i acc h10 hi hd hk ha
    obtain ⟨k, rfl⟩ : ∃ m, k = m + 2 := ⟨k - 2, by omega⟩
    rw [columbariumlaw6_written.l0]
    by_cases h : i < l.length
    · have hc := cut200_size l[i]
      have hs := bytesOf_size (cut200 l[i])
      have hsl := sealL_len (bytesOf (cut200 l[i]))
      rw [if_pos (by omega), show decide ((i : Int) < 10) = true from by rw [decide_eq_true_iff]; omega, columbariumlaw6_written.j1, if_pos rfl, if_pos (by omega), if_pos (by omega), rdOf_nat h, few_f, Option.bind_some, if_pos (by omega), refSeal_f (by omega) (fun x hx => bytesOf_range hx) (by omega), Option.bind_some, if_pos (show acc.length + (sealL (bytesOf (cut200 l[i])), (0 : Int)).1.length < 140737488355328 from by show acc.length + (sealL (bytesOf (cut200 l[i]))).length < _; omega),
        show wrap64 ((i : Int) + 1) = ((i + 1 : Nat) : Int) from by rw [w64_id (by omega) (by omega)]; push_cast; rfl, ih k (i + 1) _ (by omega) (by omega) (by omega) (by omega) (by rw [List.length_append]; show acc.length + (sealL (bytesOf (cut200 l[i]))).length ≤ _; omega)]
      rw [List.drop_eq_getElem_cons h, show 10 - i = (10 - (i + 1)) + 1 from by omega, List.take_succ_cons, List.map_cons, sealAll, List.append_assoc]
    · have : i = l.length := by omega
      subst this
      rw [if_neg (by omega), columbariumlaw6_written.j1, if_neg (by decide)]
      simp [sealAll]
theorem written_f {l : List ByteArray} (hl : l.length ≤ 140737488355328) {k : Nat} (hk : 2100 ≤ k) : columbariumlaw6_written.f k l = some (sealAll (firsts l)) := by
  unfold columbariumlaw6_written.f firsts
  have := written_loop l hl 10 k 0 [] (by omega) (by omega) (by omega) (by omega) (by simp)
  simpa using this
end Go.Proofs.Ytfgceanepgjfiaa.BWritten

/- Open and All of chapter 6, the program's and the document's, on any bytes. -/
namespace Go.Proofs.Ytfgceanepgjfiaa.BAny
open Go.RowKit Go.Proofs.Ytfgceanepgjfiaa.PS Go.Proofs.YtfgceanepgjfiaaW.PrintWords Go.Proofs.YtfgceanepgjfiaaW.PrintLast Go.Proofs.Ytfgceanepgjfiaa.Base Go.Proofs.Ytfgceanepgjfiaa.CPlain Go.Proofs.Ytfgceanepgjfiaa.BlkPlain Go.Proofs.Ytfgceanepgjfiaa.CrcF Go.Proofs.Ytfgceanepgjfiaa.Blk Go.Proofs.Ytfgceanepgjfiaa.BAll Go.Proofs.Ytfgceanepgjfiaa.CrcRefF

theorem rget4_f {l : List Int} (hl : 4 ≤ l.length) (hb : ∀ x ∈ l, 0 ≤ x ∧ x ≤ 255) : columbariumref6_get.f l = some (get4 l) := by
  unfold columbariumref6_get.f
  rw [if_pos (by omega), if_pos (by omega), if_pos (by omega), if_pos (by omega), or_bytes (rd_byte hb 0) (rd_byte hb 1) (rd_byte hb 2) (rd_byte hb 3)]
  rfl
theorem mid_cut (l : List Int) (a n : Nat) : (l.take (a + 8 + n)).drop (a + 8) = ((l.drop a).take (8 + n)).drop 8 := by
  rw [List.drop_take, List.drop_take, List.drop_drop]
  congr 1
  omega
theorem ropen_f {l : List Int} (hl : l.length ≤ 140737488355328) (hb : ∀ x ∈ l, 0 ≤ x ∧ x ≤ 255) (a : Int) {k : Nat} (hk : 10485770 < k) : columbariumref6_Open.f k l a = some (openI l a) := by
  obtain ⟨k, rfl⟩ : ∃ m, k = m + 1 := ⟨k - 1, by omega⟩
  unfold columbariumref6_Open.f openI
  by_cases h0 : a < 0
  · rw [if_pos h0, if_pos (.inl h0), columbariumref6_Open.j0, if_pos rfl]
  · rw [if_neg h0]
    by_cases h1 : a > l.length
    · rw [if_pos (.inr h1), decide_eq_true h1, columbariumref6_Open.j0, if_pos rfl]
    · obtain ⟨a, rfl⟩ := Int.eq_ofNat_of_zero_le (show 0 ≤ a by omega)
      rw [if_neg (by omega), decide_eq_false h1, columbariumref6_Open.j0, if_neg (by decide), w64_id (n := (l.length : Int) - (a : Int)) (by omega) (by omega)]
      have hbd : ∀ x ∈ l.drop a, 0 ≤ x ∧ x ≤ 255 := fun x hx => hb x (List.mem_of_mem_drop hx)
      have hlen : (l.drop a).length = l.length - a := List.length_drop
      have e4 : l.drop (a + 4) = (l.drop a).drop 4 := by rw [List.drop_drop]
      have e8 : ∀ n : Nat, l.drop (a + 8 + n) = (l.drop a).drop (8 + n) := fun n => by rw [List.drop_drop]; congr 1; omega
      have em := mid_cut l a
      rw [Int.toNat_natCast]
      obtain ⟨d, hd⟩ : ∃ d, d = l.drop a := ⟨_, rfl⟩
      rw [← hd] at hbd hlen e4 e8 em ⊢
      have hsum : (l.length : Int) - (a : Int) = (d.length : Int) := by omega
      rw [hsum]
      unfold openL
      by_cases h8 : (d.length : Int) < 8
      · rw [if_pos h8, if_pos h8]
        rfl
      · have hbd4 : ∀ x ∈ d.drop 4, 0 ≤ x ∧ x ≤ 255 := fun x hx => hbd x (List.mem_of_mem_drop hx)
        have hr := get4_range hbd
        rw [if_neg h8, if_neg h8, if_pos (by omega), if_pos (by omega), rget4_f (by omega) hbd, Option.bind_some, w64_id (n := (a : Int) + 4) (by omega) (by omega), if_pos (by omega), if_pos (by omega),
          show ((a : Int) + 4).toNat = a + 4 from by omega, e4, rget4_f (by rw [List.length_drop]; omega) hbd4, Option.bind_some, xor_u32_ones hr.1 (by omega)]
        by_cases h4 : get4 (d.drop 4) = 4294967295 - get4 d
        · rw [if_pos h4, if_pos h4]
          by_cases h20 : get4 d > 1048576
          · rw [if_pos h20, if_pos h20]
            rfl
          · obtain ⟨n, hn⟩ := Int.eq_ofNat_of_zero_le hr.1
            rw [hn] at h20 ⊢
            rw [if_neg h20, if_neg h20, w64_id (n := (d.length : Int) - 8) (by omega) (by omega), w64_id (n := (n : Int)) (by omega) (by omega), w64_id (n := (n : Int) + 4) (by omega) (by omega)]
            by_cases hf : (d.length : Int) - 8 - 4 < (n : Int)
            · rw [if_pos (by omega), if_pos hf]
              rfl
            · have hbe : ∀ x ∈ d.drop (8 + n), 0 ≤ x ∧ x ≤ 255 := fun x hx => hbd x (List.mem_of_mem_drop hx)
              have hbm : ∀ x ∈ (d.take (8 + n)).drop 8, 0 ≤ x ∧ x ≤ 255 := fun x hx => hbd x (List.mem_of_mem_take (List.mem_of_mem_drop hx))
              have hml : ((d.take (8 + n)).drop 8).length ≤ 1048576 := by rw [List.length_drop, List.length_take]; omega
              rw [if_neg (by omega), if_neg hf, w64_id (n := (a : Int) + 8) (by omega) (by omega), w64_id (n := (a : Int) + 8 + (n : Int)) (by omega) (by omega), Option.bind_some, if_pos (by omega), if_pos (by omega), if_pos (by omega),
                show ((a : Int) + 8 + (n : Int)).toNat = a + 8 + n from by omega, show ((a : Int) + 8).toNat = a + 8 from by omega, em, Option.bind_some, if_pos (by rw [List.length_nil]; omega), List.nil_append, Option.bind_some, if_pos (by omega), e8, rget4_f (by rw [List.length_drop]; omega) hbe, Option.bind_some,
                crcRef_f (by omega) hbm (by omega), Option.bind_some, show (8 + (n : Int)).toNat = 8 + n from by omega, w64_id (n := (a : Int) + 12) (by omega) (by omega), w64_id (n := (a : Int) + 12 + (n : Int)) (by omega) (by omega)]
              by_cases hs : get4 (d.drop (8 + n)) = crcI ((d.take (8 + n)).drop 8)
              · rw [if_pos hs, if_pos hs]
                show _ = some (if (0 : Int) = 0 then _ else _)
                rw [if_pos rfl]
                congr 3
                omega
              · rw [if_neg hs, if_neg hs]
                rfl
        · rw [if_neg h4, if_neg h4]
          rfl

/-- All, with so much fuel -/
def allP : Nat → List Int → List (List Int) × Int × Int
  | 0, _ => ([], 0, 0)
  | f + 1, l => if l.length = 0 then ([], 0, 0) else
      if (openL l).2.2 = 0 then ((openL l).1 :: (allP f (l.drop (openL l).2.1.toNat)).1, (openL l).2.1 + (allP f (l.drop (openL l).2.1.toNat)).2.1, (allP f (l.drop (openL l).2.1.toNat)).2.2)
      else ([], 0, (openL l).2.2)
theorem openL_step {l : List Int} (hb : ∀ x ∈ l, 0 ≤ x ∧ x ≤ 255) (h : (openL l).2.2 = 0) : ∃ n : Nat, (openL l).2.1 = (n : Int) ∧ 12 ≤ n ∧ n ≤ l.length := by
  obtain ⟨r, h1, h2, h3⟩ := open_ok hb (x := (openL l).1) (n := (openL l).2.1) (by rw [← h])
  refine ⟨_, h2, by omega, ?_⟩
  have := congrArg List.length h1
  rw [List.length_append, sealL_len] at this
  omega
theorem openI_at {l : List Int} {i : Nat} (hi : i ≤ l.length) : openI l (i : Int) = if (openL (l.drop i)).2.2 = 0 then ((openL (l.drop i)).1, (i : Int) + (openL (l.drop i)).2.1, 0) else ([], 0, (openL (l.drop i)).2.2) := by
  unfold openI
  rw [if_neg (by omega), Int.toNat_natCast]
theorem allP_len (f : Nat) : ∀ l : List Int, (allP f l).1.length ≤ f := by
  induction f with
  | zero => intro l; exact Nat.le_refl _
  | succ f ih =>
    intro l
    unfold allP
    split
    · exact Nat.zero_le _
    · split
      · have := ih (l.drop (openL l).2.1.toNat)
        show (_ :: _ : List (List Int)).length ≤ f + 1
        rw [List.length_cons]
        omega
      · exact Nat.zero_le _
theorem all_any {l : List Int} (hl : l.length ≤ 1000000000) (hb : ∀ x ∈ l, 0 ≤ x ∧ x ≤ 255) (f : Nat) : ∀ (k i : Nat) (acc : List (List Int)), i ≤ l.length → l.length - i ≤ f → acc.length + f ≤ 1000000000000 → f + 20000000 < k →
    block_All.l0 k l acc (i : Int) = some (acc ++ (allP (f + 1) (l.drop i)).1, (i : Int) + (allP (f + 1) (l.drop i)).2.1, (allP (f + 1) (l.drop i)).2.2) ∧
    columbariumref6_All.l0 k l acc (i : Int) = some (acc ++ (allP (f + 1) (l.drop i)).1, (i : Int) + (allP (f + 1) (l.drop i)).2.1, (allP (f + 1) (l.drop i)).2.2) := by
  induction f with
  | zero =>
    intro k i acc hi hf ha hk
    obtain ⟨k, rfl⟩ : ∃ m, k = m + 1 := ⟨k - 1, by omega⟩
    have h0 : (l.drop i).length = 0 := by rw [List.length_drop]; omega
    have e : allP 1 (l.drop i) = ([], 0, 0) := by rw [allP, if_pos h0]
    rw [block_All.l0, columbariumref6_All.l0, if_neg (by omega), if_neg (by omega), e]
    simp
  | succ f ih =>
    intro k i acc hi hf ha hk
    obtain ⟨k, rfl⟩ : ∃ m, k = m + 1 := ⟨k - 1, by omega⟩
    by_cases h0 : i < l.length
    · have hne : ¬ (l.drop i).length = 0 := by rw [List.length_drop]; omega
      have ho := open_f (l := l) (by omega) hb (i : Int) (k := k) (by omega)
      have hro := ropen_f (l := l) (by omega) hb (i : Int) (k := k) (by omega)
      have hbd : ∀ x ∈ l.drop i, 0 ≤ x ∧ x ≤ 255 := fun x hx => hb x (List.mem_of_mem_drop hx)
      rw [block_All.l0, columbariumref6_All.l0, if_pos (by omega), if_pos (by omega), ho, hro, Option.bind_some, Option.bind_some, openI_at hi, allP, if_neg hne]
      by_cases h2 : (openL (l.drop i)).2.2 = 0
      · obtain ⟨n, hn, hn1, hn2⟩ := openL_step hbd h2
        rw [List.length_drop] at hn2
        have hI := ih k (i + n) (acc ++ [(openL (l.drop i)).1]) (by omega) (by omega) (by rw [List.length_append, List.length_singleton]; omega) (by omega)
        rw [if_pos h2, if_pos h2, hn]
        rw [if_pos (show (0 : Int) = 0 from rfl), if_pos (show acc.length < 5864062014805 by omega), if_pos (show (0 : Int) = 0 from rfl), if_pos (show acc.length < 5864062014805 by omega)]
        rw [show (i : Int) + (n : Int) = ((i + n : Nat) : Int) from by push_cast; rfl, Int.toNat_natCast, List.drop_drop]
        rw [List.append_assoc] at hI
        have e1 : ((i + n : Nat) : Int) + (allP (f + 1) (l.drop (i + n))).2.1 = (i : Int) + ((n : Int) + (allP (f + 1) (l.drop (i + n))).2.1) := by push_cast; omega
        rw [e1] at hI
        exact hI
      · rw [if_neg h2, if_neg h2]
        rw [if_neg h2, if_neg h2]
        simp
    · have h1 : (l.drop i).length = 0 := by rw [List.length_drop]; omega
      rw [block_All.l0, columbariumref6_All.l0, if_neg (by omega), if_neg (by omega), allP, if_pos h1]
      simp
theorem all_any_f {l : List Int} (hl : l.length ≤ 1000000000) (hb : ∀ x ∈ l, 0 ≤ x ∧ x ≤ 255) {f k : Nat} (hf : l.length ≤ f) (hf2 : f ≤ 1000000000000) (hk : f + 20000000 < k) :
    block_All.f k l = some (allP (f + 1) l) ∧ columbariumref6_All.f k l = some (allP (f + 1) l) := by
  have := all_any hl hb f k 0 [] (by omega) (by omega) (by rw [List.length_nil]; omega) hk
  unfold block_All.f columbariumref6_All.f
  rw [List.drop_zero, List.nil_append] at this
  have e : ((0 : Nat) : Int) + (allP (f + 1) l).2.1 = (allP (f + 1) l).2.1 := by simp
  rw [e] at this
  exact this
/-- behind whole Seals -/
theorem allP_seals (y : List Int) (f : Nat) (ws : List (List Int)) : (∀ b ∈ ws, b.length ≤ 1048576) → allP (ws.length + f) (sealAll ws ++ y) = (ws ++ (allP f y).1, ((sealAll ws).length : Int) + (allP f y).2.1, (allP f y).2.2) := by
  induction ws with
  | nil => intro _; simp [sealAll]
  | cons b ws ih =>
    intro h
    have hb := h b (by simp)
    have hs : sealAll (b :: ws) ++ y = sealL b ++ (sealAll ws ++ y) := by
      show (sealL b ++ sealAll ws) ++ y = _
      rw [List.append_assoc]
    have ho := open_seal b (sealAll ws ++ y) hb
    have hne : ¬ (sealL b ++ (sealAll ws ++ y)).length = 0 := by rw [List.length_append, sealL_len]; omega
    have hd : (sealL b ++ (sealAll ws ++ y)).drop (b.length + 12) = sealAll ws ++ y := by
      rw [show b.length + 12 = (sealL b).length from (sealL_len b).symm, List.drop_left]
    have hI := ih (fun x hx => h x (by simp [hx]))
    rw [List.length_cons, show ws.length + 1 + f = (ws.length + f) + 1 from by omega, hs, allP, if_neg hne, ho]
    show (if (0 : Int) = 0 then (b :: (allP (ws.length + f) ((sealL b ++ (sealAll ws ++ y)).drop (((b.length + 12 : Nat) : Int)).toNat)).1, ((b.length + 12 : Nat) : Int) + (allP (ws.length + f) ((sealL b ++ (sealAll ws ++ y)).drop (((b.length + 12 : Nat) : Int)).toNat)).2.1, (allP (ws.length + f) ((sealL b ++ (sealAll ws ++ y)).drop (((b.length + 12 : Nat) : Int)).toNat)).2.2) else _) = _
    rw [if_pos rfl, Int.toNat_natCast, hd, hI]
    have e : (((sealAll (b :: ws)).length : Nat) : Int) = ((b.length + 12 : Nat) : Int) + ((sealAll ws).length : Int) := by
      show (((sealL b ++ sealAll ws).length : Nat) : Int) = _
      rw [List.length_append, sealL_len]
      push_cast
      rfl
    rw [e]
    simp only [List.cons_append, Int.add_assoc]
theorem alike_loop (l : List (List Int)) (hl : l.length ≤ 140737488355328) (d : Nat) : ∀ (k i : Nat), i ≤ l.length → l.length - i = d → d < k → columbariumlaw6_alike.l0 k l l (i : Int) = some true := by
  induction d with
  | zero =>
    intro k i hi hd hk
    obtain ⟨k, rfl⟩ : ∃ m, k = m + 1 := ⟨k - 1, by omega⟩
    rw [columbariumlaw6_alike.l0, if_neg (by omega)]
  | succ d ih =>
    intro k i hi hd hk
    obtain ⟨k, rfl⟩ : ∃ m, k = m + 1 := ⟨k - 1, by omega⟩
    rw [columbariumlaw6_alike.l0, if_pos (by omega), if_pos (by omega), if_pos (by omega), if_pos rfl, show wrap64 ((i : Int) + 1) = ((i + 1 : Nat) : Int) from by rw [w64_id (by omega) (by omega)]; push_cast; rfl]
    exact ih k (i + 1) (by omega) (by omega) (by omega)
theorem alike_f {l : List (List Int)} (hl : l.length ≤ 140737488355328) {k : Nat} (hk : l.length < k) : columbariumlaw6_alike.f k l l = some true := by
  unfold columbariumlaw6_alike.f
  rw [if_pos rfl]
  exact alike_loop l hl l.length k 0 (by omega) (by omega) hk
end Go.Proofs.Ytfgceanepgjfiaa.BAny
