/- Plain words on bits, wraps and lists that the proofs of this seat share. -/
import Derived.Laws.BitsLemmas
import Derived.RowKit
import Derived.Test.YtlhomdbkoniheaaWWords
namespace Go.Proofs.Ytlhomdbkoniheaa.Base
open Go.RowKit Go.Proofs.YtlhomdbkoniheaaW.PrintWords

theorem u64_wrap (n : Int) : IntKind.u64.wrap n = n % 18446744073709551616 := by simp [IntKind.wrap, IntKind.bits, IntKind.signed]
theorem u64_id {n : Int} (h0 : 0 ≤ n) (h1 : n < 18446744073709551616) : IntKind.u64.wrap n = n := by rw [u64_wrap]; omega
theorem u32_id {n : Int} (h0 : 0 ≤ n) (h1 : n < 4294967296) : IntKind.u32.wrap n = n := by rw [IntKind.wrap_u32]; omega
theorem w64_id {n : Int} (h0 : -9223372036854775808 ≤ n) (h1 : n ≤ 9223372036854775807) : wrap64 n = n := by unfold wrap64; omega
theorem u8wf {x : Int} (h : (Lit.int .u8 x).wf = true) : 0 ≤ x ∧ x ≤ 255 := by
  simp [Lit.wf, IntKind.min, IntKind.max, IntKind.signed, IntKind.bits] at h
  omega
theorem u32wf {x : Int} (h : (Lit.int .u32 x).wf = true) : 0 ≤ x ∧ x ≤ 4294967295 := by
  simp [Lit.wf, IntKind.min, IntKind.max, IntKind.signed, IntKind.bits] at h
  omega
theorem u64wf {x : Int} (h : (Lit.int .u64 x).wf = true) : 0 ≤ x ∧ x ≤ 18446744073709551615 := by
  simp [Lit.wf, IntKind.min, IntKind.max, IntKind.signed, IntKind.bits] at h
  omega
theorem i64wf {x : Int} (h : (Lit.int .i64 x).wf = true) : -9223372036854775808 ≤ x ∧ x ≤ 9223372036854775807 := by
  simp [Lit.wf, IntKind.min, IntKind.max, IntKind.signed, IntKind.bits] at h
  omega

/-- and, or, exclusive or of numbers that fit are those of Nat. -/
theorem bits_and_nat (k : IntKind) (hs : k.signed = false) {a b : Nat} (ha : a < 2 ^ k.bits) (hb : b < 2 ^ k.bits) : bits .and k a b = ((a &&& b : Nat) : Int) := by
  have hk : ∀ n : Int, 0 ≤ n → n < 2 ^ k.bits → k.wrap n = n := fun n h0 h1 => by
    simp only [IntKind.wrap, hs]
    simp
    exact Int.emod_eq_of_lt h0 h1
  exact (bits_nat k k.bits (Nat.le_refl _) hk a b ha hb).1
theorem bits_or_nat (k : IntKind) (hs : k.signed = false) {a b : Nat} (ha : a < 2 ^ k.bits) (hb : b < 2 ^ k.bits) : bits .or k a b = ((a ||| b : Nat) : Int) := by
  have hk : ∀ n : Int, 0 ≤ n → n < 2 ^ k.bits → k.wrap n = n := fun n h0 h1 => by
    simp only [IntKind.wrap, hs]
    simp
    exact Int.emod_eq_of_lt h0 h1
  exact (bits_nat k k.bits (Nat.le_refl _) hk a b ha hb).2
theorem bits_xor_nat (k : IntKind) (hs : k.signed = false) {a b : Nat} (ha : a < 2 ^ k.bits) (hb : b < 2 ^ k.bits) : bits .xor k a b = ((a ^^^ b : Nat) : Int) := by
  have ha' : a % 2 ^ k.bits = a := Nat.mod_eq_of_lt ha
  have hb' : b % 2 ^ k.bits = b := Nat.mod_eq_of_lt hb
  simp only [bits, BitVec.ofInt_natCast, BitVec.toNat_xor, BitVec.toNat_ofNat, ha', hb']
  simp only [IntKind.wrap, hs]
  simp
  exact Int.emod_eq_of_lt (by omega) (by exact_mod_cast Nat.xor_lt_two_pow ha hb)
theorem xor_bv32 (a b : BitVec 32) : bits .xor .u32 (a.toNat : Int) (b.toNat : Int) = ((a ^^^ b).toNat : Int) := by
  rw [bits_xor_nat .u32 rfl a.isLt b.isLt, BitVec.toNat_xor]
theorem xor_bv64 (a b : BitVec 64) : bits .xor .u64 (a.toNat : Int) (b.toNat : Int) = ((a ^^^ b).toNat : Int) := by
  rw [bits_xor_nat .u64 rfl a.isLt b.isLt, BitVec.toNat_xor]
theorem xor_bv8 (a b : BitVec 8) : bits .xor .u8 (a.toNat : Int) (b.toNat : Int) = ((a ^^^ b).toNat : Int) := by
  rw [bits_xor_nat .u8 rfl a.isLt b.isLt, BitVec.toNat_xor]
theorem or_bv8 (a b : BitVec 8) : bits .or .u8 (a.toNat : Int) (b.toNat : Int) = ((a ||| b).toNat : Int) := by
  rw [bits_or_nat .u8 rfl a.isLt b.isLt, BitVec.toNat_or]
theorem byte_bv {x : Int} (h0 : 0 ≤ x) (h1 : x ≤ 255) : ∃ b : BitVec 8, x = (b.toNat : Int) := ⟨BitVec.ofNat 8 x.toNat, by simp; omega⟩
theorem bits_range (op : BinOp) (k : IntKind) (hs : k.signed = false) (x y : Int) : 0 ≤ bits op k x y ∧ bits op k x y < 2 ^ k.bits := by
  simp only [bits, IntKind.wrap, hs]
  simp
  exact ⟨Int.emod_nonneg _ (by have : (0 : Int) < 2 ^ k.bits := Int.pow_pos (by decide); omega), Int.emod_lt_of_pos _ (Int.pow_pos (by decide))⟩

theorem and127 {x : Int} (h0 : 0 ≤ x) (h1 : x ≤ 255) : bits .and .u8 x 127 = x % 128 := bits_mask .u8 8 (by decide) wraps_u8 7 (by decide) x h0 (by omega)
theorem or128 {x : Int} (h0 : 0 ≤ x) (h1 : x ≤ 255) : bits .or .u8 x 128 = x % 128 + 128 := by
  obtain ⟨n, rfl⟩ := Int.eq_ofNat_of_zero_le h0
  have h : ∀ n : Fin 256, ((n.val ||| 128 : Nat)) = n.val % 128 + 128 := by decide +kernel
  have h2 := h ⟨n, by omega⟩
  have e := bits_or_nat .u8 rfl (a := n) (b := 128) (by show n < 256; omega) (by decide)
  rw [show ((128 : Int)) = ((128 : Nat) : Int) from rfl, e, show n ||| 128 = n % 128 + 128 from h2]
  omega
theorem and1_u32 {x : Int} (h0 : 0 ≤ x) (h1 : x < 4294967296) : bits .and .u32 x 1 = x % 2 :=
  bits_mask .u32 32 (by decide) (fun n a b => u32_id a (by simpa using b)) 1 (by decide) x h0 (by simpa using h1)
theorem and1_u64 {x : Int} (h0 : 0 ≤ x) (h1 : x < 18446744073709551616) : bits .and .u64 x 1 = x % 2 :=
  bits_mask .u64 64 (by decide) (fun n a b => u64_id a (by simpa using b)) 1 (by decide) x h0 (by simpa using h1)

theorem xor_u64_ones {x : Int} (h0 : 0 ≤ x) (h1 : x < 18446744073709551616) : bits .xor .u64 x 18446744073709551615 = 18446744073709551615 - x := by
  obtain ⟨n, rfl⟩ := Int.eq_ofNat_of_zero_le h0
  have hn : n < 2 ^ 64 := by omega
  have e := xor_bv64 (BitVec.ofNat 64 n) (BitVec.allOnes 64)
  have e1 : (BitVec.ofNat 64 n).toNat = n := by simp only [BitVec.toNat_ofNat]; omega
  have e2 : (BitVec.allOnes 64).toNat = 18446744073709551615 := by decide
  rw [e1, e2, BitVec.xor_allOnes, BitVec.toNat_not, e1] at e
  rw [show ((18446744073709551615 : Int)) = ((18446744073709551615 : Nat) : Int) from rfl, e]
  omega
theorem xor_u32_ones {x : Int} (h0 : 0 ≤ x) (h1 : x < 4294967296) : bits .xor .u32 4294967295 x = 4294967295 - x := by
  obtain ⟨n, rfl⟩ := Int.eq_ofNat_of_zero_le h0
  have hn : n < 2 ^ 32 := by omega
  have e := xor_bv32 (BitVec.allOnes 32) (BitVec.ofNat 32 n)
  have e1 : (BitVec.ofNat 32 n).toNat = n := by simp only [BitVec.toNat_ofNat]; omega
  have e2 : (BitVec.allOnes 32).toNat = 4294967295 := by decide
  rw [e1, e2, BitVec.allOnes_xor, BitVec.toNat_not, e1] at e
  rw [show ((4294967295 : Int)) = ((4294967295 : Nat) : Int) from rfl, e]
  omega
theorem xor_u64_zero {x : Int} (h0 : 0 ≤ x) (h1 : x < 18446744073709551616) : bits .xor .u64 x 0 = x := by
  obtain ⟨n, rfl⟩ := Int.eq_ofNat_of_zero_le h0
  have e := bits_xor_nat .u64 rfl (a := n) (b := 0) (by show n < 2 ^ 64; omega) (by decide)
  rw [show ((0 : Int)) = ((0 : Nat) : Int) from rfl, e, Nat.xor_zero]
theorem xor_i64_zero {x : Int} (h0 : -9223372036854775808 ≤ x) (h1 : x ≤ 9223372036854775807) : bits .xor .i64 x 0 = x := by
  have e : (BitVec.ofInt 64 x ^^^ BitVec.ofInt 64 0).toNat = (x % 18446744073709551616).toNat := by
    rw [show BitVec.ofInt 64 0 = 0#64 from by decide, BitVec.xor_zero, BitVec.toNat_ofInt]
    rfl
  show IntKind.i64.wrap (((BitVec.ofInt 64 x ^^^ BitVec.ofInt 64 0).toNat : Nat) : Int) = x
  rw [e, IntKind.wrap_i64]
  omega
theorem xor_i64_neg {x : Int} (h0 : -9223372036854775808 ≤ x) (h1 : x ≤ 9223372036854775807) : bits .xor .i64 x (-1) = -x - 1 := by
  have e : (BitVec.ofInt 64 x ^^^ BitVec.ofInt 64 (-1)).toNat = 18446744073709551615 - (x % 18446744073709551616).toNat := by
    rw [show BitVec.ofInt 64 (-1) = BitVec.allOnes 64 from by decide, BitVec.xor_allOnes, BitVec.toNat_not, BitVec.toNat_ofInt]
    rfl
  show IntKind.i64.wrap (((BitVec.ofInt 64 x ^^^ BitVec.ofInt 64 (-1)).toNat : Nat) : Int) = -x - 1
  rw [e, IntKind.wrap_i64]
  omega

/-- rd within the list. -/
theorem rd_get {l : List Int} {i : Int} (h0 : 0 ≤ i) (h1 : i < l.length) : rd l i = l[i.toNat]'(by omega) := by
  unfold rd
  rw [List.getD_eq_getElem?_getD, List.getElem?_eq_getElem (by omega)]
  rfl
theorem rd_nat {l : List Int} {i : Nat} (h1 : i < l.length) : rd l (i : Int) = l[i] := by
  rw [rd_get (by omega) (by omega)]
  rfl
theorem drop_rd {l : List Int} {i : Nat} (h1 : i < l.length) : l.drop i = rd l (i : Int) :: l.drop (i + 1) := by
  rw [rd_nat h1]
  exact List.drop_eq_getElem_cons h1
theorem rd_drop (l : List Int) (a i : Nat) : rd (l.drop a) (i : Int) = rd l ((a + i : Nat) : Int) := by
  unfold rd
  rw [List.getD_eq_getElem?_getD, List.getD_eq_getElem?_getD, List.getElem?_drop]
  simp only [Int.toNat_natCast]

theorem bytesOf_size (s : ByteArray) : (bytesOf s).length = s.size := bytesOf_length s
theorem bytesOf_range {s : ByteArray} {x : Int} (h : x ∈ bytesOf s) : 0 ≤ x ∧ x ≤ 255 := by
  unfold bytesOf at h
  obtain ⟨b, _, rfl⟩ := List.mem_map.1 h
  have := b.toNat_lt
  omega
theorem bt_rd (s : ByteArray) (i : Nat) (h : i < s.size) : bt s (i : Int) = rd (bytesOf s) (i : Int) := by
  unfold bt rd bytesOf
  have h2 : i < s.data.toList.length := by simpa using h
  simp only [Int.toNat_natCast, dif_pos h, List.getD_eq_getElem?_getD, List.getElem?_map, List.getElem?_eq_getElem h2]
  simp
  rfl
theorem toList_is (s : ByteArray) : s.toList = s.data.toList := ByteArray.toList_eq s
theorem str_ext {a b : ByteArray} (h : a.toList = b.toList) : a = b := by
  rw [toList_is, toList_is] at h
  cases a; cases b
  congr 1
  exact Array.ext' h
theorem bytesOf_str {l : List Int} (hb : ∀ x ∈ l, 0 ≤ x ∧ x ≤ 255) : bytesOf (strOfNums l) = l := by
  unfold bytesOf
  rw [strOfNums_data, List.map_map]
  conv => rhs; rw [← List.map_id l]
  refine List.map_congr_left fun x hx => ?_
  have := hb x hx
  simp only [Function.comp, id]
  rw [UInt8.toNat_ofNat']
  omega
theorem str_bytesOf (s : ByteArray) : strOfNums (bytesOf s) = s := by
  refine str_ext ?_
  rw [toList_is, toList_is, strOfNums_data]
  unfold bytesOf
  rw [List.map_map]
  conv => rhs; rw [← List.map_id s.data.toList]
  refine List.map_congr_left fun x _ => ?_
  simp
theorem str_inj {l m : List Int} (hl : ∀ x ∈ l, 0 ≤ x ∧ x ≤ 255) (hm : ∀ x ∈ m, 0 ≤ x ∧ x ≤ 255) : (strOfNums l).toList = (strOfNums m).toList ↔ l = m := by
  refine ⟨fun h => ?_, fun h => by rw [h]⟩
  have := congrArg bytesOf (str_ext h)
  rwa [bytesOf_str hl, bytesOf_str hm] at this
theorem str_is {l : List Int} {s : ByteArray} (hl : ∀ x ∈ l, 0 ≤ x ∧ x ≤ 255) : (strOfNums l).toList = s.toList ↔ l = bytesOf s := by
  refine ⟨fun h => ?_, fun h => by rw [h, str_bytesOf]⟩
  have := congrArg bytesOf (str_ext h)
  rwa [bytesOf_str hl] at this
end Go.Proofs.Ytlhomdbkoniheaa.Base
