/- My plain texts of this seat, one behind the other. -/
import Derived.Laws.BitsLemmas
import Derived.RowKit
import Derived.Test.YtlhomdbkoniheaaWWords
import Derived.Test.YtlhomdbkoniheaaPSvarintGet
import Derived.Test.YtlhomdbkoniheaaPSvarintPut
import Derived.Test.YtlhomdbkoniheaaPSvarintGetText
import Derived.Test.YtlhomdbkoniheaaPSvarintPutText
import Derived.Test.YtlhomdbkoniheaaPSvarintZig
import Derived.Test.YtlhomdbkoniheaaPSvarintZag
import Derived.Test.YtlhomdbkoniheaaPScolumbariumref1Get
import Derived.Test.YtlhomdbkoniheaaPScolumbariumref1Put
import Derived.Test.YtlhomdbkoniheaaPScolumbariumref1Zig
import Derived.Test.YtlhomdbkoniheaaPScolumbariumref1Zag
import Derived.Test.YtlhomdbkoniheaaPScolumbariumref1GetText
import Derived.Test.YtlhomdbkoniheaaPScolumbariumref1PutText
import Derived.Test.YtlhomdbkoniheaaPScolumbariumbookRoomybyte
import Derived.Test.YtlhomdbkoniheaaPScolumbariumbookIntactbyte
import Derived.Test.YtlhomdbkoniheaaPScolumbariumlaw1known
/- Plain words on bits, wraps and lists that the proofs of this seat share. -/
namespace Go.Proofs.Ytlhomdbkoniheaa.Base
open Go.RowKit Go.Proofs.YtlhomdbkoniheaaW.PrintWords

theorem u64_wrap (n : Int) : IntKind.u64.wrap n = n % 18446744073709551616 := by simp [IntKind.wrap, IntKind.bits, IntKind.signed]
theorem u64_id {n : Int} (h0 : 0 ≤ n) (h1 : n < 18446744073709551616) : IntKind.u64.wrap n = n := by rw [u64_wrap]; omega
theorem u32_id {n : Int} (h0 : 0 ≤ n) (h1 : n < 4294967296) : IntKind.u32.wrap n = n := by rw [IntKind.wrap_u32]; omega
theorem w64_id {n : Int} (h0 : -9223372036854775808 ≤ n) (h1 : n ≤ 9223372036854775807) : wrap64 n = n := by unfold wrap64; omega
theorem u8wf {x : Int} (h : (Lit.int .u8 x).wf = true) : 0 ≤ x ∧ x ≤ 255 := by
  simp [Lit.wf, IntKind.min, IntKind.max, IntKind.signed, IntKind.bits] at h
  omega
theorem u32wf {x : Int} (h : (Lit.int .u32 x).wf = true) : 0 ≤ x ∧ x ≤ 4294967295 := by
  simp [Lit.wf, IntKind.min, IntKind.max, IntKind.signed, IntKind.bits] at h
  omega
theorem u64wf {x : Int} (h : (Lit.int .u64 x).wf = true) : 0 ≤ x ∧ x ≤ 18446744073709551615 := by
  simp [Lit.wf, IntKind.min, IntKind.max, IntKind.signed, IntKind.bits] at h
  omega
theorem i64wf {x : Int} (h : (Lit.int .i64 x).wf = true) : -9223372036854775808 ≤ x ∧ x ≤ 9223372036854775807 := by
  simp [Lit.wf, IntKind.min, IntKind.max, IntKind.signed, IntKind.bits] at h
  omega

/-- and, or, exclusive or of numbers that fit are those of Nat. -/
theorem bits_and_nat (k : IntKind) (hs : k.signed = false) {a b : Nat} (ha : a < 2 ^ k.bits) (hb : b < 2 ^ k.bits) : bits .and k a b = ((a &&& b : Nat) : Int) := by
  have hk : ∀ n : Int, 0 ≤ n → n < 2 ^ k.bits → k.wrap n = n := fun n h0 h1 => by
    simp only [IntKind.wrap, hs]
    simp
    exact Int.emod_eq_of_lt h0 h1
  exact (bits_nat k k.bits (Nat.le_refl _) hk a b ha hb).1
theorem bits_or_nat (k : IntKind) (hs : k.signed = false) {a b : Nat} (ha : a < 2 ^ k.bits) (hb : b < 2 ^ k.bits) : bits .or k a b = ((a ||| b : Nat) : Int) := by
  have hk : ∀ n : Int, 0 ≤ n → n < 2 ^ k.bits → k.wrap n = n := fun n h0 h1 => by
    simp only [IntKind.wrap, hs]
    simp
    exact Int.emod_eq_of_lt h0 h1
  exact (bits_nat k k.bits (Nat.le_refl _) hk a b ha hb).2
theorem bits_xor_nat (k : IntKind) (hs : k.signed = false) {a b : Nat} (ha : a < 2 ^ k.bits) (hb : b < 2 ^ k.bits) : bits .xor k a b = ((a ^^^ b : Nat) : Int) := by
  have ha' : a % 2 ^ k.bits = a := Nat.mod_eq_of_lt ha
  have hb' : b % 2 ^ k.bits = b := Nat.mod_eq_of_lt hb
  simp only [bits, BitVec.ofInt_natCast, BitVec.toNat_xor, BitVec.toNat_ofNat, ha', hb']
  simp only [IntKind.wrap, hs]
  simp
  exact Int.emod_eq_of_lt (by omega) (by exact_mod_cast Nat.xor_lt_two_pow ha hb)
theorem xor_bv32 (a b : BitVec 32) : bits .xor .u32 (a.toNat : Int) (b.toNat : Int) = ((a ^^^ b).toNat : Int) := by
  rw [bits_xor_nat .u32 rfl a.isLt b.isLt, BitVec.toNat_xor]
theorem xor_bv64 (a b : BitVec 64) : bits .xor .u64 (a.toNat : Int) (b.toNat : Int) = ((a ^^^ b).toNat : Int) := by
  rw [bits_xor_nat .u64 rfl a.isLt b.isLt, BitVec.toNat_xor]
theorem xor_bv8 (a b : BitVec 8) : bits .xor .u8 (a.toNat : Int) (b.toNat : Int) = ((a ^^^ b).toNat : Int) := by
  rw [bits_xor_nat .u8 rfl a.isLt b.isLt, BitVec.toNat_xor]
theorem or_bv8 (a b : BitVec 8) : bits .or .u8 (a.toNat : Int) (b.toNat : Int) = ((a ||| b).toNat : Int) := by
  rw [bits_or_nat .u8 rfl a.isLt b.isLt, BitVec.toNat_or]
theorem byte_bv {x : Int} (h0 : 0 ≤ x) (h1 : x ≤ 255) : ∃ b : BitVec 8, x = (b.toNat : Int) := ⟨BitVec.ofNat 8 x.toNat, by simp; omega⟩
theorem bits_range (op : BinOp) (k : IntKind) (hs : k.signed = false) (x y : Int) : 0 ≤ bits op k x y ∧ bits op k x y < 2 ^ k.bits := by
  simp only [bits, IntKind.wrap, hs]
  simp
  exact ⟨Int.emod_nonneg _ (by have : (0 : Int) < 2 ^ k.bits := Int.pow_pos (by decide); omega), Int.emod_lt_of_pos _ (Int.pow_pos (by decide))⟩

theorem and127 {x : Int} (h0 : 0 ≤ x) (h1 : x ≤ 255) : bits .and .u8 x 127 = x % 128 := bits_mask .u8 8 (by decide) wraps_u8 7 (by decide) x h0 (by omega)
theorem or128 {x : Int} (h0 : 0 ≤ x) (h1 : x ≤ 255) : bits .or .u8 x 128 = x % 128 + 128 := by
  obtain ⟨n, rfl⟩ := Int.eq_ofNat_of_zero_le h0
  have h : ∀ n : Fin 256, ((n.val ||| 128 : Nat)) = n.val % 128 + 128 := by decide +kernel
  have h2 := h ⟨n, by omega⟩
  have e := bits_or_nat .u8 rfl (a := n) (b := 128) (by show n < 256; omega) (by decide)
  rw [show ((128 : Int)) = ((128 : Nat) : Int) from rfl, e, show n ||| 128 = n % 128 + 128 from h2]
  omega
theorem and1_u32 {x : Int} (h0 : 0 ≤ x) (h1 : x < 4294967296) : bits .and .u32 x 1 = x % 2 :=
  bits_mask .u32 32 (by decide) (fun n a b => u32_id a (by simpa using b)) 1 (by decide) x h0 (by simpa using h1)
theorem and1_u64 {x : Int} (h0 : 0 ≤ x) (h1 : x < 18446744073709551616) : bits .and .u64 x 1 = x % 2 :=
  bits_mask .u64 64 (by decide) (fun n a b => u64_id a (by simpa using b)) 1 (by decide) x h0 (by simpa using h1)

theorem xor_u64_ones {x : Int} (h0 : 0 ≤ x) (h1 : x < 18446744073709551616) : bits .xor .u64 x 18446744073709551615 = 18446744073709551615 - x := by
  obtain ⟨n, rfl⟩ := Int.eq_ofNat_of_zero_le h0
  have hn : n < 2 ^ 64 := by omega
  have e := xor_bv64 (BitVec.ofNat 64 n) (BitVec.allOnes 64)
  have e1 : (BitVec.ofNat 64 n).toNat = n := by simp only [BitVec.toNat_ofNat]; omega
  have e2 : (BitVec.allOnes 64).toNat = 18446744073709551615 := by decide
  rw [e1, e2, BitVec.xor_allOnes, BitVec.toNat_not, e1] at e
  rw [show ((18446744073709551615 : Int)) = ((18446744073709551615 : Nat) : Int) from rfl, e]
  omega
theorem xor_u32_ones {x : Int} (h0 : 0 ≤ x) (h1 : x < 4294967296) : bits .xor .u32 4294967295 x = 4294967295 - x := by
  obtain ⟨n, rfl⟩ := Int.eq_ofNat_of_zero_le h0
  have hn : n < 2 ^ 32 := by omega
  have e := xor_bv32 (BitVec.allOnes 32) (BitVec.ofNat 32 n)
  have e1 : (BitVec.ofNat 32 n).toNat = n := by simp only [BitVec.toNat_ofNat]; omega
  have e2 : (BitVec.allOnes 32).toNat = 4294967295 := by decide
  rw [e1, e2, BitVec.allOnes_xor, BitVec.toNat_not, e1] at e
  rw [show ((4294967295 : Int)) = ((4294967295 : Nat) : Int) from rfl, e]
  omega
theorem xor_u64_zero {x : Int} (h0 : 0 ≤ x) (h1 : x < 18446744073709551616) : bits .xor .u64 x 0 = x := by
  obtain ⟨n, rfl⟩ := Int.eq_ofNat_of_zero_le h0
  have e := bits_xor_nat .u64 rfl (a := n) (b := 0) (by show n < 2 ^ 64; omega) (by decide)
  rw [show ((0 : Int)) = ((0 : Nat) : Int) from rfl, e, Nat.xor_zero]
theorem xor_i64_zero {x : Int} (h0 : -9223372036854775808 ≤ x) (h1 : x ≤ 9223372036854775807) : bits .xor .i64 x 0 = x := by
  have e : (BitVec.ofInt 64 x ^^^ BitVec.ofInt 64 0).toNat = (x % 18446744073709551616).toNat := by
    rw [show BitVec.ofInt 64 0 = 0#64 from by decide, BitVec.xor_zero, BitVec.toNat_ofInt]
    rfl
  show IntKind.i64.wrap (((BitVec.ofInt 64 x ^^^ BitVec.ofInt 64 0).toNat : Nat) : Int) = x
  rw [e, IntKind.wrap_i64]
  omega
theorem xor_i64_neg {x : Int} (h0 : -9223372036854775808 ≤ x) (h1 : x ≤ 9223372036854775807) : bits .xor .i64 x (-1) = -x - 1 := by
  have e : (BitVec.ofInt 64 x ^^^ BitVec.ofInt 64 (-1)).toNat = 18446744073709551615 - (x % 18446744073709551616).toNat := by
    rw [show BitVec.ofInt 64 (-1) = BitVec.allOnes 64 from by decide, BitVec.xor_allOnes, BitVec.toNat_not, BitVec.toNat_ofInt]
    rfl
  show IntKind.i64.wrap (((BitVec.ofInt 64 x ^^^ BitVec.ofInt 64 (-1)).toNat : Nat) : Int) = -x - 1
  rw [e, IntKind.wrap_i64]
  omega

/-- rd within the list. -/
theorem rd_get {l : List Int} {i : Int} (h0 : 0 ≤ i) (h1 : i < l.length) : rd l i = l[i.toNat]'(by omega) := by
  unfold rd
  rw [List.getD_eq_getElem?_getD, List.getElem?_eq_getElem (by omega)]
  rfl
theorem rd_nat {l : List Int} {i : Nat} (h1 : i < l.length) : rd l (i : Int) = l[i] := by
  rw [rd_get (by omega) (by omega)]
  rfl
theorem drop_rd {l : List Int} {i : Nat} (h1 : i < l.length) : l.drop i = rd l (i : Int) :: l.drop (i + 1) := by
  rw [rd_nat h1]
  exact List.drop_eq_getElem_cons h1
theorem rd_drop (l : List Int) (a i : Nat) : rd (l.drop a) (i : Int) = rd l ((a + i : Nat) : Int) := by
  unfold rd
  rw [List.getD_eq_getElem?_getD, List.getD_eq_getElem?_getD, List.getElem?_drop]
  simp only [Int.toNat_natCast]

theorem bytesOf_size (s : ByteArray) : (bytesOf s).length = s.size := bytesOf_length s
theorem bytesOf_range {s : ByteArray} {x : Int} (h : x ∈ bytesOf s) : 0 ≤ x ∧ x ≤ 255 := by
  unfold bytesOf at h
  obtain ⟨b, _, rfl⟩ := List.mem_map.1 h
  have := b.toNat_lt
  omega
theorem bt_rd (s : ByteArray) (i : Nat) (h : i < s.size) : bt s (i : Int) = rd (bytesOf s) (i : Int) := by
  unfold bt rd bytesOf
  have h2 : i < s.data.toList.length := by simpa using h
  simp only [Int.toNat_natCast, dif_pos h, List.getD_eq_getElem?_getD, List.getElem?_map, List.getElem?_eq_getElem h2]
  simp
  rfl
theorem toList_is (s : ByteArray) : s.toList = s.data.toList := ByteArray.toList_eq s
theorem str_ext {a b : ByteArray} (h : a.toList = b.toList) : a = b := by
  rw [toList_is, toList_is] at h
  cases a; cases b
  congr 1
  exact Array.ext' h
theorem bytesOf_str {l : List Int} (hb : ∀ x ∈ l, 0 ≤ x ∧ x ≤ 255) : bytesOf (strOfNums l) = l := by
  unfold bytesOf
  rw [strOfNums_data, List.map_map]
  conv => rhs; rw [← List.map_id l]
  refine List.map_congr_left fun x hx => ?_
  have := hb x hx
  simp only [Function.comp, id]
  rw [UInt8.toNat_ofNat']
  omega
theorem str_bytesOf (s : ByteArray) : strOfNums (bytesOf s) = s := by
  refine str_ext ?_
  rw [toList_is, toList_is, strOfNums_data]
  unfold bytesOf
  rw [List.map_map]
  conv => rhs; rw [← List.map_id s.data.toList]
  refine List.map_congr_left fun x _ => ?_
  simp
theorem str_inj {l m : List Int} (hl : ∀ x ∈ l, 0 ≤ x ∧ x ≤ 255) (hm : ∀ x ∈ m, 0 ≤ x ∧ x ≤ 255) : (strOfNums l).toList = (strOfNums m).toList ↔ l = m := by
  refine ⟨fun h => ?_, fun h => by rw [h]⟩
  have := congrArg bytesOf (str_ext h)
  rwa [bytesOf_str hl, bytesOf_str hm] at this
theorem str_is {l : List Int} {s : ByteArray} (hl : ∀ x ∈ l, 0 ≤ x ∧ x ≤ 255) : (strOfNums l).toList = s.toList ↔ l = bytesOf s := by
  refine ⟨fun h => ?_, fun h => by rw [h, str_bytesOf]⟩
  have := congrArg bytesOf (str_ext h)
  rwa [bytesOf_str hl] at this
end Go.Proofs.Ytlhomdbkoniheaa.Base

/- Chapter 1's numbers as lists of bytes, in plain Lean: how they are written, how they are read, and that both fit. -/
namespace Go.Proofs.Ytlhomdbkoniheaa.VPlain
open Go.RowKit Go.Proofs.YtlhomdbkoniheaaW.PrintWords Go.Proofs.Ytlhomdbkoniheaa.Base

def vputF : Nat → Nat → List Int
  | 0, n => [(n : Int)]
  | f + 1, n => if n ≤ 127 then [(n : Int)] else ((n % 128 + 128 : Nat) : Int) :: vputF f (n / 128)
def vput (n : Int) : List Int := vputF 9 n.toNat

def go (a : Int) : List Int → Nat → Int → Int × Int × Int
  | [], _, _ => (0, 0, 10)
  | c :: t, i, acc =>
    if c > 127 then go a t (i + 1) (acc + (c % 128) * 2 ^ (7 * i))
    else if i > 9 ∨ (i = 9 ∧ c > 1) ∨ (i > 0 ∧ c = 0) then (0, 0, 12)
    else (acc + c * 2 ^ (7 * i), a + i + 1, 0)
def getI (l : List Int) (a : Int) : Int × Int × Int := if a < 0 ∨ a > l.length then (0, 0, 1) else go a (l.drop a.toNat) 0 0

theorem vputF_len (f : Nat) : ∀ n, 1 ≤ (vputF f n).length ∧ (vputF f n).length ≤ f + 1 := by
  induction f with
  | zero => intro n; simp [vputF]
  | succ f ih =>
    intro n
    unfold vputF
    split
    · simp
    · have := ih (n / 128)
      simp only [List.length_cons]
      omega
theorem vput_len (n : Int) : 1 ≤ (vput n).length ∧ (vput n).length ≤ 10 := vputF_len 9 _
theorem vputF_byte (f : Nat) : ∀ n, n < 128 ^ f * 256 → ∀ x ∈ vputF f n, 0 ≤ x ∧ x ≤ 255 := by
  induction f with
  | zero => intro n hn x hx; simp [vputF] at hx; omega
  | succ f ih =>
    intro n hn x hx
    unfold vputF at hx
    split at hx
    · simp at hx; omega
    · rcases List.mem_cons.1 hx with rfl | hx
      · omega
      · exact ih (n / 128) (by rw [Nat.pow_succ] at hn; omega) x hx
theorem vput_byte {n : Int} (h1 : n ≤ 18446744073709551615) : ∀ x ∈ vput n, 0 ≤ x ∧ x ≤ 255 := vputF_byte 9 _ (by omega)

/-- What was written is read. -/
theorem go_vputF (a : Int) (r : List Int) (f : Nat) : ∀ (i n : Nat) (acc : Int), i + f = 9 → n * 2 ^ (7 * i) < 2 ^ 64 → (0 < i → 0 < n) →
    go a (vputF f n ++ r) i acc = (acc + n * 2 ^ (7 * i), a + i + (vputF f n).length, 0) := by
  induction f with
  | zero =>
    intro i n acc hi hn h0
    obtain rfl : i = 9 := by omega
    have hn2 : n < 2 := by omega
    have := h0 (by omega)
    simp only [vputF, List.cons_append, List.nil_append, go, List.length_cons, List.length_nil]
    rw [if_neg (by omega), if_neg (by omega)]
    simp
  | succ f ih =>
    intro i n acc hi hn h0
    unfold vputF
    by_cases h : n ≤ 127
    · rw [if_pos h]
      simp only [List.cons_append, List.nil_append, go, List.length_cons, List.length_nil]
      rw [if_neg (by omega), if_neg (by omega)]
      simp
    · rw [if_neg h]
      simp only [List.cons_append, go, List.length_cons]
      rw [if_pos (by omega), ih (i + 1) (n / 128) _ (by omega) ?_ (by omega)]
      · have e : (2 : Int) ^ (7 * (i + 1)) = 2 ^ (7 * i) * 128 := by rw [Nat.mul_add, Int.pow_add]; rfl
        have e2 : ((n : Int)) = (n % 128 : Nat) + 128 * (n / 128 : Nat) := by omega
        have e3 : (((n % 128 + 128 : Nat) : Int)) % 128 = (n % 128 : Nat) := by omega
        rw [e, e3]
        refine Prod.ext ?_ (Prod.ext ?_ rfl)
        · simp only
          conv => rhs; rw [e2]
          rw [Int.add_mul]
          have : ((n / 128 : Nat) : Int) * (2 ^ (7 * i) * 128) = 128 * ((n / 128 : Nat) : Int) * 2 ^ (7 * i) := by
            rw [Int.mul_comm 128, Int.mul_assoc, Int.mul_comm 128]
          omega
        · simp only
          push_cast
          omega
      · have e : 2 ^ (7 * (i + 1)) = 2 ^ (7 * i) * 128 := by rw [Nat.mul_add, Nat.pow_add]
        rw [e]
        have h1 : n / 128 * 128 ≤ n := by omega
        have h2 : n / 128 * 128 * 2 ^ (7 * i) ≤ n * 2 ^ (7 * i) := Nat.mul_le_mul_right _ h1
        have h3 : n / 128 * (2 ^ (7 * i) * 128) = n / 128 * 128 * 2 ^ (7 * i) := by rw [Nat.mul_comm (2 ^ _), Nat.mul_assoc]
        omega
theorem go_vput (a : Int) (r : List Int) {n : Int} (h0 : 0 ≤ n) (h1 : n ≤ 18446744073709551615) : go a (vput n ++ r) 0 0 = (n, a + (vput n).length, 0) := by
  have := go_vputF a r 9 0 n.toNat 0 (by omega) (by omega) (by omega)
  simp only [vput]
  rw [this]
  refine Prod.ext ?_ (Prod.ext ?_ rfl)
  · simp; omega
  · simp
/-- Bytes that go on, and no end. -/
theorem go_open (a : Int) (l : List Int) : ∀ i acc, (∀ x ∈ l, x > 127) → go a l i acc = (0, 0, 10) := by
  induction l with
  | nil => intro i acc _; rfl
  | cons c t ih =>
    intro i acc h
    unfold go
    rw [if_pos (h c (by simp))]
    exact ih _ _ (fun x hx => h x (by simp [hx]))
theorem vputF_open (f : Nat) : ∀ (n j : Nat), j < (vputF f n).length → ∀ x ∈ (vputF f n).take j, x > 127 := by
  induction f with
  | zero => intro n j hj x hx; simp [vputF] at hj; subst hj; simp at hx
  | succ f ih =>
    intro n j hj x hx
    unfold vputF at hj hx
    split at hx
    · rename_i h; rw [if_pos h] at hj; simp at hj; subst hj; simp at hx
    · rename_i h
      rw [if_neg h] at hj
      cases j with
      | zero => simp at hx
      | succ j =>
        rw [List.take_succ_cons] at hx
        rcases List.mem_cons.1 hx with rfl | hx
        · omega
        · exact ih (n / 128) j (by simpa using hj) x hx
theorem go_cut (a : Int) (n : Int) (j : Nat) (hj : j < (vput n).length) : go a ((vput n).take j) 0 0 = (0, 0, 10) := go_open a _ _ _ (vputF_open 9 _ j hj)
/-- Behind ten bytes there is no number. -/
theorem go_late (a : Int) (l : List Int) : ∀ i acc acc', 10 ≤ i → go a l i acc = go a l i acc' ∧ ((go a l i acc) = (0, 0, 10) ∨ (go a l i acc) = (0, 0, 12)) := by
  induction l with
  | nil => intro i acc acc' _; exact ⟨rfl, .inl rfl⟩
  | cons c t ih =>
    intro i acc acc' hi
    simp only [go]
    by_cases h : c > 127
    · rw [if_pos h, if_pos h]
      exact ih (i + 1) _ _ (by omega)
    · rw [if_neg h, if_neg h, if_pos (by omega)]
      exact ⟨by rw [if_pos (by omega)], .inr rfl⟩
set_option maxRecDepth 100000 in
/-- What is read was written so, and in no other way. -/
theorem go_ok (a : Int) (l : List Int) : ∀ (i f : Nat) (acc v e : Int), i + f = 9 → (∀ x ∈ l, 0 ≤ x ∧ x ≤ 255) → go a l i acc = (v, e, 0) →
    ∃ n : Nat, v = acc + n * 2 ^ (7 * i) ∧ n * 2 ^ (7 * i) < 2 ^ 64 ∧ (0 < i → 0 < n) ∧ ∃ r, l = vputF f n ++ r ∧ e = a + i + (vputF f n).length := by
  induction l with
  | nil => intro i f acc v e _ _ h; simp [go] at h
  | cons c t ih =>
    intro i f acc v e hi hb h
    have hc := hb c (by simp)
    unfold go at h
    by_cases hgt : c > 127
    · rw [if_pos hgt] at h
      rcases Nat.lt_or_ge i 9 with h9 | h9
      · obtain ⟨f, rfl⟩ : ∃ f', f = f' + 1 := ⟨f - 1, by omega⟩
        obtain ⟨n, hv, hn, hp, r, hl, he⟩ := ih (i + 1) f _ v e (by omega) (fun x hx => hb x (by simp [hx])) h
        have hpos := hp (by omega)
        have e1 : (2 : Int) ^ (7 * (i + 1)) = 2 ^ (7 * i) * 128 := by rw [Nat.mul_add, Int.pow_add]; rfl
        have e1n : 2 ^ (7 * (i + 1)) = 2 ^ (7 * i) * 128 := by rw [Nat.mul_add, Nat.pow_add]
        refine ⟨(c % 128).toNat + 128 * n, ?_, ?_, fun _ => by omega, r, ?_, ?_⟩
        · rw [hv, e1]
          have : (((c % 128).toNat + 128 * n : Nat) : Int) = c % 128 + 128 * n := by omega
          rw [this, Int.add_mul, Int.mul_comm 128 (n : Int), Int.mul_assoc, Int.mul_comm (2 ^ (7 * i)) 128]
          omega
        · rw [e1n] at hn
          have hm : (c % 128).toNat < 128 := by omega
          have h7 : n * (2 ^ (7 * i) * 128) = n * 128 * 2 ^ (7 * i) := by rw [Nat.mul_comm (2 ^ _), Nat.mul_assoc]
          rw [h7] at hn
          have e64 : 2 ^ 64 = 2 ^ (57 - 7 * i) * 128 * 2 ^ (7 * i) := by
            rw [show 128 = 2 ^ 7 from rfl, ← Nat.pow_add, ← Nat.pow_add]
            congr 1
            omega
          rw [e64] at hn ⊢
          have hq : n * 128 < 2 ^ (57 - 7 * i) * 128 := Nat.lt_of_mul_lt_mul_right hn
          exact Nat.mul_lt_mul_of_pos_right (by omega) (Nat.two_pow_pos _)
        · rw [hl]
          rw [vputF.eq_def (f + 1)]
          simp only
          rw [if_neg (by omega), show ((c % 128).toNat + 128 * n) / 128 = n from by omega, List.cons_append]
          congr 1
          omega
        · rw [he]
          rw [vputF.eq_def (f + 1)]
          simp only
          rw [if_neg (by omega), show ((c % 128).toNat + 128 * n) / 128 = n from by omega, List.length_cons]
          push_cast
          omega
      · exfalso
        rcases (go_late a t (i + 1) (acc + c % 128 * 2 ^ (7 * i)) 0 (by omega)).2 with h' | h' <;> rw [h'] at h <;> simp at h
    · rw [if_neg hgt] at h
      split at h
      · simp at h
      · rename_i hno
        simp only [Prod.mk.injEq, and_true] at h
        refine ⟨c.toNat, by rw [← h.1]; congr 2; omega, ?_, fun h0 => by omega, t, ?_, ?_⟩
        · have hs : i = 0 ∨ i = 1 ∨ i = 2 ∨ i = 3 ∨ i = 4 ∨ i = 5 ∨ i = 6 ∨ i = 7 ∨ i = 8 ∨ i = 9 := by omega
          rcases hs with rfl | rfl | rfl | rfl | rfl | rfl | rfl | rfl | rfl | rfl <;> simp only [Nat.reduceMul, Nat.reducePow] <;> omega
        · cases f with
          | zero => simp only [vputF, List.cons_append, List.nil_append]; congr 1; omega
          | succ f => rw [vputF, if_pos (by omega)]; simp only [List.cons_append, List.nil_append]; congr 1; omega
        · rw [← h.2]
          cases f with
          | zero => simp [vputF]
          | succ f => rw [vputF, if_pos (by omega)]; simp
theorem go_ok0 {a : Int} {l : List Int} {v e : Int} (hb : ∀ x ∈ l, 0 ≤ x ∧ x ≤ 255) (h : go a l 0 0 = (v, e, 0)) :
    0 ≤ v ∧ v ≤ 18446744073709551615 ∧ ∃ r, l = vput v ++ r ∧ e = a + (vput v).length := by
  obtain ⟨n, hv, hn, _, r, hl, he⟩ := go_ok a l 0 9 0 v e (by omega) hb h
  simp at hv hn
  subst hv
  exact ⟨by omega, by omega, r, by simpa [vput] using hl, by simpa [vput] using he⟩
/-- Each number has one writing. -/
theorem vput_inj {n m : Int} (h0 : 0 ≤ n) (h1 : n ≤ 18446744073709551615) (g0 : 0 ≤ m) (g1 : m ≤ 18446744073709551615) (h : vput n = vput m) : n = m := by
  have e1 := go_vput 0 [] h0 h1
  have e2 := go_vput 0 [] g0 g1
  rw [h, e2] at e1
  simpa using (congrArg Prod.fst e1).symm
/-- Numbers get no shorter as they grow. -/
theorem vputF_mono (f : Nat) : ∀ n m, n ≤ m → (vputF f n).length ≤ (vputF f m).length := by
  induction f with
  | zero => intro n m _; simp [vputF]
  | succ f ih =>
    intro n m h
    unfold vputF
    by_cases h1 : n ≤ 127
    · rw [if_pos h1]
      split <;> simp
    · rw [if_neg h1, if_neg (by omega)]
      have := ih (n / 128) (m / 128) (by omega)
      simp only [List.length_cons]
      omega
theorem vput_mono {n m : Int} (h : n ≤ m) : (vput n).length ≤ (vput m).length := vputF_mono 9 _ _ (by omega)
/-- What is got lies in the bytes. -/
theorem getI_ok {l : List Int} {a v e : Int} (hb : ∀ x ∈ l, 0 ≤ x ∧ x ≤ 255) (h : getI l a = (v, e, 0)) :
    0 ≤ a ∧ a ≤ l.length ∧ 0 ≤ v ∧ v ≤ 18446744073709551615 ∧ e = a + (vput v).length ∧ e ≤ l.length ∧ ∃ r, l.drop a.toNat = vput v ++ r ∧ l = l.take a.toNat ++ vput v ++ r := by
  unfold getI at h
  split at h
  · simp at h
  · rename_i hr
    obtain ⟨h0, h1, r, hl, he⟩ := go_ok0 (fun x hx => hb x (List.mem_of_mem_drop hx)) h
    have hlen : l.length - a.toNat = (vput v).length + r.length := by rw [← List.length_append, ← hl, List.length_drop]
    have := vput_len v
    refine ⟨by omega, by omega, h0, h1, he, by omega, r, hl, ?_⟩
    rw [List.append_assoc, ← hl, List.take_append_drop]
theorem getI_put {b r : List Int} {n : Int} (h0 : 0 ≤ n) (h1 : n ≤ 18446744073709551615) : getI (b ++ vput n ++ r) b.length = (n, (b.length : Int) + (vput n).length, 0) := by
  unfold getI
  rw [if_neg (by simp; omega), Int.toNat_natCast, List.append_assoc, List.drop_left, go_vput _ r h0 h1]
end Go.Proofs.Ytlhomdbkoniheaa.VPlain

/- What Get of chapter 1 comes to, whatever it is handed. -/
namespace Go.Proofs.Ytlhomdbkoniheaa.VGet
open Go.RowKit Go.Proofs.Ytlhomdbkoniheaa.PS Go.Proofs.YtlhomdbkoniheaaW.PrintWords Go.Proofs.YtlhomdbkoniheaaW.PrintLast Go.Proofs.Ytlhomdbkoniheaa.Base Go.Proofs.Ytlhomdbkoniheaa.VPlain
open Go.Proofs.YtlhomdbkoniheaaW.PrintMore

theorem acc_step {acc c : Int} {i : Nat} (hi : i ≤ 9) (h0 : 0 ≤ acc) (h1 : acc < 2 ^ (7 * i)) (c0 : 0 ≤ c) (c1 : c ≤ 255) (hs : i ≤ 8 ∨ c % 128 ≤ 1) :
    bits .or .u64 acc (shl .u64 (IntKind.u64.wrap (bits .and .u8 c 127)) (wrap64 (7 * (i : Int)))) = acc + (c % 128) * 2 ^ (7 * i) := by
  rw [and127 c0 c1, u64_id (n := c % 128) (by omega) (by omega), w64_id (by omega) (by omega)]
  have e7 : (7 * (i : Int)).toNat = 7 * i := by omega
  unfold shl
  rw [e7, show min (7 * i) IntKind.u64.bits = 7 * i from by show min (7 * i) 64 = _; omega]
  obtain ⟨a, rfl⟩ := Int.eq_ofNat_of_zero_le h0
  obtain ⟨m, hm⟩ := Int.eq_ofNat_of_zero_le (show 0 ≤ c % 128 by omega)
  have hm128 : m < 128 := by omega
  rw [hm]
  have ha : a < 2 ^ (7 * i) := by exact_mod_cast h1
  have hml : m * 2 ^ (7 * i) < 2 ^ 64 := by
    have e64 : 2 ^ 64 = 2 ^ (64 - 7 * i) * 2 ^ (7 * i) := by rw [← Nat.pow_add]; congr 1; omega
    rw [e64]
    refine Nat.mul_lt_mul_of_pos_right ?_ (Nat.two_pow_pos _)
    rcases hs with hs | hs
    · have : 2 ^ 8 ≤ 2 ^ (64 - 7 * i) := Nat.pow_le_pow_right (by decide) (by omega)
      omega
    · have : 2 ^ 1 ≤ 2 ^ (64 - 7 * i) := Nat.pow_le_pow_right (by decide) (by omega)
      omega
  have hal : a < 2 ^ 64 := Nat.lt_of_lt_of_le ha (Nat.pow_le_pow_right (by decide) (by omega))
  have ew : IntKind.u64.wrap ((m : Int) * 2 ^ (7 * i)) = ((m * 2 ^ (7 * i) : Nat) : Int) := by
    rw [show ((m : Int) * 2 ^ (7 * i)) = ((m * 2 ^ (7 * i) : Nat) : Int) from by rw [Int.natCast_mul, Int.natCast_pow]; rfl]
    exact u64_id (Int.natCast_nonneg _) (Int.ofNat_lt.2 hml)
  rw [ew, bits_or_nat .u64 rfl (a := a) (b := m * 2 ^ (7 * i)) hal hml, Nat.or_comm, Nat.mul_comm m, ← Nat.two_pow_add_eq_or_of_lt ha m, Int.natCast_add, Int.natCast_mul, Int.natCast_pow, Int.mul_comm (m : Int)]
  exact Int.add_comm _ _

/-- The loop behind ten bytes. -/
theorem get_late (a : Int) (l : List Int) (hl : l.length ≤ 140737488355328) (d : Nat) : ∀ (k i : Nat) (acc : Int) (fine : Bool), 10 ≤ i → i ≤ l.length → l.length - i = d → d < k →
    varint_Get.l0 k a acc fine l (l.length : Int) (i : Int) = some (go a (l.drop i) i 0) := by
  induction d with
  | zero =>
    intro k i acc fine h10 hi hd hk
    obtain ⟨k, rfl⟩ : ∃ m, k = m + 1 := ⟨k - 1, by omega⟩
    have : i = l.length := by omega
    subst this
    simp only [varint_Get.l0]
    rw [if_neg (by omega), List.drop_length]
    rfl
  | succ d ih =>
    intro k i acc fine h10 hi hd hk
    obtain ⟨k, rfl⟩ : ∃ m, k = m + 1 := ⟨k - 1, by omega⟩
    simp only [varint_Get.l0]
    rw [if_pos (show (i : Int) < l.length by omega), if_pos (show (0 : Int) ≤ i by omega), if_pos (show (i : Int) < l.length by omega), if_neg (show ¬ (i : Int) < 10 by omega)]
    rw [drop_rd (show i < l.length by omega), go]
    have hw : wrap64 ((i : Int) + 1) = ((i + 1 : Nat) : Int) := by rw [w64_id (by omega) (by omega)]; push_cast; rfl
    have h9 : ¬ (i : Int) < 9 := by omega
    have h9e : ¬ (i : Int) = 9 := by omega
    by_cases hc : rd l i > 127
    · simp only [if_pos hc, if_neg h9, if_neg h9e, hw]
      have e := fun f => ih k (i + 1) acc f (by omega) (by omega) (by omega) (by omega)
      rw [(go_late a (l.drop (i + 1)) (i + 1) (0 + rd l i % 128 * 2 ^ (7 * i)) 0 (by omega)).1]
      cases fine
      · rw [if_neg (by decide)]; exact e false
      · rw [if_pos rfl]; exact e false
    · simp only [if_neg hc, if_neg h9, if_neg h9e]
      rw [if_pos (show i > 9 ∨ (i = 9 ∧ rd l i > 1) ∨ (i > 0 ∧ rd l i = 0) from .inl (by omega))]
      cases fine
      · rw [if_neg (by decide)]
      · rw [if_pos rfl]

theorem get_loop (a : Int) (ha0 : 0 ≤ a) (ha1 : a ≤ 140737488355328) (l : List Int) (hl : l.length ≤ 140737488355328) (hb : ∀ x ∈ l, 0 ≤ x ∧ x ≤ 255) (d : Nat) : ∀ (k i : Nat) (acc : Int), i ≤ 9 → i ≤ l.length → l.length - i = d → d < k →
    0 ≤ acc → acc < 2 ^ (7 * i) → varint_Get.l0 k a acc true l (l.length : Int) (i : Int) = some (go a (l.drop i) i acc) := by
  induction d with
  | zero =>
    intro k i acc h9 hi hd hk h0 h1
    obtain ⟨k, rfl⟩ : ∃ m, k = m + 1 := ⟨k - 1, by omega⟩
    have : i = l.length := by omega
    subst this
    simp only [varint_Get.l0]
    rw [if_neg (by omega), List.drop_length]
    rfl
  | succ d ih =>
    intro k i acc h9 hi hd hk h0 h1
    obtain ⟨k, rfl⟩ : ∃ m, k = m + 1 := ⟨k - 1, by omega⟩
    have hlt : i < l.length := by omega
    have hc := hb _ (List.getElem_mem hlt)
    rw [← rd_nat hlt] at hc
    have hw : wrap64 ((i : Int) + 1) = ((i + 1 : Nat) : Int) := by rw [w64_id (by omega) (by omega)]; push_cast; rfl
    have he : wrap64 (wrap64 (a + (i : Int)) + 1) = a + i + 1 := by rw [w64_id (n := a + i) (by omega) (by omega), w64_id (by omega) (by omega)]
    have h7 : 0 ≤ wrap64 (7 * (i : Int)) := by rw [w64_id (by omega) (by omega)]; omega
    simp only [varint_Get.l0]
    rw [if_pos (show (i : Int) < l.length by omega), if_pos (show (0 : Int) ≤ i by omega), if_pos (show (i : Int) < l.length by omega), if_pos (show (i : Int) < 10 by omega), if_pos h7, if_pos trivial]
    rw [drop_rd hlt, go]
    have a127 : bits .and .u8 (rd l i) 127 = rd l i % 128 := and127 hc.1 hc.2
    by_cases hgt : rd l i > 127
    · simp only [if_pos hgt]
      by_cases h8 : i < 9
      · rw [if_pos (show (i : Int) < 9 by omega), acc_step h9 h0 h1 hc.1 hc.2 (.inl (by omega)), hw]
        refine ih k (i + 1) _ (by omega) (by omega) (by omega) (by omega) ?_ ?_
        · have : (0 : Int) ≤ rd l i % 128 * 2 ^ (7 * i) := Int.mul_nonneg (by omega) (Int.pow_nonneg (by decide))
          omega
        · rw [show 7 * (i + 1) = 7 * i + 7 from by omega, Int.pow_add]
          have : rd l i % 128 * 2 ^ (7 * i) ≤ 127 * 2 ^ (7 * i) := Int.mul_le_mul_of_nonneg_right (by omega) (Int.pow_nonneg (by decide))
          have e : (2 : Int) ^ (7 * i) * 2 ^ 7 = 128 * 2 ^ (7 * i) := by rw [Int.mul_comm]; rfl
          rw [e]
          omega
      · have : i = 9 := by omega
        subst this
        rw [if_neg (show ¬ ((9 : Nat) : Int) < 9 by decide), if_pos (show ((9 : Nat) : Int) = 9 from rfl), hw]
        rw [(go_late a (l.drop 10) 10 (acc + rd l ((9 : Nat) : Int) % 128 * 2 ^ (7 * 9)) 0 (by omega)).1]
        exact get_late a l hl d k 10 _ _ (by omega) (by omega) (by omega) (by omega)
    · simp only [if_neg hgt]
      have hm : rd l i % 128 = rd l i := by omega
      by_cases h8 : i < 9
      · rw [if_pos (show (i : Int) < 9 by omega), acc_step h9 h0 h1 hc.1 hc.2 (.inl (by omega)), he, hm]
        by_cases hp : i > 0
        · rw [if_pos (show (i : Int) > 0 by omega)]
          by_cases hz : rd l i = 0
          · rw [if_pos hz, if_pos (.inr (.inr ⟨hp, hz⟩))]
          · rw [if_neg hz, if_neg (by omega)]
        · rw [if_neg (show ¬ (i : Int) > 0 by omega), if_neg (by omega)]
      · have : i = 9 := by omega
        subst this
        rw [if_neg (show ¬ ((9 : Nat) : Int) < 9 by decide), if_pos (show ((9 : Nat) : Int) = 9 from rfl)]
        by_cases h2 : rd l ((9 : Nat) : Int) < 2
        · rw [acc_step (by omega) h0 h1 hc.1 hc.2 (.inr (by omega)), he, a127, hm, if_pos h2, if_pos (show ((9 : Nat) : Int) > 0 by decide)]
          by_cases hz : rd l ((9 : Nat) : Int) = 0
          · rw [if_pos hz, if_pos (.inr (.inr ⟨by decide, hz⟩))]
          · rw [if_neg hz, if_neg (by omega)]
        · rw [a127, hm, if_neg h2, if_pos (.inr (.inl ⟨rfl, by omega⟩))]
theorem get_f {l : List Int} (hl : l.length ≤ 140737488355328) (hb : ∀ x ∈ l, 0 ≤ x ∧ x ≤ 255) (a : Int) {k : Nat} (hk : l.length < k) : varint_Get.f k l a = some (getI l a) := by
  unfold varint_Get.f getI
  by_cases h0 : a < 0
  · rw [if_pos h0, if_pos (.inl h0)]
  · rw [if_neg h0]
    by_cases h1 : a > l.length
    · rw [if_pos h1, if_pos (.inr h1)]
    · rw [if_neg h1, if_pos (by omega), if_pos (by omega), if_neg (by omega)]
      have := get_loop a (by omega) (by omega) (l.drop a.toNat) (by rw [List.length_drop]; omega) (fun x hx => hb x (List.mem_of_mem_drop hx)) (l.drop a.toNat).length k 0 0 (by omega) (by omega) (by omega) (by rw [List.length_drop]; omega) (by omega) (by simp)
      simpa using this

end Go.Proofs.Ytlhomdbkoniheaa.VGet

/- What Put of chapter 1 comes to. -/
namespace Go.Proofs.Ytlhomdbkoniheaa.VPut
open Go.RowKit Go.Proofs.Ytlhomdbkoniheaa.PS Go.Proofs.YtlhomdbkoniheaaW.PrintWords Go.Proofs.YtlhomdbkoniheaaW.PrintLast Go.Proofs.Ytlhomdbkoniheaa.Base Go.Proofs.Ytlhomdbkoniheaa.VPlain
theorem put_loop (f : Nat) : ∀ (k n : Nat) (l : List Int), n < 128 ^ (f + 1) → f < k → l.length + f + 1 ≤ 140737488355328 → varint_Put.l0 k (n : Int) l = some (l ++ vputF f n) := by
  induction f with
  | zero =>
    intro k n l hn hk hl
    obtain ⟨k, rfl⟩ : ∃ m, k = m + 1 := ⟨k - 1, by omega⟩
    simp only [varint_Put.l0, vputF]
    rw [if_neg (by omega), if_pos (by omega), Int.emod_eq_of_lt (by omega) (by omega)]
  | succ f ih =>
    intro k n l hn hk hl
    obtain ⟨k, rfl⟩ : ∃ m, k = m + 1 := ⟨k - 1, by omega⟩
    simp only [varint_Put.l0]
    unfold vputF
    by_cases h : n ≤ 127
    · rw [if_neg (by omega), if_pos (by omega), if_pos h, Int.emod_eq_of_lt (by omega) (by omega)]
    · rw [if_pos (by omega), if_pos (by omega), if_neg h, or128 (by omega) (by omega)]
      have := ih k (n / 128) (l ++ [((n : Int) % 256) % 128 + 128]) (by rw [Nat.pow_succ] at hn; omega) (by omega) (by simp; omega)
      rw [show ((n : Int) / 128) = ((n / 128 : Nat) : Int) from by omega, this, List.append_assoc]
      congr 3
      simp
theorem put_f {l : List Int} (hl : l.length + 10 ≤ 140737488355328) {n : Int} (h0 : 0 ≤ n) (h1 : n ≤ 18446744073709551615) {k : Nat} (hk : 10 ≤ k) : varint_Put.f k l n = some (l ++ vput n) := by
  unfold varint_Put.f
  simp only [Option.bind_some, List.length_nil, List.nil_append]
  rw [if_pos (by omega)]
  obtain ⟨m, rfl⟩ := Int.eq_ofNat_of_zero_le h0
  have := put_loop 9 k m l (by omega) (by omega) (by omega)
  simpa [vput] using this

end Go.Proofs.Ytlhomdbkoniheaa.VPut

/- What GetText of chapter 1 comes to. -/
namespace Go.Proofs.Ytlhomdbkoniheaa.VText
open Go.RowKit Go.Proofs.Ytlhomdbkoniheaa.PS Go.Proofs.YtlhomdbkoniheaaW.PrintWords Go.Proofs.YtlhomdbkoniheaaW.PrintLast Go.Proofs.Ytlhomdbkoniheaa.Base Go.Proofs.Ytlhomdbkoniheaa.VPlain Go.Proofs.Ytlhomdbkoniheaa.VGet
open Go.Proofs.YtlhomdbkoniheaaW.PrintMore

def getT (l : List Int) (a most : Int) : ByteArray × Int × Int :=
  match getI l a with
  | (n, e, why) => if why = 0 then (if n > max most 0 then (⟨#[]⟩, 0, 3) else if n > l.length - e then (⟨#[]⟩, 0, 10) else (strOfNums ((l.take (e + n).toNat).drop e.toNat), e + n, 0)) else (⟨#[]⟩, 0, why)
theorem getText_f {l : List Int} (hl : l.length ≤ 140737488355328) (hb : ∀ x ∈ l, 0 ≤ x ∧ x ≤ 255) (a : Int) {most : Int} (m0 : -9223372036854775808 ≤ most) (m1 : most ≤ 9223372036854775807) {k : Nat} (hk : l.length < k) :
    varint_GetText.f k l a most = some (getT l a most) := by
  unfold varint_GetText.f getT
  rw [get_f hl hb a hk]
  simp only [Option.bind_some]
  obtain ⟨n, e, why, hg⟩ : ∃ n e why, getI l a = (n, e, why) := ⟨_, _, _, rfl⟩
  rw [hg]
  simp only
  by_cases hw : why = 0
  · subst hw
    obtain ⟨h0, h1, h2, h3, h4, h5, r, h6, _⟩ := getI_ok hb hg
    have hvl := vput_len n
    have emx : IntKind.u64.wrap (mx most 0) = max most 0 := by rw [u64_id] <;> unfold mx <;> split <;> omega
    have elen : IntKind.u64.wrap (wrap64 ((l.length : Int) - e)) = l.length - e := by rw [w64_id (by omega) (by omega), u64_id (by omega) (by omega)]
    rw [if_pos rfl, if_pos rfl, emx, elen]
    by_cases c1 : n > max most 0
    · rw [if_pos c1, if_pos c1]
    · rw [if_neg c1, if_neg c1]
      by_cases c2 : n > l.length - e
      · rw [if_pos c2, if_pos c2]
      · rw [if_neg c2, if_neg c2, w64_id (n := n) (by omega) (by omega), w64_id (n := e + n) (by omega) (by omega), if_pos (by omega), if_pos (by omega), if_pos (by omega)]
  · rw [if_neg hw, if_neg hw]
end Go.Proofs.Ytlhomdbkoniheaa.VText

/- What PutText of chapter 1 comes to. -/
namespace Go.Proofs.Ytlhomdbkoniheaa.VPText
open Go.RowKit Go.Proofs.Ytlhomdbkoniheaa.PS Go.Proofs.YtlhomdbkoniheaaW.PrintWords Go.Proofs.YtlhomdbkoniheaaW.PrintLast Go.Proofs.Ytlhomdbkoniheaa.Base Go.Proofs.Ytlhomdbkoniheaa.VPlain Go.Proofs.Ytlhomdbkoniheaa.VPut
theorem putText_f {l : List Int} {s : ByteArray} (hl : l.length + 10 + s.size < 140737488355328) {k : Nat} (hk : 10 ≤ k) : varint_PutText.f k l s = some (l ++ vput s.size ++ bytesOf s) := by
  unfold varint_PutText.f
  have := vput_len (s.size : Int)
  rw [u64_id (by omega) (by omega), put_f (by omega) (by omega) (by omega) hk]
  simp only [Option.bind_some, List.length_append]
  rw [if_pos (by omega)]
end Go.Proofs.Ytlhomdbkoniheaa.VPText

/- What Zig and Zag come to. -/
namespace Go.Proofs.Ytlhomdbkoniheaa.Zigs
open Go.RowKit Go.Proofs.Ytlhomdbkoniheaa.PS Go.Proofs.YtlhomdbkoniheaaW.PrintWords Go.Proofs.YtlhomdbkoniheaaW.PrintLast Go.Proofs.Ytlhomdbkoniheaa.Base
def zigI (a : Int) : Int := if 0 ≤ a then 2 * a else -2 * a - 1
def zagI (n : Int) : Int := if n % 2 = 0 then n / 2 else -(n / 2) - 1

theorem zig_f {a : Int} (h0 : -9223372036854775808 ≤ a) (h1 : a ≤ 9223372036854775807) : varint_Zig.f a = some (zigI a) := by
  unfold varint_Zig.f zigI
  congr 1
  by_cases h : 0 ≤ a
  · rw [if_pos h, show a / 9223372036854775808 = 0 from by omega, show IntKind.u64.wrap 0 = 0 from rfl, u64_id h (by omega), u64_id (n := a * 2) (by omega) (by omega), xor_u64_zero (by omega) (by omega)]
    omega
  · rw [if_neg h, show a / 9223372036854775808 = -1 from by omega, show IntKind.u64.wrap (-1) = 18446744073709551615 from rfl, xor_u64_ones (by rw [u64_wrap]; omega) (by rw [u64_wrap]; omega), u64_wrap, u64_wrap]
    omega
theorem zag_f {n : Int} (h0 : 0 ≤ n) (h1 : n ≤ 18446744073709551615) : varint_Zag.f n = some (zagI n) := by
  unfold varint_Zag.f zagI
  congr 1
  rw [and1_u64 h0 (by omega), w64_id (n := n / 2) (by omega) (by omega), w64_id (n := n % 2) (by omega) (by omega)]
  by_cases h : n % 2 = 0
  · rw [if_pos h, h, show wrap64 (-0) = 0 from by unfold wrap64; omega, xor_i64_zero (by omega) (by omega)]
  · rw [if_neg h, show n % 2 = 1 from by omega, show wrap64 (-1) = -1 from by unfold wrap64; omega, xor_i64_neg (by omega) (by omega)]
theorem zig_range {a : Int} (h0 : -9223372036854775808 ≤ a) (h1 : a ≤ 9223372036854775807) : 0 ≤ zigI a ∧ zigI a ≤ 18446744073709551615 := by unfold zigI; split <;> omega
theorem zag_range {n : Int} (h0 : 0 ≤ n) (h1 : n ≤ 18446744073709551615) : -9223372036854775808 ≤ zagI n ∧ zagI n ≤ 9223372036854775807 := by unfold zagI; split <;> omega
theorem zag_zig (a : Int) : zagI (zigI a) = a := by unfold zagI zigI; split <;> split at * <;> omega
theorem zig_zag {n : Int} (h0 : 0 ≤ n) : zigI (zagI n) = n := by unfold zagI zigI; split <;> split at * <;> omega
end Go.Proofs.Ytlhomdbkoniheaa.Zigs

/- The document's own Zig, Zag, Put and Get come to the same. -/
namespace Go.Proofs.Ytlhomdbkoniheaa.Ref1
open Go.RowKit Go.Proofs.Ytlhomdbkoniheaa.PS Go.Proofs.YtlhomdbkoniheaaW.PrintWords Go.Proofs.YtlhomdbkoniheaaW.PrintLast Go.Proofs.Ytlhomdbkoniheaa.Base Go.Proofs.Ytlhomdbkoniheaa.VPlain Go.Proofs.Ytlhomdbkoniheaa.Zigs Go.Proofs.Ytlhomdbkoniheaa.VGet
open Go.Proofs.YtlhomdbkoniheaaW.PrintMore
theorem rzig_f {a : Int} (h0 : -9223372036854775808 ≤ a) (h1 : a ≤ 9223372036854775807) : columbariumref1_Zig.f a = some (zigI a) := by
  unfold columbariumref1_Zig.f zigI
  by_cases h : a < 0
  · rw [if_pos h, if_neg (by omega), w64_id (n := a + 1) (by omega) (by omega), w64_id (n := -(a + 1)) (by omega) (by omega), u64_id (n := -(a + 1)) (by omega) (by omega), u64_id (n := 2 * -(a + 1)) (by omega) (by omega), u64_id (by omega) (by omega)]
    congr 1
    omega
  · rw [if_neg h, if_pos (by omega), u64_id (n := a) (by omega) (by omega), u64_id (by omega) (by omega)]
theorem rzag_f {n : Int} (h0 : 0 ≤ n) (h1 : n ≤ 18446744073709551615) : columbariumref1_Zag.f n = some (zagI n) := by
  unfold columbariumref1_Zag.f zagI
  rw [Int.tmod_eq_emod_of_nonneg h0, Int.tdiv_eq_ediv_of_nonneg h0, u64_id (n := n / 2) (by omega) (by omega), w64_id (n := n / 2) (by omega) (by omega), w64_id (n := -(n / 2)) (by omega) (by omega), w64_id (n := -(n / 2) - 1) (by omega) (by omega)]
  by_cases h : n % 2 = 0
  · rw [if_neg (by omega), if_pos h]
  · rw [if_pos (by omega), if_neg h]
theorem rput_loop (f : Nat) : ∀ (k n : Nat) (l : List Int), n < 128 ^ (f + 1) → n < 2 ^ 64 → f < k → l.length + f + 1 ≤ 140737488355328 → columbariumref1_Put.l0 k (n : Int) l = some (l ++ vputF f n) := by
  induction f with
  | zero =>
    intro k n l hn h64 hk hl
    obtain ⟨k, rfl⟩ : ∃ m, k = m + 1 := ⟨k - 1, by omega⟩
    rw [columbariumref1_Put.l0, vputF, if_neg (by omega), if_pos (by omega), Int.emod_eq_of_lt (by omega) (by omega)]
  | succ f ih =>
    intro k n l hn h64 hk hl
    obtain ⟨k, rfl⟩ : ∃ m, k = m + 1 := ⟨k - 1, by omega⟩
    rw [columbariumref1_Put.l0]
    unfold vputF
    by_cases h : n ≤ 127
    · rw [if_neg (by omega), if_pos (by omega), if_pos h, Int.emod_eq_of_lt (by omega) (by omega)]
    · have e1 : IntKind.u64.wrap (Int.tdiv (n : Int) 128) = ((n / 128 : Nat) : Int) := by rw [Int.tdiv_eq_ediv_of_nonneg (by omega), u64_id (by omega) (by omega)]; omega
      have e2 : (Int.tmod (n : Int) 128 + 128) % 256 = ((n % 128 + 128 : Nat) : Int) := by rw [Int.tmod_eq_emod_of_nonneg (by omega)]; omega
      rw [if_pos (by omega), if_pos (by omega), if_neg h, e1, e2, ih k (n / 128) _ (by rw [Nat.pow_succ] at hn; omega) (by omega) (by omega) (by rw [List.length_append, List.length_singleton]; omega), List.append_assoc]
      rfl
theorem rput_f {l : List Int} (hl : l.length + 10 ≤ 140737488355328) {n : Int} (h0 : 0 ≤ n) (h1 : n ≤ 18446744073709551615) {k : Nat} (hk : 10 ≤ k) : columbariumref1_Put.f k l n = some (l ++ vput n) := by
  unfold columbariumref1_Put.f
  rw [Option.bind_some, List.length_nil, if_pos (by omega), List.nil_append]
  obtain ⟨m, rfl⟩ := Int.eq_ofNat_of_zero_le h0
  have := rput_loop 9 k m l (by omega) (by omega) (by omega) (by omega)
  simpa [vput] using this
/-- What has been read when n bytes are. -/
def accN (l : List Int) (a : Nat) : Nat → Int
  | 0 => 0
  | n + 1 => accN l a n + rd l ((a + n : Nat) : Int) % 128 * 2 ^ (7 * n)
theorem accN_bound {l : List Int} {a : Nat} : ∀ n, 0 ≤ accN l a n ∧ accN l a n < 2 ^ (7 * n) := by
  intro n
  induction n with
  | zero => exact ⟨Int.le_refl _, by simp [accN]⟩
  | succ n ih =>
    rw [accN, show 7 * (n + 1) = 7 * n + 7 from by omega, Int.pow_add]
    have h0 : (0 : Int) < 2 ^ (7 * n) := Int.pow_pos (by decide)
    have h1 : (0 : Int) ≤ rd l ((a + n : Nat) : Int) % 128 * 2 ^ (7 * n) := Int.mul_nonneg (by omega) (by omega)
    have h2 : rd l ((a + n : Nat) : Int) % 128 * 2 ^ (7 * n) ≤ 127 * 2 ^ (7 * n) := Int.mul_le_mul_of_nonneg_right (by omega) (by omega)
    have e : (2 : Int) ^ (7 * n) * 2 ^ 7 = 128 * 2 ^ (7 * n) := by rw [Int.mul_comm]; rfl
    rw [e]
    omega
theorem rget_l1 {l : List Int} (hl : l.length ≤ 140737488355328) (hb : ∀ x ∈ l, 0 ≤ x ∧ x ≤ 255) {a n : Nat} (hn : n ≤ 10) (han : a + n ≤ l.length) (h10 : n = 10 → rd l ((a + 9 : Nat) : Int) ≤ 1) (x7 : Int) (d : Nat) : ∀ (k j : Nat), j ≤ n → n - j = d → d < k →
    columbariumref1_Get.l1 k l (a : Int) x7 (n : Int) (accN l a j) (j : Int) = some (accN l a n, wrap64 (x7 + 1), 0) := by
  induction d with
  | zero =>
    intro k j hj hd hk
    obtain ⟨k, rfl⟩ : ∃ m, k = m + 1 := ⟨k - 1, by omega⟩
    have : j = n := by omega
    subst this
    rw [columbariumref1_Get.l1, if_neg (by omega)]
  | succ d ih =>
    intro k j hj hd hk
    obtain ⟨k, rfl⟩ : ∃ m, k = m + 1 := ⟨k - 1, by omega⟩
    have hlt : a + j < l.length := by omega
    have hc := hb _ (List.getElem_mem hlt)
    rw [← rd_nat hlt] at hc
    have hw : wrap64 ((a : Int) + (j : Int)) = ((a + j : Nat) : Int) := by rw [w64_id (by omega) (by omega)]; omega
    have h7 : IntKind.u64.wrap (wrap64 (7 * (j : Int))) = wrap64 (7 * (j : Int)) := by rw [w64_id (by omega) (by omega), u64_id (by omega) (by omega)]
    have h70 : 0 ≤ wrap64 (7 * (j : Int)) := by rw [w64_id (by omega) (by omega)]; omega
    have hbd := accN_bound (l := l) (a := a) j
    have hs : j ≤ 8 ∨ rd l ((a + j : Nat) : Int) % 128 ≤ 1 := by
      by_cases h : j ≤ 8
      · exact .inl h
      · have : j = 9 := by omega
        subst this
        have := h10 (by omega)
        exact .inr (by omega)
    rw [columbariumref1_Get.l1, if_pos (by omega), hw, if_pos (by omega), if_pos (by omega), h7, if_pos h70, acc_step (by omega) hbd.1 hbd.2 hc.1 hc.2 hs,
      show wrap64 ((j : Int) + 1) = ((j + 1 : Nat) : Int) from by rw [w64_id (by omega) (by omega)]; push_cast; rfl]
    exact ih k (j + 1) (by omega) (by omega) (by omega)
theorem rget_end {l : List Int} (hl : l.length ≤ 140737488355328) (hb : ∀ x ∈ l, 0 ≤ x ∧ x ≤ 255) {a i : Nat} (hlt : a + i < l.length) (hc : ¬ rd l ((a + i : Nat) : Int) ≥ 128) {k : Nat} (hk : 20 ≤ k) :
    columbariumref1_Get.j2 k l (a : Int) ((a + i : Nat) : Int) = some (go a (l.drop (a + i)) i (accN l a i)) := by
  obtain ⟨k, rfl⟩ : ∃ m, k = m + 2 := ⟨k - 2, by omega⟩
  have hcb := hb _ (List.getElem_mem hlt)
  rw [← rd_nat hlt] at hcb
  have e1 : wrap64 (wrap64 (((a + i : Nat) : Int) + 1) - (a : Int)) = ((i + 1 : Nat) : Int) := by rw [w64_id (n := ((a + i : Nat) : Int) + 1) (by omega) (by omega), w64_id (by omega) (by omega)]; omega
  rw [columbariumref1_Get.j2, if_neg (by omega), e1, drop_rd hlt, go, if_neg (show ¬ rd l ((a + i : Nat) : Int) > 127 by omega)]
  have bad : columbariumref1_Get.j3 (k + 1) l (a : Int) ((a + i : Nat) : Int) ((i + 1 : Nat) : Int) true = some (0, 0, 12) := by rw [columbariumref1_Get.j3, if_pos rfl]
  have good : i ≤ 9 → (i = 9 → rd l ((a + i : Nat) : Int) ≤ 1) → columbariumref1_Get.j3 (k + 1) l (a : Int) ((a + i : Nat) : Int) ((i + 1 : Nat) : Int) false = some (accN l a i + rd l ((a + i : Nat) : Int) * 2 ^ (7 * i), (a : Int) + i + 1, 0) := by
    intro h9 h1
    have h10 : i + 1 = 10 → rd l ((a + 9 : Nat) : Int) ≤ 1 := by
      intro h
      have e : i = 9 := by omega
      subst e
      exact h1 rfl
    have := rget_l1 hl hb (a := a) (n := i + 1) (by omega) (by omega) h10 ((a + i : Nat) : Int) (i + 1) k 0 (by omega) (by omega) (by omega)
    rw [columbariumref1_Get.j3, if_neg (by decide)]
    refine this.trans ?_
    rw [accN, w64_id (by omega) (by omega), show rd l ((a + i : Nat) : Int) % 128 = rd l ((a + i : Nat) : Int) from by omega]
    congr 3
  by_cases h10 : ((i + 1 : Nat) : Int) > 10
  · rw [if_pos h10, bad, if_pos (.inl (by omega))]
  · rw [if_neg h10]
    by_cases h9 : ((i + 1 : Nat) : Int) = 10
    · rw [if_pos h9, if_pos (by omega), if_pos (by omega)]
      by_cases h1 : rd l ((a + i : Nat) : Int) > 1
      · rw [if_pos h1, bad, if_pos (.inr (.inl ⟨by omega, h1⟩))]
      · rw [if_neg h1, if_pos (by omega)]
        by_cases h0 : rd l ((a + i : Nat) : Int) = 0
        · rw [show (rd l ((a + i : Nat) : Int) == 0) = true from by simpa using h0, bad, if_pos (.inr (.inr ⟨by omega, h0⟩))]
        · rw [show (rd l ((a + i : Nat) : Int) == 0) = false from by simpa using h0, good (by omega) (fun _ => by omega), if_neg (by omega)]
    · rw [if_neg h9]
      by_cases hi : ((i + 1 : Nat) : Int) > 1
      · rw [if_pos hi, if_pos (by omega), if_pos (by omega)]
        by_cases h0 : rd l ((a + i : Nat) : Int) = 0
        · rw [show (rd l ((a + i : Nat) : Int) == 0) = true from by simpa using h0, bad, if_pos (.inr (.inr ⟨by omega, h0⟩))]
        · rw [show (rd l ((a + i : Nat) : Int) == 0) = false from by simpa using h0, good (by omega) (fun h => by omega), if_neg (by omega)]
      · rw [if_neg hi, good (by omega) (fun h => by omega), if_neg (by omega)]
theorem rget_l0 {l : List Int} (hl : l.length ≤ 140737488355328) (hb : ∀ x ∈ l, 0 ≤ x ∧ x ≤ 255) {a : Nat} (d : Nat) : ∀ (k i : Nat), a + i ≤ l.length → l.length - (a + i) = d → d + 30 < k →
    columbariumref1_Get.l0 k l (a : Int) ((a + i : Nat) : Int) = some (go a (l.drop (a + i)) i (accN l a i)) := by
  induction d with
  | zero =>
    intro k i hi hd hk
    obtain ⟨k, rfl⟩ : ∃ m, k = m + 2 := ⟨k - 2, by omega⟩
    rw [columbariumref1_Get.l0, if_neg (by omega), columbariumref1_Get.j2, if_pos (by omega), List.drop_eq_nil_of_le (by omega)]
    rfl
  | succ d ih =>
    intro k i hi hd hk
    obtain ⟨k, rfl⟩ : ∃ m, k = m + 1 := ⟨k - 1, by omega⟩
    have hlt : a + i < l.length := by omega
    rw [columbariumref1_Get.l0, if_pos (by omega), if_pos (by omega)]
    by_cases hc : rd l ((a + i : Nat) : Int) ≥ 128
    · rw [if_pos hc, show wrap64 (((a + i : Nat) : Int) + 1) = ((a + (i + 1) : Nat) : Int) from by rw [w64_id (by omega) (by omega)]; omega, ih k (i + 1) (by omega) (by omega) (by omega)]
      rw [drop_rd hlt, go, if_pos (by omega), accN]
      rfl
    · rw [if_neg hc]
      exact rget_end hl hb hlt hc (by omega)
theorem rget_f {l : List Int} (hl : l.length ≤ 140737488355328) (hb : ∀ x ∈ l, 0 ≤ x ∧ x ≤ 255) (a : Int) {k : Nat} (hk : l.length + 40 < k) : columbariumref1_Get.f k l a = some (getI l a) := by
  obtain ⟨k, rfl⟩ : ∃ m, k = m + 1 := ⟨k - 1, by omega⟩
  unfold columbariumref1_Get.f getI
  by_cases h0 : a < 0
  · rw [if_pos h0, if_pos (.inl h0), columbariumref1_Get.j0, if_pos rfl]
  · rw [if_neg h0]
    by_cases h1 : a > l.length
    · rw [if_pos (.inr h1), columbariumref1_Get.j0, if_pos (by simpa using h1)]
    · obtain ⟨a, rfl⟩ := Int.eq_ofNat_of_zero_le (show 0 ≤ a by omega)
      rw [if_neg (by omega), columbariumref1_Get.j0, if_neg (by simpa using h1), Int.toNat_natCast]
      exact rget_l0 hl hb (l.length - a) k 0 (by omega) (by omega) (by omega)
end Go.Proofs.Ytlhomdbkoniheaa.Ref1

/- The document's own GetText and PutText come to the same as the program's. -/
namespace Go.Proofs.Ytlhomdbkoniheaa.RText
open Go.RowKit Go.Proofs.Ytlhomdbkoniheaa.PS Go.Proofs.YtlhomdbkoniheaaW.PrintWords Go.Proofs.YtlhomdbkoniheaaW.PrintLast Go.Proofs.Ytlhomdbkoniheaa.Base Go.Proofs.Ytlhomdbkoniheaa.VPlain Go.Proofs.Ytlhomdbkoniheaa.VGet Go.Proofs.Ytlhomdbkoniheaa.VText Go.Proofs.Ytlhomdbkoniheaa.Ref1
theorem rgetText_f {l : List Int} (hl : l.length ≤ 140737488355328) (hb : ∀ x ∈ l, 0 ≤ x ∧ x ≤ 255) (a : Int) {most : Int} (m0 : -9223372036854775808 ≤ most) (m1 : most ≤ 9223372036854775807) {k : Nat} (hk : l.length + 50 < k) :
    columbariumref1_GetText.f k l a most = some (getT l a most) := by
  obtain ⟨k, rfl⟩ : ∃ m, k = m + 1 := ⟨k - 1, by omega⟩
  unfold columbariumref1_GetText.f getT
  rw [rget_f hl hb a (by omega), Option.bind_some]
  obtain ⟨n, e, why, hg⟩ : ∃ n e why, getI l a = (n, e, why) := ⟨_, _, _, rfl⟩
  rw [hg]
  show (if why = 0 then (if most < 0 then columbariumref1_GetText.j0 (k + 1) l 0 n e else columbariumref1_GetText.j0 (k + 1) l most n e) else some ((⟨#[]⟩ : ByteArray), 0, why)) = _
  by_cases hw : why = 0
  · subst hw
    obtain ⟨h0, h1, h2, h3, h4, h5, r, h6, _⟩ := getI_ok hb hg
    have hvl := vput_len n
    have key : ∀ m : Int, 0 ≤ m → m ≤ 9223372036854775807 → max most 0 = m → columbariumref1_GetText.j0 (k + 1) l m n e =
        some (if n > max most 0 then ((⟨#[]⟩ : ByteArray), (0 : Int), (3 : Int)) else if n > l.length - e then (⟨#[]⟩, 0, 10) else (strOfNums ((l.take (e + n).toNat).drop e.toNat), e + n, 0)) := by
      intro m g0 g1 em
      have elen : IntKind.u64.wrap (wrap64 ((l.length : Int) - e)) = l.length - e := by rw [w64_id (by omega) (by omega), u64_id (by omega) (by omega)]
      rw [columbariumref1_GetText.j0, u64_id g0 (by omega), elen, em]
      by_cases c1 : n > m
      · rw [if_pos c1, if_pos c1]
      · rw [if_neg c1, if_neg c1]
        by_cases c2 : n > l.length - e
        · rw [if_pos (by omega), if_pos c2]
        · rw [if_neg (by omega), if_neg c2, w64_id (n := n) (by omega) (by omega), w64_id (n := e + n) (by omega) (by omega), if_pos (by omega), if_pos (by omega), if_pos (by omega)]
    rw [if_pos rfl]
    by_cases hneg : most < 0
    · rw [if_pos hneg, key 0 (by omega) (by omega) (by omega)]
      rfl
    · rw [if_neg hneg, key most (by omega) (by omega) (by omega)]
      rfl
  · rw [if_neg hw]
    show some _ = some (if why = 0 then _ else _)
    rw [if_neg hw]
theorem rputText_f {l : List Int} {s : ByteArray} (hl : l.length + 10 + s.size < 140737488355328) {k : Nat} (hk : 10 ≤ k) : columbariumref1_PutText.f k l s = some (l ++ vput s.size ++ bytesOf s) := by
  unfold columbariumref1_PutText.f
  have := vput_len (s.size : Int)
  rw [u64_id (by omega) (by omega), rput_f (by omega) (by omega) (by omega) hk, Option.bind_some, if_pos (by rw [List.length_append]; omega)]
end Go.Proofs.Ytlhomdbkoniheaa.RText

/- What the statements' own book of memory comes to: a list with room behind it, and that it is as it was. -/
namespace Go.Proofs.Ytlhomdbkoniheaa.Book
open Go.RowKit Go.Proofs.Ytlhomdbkoniheaa.PS Go.Proofs.YtlhomdbkoniheaaW.PrintWords Go.Proofs.YtlhomdbkoniheaaW.PrintLast Go.Proofs.Ytlhomdbkoniheaa.Base

theorem roomy_loop (l : List Int) (m : Int) (n : Nat) (hn : n ≤ 140737488355328) (d : Nat) : ∀ (k i : Nat), i ≤ n → n - i = d → d < k →
    columbariumbook_Roomy_byte.l0 k m (l ++ List.replicate i m ++ List.replicate (n - i) 0) ((l.length + i : Nat) : Int) = some (l ++ List.replicate n m) ∨ ¬ l.length ≤ 140737488355328 := by
  induction d with
  | zero =>
    intro k i hi hd hk
    obtain ⟨k, rfl⟩ : ∃ m, k = m + 1 := ⟨k - 1, by omega⟩
    have : i = n := by omega
    subst this
    rw [columbariumbook_Roomy_byte.l0, if_neg (by simp), Nat.sub_self, List.replicate_zero, List.append_nil]
    exact .inl rfl
  | succ d ih =>
    intro k i hi hd hk
    obtain ⟨k, rfl⟩ : ∃ m, k = m + 1 := ⟨k - 1, by omega⟩
    by_cases hl : l.length ≤ 140737488355328
    · have hw : wrap64 (((l.length + i : Nat) : Int) + 1) = ((l.length + (i + 1) : Nat) : Int) := by rw [w64_id (by omega) (by omega)]; omega
      have hs : (l ++ List.replicate i m ++ List.replicate (n - i) 0).set (l.length + i) m = l ++ List.replicate (i + 1) m ++ List.replicate (n - (i + 1)) 0 := by
        rw [List.set_append, if_neg (by simp)]
        obtain ⟨q, hq⟩ : ∃ q, n - i = q + 1 := ⟨n - i - 1, by omega⟩
        rw [hq, show n - (i + 1) = q from by omega, show l.length + i - (l ++ List.replicate i m).length = 0 from by simp, List.replicate_succ, List.set_cons_zero, List.append_assoc, List.append_assoc, List.replicate_succ', List.append_assoc]
        rfl
      rw [columbariumbook_Roomy_byte.l0, if_pos (by simp; omega), if_pos (by omega), hw, Int.toNat_natCast, hs]
      exact ih k (i + 1) (by omega) (by omega) (by omega)
    · exact .inr hl
theorem roomy_f {l : List Int} (hl : l.length ≤ 140737488355000) (m : Int) {k : Nat} (hk : 81 ≤ k) : columbariumbook_Roomy_byte.f k l m = some (l ++ List.replicate 80 m) := by
  unfold columbariumbook_Roomy_byte.f
  have e : wrap64 ((l.length : Int) + 80) = ((l.length + 80 : Nat) : Int) := by rw [w64_id (by omega) (by omega)]; omega
  rw [e, if_pos (by omega), Int.toNat_natCast, if_pos (by omega), Option.bind_some, List.length_replicate, List.take_of_length_le (by omega), List.drop_replicate, Nat.add_sub_cancel_left]
  have := roomy_loop l m 80 (by omega) 80 k 0 (by omega) (by omega) (by omega)
  rcases this with h | h
  · simpa using h
  · omega
theorem same_loop (l : List Int) (hl : l.length ≤ 140737488355328) (d : Nat) : ∀ (k i : Nat), i ≤ l.length → l.length - i = d → d < k → columbariumbook_Same_byte.l0 k l l (i : Int) = some true := by
  induction d with
  | zero =>
    intro k i hi hd hk
    obtain ⟨k, rfl⟩ : ∃ m, k = m + 1 := ⟨k - 1, by omega⟩
    rw [columbariumbook_Same_byte.l0, if_neg (by omega)]
  | succ d ih =>
    intro k i hi hd hk
    obtain ⟨k, rfl⟩ : ∃ m, k = m + 1 := ⟨k - 1, by omega⟩
    rw [columbariumbook_Same_byte.l0, if_pos (by omega), if_pos (by omega), if_pos (by omega), if_pos rfl, show wrap64 ((i : Int) + 1) = ((i + 1 : Nat) : Int) from by rw [w64_id (by omega) (by omega)]; push_cast; rfl]
    exact ih k (i + 1) (by omega) (by omega) (by omega)
theorem same_f {l : List Int} (hl : l.length ≤ 140737488355328) {k : Nat} (hk : l.length < k) : columbariumbook_Same_byte.f k l l = some true := by
  unfold columbariumbook_Same_byte.f
  rw [if_pos rfl]
  exact same_loop l hl l.length k 0 (by omega) (by omega) (by omega)
theorem intact_loop (l : List Int) (m : Int) (hl : l.length ≤ 140737488355000) (d : Nat) : ∀ (k i : Nat), i ≤ 80 → 80 - i = d → d < k → columbariumbook_Intact_byte.l0 k (l ++ List.replicate 80 m) m ((l.length + i : Nat) : Int) = some true := by
  induction d with
  | zero =>
    intro k i hi hd hk
    obtain ⟨k, rfl⟩ : ∃ m, k = m + 1 := ⟨k - 1, by omega⟩
    rw [columbariumbook_Intact_byte.l0, if_neg (by simp; omega)]
  | succ d ih =>
    intro k i hi hd hk
    obtain ⟨k, rfl⟩ : ∃ m, k = m + 1 := ⟨k - 1, by omega⟩
    have hr : rd (l ++ List.replicate 80 m) ((l.length + i : Nat) : Int) = m := by
      rw [rd_nat (by simp; omega), List.getElem_append_right (by omega), List.getElem_replicate]
    rw [columbariumbook_Intact_byte.l0, if_pos (by simp; omega), if_pos (by omega), if_pos hr, show wrap64 (((l.length + i : Nat) : Int) + 1) = ((l.length + (i + 1) : Nat) : Int) from by rw [w64_id (by omega) (by omega)]; omega]
    exact ih k (i + 1) (by omega) (by omega) (by omega)
theorem intact_f {l : List Int} (hl : l.length ≤ 140737488355000) (m : Int) {k : Nat} (hk : l.length + 100 < k) : columbariumbook_Intact_byte.f k (l ++ List.replicate 80 m) l m = some true := by
  unfold columbariumbook_Intact_byte.f
  obtain ⟨k, rfl⟩ : ∃ m, k = m + 1 := ⟨k - 1, by omega⟩
  have e : wrap64 ((l.length : Int) + 80) = ((l.length + 80 : Nat) : Int) := by rw [w64_id (by omega) (by omega)]; omega
  rw [e, if_pos (by simp), if_pos (by omega), if_pos (by simp; omega), Int.toNat_natCast, List.take_left, same_f (by omega) (by omega), Option.bind_some, columbariumbook_Intact_byte.j0, if_neg (by decide)]
  exact intact_loop l m hl 80 k 0 (by omega) (by omega) (by omega)
end Go.Proofs.Ytlhomdbkoniheaa.Book

/- Some of chapter 1's runs. -/
namespace Go.Proofs.Ytlhomdbkoniheaa.VKnown
open Go.RowKit Go.Proofs.Ytlhomdbkoniheaa.PS Go.Proofs.YtlhomdbkoniheaaW.PrintWords Go.Proofs.YtlhomdbkoniheaaW.PrintLast
theorem known_f {k : Nat} (hk : 30 ≤ k) : columbariumlaw1_known.f k = some true :=
  at_rounds columbariumlaw1_known.mono hk (by decide +kernel)
end Go.Proofs.Ytlhomdbkoniheaa.VKnown
