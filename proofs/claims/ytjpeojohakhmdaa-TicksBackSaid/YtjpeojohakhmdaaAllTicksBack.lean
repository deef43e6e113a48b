/- My plain texts of this seat, one behind the other. -/
import Derived.Laws.BitsLemmas
import Derived.RowKit
import Derived.Test.YtjpeojohakhmdaaWWords
import Derived.Test.YtjpeojohakhmdaaPSvarintGet
import Derived.Test.YtjpeojohakhmdaaPSvarintPut
import Derived.Test.YtjpeojohakhmdaaPSvarintZig
import Derived.Test.YtjpeojohakhmdaaPSvarintZag
import Derived.Test.YtjpeojohakhmdaaPScolumbariumbookWithin
import Derived.Test.YtjpeojohakhmdaaPSdeltaEncode
import Derived.Test.YtjpeojohakhmdaaPSdeltaDecode
import Derived.Test.YtjpeojohakhmdaaPSvarintGetZag
import Derived.Test.YtjpeojohakhmdaaPScolumbariumbookSameint64
import Derived.Test.YtjpeojohakhmdaaPSticksBuild
import Derived.Test.YtjpeojohakhmdaaPSticksSpan
import Derived.Test.YtjpeojohakhmdaaPScolumbariumlaw10rising
import Derived.Test.YtjpeojohakhmdaaPScolumbariumlaw10known
import Derived.Test.YtjpeojohakhmdaaPSticksEncode
import Derived.Test.YtjpeojohakhmdaaPSticksDecode
/- Plain words on bits, wraps and lists that the proofs of this seat share. -/
namespace Go.Proofs.Ytjpeojohakhmdaa.Base
open Go.RowKit Go.Proofs.YtjpeojohakhmdaaW.PrintWords

theorem u64_wrap (n : Int) : IntKind.u64.wrap n = n % 18446744073709551616 := by simp [IntKind.wrap, IntKind.bits, IntKind.signed]
theorem u64_id {n : Int} (h0 : 0 ≤ n) (h1 : n < 18446744073709551616) : IntKind.u64.wrap n = n := by rw [u64_wrap]; omega
theorem u32_id {n : Int} (h0 : 0 ≤ n) (h1 : n < 4294967296) : IntKind.u32.wrap n = n := by rw [IntKind.wrap_u32]; omega
theorem w64_id {n : Int} (h0 : -9223372036854775808 ≤ n) (h1 : n ≤ 9223372036854775807) : wrap64 n = n := by unfold wrap64; omega
theorem u8wf {x : Int} (h : (Lit.int .u8 x).wf = true) : 0 ≤ x ∧ x ≤ 255 := by
  simp [Lit.wf, IntKind.min, IntKind.max, IntKind.signed, IntKind.bits] at h
  omega
theorem u32wf {x : Int} (h : (Lit.int .u32 x).wf = true) : 0 ≤ x ∧ x ≤ 4294967295 := by
  simp [Lit.wf, IntKind.min, IntKind.max, IntKind.signed, IntKind.bits] at h
  omega
theorem u64wf {x : Int} (h : (Lit.int .u64 x).wf = true) : 0 ≤ x ∧ x ≤ 18446744073709551615 := by
  simp [Lit.wf, IntKind.min, IntKind.max, IntKind.signed, IntKind.bits] at h
  omega
theorem i64wf {x : Int} (h : (Lit.int .i64 x).wf = true) : -9223372036854775808 ≤ x ∧ x ≤ 9223372036854775807 := by
  simp [Lit.wf, IntKind.min, IntKind.max, IntKind.signed, IntKind.bits] at h
  omega

/-- and, or, exclusive or of numbers that fit are those of Nat. -/
theorem bits_and_nat (k : IntKind) (hs : k.signed = false) {a b : Nat} (ha : a < 2 ^ k.bits) (hb : b < 2 ^ k.bits) : bits .and k a b = ((a &&& b : Nat) : Int) := by
  have hk : ∀ n : Int, 0 ≤ n → n < 2 ^ k.bits → k.wrap n = n := fun n h0 h1 => by
    simp only [IntKind.wrap, hs]
    simp
    exact Int.emod_eq_of_lt h0 h1
  exact (bits_nat k k.bits (Nat.le_refl _) hk a b ha hb).1
theorem bits_or_nat (k : IntKind) (hs : k.signed = false) {a b : Nat} (ha : a < 2 ^ k.bits) (hb : b < 2 ^ k.bits) : bits .or k a b = ((a ||| b : Nat) : Int) := by
  have hk : ∀ n : Int, 0 ≤ n → n < 2 ^ k.bits → k.wrap n = n := fun n h0 h1 => by
    simp only [IntKind.wrap, hs]
    simp
    exact Int.emod_eq_of_lt h0 h1
  exact (bits_nat k k.bits (Nat.le_refl _) hk a b ha hb).2
theorem bits_xor_nat (k : IntKind) (hs : k.signed = false) {a b : Nat} (ha : a < 2 ^ k.bits) (hb : b < 2 ^ k.bits) : bits .xor k a b = ((a ^^^ b : Nat) : Int) := by
  have ha' : a % 2 ^ k.bits = a := Nat.mod_eq_of_lt ha
  have hb' : b % 2 ^ k.bits = b := Nat.mod_eq_of_lt hb
  simp only [bits, BitVec.ofInt_natCast, BitVec.toNat_xor, BitVec.toNat_ofNat, ha', hb']
  simp only [IntKind.wrap, hs]
  simp
  exact Int.emod_eq_of_lt (by omega) (by exact_mod_cast Nat.xor_lt_two_pow ha hb)
theorem xor_bv32 (a b : BitVec 32) : bits .xor .u32 (a.toNat : Int) (b.toNat : Int) = ((a ^^^ b).toNat : Int) := by
  rw [bits_xor_nat .u32 rfl a.isLt b.isLt, BitVec.toNat_xor]
theorem xor_bv64 (a b : BitVec 64) : bits .xor .u64 (a.toNat : Int) (b.toNat : Int) = ((a ^^^ b).toNat : Int) := by
  rw [bits_xor_nat .u64 rfl a.isLt b.isLt, BitVec.toNat_xor]
theorem xor_bv8 (a b : BitVec 8) : bits .xor .u8 (a.toNat : Int) (b.toNat : Int) = ((a ^^^ b).toNat : Int) := by
  rw [bits_xor_nat .u8 rfl a.isLt b.isLt, BitVec.toNat_xor]
theorem or_bv8 (a b : BitVec 8) : bits .or .u8 (a.toNat : Int) (b.toNat : Int) = ((a ||| b).toNat : Int) := by
  rw [bits_or_nat .u8 rfl a.isLt b.isLt, BitVec.toNat_or]
theorem byte_bv {x : Int} (h0 : 0 ≤ x) (h1 : x ≤ 255) : ∃ b : BitVec 8, x = (b.toNat : Int) := ⟨BitVec.ofNat 8 x.toNat, by simp; omega⟩
theorem bits_range (op : BinOp) (k : IntKind) (hs : k.signed = false) (x y : Int) : 0 ≤ bits op k x y ∧ bits op k x y < 2 ^ k.bits := by
  simp only [bits, IntKind.wrap, hs]
  simp
  exact ⟨Int.emod_nonneg _ (by have : (0 : Int) < 2 ^ k.bits := Int.pow_pos (by decide); omega), Int.emod_lt_of_pos _ (Int.pow_pos (by decide))⟩

theorem and127 {x : Int} (h0 : 0 ≤ x) (h1 : x ≤ 255) : bits .and .u8 x 127 = x % 128 := bits_mask .u8 8 (by decide) wraps_u8 7 (by decide) x h0 (by omega)
theorem or128 {x : Int} (h0 : 0 ≤ x) (h1 : x ≤ 255) : bits .or .u8 x 128 = x % 128 + 128 := by
  obtain ⟨n, rfl⟩ := Int.eq_ofNat_of_zero_le h0
  have h : ∀ n : Fin 256, ((n.val ||| 128 : Nat)) = n.val % 128 + 128 := by decide +kernel
  have h2 := h ⟨n, by omega⟩
  have e := bits_or_nat .u8 rfl (a := n) (b := 128) (by show n < 256; omega) (by decide)
  rw [show ((128 : Int)) = ((128 : Nat) : Int) from rfl, e, show n ||| 128 = n % 128 + 128 from h2]
  omega
theorem and1_u32 {x : Int} (h0 : 0 ≤ x) (h1 : x < 4294967296) : bits .and .u32 x 1 = x % 2 :=
  bits_mask .u32 32 (by decide) (fun n a b => u32_id a (by simpa using b)) 1 (by decide) x h0 (by simpa using h1)
theorem and1_u64 {x : Int} (h0 : 0 ≤ x) (h1 : x < 18446744073709551616) : bits .and .u64 x 1 = x % 2 :=
  bits_mask .u64 64 (by decide) (fun n a b => u64_id a (by simpa using b)) 1 (by decide) x h0 (by simpa using h1)

theorem xor_u64_ones {x : Int} (h0 : 0 ≤ x) (h1 : x < 18446744073709551616) : bits .xor .u64 x 18446744073709551615 = 18446744073709551615 - x := by
  obtain ⟨n, rfl⟩ := Int.eq_ofNat_of_zero_le h0
  have hn : n < 2 ^ 64 := by omega
  have e := xor_bv64 (BitVec.ofNat 64 n) (BitVec.allOnes 64)
  have e1 : (BitVec.ofNat 64 n).toNat = n := by simp only [BitVec.toNat_ofNat]; omega
  have e2 : (BitVec.allOnes 64).toNat = 18446744073709551615 := by decide
  rw [e1, e2, BitVec.xor_allOnes, BitVec.toNat_not, e1] at e
  rw [show ((18446744073709551615 : Int)) = ((18446744073709551615 : Nat) : Int) from rfl, e]
  omega
theorem xor_u32_ones {x : Int} (h0 : 0 ≤ x) (h1 : x < 4294967296) : bits .xor .u32 4294967295 x = 4294967295 - x := by
  obtain ⟨n, rfl⟩ := Int.eq_ofNat_of_zero_le h0
  have hn : n < 2 ^ 32 := by omega
  have e := xor_bv32 (BitVec.allOnes 32) (BitVec.ofNat 32 n)
  have e1 : (BitVec.ofNat 32 n).toNat = n := by simp only [BitVec.toNat_ofNat]; omega
  have e2 : (BitVec.allOnes 32).toNat = 4294967295 := by decide
  rw [e1, e2, BitVec.allOnes_xor, BitVec.toNat_not, e1] at e
  rw [show ((4294967295 : Int)) = ((4294967295 : Nat) : Int) from rfl, e]
  omega
theorem xor_u64_zero {x : Int} (h0 : 0 ≤ x) (h1 : x < 18446744073709551616) : bits .xor .u64 x 0 = x := by
  obtain ⟨n, rfl⟩ := Int.eq_ofNat_of_zero_le h0
  have e := bits_xor_nat .u64 rfl (a := n) (b := 0) (by show n < 2 ^ 64; omega) (by decide)
  rw [show ((0 : Int)) = ((0 : Nat) : Int) from rfl, e, Nat.xor_zero]
theorem xor_i64_zero {x : Int} (h0 : -9223372036854775808 ≤ x) (h1 : x ≤ 9223372036854775807) : bits .xor .i64 x 0 = x := by
  have e : (BitVec.ofInt 64 x ^^^ BitVec.ofInt 64 0).toNat = (x % 18446744073709551616).toNat := by
    rw [show BitVec.ofInt 64 0 = 0#64 from by decide, BitVec.xor_zero, BitVec.toNat_ofInt]
    rfl
  show IntKind.i64.wrap (((BitVec.ofInt 64 x ^^^ BitVec.ofInt 64 0).toNat : Nat) : Int) = x
  rw [e, IntKind.wrap_i64]
  omega
theorem xor_i64_neg {x : Int} (h0 : -9223372036854775808 ≤ x) (h1 : x ≤ 9223372036854775807) : bits .xor .i64 x (-1) = -x - 1 := by
  have e : (BitVec.ofInt 64 x ^^^ BitVec.ofInt 64 (-1)).toNat = 18446744073709551615 - (x % 18446744073709551616).toNat := by
    rw [show BitVec.ofInt 64 (-1) = BitVec.allOnes 64 from by decide, BitVec.xor_allOnes, BitVec.toNat_not, BitVec.toNat_ofInt]
    rfl
  show IntKind.i64.wrap (((BitVec.ofInt 64 x ^^^ BitVec.ofInt 64 (-1)).toNat : Nat) : Int) = -x - 1
  rw [e, IntKind.wrap_i64]
  omega

/-- rd within the list. -/
theorem rd_get {l : List Int} {i : Int} (h0 : 0 ≤ i) (h1 : i < l.length) : rd l i = l[i.toNat]'(by omega) := by
  unfold rd
  rw [List.getD_eq_getElem?_getD, List.getElem?_eq_getElem (by omega)]
  rfl
theorem rd_nat {l : List Int} {i : Nat} (h1 : i < l.length) : rd l (i : Int) = l[i] := by
  rw [rd_get (by omega) (by omega)]
  rfl
theorem drop_rd {l : List Int} {i : Nat} (h1 : i < l.length) : l.drop i = rd l (i : Int) :: l.drop (i + 1) := by
  rw [rd_nat h1]
  exact List.drop_eq_getElem_cons h1
theorem rd_drop (l : List Int) (a i : Nat) : rd (l.drop a) (i : Int) = rd l ((a + i : Nat) : Int) := by
  unfold rd
  rw [List.getD_eq_getElem?_getD, List.getD_eq_getElem?_getD, List.getElem?_drop]
  simp only [Int.toNat_natCast]

theorem bytesOf_size (s : ByteArray) : (bytesOf s).length = s.size := bytesOf_length s
theorem bytesOf_range {s : ByteArray} {x : Int} (h : x ∈ bytesOf s) : 0 ≤ x ∧ x ≤ 255 := by
  unfold bytesOf at h
  obtain ⟨b, _, rfl⟩ := List.mem_map.1 h
  have := b.toNat_lt
  omega
theorem bt_rd (s : ByteArray) (i : Nat) (h : i < s.size) : bt s (i : Int) = rd (bytesOf s) (i : Int) := by
  unfold bt rd bytesOf
  have h2 : i < s.data.toList.length := by simpa using h
  simp only [Int.toNat_natCast, dif_pos h, List.getD_eq_getElem?_getD, List.getElem?_map, List.getElem?_eq_getElem h2]
  simp
  rfl
theorem toList_is (s : ByteArray) : s.toList = s.data.toList := ByteArray.toList_eq s
theorem str_ext {a b : ByteArray} (h : a.toList = b.toList) : a = b := by
  rw [toList_is, toList_is] at h
  cases a; cases b
  congr 1
  exact Array.ext' h
theorem bytesOf_str {l : List Int} (hb : ∀ x ∈ l, 0 ≤ x ∧ x ≤ 255) : bytesOf (strOfNums l) = l := by
  unfold bytesOf
  rw [strOfNums_data, List.map_map]
  conv => rhs; rw [← List.map_id l]
  refine List.map_congr_left fun x hx => ?_
  have := hb x hx
  simp only [Function.comp, id]
  rw [UInt8.toNat_ofNat']
  omega
theorem str_bytesOf (s : ByteArray) : strOfNums (bytesOf s) = s := by
  refine str_ext ?_
  rw [toList_is, toList_is, strOfNums_data]
  unfold bytesOf
  rw [List.map_map]
  conv => rhs; rw [← List.map_id s.data.toList]
  refine List.map_congr_left fun x _ => ?_
  simp
theorem str_inj {l m : List Int} (hl : ∀ x ∈ l, 0 ≤ x ∧ x ≤ 255) (hm : ∀ x ∈ m, 0 ≤ x ∧ x ≤ 255) : (strOfNums l).toList = (strOfNums m).toList ↔ l = m := by
  refine ⟨fun h => ?_, fun h => by rw [h]⟩
  have := congrArg bytesOf (str_ext h)
  rwa [bytesOf_str hl, bytesOf_str hm] at this
theorem str_is {l : List Int} {s : ByteArray} (hl : ∀ x ∈ l, 0 ≤ x ∧ x ≤ 255) : (strOfNums l).toList = s.toList ↔ l = bytesOf s := by
  refine ⟨fun h => ?_, fun h => by rw [h, str_bytesOf]⟩
  have := congrArg bytesOf (str_ext h)
  rwa [bytesOf_str hl] at this
end Go.Proofs.Ytjpeojohakhmdaa.Base

/- Chapter 1's numbers as lists of bytes, in plain Lean: how they are written, how they are read, and that both fit. -/
namespace Go.Proofs.Ytjpeojohakhmdaa.VPlain
open Go.RowKit Go.Proofs.YtjpeojohakhmdaaW.PrintWords Go.Proofs.Ytjpeojohakhmdaa.Base

def vputF : Nat → Nat → List Int
  | 0, n => [(n : Int)]
  | f + 1, n => if n ≤ 127 then [(n : Int)] else ((n % 128 + 128 : Nat) : Int) :: vputF f (n / 128)
def vput (n : Int) : List Int := vputF 9 n.toNat

def go (a : Int) : List Int → Nat → Int → Int × Int × Int
  | [], _, _ => (0, 0, 10)
  | c :: t, i, acc =>
    if c > 127 then go a t (i + 1) (acc + (c % 128) * 2 ^ (7 * i))
    else if i > 9 ∨ (i = 9 ∧ c > 1) ∨ (i > 0 ∧ c = 0) then (0, 0, 12)
    else (acc + c * 2 ^ (7 * i), a + i + 1, 0)
def getI (l : List Int) (a : Int) : Int × Int × Int := if a < 0 ∨ a > l.length then (0, 0, 1) else go a (l.drop a.toNat) 0 0

theorem vputF_len (f : Nat) : ∀ n, 1 ≤ (vputF f n).length ∧ (vputF f n).length ≤ f + 1 := by
  induction f with
  | zero => intro n; simp [vputF]
  | succ f ih =>
    intro n
    unfold vputF
    split
    · simp
    · have := ih (n / 128)
      simp only [List.length_cons]
      omega
theorem vput_len (n : Int) : 1 ≤ (vput n).length ∧ (vput n).length ≤ 10 := vputF_len 9 _
theorem vputF_byte (f : Nat) : ∀ n, n < 128 ^ f * 256 → ∀ x ∈ vputF f n, 0 ≤ x ∧ x ≤ 255 := by
  induction f with
  | zero => intro n hn x hx; simp [vputF] at hx; omega
  | succ f ih =>
    intro n hn x hx
    unfold vputF at hx
    split at hx
    · simp at hx; omega
    · rcases List.mem_cons.1 hx with rfl | hx
      · omega
      · exact ih (n / 128) (by rw [Nat.pow_succ] at hn; omega) x hx
theorem vput_byte {n : Int} (h1 : n ≤ 18446744073709551615) : ∀ x ∈ vput n, 0 ≤ x ∧ x ≤ 255 := vputF_byte 9 _ (by omega)

/-- What was written is read. -/
theorem go_vputF (a : Int) (r : List Int) (f : Nat) : ∀ (i n : Nat) (acc : Int), i + f = 9 → n * 2 ^ (7 * i) < 2 ^ 64 → (0 < i → 0 < n) →
    go a (vputF f n ++ r) i acc = (acc + n * 2 ^ (7 * i), a + i + (vputF f n).length, 0) := by
  induction f with
  | zero =>
    intro i n acc hi hn h0
    obtain rfl : i = 9 := by omega
    have hn2 : n < 2 := by omega
    have := h0 (by omega)
    simp only [vputF, List.cons_append, List.nil_append, go, List.length_cons, List.length_nil]
    rw [if_neg (by omega), if_neg (by omega)]
    simp
  | succ f ih =>
    intro i n acc hi hn h0
    unfold vputF
    by_cases h : n ≤ 127
    · rw [if_pos h]
      simp only [List.cons_append, List.nil_append, go, List.length_cons, List.length_nil]
      rw [if_neg (by omega), if_neg (by omega)]
      simp
    · rw [if_neg h]
      simp only [List.cons_append, go, List.length_cons]
      rw [if_pos (by omega), ih (i + 1) (n / 128) _ (by omega) ?_ (by omega)]
      · have e : (2 : Int) ^ (7 * (i + 1)) = 2 ^ (7 * i) * 128 := by rw [Nat.mul_add, Int.pow_add]; rfl
        have e2 : ((n : Int)) = (n % 128 : Nat) + 128 * (n / 128 : Nat) := by omega
        have e3 : (((n % 128 + 128 : Nat) : Int)) % 128 = (n % 128 : Nat) := by omega
        rw [e, e3]
        refine Prod.ext ?_ (Prod.ext ?_ rfl)
        · simp only
          conv => rhs; rw [e2]
          rw [Int.add_mul]
          have : ((n / 128 : Nat) : Int) * (2 ^ (7 * i) * 128) = 128 * ((n / 128 : Nat) : Int) * 2 ^ (7 * i) := by
            rw [Int.mul_comm 128, Int.mul_assoc, Int.mul_comm 128]
          omega
        · simp only
          push_cast
          omega
      · have e : 2 ^ (7 * (i + 1)) = 2 ^ (7 * i) * 128 := by rw [Nat.mul_add, Nat.pow_add]
        rw [e]
        have h1 : n / 128 * 128 ≤ n := by omega
        have h2 : n / 128 * 128 * 2 ^ (7 * i) ≤ n * 2 ^ (7 * i) := Nat.mul_le_mul_right _ h1
        have h3 : n / 128 * (2 ^ (7 * i) * 128) = n / 128 * 128 * 2 ^ (7 * i) := by rw [Nat.mul_comm (2 ^ _), Nat.mul_assoc]
        omega
theorem go_vput (a : Int) (r : List Int) {n : Int} (h0 : 0 ≤ n) (h1 : n ≤ 18446744073709551615) : go a (vput n ++ r) 0 0 = (n, a + (vput n).length, 0) := by
  have := go_vputF a r 9 0 n.toNat 0 (by omega) (by omega) (by omega)
  simp only [vput]
  rw [this]
  refine Prod.ext ?_ (Prod.ext ?_ rfl)
  · simp; omega
  · simp
/-- Bytes that go on, and no end. -/
theorem go_open (a : Int) (l : List Int) : ∀ i acc, (∀ x ∈ l, x > 127) → go a l i acc = (0, 0, 10) := by
  induction l with
  | nil => intro i acc _; rfl
  | cons c t ih =>
    intro i acc h
    unfold go
    rw [if_pos (h c (by simp))]
    exact ih _ _ (fun x hx => h x (by simp [hx]))
theorem vputF_open (f : Nat) : ∀ (n j : Nat), j < (vputF f n).length → ∀ x ∈ (vputF f n).take j, x > 127 := by
  induction f with
  | zero => intro n j hj x hx; simp [vputF] at hj; subst hj; simp at hx
  | succ f ih =>
    intro n j hj x hx
    unfold vputF at hj hx
    split at hx
    · rename_i h; rw [if_pos h] at hj; simp at hj; subst hj; simp at hx
    · rename_i h
      rw [if_neg h] at hj
      cases j with
      | zero => simp at hx
      | succ j =>
        rw [List.take_succ_cons] at hx
        rcases List.mem_cons.1 hx with rfl | hx
        · omega
        · exact ih (n / 128) j (by simpa using hj) x hx
theorem go_cut (a : Int) (n : Int) (j : Nat) (hj : j < (vput n).length) : go a ((vput n).take j) 0 0 = (0, 0, 10) := go_open a _ _ _ (vputF_open 9 _ j hj)
/-- Behind ten bytes there is no number. -/
theorem go_late (a : Int) (l : List Int) : ∀ i acc acc', 10 ≤ i → go a l i acc = go a l i acc' ∧ ((go a l i acc) = (0, 0, 10) ∨ (go a l i acc) = (0, 0, 12)) := by
  induction l with
  | nil => intro i acc acc' _; exact ⟨rfl, .inl rfl⟩
  | cons c t ih =>
    intro i acc acc' hi
    simp only [go]
    by_cases h : c > 127
    · rw [if_pos h, if_pos h]
      exact ih (i + 1) _ _ (by omega)
    · rw [if_neg h, if_neg h, if_pos (by omega)]
      exact ⟨by rw [if_pos (by omega)], .inr rfl⟩
set_option maxRecDepth 100000 in
/-- What is read was written so, and in no other way. -/
theorem go_ok (a : Int) (l : List Int) : ∀ (i f : Nat) (acc v e : Int), i + f = 9 → (∀ x ∈ l, 0 ≤ x ∧ x ≤ 255) → go a l i acc = (v, e, 0) →
    ∃ n : Nat, v = acc + n * 2 ^ (7 * i) ∧ n * 2 ^ (7 * i) < 2 ^ 64 ∧ (0 < i → 0 < n) ∧ ∃ r, l = vputF f n ++ r ∧ e = a + i + (vputF f n).length := by
  induction l with
  | nil => intro i f acc v e _ _ h; simp [go] at h
  | cons c t ih =>
    intro i f acc v e hi hb h
    have hc := hb c (by simp)
    unfold go at h
    by_cases hgt : c > 127
    · rw [if_pos hgt] at h
      rcases Nat.lt_or_ge i 9 with h9 | h9
      · obtain ⟨f, rfl⟩ : ∃ f', f = f' + 1 := ⟨f - 1, by omega⟩
        obtain ⟨n, hv, hn, hp, r, hl, he⟩ := ih (i + 1) f _ v e (by omega) (fun x hx => hb x (by simp [hx])) h
        have hpos := hp (by omega)
        have e1 : (2 : Int) ^ (7 * (i + 1)) = 2 ^ (7 * i) * 128 := by rw [Nat.mul_add, Int.pow_add]; rfl
        have e1n : 2 ^ (7 * (i + 1)) = 2 ^ (7 * i) * 128 := by rw [Nat.mul_add, Nat.pow_add]
        refine ⟨(c % 128).toNat + 128 * n, ?_, ?_, fun _ => by omega, r, ?_, ?_⟩
        · rw [hv, e1]
          have : (((c % 128).toNat + 128 * n : Nat) : Int) = c % 128 + 128 * n := by omega
          rw [this, Int.add_mul, Int.mul_comm 128 (n : Int), Int.mul_assoc, Int.mul_comm (2 ^ (7 * i)) 128]
          omega
        · rw [e1n] at hn
          have hm : (c % 128).toNat < 128 := by omega
          have h7 : n * (2 ^ (7 * i) * 128) = n * 128 * 2 ^ (7 * i) := by rw [Nat.mul_comm (2 ^ _), Nat.mul_assoc]
          rw [h7] at hn
          have e64 : 2 ^ 64 = 2 ^ (57 - 7 * i) * 128 * 2 ^ (7 * i) := by
            rw [show 128 = 2 ^ 7 from rfl, ← Nat.pow_add, ← Nat.pow_add]
            congr 1
            omega
          rw [e64] at hn ⊢
          have hq : n * 128 < 2 ^ (57 - 7 * i) * 128 := Nat.lt_of_mul_lt_mul_right hn
          exact Nat.mul_lt_mul_of_pos_right (by omega) (Nat.two_pow_pos _)
        · rw [hl]
          rw [vputF.eq_def (f + 1)]
          simp only
          rw [if_neg (by omega), show ((c % 128).toNat + 128 * n) / 128 = n from by omega, List.cons_append]
          congr 1
          omega
        · rw [he]
          rw [vputF.eq_def (f + 1)]
          simp only
          rw [if_neg (by omega), show ((c % 128).toNat + 128 * n) / 128 = n from by omega, List.length_cons]
          push_cast
          omega
      · exfalso
        rcases (go_late a t (i + 1) (acc + c % 128 * 2 ^ (7 * i)) 0 (by omega)).2 with h' | h' <;> rw [h'] at h <;> simp at h
    · rw [if_neg hgt] at h
      split at h
      · simp at h
      · rename_i hno
        simp only [Prod.mk.injEq, and_true] at h
        refine ⟨c.toNat, by rw [← h.1]; congr 2; omega, ?_, fun h0 => by omega, t, ?_, ?_⟩
        · have hs : i = 0 ∨ i = 1 ∨ i = 2 ∨ i = 3 ∨ i = 4 ∨ i = 5 ∨ i = 6 ∨ i = 7 ∨ i = 8 ∨ i = 9 := by omega
          rcases hs with rfl | rfl | rfl | rfl | rfl | rfl | rfl | rfl | rfl | rfl <;> simp only [Nat.reduceMul, Nat.reducePow] <;> omega
        · cases f with
          | zero => simp only [vputF, List.cons_append, List.nil_append]; congr 1; omega
          | succ f => rw [vputF, if_pos (by omega)]; simp only [List.cons_append, List.nil_append]; congr 1; omega
        · rw [← h.2]
          cases f with
          | zero => simp [vputF]
          | succ f => rw [vputF, if_pos (by omega)]; simp
theorem go_ok0 {a : Int} {l : List Int} {v e : Int} (hb : ∀ x ∈ l, 0 ≤ x ∧ x ≤ 255) (h : go a l 0 0 = (v, e, 0)) :
    0 ≤ v ∧ v ≤ 18446744073709551615 ∧ ∃ r, l = vput v ++ r ∧ e = a + (vput v).length := by
  obtain ⟨n, hv, hn, _, r, hl, he⟩ := go_ok a l 0 9 0 v e (by omega) hb h
  simp at hv hn
  subst hv
  exact ⟨by omega, by omega, r, by simpa [vput] using hl, by simpa [vput] using he⟩
/-- Each number has one writing. -/
theorem vput_inj {n m : Int} (h0 : 0 ≤ n) (h1 : n ≤ 18446744073709551615) (g0 : 0 ≤ m) (g1 : m ≤ 18446744073709551615) (h : vput n = vput m) : n = m := by
  have e1 := go_vput 0 [] h0 h1
  have e2 := go_vput 0 [] g0 g1
  rw [h, e2] at e1
  simpa using (congrArg Prod.fst e1).symm
/-- Numbers get no shorter as they grow. -/
theorem vputF_mono (f : Nat) : ∀ n m, n ≤ m → (vputF f n).length ≤ (vputF f m).length := by
  induction f with
  | zero => intro n m _; simp [vputF]
  | succ f ih =>
    intro n m h
    unfold vputF
    by_cases h1 : n ≤ 127
    · rw [if_pos h1]
      split <;> simp
    · rw [if_neg h1, if_neg (by omega)]
      have := ih (n / 128) (m / 128) (by omega)
      simp only [List.length_cons]
      omega
theorem vput_mono {n m : Int} (h : n ≤ m) : (vput n).length ≤ (vput m).length := vputF_mono 9 _ _ (by omega)
/-- What is got lies in the bytes. -/
theorem getI_ok {l : List Int} {a v e : Int} (hb : ∀ x ∈ l, 0 ≤ x ∧ x ≤ 255) (h : getI l a = (v, e, 0)) :
    0 ≤ a ∧ a ≤ l.length ∧ 0 ≤ v ∧ v ≤ 18446744073709551615 ∧ e = a + (vput v).length ∧ e ≤ l.length ∧ ∃ r, l.drop a.toNat = vput v ++ r ∧ l = l.take a.toNat ++ vput v ++ r := by
  unfold getI at h
  split at h
  · simp at h
  · rename_i hr
    obtain ⟨h0, h1, r, hl, he⟩ := go_ok0 (fun x hx => hb x (List.mem_of_mem_drop hx)) h
    have hlen : l.length - a.toNat = (vput v).length + r.length := by rw [← List.length_append, ← hl, List.length_drop]
    have := vput_len v
    refine ⟨by omega, by omega, h0, h1, he, by omega, r, hl, ?_⟩
    rw [List.append_assoc, ← hl, List.take_append_drop]
theorem getI_put {b r : List Int} {n : Int} (h0 : 0 ≤ n) (h1 : n ≤ 18446744073709551615) : getI (b ++ vput n ++ r) b.length = (n, (b.length : Int) + (vput n).length, 0) := by
  unfold getI
  rw [if_neg (by simp; omega), Int.toNat_natCast, List.append_assoc, List.drop_left, go_vput _ r h0 h1]
end Go.Proofs.Ytjpeojohakhmdaa.VPlain

/- What Get of chapter 1 comes to, whatever it is handed. -/
namespace Go.Proofs.Ytjpeojohakhmdaa.VGet
open Go.RowKit Go.Proofs.Ytjpeojohakhmdaa.PS Go.Proofs.YtjpeojohakhmdaaW.PrintWords Go.Proofs.YtjpeojohakhmdaaW.PrintLast Go.Proofs.Ytjpeojohakhmdaa.Base Go.Proofs.Ytjpeojohakhmdaa.VPlain
open Go.Proofs.YtjpeojohakhmdaaW.PrintMore

theorem acc_step {acc c : Int} {i : Nat} (hi : i ≤ 9) (h0 : 0 ≤ acc) (h1 : acc < 2 ^ (7 * i)) (c0 : 0 ≤ c) (c1 : c ≤ 255) (hs : i ≤ 8 ∨ c % 128 ≤ 1) :
    bits .or .u64 acc (shl .u64 (IntKind.u64.wrap (bits .and .u8 c 127)) (wrap64 (7 * (i : Int)))) = acc + (c % 128) * 2 ^ (7 * i) := by
  rw [and127 c0 c1, u64_id (n := c % 128) (by omega) (by omega), w64_id (by omega) (by omega)]
  have e7 : (7 * (i : Int)).toNat = 7 * i := by omega
  unfold shl
  rw [e7, show min (7 * i) IntKind.u64.bits = 7 * i from by show min (7 * i) 64 = _; omega]
  obtain ⟨a, rfl⟩ := Int.eq_ofNat_of_zero_le h0
  obtain ⟨m, hm⟩ := Int.eq_ofNat_of_zero_le (show 0 ≤ c % 128 by omega)
  have hm128 : m < 128 := by omega
  rw [hm]
  have ha : a < 2 ^ (7 * i) := by exact_mod_cast h1
  have hml : m * 2 ^ (7 * i) < 2 ^ 64 := by
    have e64 : 2 ^ 64 = 2 ^ (64 - 7 * i) * 2 ^ (7 * i) := by rw [← Nat.pow_add]; congr 1; omega
    rw [e64]
    refine Nat.mul_lt_mul_of_pos_right ?_ (Nat.two_pow_pos _)
    rcases hs with hs | hs
    · have : 2 ^ 8 ≤ 2 ^ (64 - 7 * i) := Nat.pow_le_pow_right (by decide) (by omega)
      omega
    · have : 2 ^ 1 ≤ 2 ^ (64 - 7 * i) := Nat.pow_le_pow_right (by decide) (by omega)
      omega
  have hal : a < 2 ^ 64 := Nat.lt_of_lt_of_le ha (Nat.pow_le_pow_right (by decide) (by omega))
  have ew : IntKind.u64.wrap ((m : Int) * 2 ^ (7 * i)) = ((m * 2 ^ (7 * i) : Nat) : Int) := by
    rw [show ((m : Int) * 2 ^ (7 * i)) = ((m * 2 ^ (7 * i) : Nat) : Int) from by rw [Int.natCast_mul, Int.natCast_pow]; rfl]
    exact u64_id (Int.natCast_nonneg _) (Int.ofNat_lt.2 hml)
  rw [ew, bits_or_nat .u64 rfl (a := a) (b := m * 2 ^ (7 * i)) hal hml, Nat.or_comm, Nat.mul_comm m, ← Nat.two_pow_add_eq_or_of_lt ha m, Int.natCast_add, Int.natCast_mul, Int.natCast_pow, Int.mul_comm (m : Int)]
  exact Int.add_comm _ _

/-- The loop behind ten bytes. -/
theorem get_late (a : Int) (l : List Int) (hl : l.length ≤ 140737488355328) (d : Nat) : ∀ (k i : Nat) (acc : Int) (fine : Bool), 10 ≤ i → i ≤ l.length → l.length - i = d → d < k →
    varint_Get.l0 k a acc fine l (l.length : Int) (i : Int) = some (go a (l.drop i) i 0) := by
  induction d with
  | zero =>
    intro k i acc fine h10 hi hd hk
    obtain ⟨k, rfl⟩ : ∃ m, k = m + 1 := ⟨k - 1, by omega⟩
    have : i = l.length := by omega
    subst this
    simp only [varint_Get.l0]
    rw [if_neg (by omega), List.drop_length]
    rfl
  | succ d ih =>
    intro k i acc fine h10 hi hd hk
    obtain ⟨k, rfl⟩ : ∃ m, k = m + 1 := ⟨k - 1, by omega⟩
    simp only [varint_Get.l0]
    rw [if_pos (show (i : Int) < l.length by omega), if_pos (show (0 : Int) ≤ i by omega), if_pos (show (i : Int) < l.length by omega), if_neg (show ¬ (i : Int) < 10 by omega)]
    rw [drop_rd (show i < l.length by omega), go]
    have hw : wrap64 ((i : Int) + 1) = ((i + 1 : Nat) : Int) := by rw [w64_id (by omega) (by omega)]; push_cast; rfl
    have h9 : ¬ (i : Int) < 9 := by omega
    have h9e : ¬ (i : Int) = 9 := by omega
    by_cases hc : rd l i > 127
    · simp only [if_pos hc, if_neg h9, if_neg h9e, hw]
      have e := fun f => ih k (i + 1) acc f (by omega) (by omega) (by omega) (by omega)
      rw [(go_late a (l.drop (i + 1)) (i + 1) (0 + rd l i % 128 * 2 ^ (7 * i)) 0 (by omega)).1]
      cases fine
      · rw [if_neg (by decide)]; exact e false
      · rw [if_pos rfl]; exact e false
    · simp only [if_neg hc, if_neg h9, if_neg h9e]
      rw [if_pos (show i > 9 ∨ (i = 9 ∧ rd l i > 1) ∨ (i > 0 ∧ rd l i = 0) from .inl (by omega))]
      cases fine
      · rw [if_neg (by decide)]
      · rw [if_pos rfl]

theorem get_loop (a : Int) (ha0 : 0 ≤ a) (ha1 : a ≤ 140737488355328) (l : List Int) (hl : l.length ≤ 140737488355328) (hb : ∀ x ∈ l, 0 ≤ x ∧ x ≤ 255) (d : Nat) : ∀ (k i : Nat) (acc : Int), i ≤ 9 → i ≤ l.length → l.length - i = d → d < k →
    0 ≤ acc → acc < 2 ^ (7 * i) → varint_Get.l0 k a acc true l (l.length : Int) (i : Int) = some (go a (l.drop i) i acc) := by
  induction d with
  | zero =>
    intro k i acc h9 hi hd hk h0 h1
    obtain ⟨k, rfl⟩ : ∃ m, k = m + 1 := ⟨k - 1, by omega⟩
    have : i = l.length := by omega
    subst this
    simp only [varint_Get.l0]
    rw [if_neg (by omega), List.drop_length]
    rfl
  | succ d ih =>
    intro k i acc h9 hi hd hk h0 h1
    obtain ⟨k, rfl⟩ : ∃ m, k = m + 1 := ⟨k - 1, by omega⟩
    have hlt : i < l.length := by omega
    have hc := hb _ (List.getElem_mem hlt)
    rw [← rd_nat hlt] at hc
    have hw : wrap64 ((i : Int) + 1) = ((i + 1 : Nat) : Int) := by rw [w64_id (by omega) (by omega)]; push_cast; rfl
    have he : wrap64 (wrap64 (a + (i : Int)) + 1) = a + i + 1 := by rw [w64_id (n := a + i) (by omega) (by omega), w64_id (by omega) (by omega)]
    have h7 : 0 ≤ wrap64 (7 * (i : Int)) := by rw [w64_id (by omega) (by omega)]; omega
    simp only [varint_Get.l0]
    rw [if_pos (show (i : Int) < l.length by omega), if_pos (show (0 : Int) ≤ i by omega), if_pos (show (i : Int) < l.length by omega), if_pos (show (i : Int) < 10 by omega), if_pos h7, if_pos trivial]
    rw [drop_rd hlt, go]
    have a127 : bits .and .u8 (rd l i) 127 = rd l i % 128 := and127 hc.1 hc.2
    by_cases hgt : rd l i > 127
    · simp only [if_pos hgt]
      by_cases h8 : i < 9
      · rw [if_pos (show (i : Int) < 9 by omega), acc_step h9 h0 h1 hc.1 hc.2 (.inl (by omega)), hw]
        refine ih k (i + 1) _ (by omega) (by omega) (by omega) (by omega) ?_ ?_
        · have : (0 : Int) ≤ rd l i % 128 * 2 ^ (7 * i) := Int.mul_nonneg (by omega) (Int.pow_nonneg (by decide))
          omega
        · rw [show 7 * (i + 1) = 7 * i + 7 from by omega, Int.pow_add]
          have : rd l i % 128 * 2 ^ (7 * i) ≤ 127 * 2 ^ (7 * i) := Int.mul_le_mul_of_nonneg_right (by omega) (Int.pow_nonneg (by decide))
          have e : (2 : Int) ^ (7 * i) * 2 ^ 7 = 128 * 2 ^ (7 * i) := by rw [Int.mul_comm]; rfl
          rw [e]
          omega
      · have : i = 9 := by omega
        subst this
        rw [if_neg (show ¬ ((9 : Nat) : Int) < 9 by decide), if_pos (show ((9 : Nat) : Int) = 9 from rfl), hw]
        rw [(go_late a (l.drop 10) 10 (acc + rd l ((9 : Nat) : Int) % 128 * 2 ^ (7 * 9)) 0 (by omega)).1]
        exact get_late a l hl d k 10 _ _ (by omega) (by omega) (by omega) (by omega)
    · simp only [if_neg hgt]
      have hm : rd l i % 128 = rd l i := by omega
      by_cases h8 : i < 9
      · rw [if_pos (show (i : Int) < 9 by omega), acc_step h9 h0 h1 hc.1 hc.2 (.inl (by omega)), he, hm]
        by_cases hp : i > 0
        · rw [if_pos (show (i : Int) > 0 by omega)]
          by_cases hz : rd l i = 0
          · rw [if_pos hz, if_pos (.inr (.inr ⟨hp, hz⟩))]
          · rw [if_neg hz, if_neg (by omega)]
        · rw [if_neg (show ¬ (i : Int) > 0 by omega), if_neg (by omega)]
      · have : i = 9 := by omega
        subst this
        rw [if_neg (show ¬ ((9 : Nat) : Int) < 9 by decide), if_pos (show ((9 : Nat) : Int) = 9 from rfl)]
        by_cases h2 : rd l ((9 : Nat) : Int) < 2
        · rw [acc_step (by omega) h0 h1 hc.1 hc.2 (.inr (by omega)), he, a127, hm, if_pos h2, if_pos (show ((9 : Nat) : Int) > 0 by decide)]
          by_cases hz : rd l ((9 : Nat) : Int) = 0
          · rw [if_pos hz, if_pos (.inr (.inr ⟨by decide, hz⟩))]
          · rw [if_neg hz, if_neg (by omega)]
        · rw [a127, hm, if_neg h2, if_pos (.inr (.inl ⟨rfl, by omega⟩))]
theorem get_f {l : List Int} (hl : l.length ≤ 140737488355328) (hb : ∀ x ∈ l, 0 ≤ x ∧ x ≤ 255) (a : Int) {k : Nat} (hk : l.length < k) : varint_Get.f k l a = some (getI l a) := by
  unfold varint_Get.f getI
  by_cases h0 : a < 0
  · rw [if_pos h0, if_pos (.inl h0)]
  · rw [if_neg h0]
    by_cases h1 : a > l.length
    · rw [if_pos h1, if_pos (.inr h1)]
    · rw [if_neg h1, if_pos (by omega), if_pos (by omega), if_neg (by omega)]
      have := get_loop a (by omega) (by omega) (l.drop a.toNat) (by rw [List.length_drop]; omega) (fun x hx => hb x (List.mem_of_mem_drop hx)) (l.drop a.toNat).length k 0 0 (by omega) (by omega) (by omega) (by rw [List.length_drop]; omega) (by omega) (by simp)
      simpa using this

end Go.Proofs.Ytjpeojohakhmdaa.VGet

/- What Put of chapter 1 comes to. -/
namespace Go.Proofs.Ytjpeojohakhmdaa.VPut
open Go.RowKit Go.Proofs.Ytjpeojohakhmdaa.PS Go.Proofs.YtjpeojohakhmdaaW.PrintWords Go.Proofs.YtjpeojohakhmdaaW.PrintLast Go.Proofs.Ytjpeojohakhmdaa.Base Go.Proofs.Ytjpeojohakhmdaa.VPlain
theorem put_loop (f : Nat) : ∀ (k n : Nat) (l : List Int), n < 128 ^ (f + 1) → f < k → l.length + f + 1 ≤ 140737488355328 → varint_Put.l0 k (n : Int) l = some (l ++ vputF f n) := by
  induction f with
  | zero =>
    intro k n l hn hk hl
    obtain ⟨k, rfl⟩ : ∃ m, k = m + 1 := ⟨k - 1, by omega⟩
    simp only [varint_Put.l0, vputF]
    rw [if_neg (by omega), if_pos (by omega), Int.emod_eq_of_lt (by omega) (by omega)]
  | succ f ih =>
    intro k n l hn hk hl
    obtain ⟨k, rfl⟩ : ∃ m, k = m + 1 := ⟨k - 1, by omega⟩
    simp only [varint_Put.l0]
    unfold vputF
    by_cases h : n ≤ 127
    · rw [if_neg (by omega), if_pos (by omega), if_pos h, Int.emod_eq_of_lt (by omega) (by omega)]
    · rw [if_pos (by omega), if_pos (by omega), if_neg h, or128 (by omega) (by omega)]
      have := ih k (n / 128) (l ++ [((n : Int) % 256) % 128 + 128]) (by rw [Nat.pow_succ] at hn; omega) (by omega) (by simp; omega)
      rw [show ((n : Int) / 128) = ((n / 128 : Nat) : Int) from by omega, this, List.append_assoc]
      congr 3
      simp
theorem put_f {l : List Int} (hl : l.length + 10 ≤ 140737488355328) {n : Int} (h0 : 0 ≤ n) (h1 : n ≤ 18446744073709551615) {k : Nat} (hk : 10 ≤ k) : varint_Put.f k l n = some (l ++ vput n) := by
  unfold varint_Put.f
  simp only [Option.bind_some, List.length_nil, List.nil_append]
  rw [if_pos (by omega)]
  obtain ⟨m, rfl⟩ := Int.eq_ofNat_of_zero_le h0
  have := put_loop 9 k m l (by omega) (by omega) (by omega)
  simpa [vput] using this

end Go.Proofs.Ytjpeojohakhmdaa.VPut

/- What Zig and Zag come to. -/
namespace Go.Proofs.Ytjpeojohakhmdaa.Zigs
open Go.RowKit Go.Proofs.Ytjpeojohakhmdaa.PS Go.Proofs.YtjpeojohakhmdaaW.PrintWords Go.Proofs.YtjpeojohakhmdaaW.PrintLast Go.Proofs.Ytjpeojohakhmdaa.Base
def zigI (a : Int) : Int := if 0 ≤ a then 2 * a else -2 * a - 1
def zagI (n : Int) : Int := if n % 2 = 0 then n / 2 else -(n / 2) - 1

theorem zig_f {a : Int} (h0 : -9223372036854775808 ≤ a) (h1 : a ≤ 9223372036854775807) : varint_Zig.f a = some (zigI a) := by
  unfold varint_Zig.f zigI
  congr 1
  by_cases h : 0 ≤ a
  · rw [if_pos h, show a / 9223372036854775808 = 0 from by omega, show IntKind.u64.wrap 0 = 0 from rfl, u64_id h (by omega), u64_id (n := a * 2) (by omega) (by omega), xor_u64_zero (by omega) (by omega)]
    omega
  · rw [if_neg h, show a / 9223372036854775808 = -1 from by omega, show IntKind.u64.wrap (-1) = 18446744073709551615 from rfl, xor_u64_ones (by rw [u64_wrap]; omega) (by rw [u64_wrap]; omega), u64_wrap, u64_wrap]
    omega
theorem zag_f {n : Int} (h0 : 0 ≤ n) (h1 : n ≤ 18446744073709551615) : varint_Zag.f n = some (zagI n) := by
  unfold varint_Zag.f zagI
  congr 1
  rw [and1_u64 h0 (by omega), w64_id (n := n / 2) (by omega) (by omega), w64_id (n := n % 2) (by omega) (by omega)]
  by_cases h : n % 2 = 0
  · rw [if_pos h, h, show wrap64 (-0) = 0 from by unfold wrap64; omega, xor_i64_zero (by omega) (by omega)]
  · rw [if_neg h, show n % 2 = 1 from by omega, show wrap64 (-1) = -1 from by unfold wrap64; omega, xor_i64_neg (by omega) (by omega)]
theorem zig_range {a : Int} (h0 : -9223372036854775808 ≤ a) (h1 : a ≤ 9223372036854775807) : 0 ≤ zigI a ∧ zigI a ≤ 18446744073709551615 := by unfold zigI; split <;> omega
theorem zag_range {n : Int} (h0 : 0 ≤ n) (h1 : n ≤ 18446744073709551615) : -9223372036854775808 ≤ zagI n ∧ zagI n ≤ 9223372036854775807 := by unfold zagI; split <;> omega
theorem zag_zig (a : Int) : zagI (zigI a) = a := by unfold zagI zigI; split <;> split at * <;> omega
theorem zig_zag {n : Int} (h0 : 0 ≤ n) : zigI (zagI n) = n := by unfold zagI zigI; split <;> split at * <;> omega
end Go.Proofs.Ytjpeojohakhmdaa.Zigs

/- A number brought into a span lies in it. -/
namespace Go.Proofs.Ytjpeojohakhmdaa.Within
open Go.RowKit Go.Proofs.Ytjpeojohakhmdaa.PS Go.Proofs.YtjpeojohakhmdaaW.PrintWords Go.Proofs.YtjpeojohakhmdaaW.PrintLast Go.Proofs.Ytjpeojohakhmdaa.Base
theorem within_f {n hi : Int} (h0 : 0 ≤ hi) (h1 : hi ≤ 4611686018427387904) : ∃ r, columbariumbook_Within.f n 0 hi = some r ∧ 0 ≤ r ∧ r ≤ hi := by
  unfold columbariumbook_Within.f
  have e1 : wrap64 (wrap64 (hi - 0) + 1) = hi + 1 := by rw [w64_id (n := hi - 0) (by omega) (by omega), w64_id (by omega) (by omega)]; omega
  have hm1 := Int.tmod_lt_of_pos n (show 0 < hi + 1 by omega)
  have hm2 : -(hi + 1) < Int.tmod n (hi + 1) := by
    have := Int.tmod_lt_of_pos (-n) (show 0 < hi + 1 by omega)
    rw [Int.neg_tmod] at this
    omega
  rw [e1, if_neg (by omega)]
  obtain ⟨m, hm⟩ : ∃ m, m = Int.tmod n (hi + 1) := ⟨_, rfl⟩
  rw [← hm] at hm1 hm2 ⊢
  by_cases h : m < 0
  · rw [if_pos h, w64_id (n := m + hi) (by omega) (by omega), w64_id (n := m + hi - 0) (by omega) (by omega), w64_id (n := m + hi - 0 + 1) (by omega) (by omega), w64_id (by omega) (by omega)]
    exact ⟨_, rfl, by omega, by omega⟩
  · rw [if_neg h, w64_id (by omega) (by omega)]
    exact ⟨_, rfl, by omega, by omega⟩
end Go.Proofs.Ytjpeojohakhmdaa.Within

/- Chapter 4's rows of numbers, in plain Lean: their differences, and back. -/
namespace Go.Proofs.Ytjpeojohakhmdaa.DPlain
open Go.RowKit Go.Proofs.YtjpeojohakhmdaaW.PrintWords Go.Proofs.Ytjpeojohakhmdaa.Base Go.Proofs.Ytjpeojohakhmdaa.VPlain Go.Proofs.Ytjpeojohakhmdaa.Zigs

def I64 (x : Int) : Prop := -9223372036854775808 ≤ x ∧ x ≤ 9223372036854775807
theorem w64_I (x : Int) : I64 (wrap64 x) := by unfold I64 wrap64; omega
/-- The differences of differences. -/
def dx (last step : Int) : Nat → List Int → List Int
  | _, [] => []
  | i, n :: t =>
    let d := if i = 0 then n else wrap64 (n - last)
    let x := if i > 1 then wrap64 (d - step) else d
    x :: dx n (if i > 0 then d else step) (i + 1) t
def enc : List Int → List Int
  | [] => []
  | x :: t => vput (zigI x) ++ enc t
/-- And back. -/
def und (last step : Int) : Nat → List Int → List Int
  | _, [] => []
  | i, x :: t =>
    let d := if i > 1 then wrap64 (x + step) else x
    wrap64 (last + d) :: und (wrap64 (last + d)) (if i > 0 then d else step) (i + 1) t
def encD (l : List Int) : List Int := vput l.length ++ enc (dx 0 0 0 l)

theorem dx_len (l : List Int) : ∀ last step i, (dx last step i l).length = l.length := by
  induction l with
  | nil => intros; rfl
  | cons n t ih => intro last step i; simp only [dx, List.length_cons, ih]
theorem dx_I (l : List Int) : ∀ last step i, (∀ x ∈ l, I64 x) → ∀ x ∈ dx last step i l, I64 x := by
  induction l with
  | nil => intro last step i _ x hx; simp [dx] at hx
  | cons n t ih =>
    intro last step i hl x hx
    simp only [dx] at hx
    rcases List.mem_cons.1 hx with rfl | hx
    · split
      · exact w64_I _
      · split
        · exact hl n (by simp)
        · exact w64_I _
    · exact ih _ _ _ (fun y hy => hl y (by simp [hy])) x hx
theorem und_dx (l : List Int) : ∀ last step i, (∀ x ∈ l, I64 x) → I64 last → (i = 0 → last = 0) → (I64 step) → und last step i (dx last step i l) = l := by
  induction l with
  | nil => intros; rfl
  | cons n t ih =>
    intro last step i hl hla h0 hs
    have hn := hl n (by simp)
    simp only [dx, und]
    have hd : (if i > 1 then wrap64 ((if i > 1 then wrap64 ((if i = 0 then n else wrap64 (n - last)) - step) else if i = 0 then n else wrap64 (n - last)) + step) else if i > 1 then wrap64 ((if i = 0 then n else wrap64 (n - last)) - step) else if i = 0 then n else wrap64 (n - last)) = if i = 0 then n else wrap64 (n - last) := by
      by_cases h : i > 1
      · rw [if_pos h, if_pos h, if_neg (by omega)]
        unfold wrap64
        omega
      · rw [if_neg h, if_neg h]
    rw [hd]
    have hw : wrap64 (last + if i = 0 then n else wrap64 (n - last)) = n := by
      unfold I64 at hn
      by_cases h : i = 0
      · rw [if_pos h, h0 h, Int.zero_add, w64_id hn.1 hn.2]
      · rw [if_neg h]
        unfold wrap64
        omega
    rw [hw]
    congr 1
    refine ih n _ (i + 1) (fun y hy => hl y (by simp [hy])) hn (by omega) ?_
    split
    · split
      · exact hn
      · exact w64_I _
    · exact hs
theorem enc_append (a b : List Int) : enc (a ++ b) = enc a ++ enc b := by
  induction a with
  | nil => rfl
  | cons x a ih => simp only [List.cons_append, enc, ih, List.append_assoc]
theorem enc_len (l : List Int) : l.length ≤ (enc l).length ∧ (enc l).length ≤ 10 * l.length := by
  induction l with
  | nil => simp [enc]
  | cons x t ih =>
    have := vput_len (zigI x)
    simp only [enc, List.length_append, List.length_cons]
    omega
theorem enc_byte (l : List Int) (h : ∀ x ∈ l, I64 x) : ∀ y ∈ enc l, 0 ≤ y ∧ y ≤ 255 := by
  induction l with
  | nil => intro y hy; simp [enc] at hy
  | cons x t ih =>
    intro y hy
    simp only [enc] at hy
    rcases List.mem_append.1 hy with hy | hy
    · have hx := h x (by simp)
      exact vput_byte (zig_range hx.1 hx.2).2 y hy
    · exact ih (fun z hz => h z (by simp [hz])) y hy
theorem encD_byte {l : List Int} (hl : l.length ≤ 1000000000) (h : ∀ x ∈ l, I64 x) : ∀ y ∈ encD l, 0 ≤ y ∧ y ≤ 255 := by
  intro y hy
  rcases List.mem_append.1 hy with hy | hy
  · exact vput_byte (by omega) y hy
  · exact enc_byte _ (dx_I l 0 0 0 h) y hy
theorem encD_len (l : List Int) : (encD l).length ≤ 10 + 10 * l.length ∧ 1 ≤ (encD l).length := by
  have h1 := vput_len l.length
  have h2 := enc_len (dx 0 0 0 l)
  rw [dx_len] at h2
  simp only [encD, List.length_append]
  omega
end Go.Proofs.Ytjpeojohakhmdaa.DPlain

/- What Encode of chapter 4 comes to. -/
namespace Go.Proofs.Ytjpeojohakhmdaa.DEnc
open Go.RowKit Go.Proofs.Ytjpeojohakhmdaa.PS Go.Proofs.YtjpeojohakhmdaaW.PrintWords Go.Proofs.YtjpeojohakhmdaaW.PrintLast Go.Proofs.Ytjpeojohakhmdaa.Base Go.Proofs.Ytjpeojohakhmdaa.VPlain Go.Proofs.Ytjpeojohakhmdaa.Zigs Go.Proofs.Ytjpeojohakhmdaa.DPlain Go.Proofs.Ytjpeojohakhmdaa.VPut

theorem enc_loop (l : List Int) (hl : l.length ≤ 1000000000) (hi64 : ∀ x ∈ l, I64 x) (d : Nat) : ∀ (k i : Nat) (acc : List Int) (last step : Int), i ≤ l.length → l.length - i = d → 3 * d + 20 < k → acc.length + 10 * d ≤ 100000000000 →
    delta_Encode.l0 k acc last step l (l.length : Int) (i : Int) = some (acc ++ enc (dx last step i (l.drop i))) := by
  induction d with
  | zero =>
    intro k i acc last step hi hd hk ha
    obtain ⟨k, rfl⟩ : ∃ m, k = m + 1 := ⟨k - 1, by omega⟩
    have : i = l.length := by omega
    subst this
    rw [delta_Encode.l0, if_neg (by omega), List.drop_length]
    simp [dx, enc]
  | succ d ih =>
    intro k i acc last step hi hd hk ha
    obtain ⟨k, rfl⟩ : ∃ m, k = m + 3 := ⟨k - 3, by omega⟩
    have hlt : i < l.length := by omega
    have hx := hi64 _ (List.getElem_mem hlt)
    rw [← rd_nat hlt] at hx
    have hw : wrap64 ((i : Int) + 1) = ((i + 1 : Nat) : Int) := by rw [w64_id (by omega) (by omega)]; push_cast; rfl
    rw [delta_Encode.l0, if_pos (by omega), if_pos (by omega), if_pos (by omega), drop_rd hlt]
    simp only [dx, enc]
    -- the last step, whatever the difference is
    have j2 : ∀ dd x : Int, I64 x → delta_Encode.j2 (k + 1) acc step (i : Int) (rd l i) dd x l (l.length : Int) (i : Int) =
        some (acc ++ (vput (zigI x) ++ enc (dx (rd l i) (if i > 0 then dd else step) (i + 1) (l.drop (i + 1))))) := by
      intro dd x hxi
      have hz := zig_range hxi.1 hxi.2
      have hv := vput_len (zigI x)
      have hp : varint_Put.f k [] (zigI x) = some (vput (zigI x)) := by
        have := put_f (l := []) (by simp) hz.1 hz.2 (k := k) (by omega)
        rwa [List.nil_append] at this
      rw [delta_Encode.j2]
      by_cases h0 : i > 0
      · rw [if_pos (by omega), zig_f hxi.1 hxi.2, Option.bind_some, hp, Option.bind_some, if_pos (by omega), hw, if_pos h0,
          ih k (i + 1) (acc ++ vput (zigI x)) (rd l i) dd (by omega) (by omega) (by omega) (by rw [List.length_append]; omega), List.append_assoc]
      · rw [if_neg (by omega), zig_f hxi.1 hxi.2, Option.bind_some, hp, Option.bind_some, if_pos (by omega), hw, if_neg h0,
          ih k (i + 1) (acc ++ vput (zigI x)) (rd l i) step (by omega) (by omega) (by omega) (by rw [List.length_append]; omega), List.append_assoc]
    have j1 : ∀ dd : Int, I64 dd → delta_Encode.j1 (k + 2) acc step (i : Int) (rd l i) dd l (l.length : Int) (i : Int) =
        some (acc ++ (vput (zigI (if i > 1 then wrap64 (dd - step) else dd)) ++ enc (dx (rd l i) (if i > 0 then dd else step) (i + 1) (l.drop (i + 1))))) := by
      intro dd hdd
      rw [delta_Encode.j1]
      by_cases h1 : i > 1
      · rw [if_pos (by omega), if_pos h1]
        exact j2 dd _ (w64_I _)
      · rw [if_neg (by omega), if_neg h1]
        exact j2 dd _ hdd
    by_cases h0 : i = 0
    · rw [if_pos (by omega), if_pos h0]
      exact j1 _ hx
    · rw [if_neg (by omega), if_neg h0]
      exact j1 _ (w64_I _)
theorem enc_f {l : List Int} (hl : l.length ≤ 1000000000) (hi64 : ∀ x ∈ l, I64 x) {k : Nat} (hk : 3 * l.length + 20 < k) : delta_Encode.f k l = some (encD l) := by
  unfold delta_Encode.f encD
  have hv := vput_len (l.length : Int)
  have hp : varint_Put.f k [] (l.length : Int) = some (vput l.length) := by
    have := put_f (l := []) (by simp) (n := (l.length : Int)) (by omega) (by omega) (k := k) (by omega)
    rwa [List.nil_append] at this
  rw [u64_id (by omega) (by omega), hp, Option.bind_some]
  have := enc_loop l hl hi64 l.length k 0 (vput l.length) 0 0 (by omega) (by omega) (by omega) (by omega)
  rwa [List.drop_zero] at this
end Go.Proofs.Ytjpeojohakhmdaa.DEnc

/- What Decode of chapter 4 comes to on what was written, whole or cut off. -/
namespace Go.Proofs.Ytjpeojohakhmdaa.DDec
open Go.RowKit Go.Proofs.Ytjpeojohakhmdaa.PS Go.Proofs.YtjpeojohakhmdaaW.PrintWords Go.Proofs.YtjpeojohakhmdaaW.PrintLast Go.Proofs.Ytjpeojohakhmdaa.Base Go.Proofs.Ytjpeojohakhmdaa.VPlain Go.Proofs.Ytjpeojohakhmdaa.Zigs Go.Proofs.Ytjpeojohakhmdaa.DPlain Go.Proofs.Ytjpeojohakhmdaa.VGet
open Go.Proofs.YtjpeojohakhmdaaW.PrintMore

theorem go_value (a : Int) (l : List Int) : ∀ (i : Nat) (acc : Int), (∀ x ∈ l, 0 ≤ x ∧ x ≤ 255) → (go a l i acc).2.2 ≠ 0 → (go a l i acc).1 = 0 := by
  induction l with
  | nil => intro i acc _ _; rfl
  | cons c t ih =>
    intro i acc hb h
    unfold go at h ⊢
    split
    · rename_i hc
      rw [if_pos hc] at h
      exact ih _ _ (fun x hx => hb x (by simp [hx])) h
    · rename_i hc
      rw [if_neg hc] at h
      split
      · rfl
      · rename_i h2
        rw [if_neg h2] at h
        exact absurd rfl h
theorem getI_range {l : List Int} (hb : ∀ x ∈ l, 0 ≤ x ∧ x ≤ 255) (a : Int) : 0 ≤ (getI l a).1 ∧ (getI l a).1 ≤ 18446744073709551615 := by
  by_cases h : (getI l a).2.2 = 0
  · obtain ⟨_, _, h0, h1, _⟩ := getI_ok hb (a := a) (v := (getI l a).1) (e := (getI l a).2.1) (by rw [← h])
    exact ⟨h0, h1⟩
  · have : (getI l a).1 = 0 := by
      unfold getI at h ⊢
      split
      · rfl
      · rename_i hr
        rw [if_neg hr] at h
        exact go_value _ _ _ _ (fun x hx => hb x (List.mem_of_mem_drop hx)) h
    omega
def getZ (l : List Int) (a : Int) : Int × Int × Int := (zagI (getI l a).1, (getI l a).2.1, (getI l a).2.2)
theorem getZag_f {l : List Int} (hl : l.length ≤ 140737488355328) (hb : ∀ x ∈ l, 0 ≤ x ∧ x ≤ 255) (a : Int) {k : Nat} (hk : l.length < k) : varint_GetZag.f k l a = some (getZ l a) := by
  unfold varint_GetZag.f getZ
  have hr := getI_range hb a
  rw [get_f hl hb a hk, Option.bind_some, zag_f hr.1 hr.2, Option.bind_some]
theorem getZ_put {b r : List Int} {x : Int} (hx : I64 x) : getZ (b ++ vput (zigI x) ++ r) b.length = (x, (b.length : Int) + (vput (zigI x)).length, 0) := by
  have hz := zig_range hx.1 hx.2
  unfold getZ
  rw [getI_put hz.1 hz.2]
  simp only [zag_zig]
/-- A number that is cut off. -/
theorem getI_cut {b : List Int} {n : Int} {m : Nat} (hm : m < (vput n).length) : getI (b ++ (vput n).take m) b.length = (0, 0, 10) := by
  unfold getI
  rw [if_neg (by rw [List.length_append]; push_cast; omega), Int.toNat_natCast, List.drop_left]
  exact go_cut _ n m hm
theorem dec_loop (r : List Int) (xs : List Int) : ∀ (pre : List Int) (k i n : Nat) (out : List Int) (last step : Int), i + xs.length = n → n ≤ 1000000000 → out.length + xs.length ≤ 1000000000 → (∀ x ∈ xs, I64 x) →
    (pre ++ enc xs ++ r).length ≤ 140737488355328 → (∀ x ∈ pre ++ enc xs ++ r, 0 ≤ x ∧ x ≤ 255) → (pre ++ enc xs ++ r).length + xs.length + 1 < k →
    delta_Decode.l0 k (pre ++ enc xs ++ r) (pre.length : Int) out last step (n : Int) (i : Int) = some (out ++ und last step i xs, ((pre ++ enc xs).length : Int), 0) := by
  induction xs with
  | nil =>
    intro pre k i n out last step hi hn ho hI hl hb hk
    obtain ⟨k, rfl⟩ : ∃ m, k = m + 1 := ⟨k - 1, by omega⟩
    rw [delta_Decode.l0, if_neg (by simp at hi; omega)]
    simp [und, enc]
  | cons x xs ih =>
    intro pre k i n out last step hi hn ho hI hl hb hk
    obtain ⟨k, rfl⟩ : ∃ m, k = m + 1 := ⟨k - 1, by omega⟩
    simp only [List.length_cons] at hi ho hk
    have hx := hI x (by simp)
    have eb : pre ++ enc (x :: xs) ++ r = pre ++ vput (zigI x) ++ (enc xs ++ r) := by simp only [enc, List.append_assoc]
    have eb2 : pre ++ enc (x :: xs) ++ r = (pre ++ vput (zigI x)) ++ enc xs ++ r := by simp only [enc, List.append_assoc]
    have hz : varint_GetZag.f k (pre ++ enc (x :: xs) ++ r) (pre.length : Int) = some (x, (pre.length : Int) + (vput (zigI x)).length, 0) := by
      rw [getZag_f hl hb _ (by omega), eb, getZ_put hx]
    have hw : IntKind.u64.wrap ((i : Int) + 1) = ((i + 1 : Nat) : Int) := by rw [u64_id (by omega) (by omega)]; push_cast; rfl
    have hpl : (pre.length : Int) + (vput (zigI x)).length = ((pre ++ vput (zigI x)).length : Int) := by simp
    rw [delta_Decode.l0, if_pos (by omega), hz, Option.bind_some]
    simp only [if_true, hw, hpl]
    have fin : ∀ (v st : Int), delta_Decode.l0 k (pre ++ enc (x :: xs) ++ r) ((pre ++ vput (zigI x)).length : Int) (out ++ [v]) v st (n : Int) ((i + 1 : Nat) : Int) = some (out ++ v :: und v st (i + 1) xs, ((pre ++ enc (x :: xs)).length : Int), 0) := by
      intro v st
      rw [eb2]
      rw [ih (pre ++ vput (zigI x)) k (i + 1) n (out ++ [v]) v st (by omega) hn (by rw [List.length_append, List.length_singleton]; omega) (fun y hy => hI y (by simp [hy])) (by rw [← eb2]; exact hl) (by rw [← eb2]; exact hb) (by rw [← eb2]; omega)]
      simp only [List.append_assoc, enc, List.cons_append, List.nil_append]
    simp only [und]
    by_cases h1 : i > 1
    · rw [if_pos (show (i : Int) > 1 by omega), if_pos (show (i : Int) > 0 by omega), if_pos (by omega), if_pos h1, if_pos (show i > 0 by omega)]
      exact fin _ _
    · rw [if_neg (show ¬ (i : Int) > 1 by omega), if_neg h1]
      by_cases h0 : i > 0
      · rw [if_pos (show (i : Int) > 0 by omega), if_pos (by omega), if_pos h0]
        exact fin _ _
      · rw [if_neg (show ¬ (i : Int) > 0 by omega), if_pos (by omega), if_neg h0]
        exact fin _ _
/-- The same, and then a number that is cut off. -/
theorem dec_cut (y : Int) (m : Nat) (hm : m < (vput (zigI y)).length) (xs : List Int) : ∀ (pre : List Int) (k i n : Nat) (out : List Int) (last step : Int), i + xs.length < n → n ≤ 1000000000 → out.length + xs.length ≤ 1000000000 → (∀ x ∈ xs, I64 x) →
    (pre ++ enc xs ++ (vput (zigI y)).take m).length ≤ 140737488355328 → (∀ x ∈ pre ++ enc xs ++ (vput (zigI y)).take m, 0 ≤ x ∧ x ≤ 255) → (pre ++ enc xs ++ (vput (zigI y)).take m).length + xs.length + 1 < k →
    delta_Decode.l0 k (pre ++ enc xs ++ (vput (zigI y)).take m) (pre.length : Int) out last step (n : Int) (i : Int) = some ([], 0, 10) := by
  induction xs with
  | nil =>
    intro pre k i n out last step hi hn ho hI hl hb hk
    obtain ⟨k, rfl⟩ : ∃ m, k = m + 1 := ⟨k - 1, by omega⟩
    simp only [enc, List.append_nil, List.length_nil] at hi ho hl hb hk ⊢
    rw [delta_Decode.l0, if_pos (by omega), getZag_f hl hb _ (by omega), Option.bind_some]
    unfold getZ
    rw [getI_cut hm]
    simp only
    rw [if_neg (by decide)]
  | cons x xs ih =>
    intro pre k i n out last step hi hn ho hI hl hb hk
    obtain ⟨k, rfl⟩ : ∃ m, k = m + 1 := ⟨k - 1, by omega⟩
    simp only [List.length_cons] at hi ho hk
    have hx := hI x (by simp)
    have eb : pre ++ enc (x :: xs) ++ (vput (zigI y)).take m = pre ++ vput (zigI x) ++ (enc xs ++ (vput (zigI y)).take m) := by simp only [enc, List.append_assoc]
    have eb2 : pre ++ enc (x :: xs) ++ (vput (zigI y)).take m = (pre ++ vput (zigI x)) ++ enc xs ++ (vput (zigI y)).take m := by simp only [enc, List.append_assoc]
    have hz : varint_GetZag.f k (pre ++ enc (x :: xs) ++ (vput (zigI y)).take m) (pre.length : Int) = some (x, (pre.length : Int) + (vput (zigI x)).length, 0) := by
      rw [getZag_f hl hb _ (by omega), eb, getZ_put hx]
    have hw : IntKind.u64.wrap ((i : Int) + 1) = ((i + 1 : Nat) : Int) := by rw [u64_id (by omega) (by omega)]; push_cast; rfl
    have hpl : (pre.length : Int) + (vput (zigI x)).length = ((pre ++ vput (zigI x)).length : Int) := by simp
    rw [delta_Decode.l0, if_pos (by omega), hz, Option.bind_some]
    simp only [if_true, hw, hpl]
    have fin : ∀ (v st : Int), delta_Decode.l0 k (pre ++ enc (x :: xs) ++ (vput (zigI y)).take m) ((pre ++ vput (zigI x)).length : Int) (out ++ [v]) v st (n : Int) ((i + 1 : Nat) : Int) = some ([], 0, 10) := by
      intro v st
      rw [eb2]
      exact ih (pre ++ vput (zigI x)) k (i + 1) n (out ++ [v]) v st (by omega) hn (by rw [List.length_append, List.length_singleton]; omega) (fun z hz => hI z (by simp [hz])) (by rw [← eb2]; exact hl) (by rw [← eb2]; exact hb) (by rw [← eb2]; omega)
    by_cases h1 : i > 1
    · rw [if_pos (show (i : Int) > 1 by omega), if_pos (show (i : Int) > 0 by omega), if_pos (by omega)]
      exact fin _ _
    · rw [if_neg (show ¬ (i : Int) > 1 by omega)]
      by_cases h0 : i > 0
      · rw [if_pos (show (i : Int) > 0 by omega), if_pos (by omega)]
        exact fin _ _
      · rw [if_neg (show ¬ (i : Int) > 0 by omega), if_pos (by omega)]
        exact fin _ _
/-- Where a row of numbers may be cut. -/
theorem enc_take (xs : List Int) : ∀ k, k < (enc xs).length → ∃ a y b m, xs = a ++ y :: b ∧ (enc xs).take k = enc a ++ (vput (zigI y)).take m ∧ m < (vput (zigI y)).length := by
  induction xs with
  | nil => intro k hk; simp [enc] at hk
  | cons x xs ih =>
    intro k hk
    simp only [enc] at hk ⊢
    by_cases h : k < (vput (zigI x)).length
    · refine ⟨[], x, xs, k, rfl, ?_, h⟩
      rw [List.take_append_of_le_length (by omega)]
      rfl
    · rw [List.length_append] at hk
      obtain ⟨a, y, b, m, rfl, h2, h3⟩ := ih (k - (vput (zigI x)).length) (by omega)
      refine ⟨x :: a, y, b, m, rfl, ?_, h3⟩
      rw [List.take_append, List.take_of_length_le (by omega), h2, enc, List.append_assoc]
end Go.Proofs.Ytjpeojohakhmdaa.DDec

/- Decode behind Encode: whole, too many numbers, and cut off. -/
namespace Go.Proofs.Ytjpeojohakhmdaa.DBack
open Go.RowKit Go.Proofs.Ytjpeojohakhmdaa.PS Go.Proofs.YtjpeojohakhmdaaW.PrintWords Go.Proofs.YtjpeojohakhmdaaW.PrintLast Go.Proofs.Ytjpeojohakhmdaa.Base Go.Proofs.Ytjpeojohakhmdaa.VPlain Go.Proofs.Ytjpeojohakhmdaa.Zigs Go.Proofs.Ytjpeojohakhmdaa.DPlain Go.Proofs.Ytjpeojohakhmdaa.VGet Go.Proofs.Ytjpeojohakhmdaa.DDec
open Go.Proofs.YtjpeojohakhmdaaW.PrintMore
theorem encD_parts (p m r : List Int) : p ++ encD m ++ r = p ++ vput m.length ++ (enc (dx 0 0 0 m) ++ r) := by
  unfold encD
  simp only [List.append_assoc]
theorem encD_parts2 (p m r : List Int) : p ++ encD m ++ r = (p ++ vput m.length) ++ enc (dx 0 0 0 m) ++ r := by
  unfold encD
  simp only [List.append_assoc]
theorem dec_f {p m r : List Int} {most : Int} (hm : m.length ≤ 1000000000) (hI : ∀ x ∈ m, I64 x) (hmost : (m.length : Int) ≤ most) (hmost2 : most ≤ 1000000000) (hl : (p ++ encD m ++ r).length ≤ 140737488355328) (hb : ∀ x ∈ p ++ encD m ++ r, 0 ≤ x ∧ x ≤ 255) {k : Nat} (hk : (p ++ encD m ++ r).length + m.length + 1 < k) :
    delta_Decode.f k (p ++ encD m ++ r) (p.length : Int) most = some (m, ((p ++ encD m).length : Int), 0) := by
  unfold delta_Decode.f
  have hg : getI (p ++ encD m ++ r) (p.length : Int) = ((m.length : Int), (p.length : Int) + (vput m.length).length, 0) := by
    rw [encD_parts, getI_put (by omega) (by omega)]
  rw [get_f hl hb _ (by omega), Option.bind_some, hg]
  have hu : IntKind.u64.wrap (mx most 0) = most := by unfold mx; rw [if_neg (by omega)]; exact u64_id (by omega) (by omega)
  have hpl : (p.length : Int) + (vput m.length).length = ((p ++ vput m.length).length : Int) := by rw [List.length_append]; push_cast; rfl
  simp only [if_true, hu, hpl]
  rw [if_neg (by omega)]
  have hxl := dx_len m 0 0 0
  have key := dec_loop r (dx 0 0 0 m) (p ++ vput m.length) k 0 m.length [] 0 0 (by omega) (by omega) (by rw [List.length_nil, hxl]; omega) (dx_I m 0 0 0 hI) (by rw [← encD_parts2]; exact hl) (by rw [← encD_parts2]; exact hb) (by rw [← encD_parts2, hxl]; exact hk)
  have hund := und_dx m 0 0 0 hI (by unfold I64; omega) (fun _ => rfl) (by unfold I64; omega)
  rw [encD_parts2]
  refine key.trans ?_
  rw [List.nil_append, hund]
  simp only [encD, List.append_assoc]
theorem dec_few {p m r : List Int} {most : Int} (hm : m.length ≤ 1000000000) (hmost : mx most 0 < m.length) (hmost0 : most ≤ 1000000000) (hl : (p ++ encD m ++ r).length ≤ 140737488355328) (hb : ∀ x ∈ p ++ encD m ++ r, 0 ≤ x ∧ x ≤ 255) {k : Nat} (hk : (p ++ encD m ++ r).length + m.length + 1 < k) :
    delta_Decode.f k (p ++ encD m ++ r) (p.length : Int) most = some ([], 0, 4) := by
  unfold delta_Decode.f
  have hg : getI (p ++ encD m ++ r) (p.length : Int) = ((m.length : Int), (p.length : Int) + (vput m.length).length, 0) := by
    rw [encD_parts, getI_put (by omega) (by omega)]
  rw [get_f hl hb _ (by omega), Option.bind_some, hg]
  have hu : IntKind.u64.wrap (mx most 0) = mx most 0 := by unfold mx at *; split <;> exact u64_id (by omega) (by omega)
  simp only [if_true, hu]
  rw [if_pos (by omega)]
theorem dec_empty {p r : List Int} {most : Int} (hmost0 : most ≤ 1000000000) (hl : (p ++ encD [] ++ r).length ≤ 140737488355328) (hb : ∀ x ∈ p ++ encD [] ++ r, 0 ≤ x ∧ x ≤ 255) {k : Nat} (hk : (p ++ encD [] ++ r).length + 1 < k) :
    ∃ t, delta_Decode.f k (p ++ encD [] ++ r) (p.length : Int) most = some t := by
  unfold delta_Decode.f
  have hg : getI (p ++ encD [] ++ r) (p.length : Int) = (0, (p.length : Int) + (vput 0).length, 0) := by
    rw [encD_parts]
    exact getI_put (n := 0) (by decide) (by decide)
  obtain ⟨k, rfl⟩ : ∃ m, k = m + 1 := ⟨k - 1, by omega⟩
  rw [get_f hl hb _ (by omega), Option.bind_some, hg]
  have hu : ¬ (0 : Int) > IntKind.u64.wrap (mx most 0) := by unfold mx; split <;> rw [u64_id (by omega) (by omega)] <;> omega
  simp only [if_true]
  rw [if_neg hu, delta_Decode.l0, if_neg (by omega)]
  exact ⟨_, rfl⟩
theorem dec_short {m : List Int} {most : Int} (hm : m.length ≤ 1000000000) (hI : ∀ x ∈ m, I64 x) (hmost : (m.length : Int) ≤ most) (hmost2 : most ≤ 1000000000) {c : Nat} (hc : c < (encD m).length) {k : Nat} (hk : (encD m).length + m.length + 1 < k) :
    delta_Decode.f k ((encD m).take c) 0 most = some ([], 0, 10) := by
  have hlen := encD_len m
  have hbyte := encD_byte hm hI
  have hb : ∀ x ∈ (encD m).take c, 0 ≤ x ∧ x ≤ 255 := fun x hx => hbyte x (List.mem_of_mem_take hx)
  have hl : ((encD m).take c).length ≤ 140737488355328 := by rw [List.length_take]; omega
  have hkl : ((encD m).take c).length < k := by rw [List.length_take]; omega
  unfold delta_Decode.f
  rw [get_f hl hb _ hkl, Option.bind_some]
  by_cases h : c < (vput m.length).length
  · have ht : (encD m).take c = [] ++ (vput m.length).take c := by unfold encD; rw [List.take_append_of_le_length (by omega)]; rfl
    have hg := getI_cut (b := []) h
    rw [ht]
    rw [show (([] : List Int).length : Int) = 0 from rfl] at hg
    rw [hg]
    simp only
    rw [if_neg (by decide)]
  · have hxl := dx_len m 0 0 0
    have he : (encD m).length = (vput m.length).length + (enc (dx 0 0 0 m)).length := by unfold encD; rw [List.length_append]
    obtain ⟨a, y, b, q, hab, ht, hq⟩ := enc_take (dx 0 0 0 m) (c - (vput m.length).length) (by omega)
    have ht2 : (encD m).take c = vput m.length ++ enc a ++ (vput (zigI y)).take q := by
      unfold encD
      rw [List.take_append, List.take_of_length_le (by omega), ht, List.append_assoc]
    have hg : getI ((encD m).take c) 0 = ((m.length : Int), ((vput m.length).length : Int), 0) := by
      have := getI_put (b := []) (r := enc a ++ (vput (zigI y)).take q) (n := (m.length : Int)) (by omega) (by omega)
      rw [show (([] : List Int).length : Int) = 0 from rfl, List.nil_append, Int.zero_add] at this
      rw [ht2, List.append_assoc, this]
    rw [hg]
    have hu : IntKind.u64.wrap (mx most 0) = most := by unfold mx; rw [if_neg (by omega)]; exact u64_id (by omega) (by omega)
    simp only [if_true, hu]
    rw [if_neg (by omega)]
    rw [ht2] at hl hb hkl ⊢
    have hal : a.length + 1 + b.length = m.length := by rw [← hxl, hab]; simp only [List.length_append, List.length_cons]; omega
    have hkl2 : (vput m.length ++ enc a ++ (vput (zigI y)).take q).length ≤ (encD m).length := by rw [← ht2, List.length_take]; omega
    exact dec_cut y q hq a (vput m.length) k 0 m.length [] 0 0 (by omega) (by omega) (by rw [List.length_nil]; omega) (fun x hx => dx_I m 0 0 0 hI x (by rw [hab]; simp [hx])) hl hb (by omega)
end Go.Proofs.Ytjpeojohakhmdaa.DBack

/- A list of numbers is the same as itself. -/
namespace Go.Proofs.Ytjpeojohakhmdaa.Same64
open Go.RowKit Go.Proofs.Ytjpeojohakhmdaa.PS Go.Proofs.YtjpeojohakhmdaaW.PrintWords Go.Proofs.YtjpeojohakhmdaaW.PrintLast Go.Proofs.Ytjpeojohakhmdaa.Base
theorem same64_loop (l : List Int) (hl : l.length ≤ 140737488355328) (d : Nat) : ∀ (k i : Nat), i ≤ l.length → l.length - i = d → d < k → columbariumbook_Same_int64.l0 k l l (i : Int) = some true := by
  induction d with
  | zero =>
    intro k i hi hd hk
    obtain ⟨k, rfl⟩ : ∃ m, k = m + 1 := ⟨k - 1, by omega⟩
    rw [columbariumbook_Same_int64.l0, if_neg (by omega)]
  | succ d ih =>
    intro k i hi hd hk
    obtain ⟨k, rfl⟩ : ∃ m, k = m + 1 := ⟨k - 1, by omega⟩
    rw [columbariumbook_Same_int64.l0, if_pos (by omega), if_pos (by omega), if_pos (by omega), if_pos rfl, show wrap64 ((i : Int) + 1) = ((i + 1 : Nat) : Int) from by rw [w64_id (by omega) (by omega)]; push_cast; rfl]
    exact ih k (i + 1) (by omega) (by omega) (by omega)
theorem same64_f {l : List Int} (hl : l.length ≤ 140737488355328) {k : Nat} (hk : l.length < k) : columbariumbook_Same_int64.f k l l = some true := by
  unfold columbariumbook_Same_int64.f
  rw [if_pos rfl]
  exact same64_loop l hl l.length k 0 (by omega) (by omega) (by omega)
end Go.Proofs.Ytjpeojohakhmdaa.Same64

/- What Decode of chapter 4 comes to on any bytes: numbers whose own bytes are just those that were read, or a refusal. -/
namespace Go.Proofs.Ytjpeojohakhmdaa.DAny
open Go.RowKit Go.Proofs.Ytjpeojohakhmdaa.PS Go.Proofs.YtjpeojohakhmdaaW.PrintWords Go.Proofs.YtjpeojohakhmdaaW.PrintLast Go.Proofs.Ytjpeojohakhmdaa.Base Go.Proofs.Ytjpeojohakhmdaa.VPlain Go.Proofs.Ytjpeojohakhmdaa.Zigs Go.Proofs.Ytjpeojohakhmdaa.DPlain Go.Proofs.Ytjpeojohakhmdaa.VGet Go.Proofs.Ytjpeojohakhmdaa.DDec
open Go.Proofs.YtjpeojohakhmdaaW.PrintMore
/-- a number that is got: its bytes -/
theorem get_bytes {l : List Int} (hb : ∀ x ∈ l, 0 ≤ x ∧ x ≤ 255) {a : Int} (h : (getI l a).2.2 = 0) :
    0 ≤ a ∧ 0 ≤ (getI l a).1 ∧ (getI l a).1 ≤ 18446744073709551615 ∧ (getI l a).2.1 = a + (vput (getI l a).1).length ∧ (getI l a).2.1 ≤ l.length ∧ l.drop a.toNat = vput (getI l a).1 ++ l.drop (getI l a).2.1.toNat := by
  obtain ⟨h0, h1, h2, h3, h4, h5, r, h6, h7⟩ := getI_ok hb (a := a) (v := (getI l a).1) (e := (getI l a).2.1) (by rw [← h])
  refine ⟨h0, h2, h3, h4, h5, ?_⟩
  have : r = l.drop (getI l a).2.1.toNat := by
    rw [h4, show (a + ((vput (getI l a).1).length : Int)).toNat = a.toNat + (vput (getI l a).1).length from by omega, ← List.drop_drop, h6, List.drop_left]
  rw [← this]
  exact h6
theorem getZ_bytes {l : List Int} (hb : ∀ x ∈ l, 0 ≤ x ∧ x ≤ 255) {a : Int} (h : (getZ l a).2.2 = 0) :
    0 ≤ a ∧ I64 (getZ l a).1 ∧ (getZ l a).2.1 = a + (vput (zigI (getZ l a).1)).length ∧ (getZ l a).2.1 ≤ l.length ∧ l.drop a.toNat = vput (zigI (getZ l a).1) ++ l.drop (getZ l a).2.1.toNat := by
  obtain ⟨h0, h2, h3, h4, h5, h6⟩ := get_bytes hb (a := a) h
  unfold getZ
  show _ ∧ I64 (zagI (getI l a).1) ∧ _ = a + (vput (zigI (zagI (getI l a).1))).length ∧ _ ∧ _ = vput (zigI (zagI (getI l a).1)) ++ _
  rw [zig_zag h2]
  exact ⟨h0, zag_range h2 h3, h4, h5, h6⟩
/-- one round's number out of its difference, and the difference out of the number -/
theorem step_back {last step z : Int} (i : Nat) (hz : I64 z) (_hs : I64 step) (_hl : I64 last) (h0 : i = 0 → last = 0) :
    (let d := if i > 1 then wrap64 (z + step) else z
     let n := wrap64 (last + d)
     (if i > 1 then wrap64 ((if i = 0 then n else wrap64 (n - last)) - step) else if i = 0 then n else wrap64 (n - last)) = z ∧ (i > 0 → (if i = 0 then n else wrap64 (n - last)) = d)) := by
  unfold I64 at *
  intro d n
  have hd : I64 d := by
    show I64 (if i > 1 then wrap64 (z + step) else z)
    split
    · exact w64_I _
    · exact hz
  unfold I64 at hd
  have hn : (if i = 0 then n else wrap64 (n - last)) = d := by
    by_cases h : i = 0
    · rw [if_pos h]
      show wrap64 (last + d) = d
      rw [h0 h, Int.zero_add, w64_id hd.1 hd.2]
    · rw [if_neg h]
      show wrap64 (wrap64 (last + d) - last) = d
      unfold wrap64
      omega
  rw [hn]
  refine ⟨?_, fun _ => rfl⟩
  show (if i > 1 then wrap64 ((if i > 1 then wrap64 (z + step) else z) - step) else (if i > 1 then wrap64 (z + step) else z)) = z
  split
  · unfold wrap64; omega
  · rfl
theorem dec_any {l : List Int} (hl : l.length ≤ 140737488355328) (hb : ∀ x ∈ l, 0 ≤ x ∧ x ≤ 255) {n : Nat} (hn : n ≤ 1000000000) (d : Nat) : ∀ (k i : Nat) (a : Int) (out : List Int) (last step : Int), i ≤ n → n - i = d → 0 ≤ a → a ≤ l.length → out.length ≤ i → l.length + d + 50 < k →
    (i = 0 → last = 0) → I64 last → I64 step → (∀ x ∈ out, I64 x) →
    ∃ t, delta_Decode.l0 k l a out last step n (i : Int) = some t ∧ (t.2.2 ≠ 0 → t.1 = [] ∧ t.2.1 = 0) ∧
      (t.2.2 = 0 → ∃ xs : List Int, xs.length = d ∧ (∀ x ∈ xs, I64 x) ∧ t.1 = out ++ xs ∧ t.2.1 = a + (enc (dx last step i xs)).length ∧ t.2.1 ≤ l.length ∧ l.drop a.toNat = enc (dx last step i xs) ++ l.drop t.2.1.toNat) := by
  induction d with
  | zero =>
    intro k i a out last step hi hd h0 h1 ho hk c0 hL hS hout
    obtain ⟨k, rfl⟩ : ∃ m, k = m + 1 := ⟨k - 1, by omega⟩
    refine ⟨(out, a, 0), by rw [delta_Decode.l0, if_neg (by omega)], fun h => absurd rfl h, fun _ => ⟨[], rfl, by simp, by simp, ?_, h1, ?_⟩⟩
    · simp [dx, enc]
    · simp [dx, enc]
  | succ d ih =>
    intro k i a out last step hi hd h0 h1 ho hk c0 hL hS hout
    obtain ⟨k, rfl⟩ : ∃ m, k = m + 1 := ⟨k - 1, by omega⟩
    rw [delta_Decode.l0, if_pos (by omega), getZag_f hl hb _ (by omega), Option.bind_some]
    by_cases he : (getZ l a).2.2 = 0
    · obtain ⟨g0, g1, g2, g3, g4⟩ := getZ_bytes hb he
      rw [if_pos he]
      generalize (getZ l a).1 = z at *
      generalize (getZ l a).2.1 = e at *
      have hv := vput_len (zigI z)
      have hw1 : IntKind.u64.wrap ((i : Int) + 1) = ((i + 1 : Nat) : Int) := by rw [u64_id (by omega) (by omega)]; push_cast; rfl
      have hlen : out.length < 17592186044416 := by omega
      -- what is next, whatever the way
      have next : ∀ dd st : Int, dd = (if i > 1 then wrap64 (z + step) else z) → st = (if i > 0 then dd else step) → ∃ t, delta_Decode.l0 k l e (out ++ [wrap64 (last + dd)]) (wrap64 (last + dd)) st n ((i + 1 : Nat) : Int) = some t ∧ (t.2.2 ≠ 0 → t.1 = [] ∧ t.2.1 = 0) ∧
          (t.2.2 = 0 → ∃ xs : List Int, xs.length = d + 1 ∧ (∀ x ∈ xs, I64 x) ∧ t.1 = out ++ xs ∧ t.2.1 = a + (enc (dx last step i xs)).length ∧ t.2.1 ≤ l.length ∧ l.drop a.toNat = enc (dx last step i xs) ++ l.drop t.2.1.toNat) := by
        intro dd st hdd hst
        have hddI : I64 dd := by
          rw [hdd]
          split
          · exact w64_I _
          · exact g1
        have hstI : I64 st := by
          rw [hst]
          split
          · exact hddI
          · exact hS
        obtain ⟨t, ht, ht1, ht2⟩ := ih k (i + 1) e (out ++ [wrap64 (last + dd)]) (wrap64 (last + dd)) st (by omega) (by omega) (by omega) g3 (by rw [List.length_append, List.length_singleton]; omega) (by omega) (fun h => by omega) (w64_I _) hstI (fun x hx => by
          rw [List.mem_append, List.mem_singleton] at hx
          rcases hx with hx | rfl
          · exact hout x hx
          · exact w64_I _)
        refine ⟨t, ht, ht1, fun h => ?_⟩
        obtain ⟨xs, q1, q2, q3, q4, q5, q6⟩ := ht2 h
        have sb := step_back (last := last) (step := step) (z := z) i g1 hS hL c0
        simp only [← hdd] at sb
        have hdx : dx last step i (wrap64 (last + dd) :: xs) = z :: dx (wrap64 (last + dd)) st (i + 1) xs := by
          simp only [dx]
          rw [sb.1]
          have : (if i > 0 then (if i = 0 then wrap64 (last + dd) else wrap64 (wrap64 (last + dd) - last)) else step) = st := by
            rw [hst]
            by_cases hi0 : i > 0
            · rw [if_pos hi0, if_pos hi0, sb.2 hi0]
            · rw [if_neg hi0, if_neg hi0]
          rw [this]
        refine ⟨wrap64 (last + dd) :: xs, by simp [q1], fun x hx => ?_, by rw [q3]; simp, ?_, q5, ?_⟩
        · rcases List.mem_cons.1 hx with rfl | hx
          · exact w64_I _
          · exact q2 x hx
        · rw [hdx, q4, g2]
          simp only [enc, List.length_append]
          push_cast
          omega
        · rw [hdx, g4, q6]
          simp only [enc, List.append_assoc]
      by_cases h2 : (i : Int) > 1
      · rw [if_pos h2, if_pos (show (i : Int) > 0 by omega), if_pos hlen, hw1]
        exact next _ _ (by rw [if_pos (by omega)]) (by rw [if_pos (by omega)])
      · rw [if_neg h2]
        by_cases h3 : (i : Int) > 0
        · rw [if_pos h3, if_pos hlen, hw1]
          exact next _ _ (by rw [if_neg (by omega)]) (by rw [if_pos (by omega)])
        · rw [if_neg h3, if_pos hlen, hw1]
          exact next _ _ (by rw [if_neg (by omega)]) (by rw [if_neg (by omega)])
    · rw [if_neg he]
      exact ⟨_, rfl, fun _ => ⟨rfl, rfl⟩, fun h => absurd h he⟩
theorem dec_any_f {l : List Int} (hl : l.length ≤ 140737488355328) (hb : ∀ x ∈ l, 0 ≤ x ∧ x ≤ 255) {a most : Int} (hm0 : 0 ≤ most) (hm : most ≤ 1000000000) {k : Nat} (hk : l.length + 1000000100 < k) :
    ∃ t, delta_Decode.f k l a most = some t ∧ (t.2.2 ≠ 0 → t.1 = [] ∧ t.2.1 = 0) ∧
      (t.2.2 = 0 → (∀ x ∈ t.1, I64 x) ∧ (t.1.length : Int) ≤ most ∧ t.2.1 = a + (encD t.1).length ∧ 0 ≤ a ∧ t.2.1 ≤ l.length ∧ l.drop a.toNat = encD t.1 ++ l.drop t.2.1.toNat) := by
  have hr := getI_range hb a
  unfold delta_Decode.f
  rw [get_f hl hb a (by omega), Option.bind_some]
  have hmx : IntKind.u64.wrap (mx most 0) = most := by
    unfold mx
    rw [if_neg (by omega), u64_id hm0 (by omega)]
  by_cases he : (getI l a).2.2 = 0
  · rw [if_pos he, hmx]
    obtain ⟨g0, g1, g2, g3, g4, g5⟩ := get_bytes hb he
    by_cases hgt : (getI l a).1 > most
    · rw [if_pos hgt]
      exact ⟨_, rfl, fun _ => ⟨rfl, rfl⟩, fun h => by simp at h⟩
    · rw [if_neg hgt]
      obtain ⟨n, hn⟩ := Int.eq_ofNat_of_zero_le g1
      rw [hn] at g1 g2 g3 g5 hgt ⊢
      have hv := vput_len (n : Int)
      obtain ⟨t, ht, ht1, ht2⟩ := dec_any hl hb (n := n) (by omega) n k 0 (getI l a).2.1 [] 0 0 (by omega) (by omega) (by omega) g4 (by simp) (by omega) (fun _ => rfl) (by unfold I64; omega) (by unfold I64; omega) (by simp)
      refine ⟨t, ht, ht1, fun h => ?_⟩
      obtain ⟨xs, q1, q2, q3, q4, q5, q6⟩ := ht2 h
      rw [List.nil_append] at q3
      subst q3
      refine ⟨q2, by omega, ?_, g0, q5, ?_⟩
      · unfold encD
        rw [q4, g3, q1, List.length_append]
        push_cast
        omega
      · unfold encD
        rw [g5, q6, q1, List.append_assoc]
  · rw [if_neg he]
    exact ⟨_, rfl, fun _ => ⟨rfl, rfl⟩, fun h => absurd h he⟩
end Go.Proofs.Ytjpeojohakhmdaa.DAny

/- Rising rows: IsSorted; the index of times; a span. -/
namespace Go.Proofs.Ytjpeojohakhmdaa.TBase
open Go.RowKit Go.Proofs.Ytjpeojohakhmdaa.PS Go.Proofs.YtjpeojohakhmdaaW.PrintWords Go.Proofs.YtjpeojohakhmdaaW.PrintLast Go.Proofs.Ytjpeojohakhmdaa.Base

def Rises (l : List Int) : Prop := ∀ i : Nat, i + 1 < l.length → rd l (i : Int) ≤ rd l ((i + 1 : Nat) : Int)
theorem rises_le {l : List Int} (h : Rises l) (i d : Nat) : i + d < l.length → rd l (i : Int) ≤ rd l ((i + d : Nat) : Int) := by
  induction d with
  | zero => intro _; exact Int.le_refl _
  | succ d ih =>
    intro hl
    have a := ih (by omega)
    have b := h (i + d) (by omega)
    exact Int.le_trans a b
theorem rises_mono {l : List Int} (h : Rises l) {i j : Nat} (hij : i ≤ j) (hj : j < l.length) : rd l (i : Int) ≤ rd l (j : Int) := by
  obtain ⟨d, rfl⟩ : ∃ d, j = i + d := ⟨j - i, by omega⟩
  exact rises_le h i d hj
theorem less_f (a b : Int) : cmp_Less_int64.f a b = some (decide (a < b)) := by
  unfold cmp_Less_int64.f cmp_isNaN_int64.f
  simp
theorem sorted_loop {l : List Int} (hl : l.length ≤ 1000000000000000) (d : Nat) : ∀ k : Nat, d < l.length → d < k →
    (∃ b, slices_IsSorted_int64_int64.l0 k l (d : Int) = some b ∧ (b = true ↔ ∀ i : Nat, i < d → rd l (i : Int) ≤ rd l ((i + 1 : Nat) : Int))) := by
  induction d with
  | zero =>
    intro k _ hk
    obtain ⟨k, rfl⟩ : ∃ m, k = m + 1 := ⟨k - 1, by omega⟩
    exact ⟨true, by rw [slices_IsSorted_int64_int64.l0, if_neg (by omega)], by simp⟩
  | succ d ih =>
    intro k hd hk
    obtain ⟨k, rfl⟩ : ∃ m, k = m + 1 := ⟨k - 1, by omega⟩
    obtain ⟨b, hb, hb2⟩ := ih k (by omega) (by omega)
    have hw : wrap64 (((d + 1 : Nat) : Int) - 1) = (d : Int) := by rw [w64_id (by omega) (by omega)]; omega
    rw [slices_IsSorted_int64_int64.l0, if_pos (by omega), if_pos (by omega), if_pos (by omega), hw, if_pos (by omega), if_pos (by omega), less_f, Option.bind_some]
    by_cases h : rd l ((d + 1 : Nat) : Int) < rd l (d : Int)
    · refine ⟨false, by rw [if_pos (by simpa using h)], by simp; exact ⟨d, by omega, by simpa using h⟩⟩
    · refine ⟨b, by rw [if_neg (by simpa using h)]; exact hb, ?_⟩
      rw [hb2]
      constructor
      · intro q i hi
        rcases Nat.lt_or_ge i d with c | c
        · exact q i c
        · obtain rfl : i = d := by omega
          omega
      · intro q i hi
        exact q i (by omega)
theorem sorted_f {l : List Int} (hl : l.length ≤ 1000000000000000) {k : Nat} (hk : l.length < k) :
    ∃ b, slices_IsSorted_int64_int64.f k l = some b ∧ (b = true ↔ Rises l) := by
  unfold slices_IsSorted_int64_int64.f
  by_cases h0 : l.length = 0
  · obtain ⟨k, rfl⟩ : ∃ m, k = m + 1 := ⟨k - 1, by omega⟩
    refine ⟨true, ?_, ?_⟩
    · rw [h0, show wrap64 (((0 : Nat) : Int) - 1) = -1 from by rw [w64_id (by omega) (by omega)]; omega, slices_IsSorted_int64_int64.l0, if_neg (by omega)]
    · simp only [true_iff]
      intro i hi
      omega
  · obtain ⟨d, hd⟩ : ∃ d, l.length = d + 1 := ⟨l.length - 1, by omega⟩
    obtain ⟨b, hb, hb2⟩ := sorted_loop hl d k (by omega) (by omega)
    refine ⟨b, ?_, ?_⟩
    · rw [hd, show wrap64 (((d + 1 : Nat) : Int) - 1) = (d : Int) from by rw [w64_id (by omega) (by omega)]; omega]
      exact hb
    · rw [hb2]
      constructor
      · intro q i hi; exact q i (by omega)
      · intro q i hi; exact q i (by omega)

/-- each fourth -/
def four (l : List Int) (n : Nat) : List Int := (List.range n).map fun i => rd l ((4 * i : Nat) : Int)
theorem four_len (l : List Int) (n : Nat) : (four l n).length = n := by simp [four]
theorem four_rd (l : List Int) {n i : Nat} (h : i < n) : rd (four l n) (i : Int) = rd l ((4 * i : Nat) : Int) := by
  rw [rd_nat (by rw [four_len]; exact h)]
  simp [four]
theorem four_succ (l : List Int) (n : Nat) : four l (n + 1) = four l n ++ [rd l ((4 * n : Nat) : Int)] := by
  simp [four, List.range_succ]
/-- the last of the first i -/
def lastTo (l : List Int) (i : Nat) : Int := if i = 0 then 0 else rd l ((i - 1 : Nat) : Int)
theorem build_loop {l : List Int} (hl : l.length ≤ 1048576) (d : Nat) : ∀ (k i : Nat), i ≤ l.length → l.length - i = d → d < k →
    ticks_Build.l0 k l (l.length : Int) (i : Int) (l.length : Int) (lastTo l i) (four l ((i + 3) / 4)) = some ((l.length : Int), lastTo l l.length, four l ((l.length + 3) / 4), 0) := by
  induction d with
  | zero =>
    intro k i hi hd hk
    obtain ⟨k, rfl⟩ : ∃ m, k = m + 1 := ⟨k - 1, by omega⟩
    obtain rfl : i = l.length := by omega
    rw [ticks_Build.l0, if_neg (by omega)]
  | succ d ih =>
    intro k i hi hd hk
    obtain ⟨k, rfl⟩ : ∃ m, k = m + 1 := ⟨k - 1, by omega⟩
    have hw : wrap64 ((i : Int) + 1) = ((i + 1 : Nat) : Int) := by rw [w64_id (by omega) (by omega)]; push_cast; rfl
    have hI := ih k (i + 1) (by omega) (by omega) (by omega)
    have hlast : lastTo l (i + 1) = rd l (i : Int) := by simp [lastTo]
    rw [hlast] at hI
    rw [ticks_Build.l0, if_pos (by omega), if_pos (by omega), if_pos (by omega), hw]
    by_cases h : Int.tmod (i : Int) 4 = 0
    · have h4 : i % 4 = 0 := by
        rw [Int.tmod_eq_emod_of_nonneg (by omega)] at h
        omega
      rw [if_pos h, if_pos (by rw [four_len]; omega)]
      have : four l ((i + 1 + 3) / 4) = four l ((i + 3) / 4) ++ [rd l (i : Int)] := by
        rw [show (i + 1 + 3) / 4 = (i + 3) / 4 + 1 from by omega, four_succ, show 4 * ((i + 3) / 4) = i from by omega]
      rw [this] at hI
      exact hI
    · have h4 : i % 4 ≠ 0 := by
        rw [Int.tmod_eq_emod_of_nonneg (by omega)] at h
        omega
      rw [if_neg h]
      rw [show (i + 1 + 3) / 4 = (i + 3) / 4 from by omega] at hI
      exact hI
theorem build_f {l : List Int} (hl : l.length ≤ 1048576) (hr : Rises l) {k : Nat} (hk : l.length + 10 < k) :
    ticks_Build.f k l = some ((l.length : Int), lastTo l l.length, four l ((l.length + 3) / 4), 0) := by
  obtain ⟨k, rfl⟩ : ∃ m, k = m + 1 := ⟨k - 1, by omega⟩
  obtain ⟨b, hb, hb2⟩ := sorted_f (l := l) (by omega) (k := k + 1) (by omega)
  obtain rfl : b = true := hb2.2 hr
  unfold ticks_Build.f
  rw [if_neg (by omega), hb, Option.bind_some, ticks_Build.j0, if_neg (by decide)]
  have := build_loop hl l.length k 0 (by omega) (by omega) (by omega)
  exact this
theorem build_not {l : List Int} (hl : l.length ≤ 1048576) (hr : ¬ Rises l) {k : Nat} (hk : l.length + 10 < k) :
    ticks_Build.f k l = some (0, 0, [], 12) := by
  obtain ⟨k, rfl⟩ : ∃ m, k = m + 1 := ⟨k - 1, by omega⟩
  obtain ⟨b, hb, hb2⟩ := sorted_f (l := l) (by omega) (k := k + 1) (by omega)
  obtain rfl : b = false := by
    cases b with
    | false => rfl
    | true => exact absurd (hb2.1 rfl) hr
  unfold ticks_Build.f
  rw [if_neg (by omega), hb, Option.bind_some, ticks_Build.j0, if_pos (by rfl)]
theorem four_rises {l : List Int} (hr : Rises l) : Rises (four l ((l.length + 3) / 4)) := by
  intro i hi
  rw [four_len] at hi
  rw [four_rd l (show i < (l.length + 3) / 4 by omega), four_rd l hi]
  exact rises_mono hr (by omega) (by omega)
theorem right_f {l : List Int} (hl : l.length ≤ 1048576) (hr : Rises l) {k : Nat} (hk : l.length + 10 < k) :
    ticks_Right.f k (l.length : Int) (lastTo l l.length) (four l ((l.length + 3) / 4)) = some true := by
  obtain ⟨k, rfl⟩ : ∃ m, k = m + 1 := ⟨k - 1, by omega⟩
  obtain ⟨b, hb, hb2⟩ := sorted_f (l := four l ((l.length + 3) / 4)) (by rw [four_len]; omega) (k := k + 1) (by rw [four_len]; omega)
  obtain rfl : b = true := hb2.2 (four_rises hr)
  unfold ticks_Right.f
  have hq : wrap64 (Int.tdiv (wrap64 ((wrap64 ((l.length : Int) + 4)) - 1)) 4) = (((l.length + 3) / 4 : Nat) : Int) := by
    rw [w64_id (n := (l.length : Int) + 4) (by omega) (by omega), w64_id (n := (l.length : Int) + 4 - 1) (by omega) (by omega), Int.tdiv_eq_ediv_of_nonneg (by omega), w64_id (by omega) (by omega)]
    omega
  rw [if_neg (by omega), if_neg (by omega), if_pos (by rw [four_len, hq]), hb, Option.bind_some, ticks_Right.j0, if_neg (by decide)]
  by_cases h0 : l.length = 0
  · rw [if_pos (by omega)]
    simp [lastTo, h0]
  · obtain ⟨m, hm⟩ : ∃ m, (l.length + 3) / 4 = m + 1 := ⟨(l.length + 3) / 4 - 1, by omega⟩
    have hlm : 4 * m < l.length := by omega
    rw [if_neg (by omega), four_len, hm, show wrap64 (((m + 1 : Nat) : Int) - 1) = (m : Int) from by rw [w64_id (by omega) (by omega)]; omega, if_pos (by omega), if_pos (by omega), four_rd l (by omega)]
    have hlast : lastTo l l.length = rd l ((l.length - 1 : Nat) : Int) := by simp [lastTo, h0]
    rw [hlast]
    by_cases he : rd l ((4 * m : Nat) : Int) = rd l ((l.length - 1 : Nat) : Int)
    · rw [if_pos he]
    · have hle := rises_mono hr (i := 4 * m) (j := l.length - 1) (by omega) (by omega)
      rw [if_neg he, if_pos (by omega)]
      have : Int.tmod (l.length : Int) 4 ≠ 1 := by
        intro h
        rw [Int.tmod_eq_emod_of_nonneg (by omega)] at h
        have : 4 * m = l.length - 1 := by omega
        rw [this] at he
        exact he rfl
      simp [this]

/-- where a span begins -/
def From (at' : List Int) (lo : Int) (m : Nat) (F : Int) : Prop :=
  (F = 0 ∧ ∀ j : Nat, j < m → lo ≤ rd at' (j : Int)) ∨ ∃ n : Nat, n < m ∧ F = ((4 * n : Nat) : Int) ∧ rd at' (n : Int) < lo ∧ ∀ j : Nat, n < j → j < m → lo ≤ rd at' (j : Int)
/-- where it ends -/
def To (at' : List Int) (hi : Int) (rows : Int) (T : Int) : Prop :=
  (T = rows ∧ ∀ j : Nat, j < at'.length → rd at' (j : Int) ≤ hi) ∨ ∃ n : Nat, n < at'.length ∧ T = ((4 * n : Nat) : Int) ∧ hi < rd at' (n : Int) ∧ ∀ j : Nat, j < n → rd at' (j : Int) ≤ hi
theorem from_more {a : List Int} (ha : Rises a) {lo : Int} {n : Nat} {F : Int} (h : From a lo n F) (hn : n < a.length) (hlo : lo ≤ rd a (n : Int)) : From a lo a.length F := by
  have up : ∀ j : Nat, n ≤ j → j < a.length → lo ≤ rd a (j : Int) := fun j h1 h2 => Int.le_trans hlo (rises_mono ha h1 h2)
  rcases h with ⟨h1, h2⟩ | ⟨q, h1, h2, h3, h4⟩
  · refine .inl ⟨h1, fun j hj => ?_⟩
    rcases Nat.lt_or_ge j n with c | c
    · exact h2 j c
    · exact up j c hj
  · refine .inr ⟨q, by omega, h2, h3, fun j hj1 hj2 => ?_⟩
    rcases Nat.lt_or_ge j n with c | c
    · exact h4 j hj1 c
    · exact up j c hj2
theorem span_loop {a : List Int} (hl : a.length ≤ 1048576) (ha : Rises a) {lo hi rows : Int} (hlh : lo ≤ hi) (d : Nat) : ∀ (k i : Nat) (F : Int), i ≤ a.length → a.length - i = d → d < k →
    From a lo i F → (∀ j : Nat, j < i → rd a (j : Int) ≤ hi) →
    ∃ F' T', ticks_Span.l0 k lo hi F rows a (a.length : Int) (i : Int) = some (F', T') ∧ From a lo a.length F' ∧ To a hi rows T' := by
  induction d with
  | zero =>
    intro k i F hi' hd hk hF hT
    obtain ⟨k, rfl⟩ : ∃ m, k = m + 1 := ⟨k - 1, by omega⟩
    obtain rfl : i = a.length := by omega
    exact ⟨F, rows, by rw [ticks_Span.l0, if_neg (by omega)], hF, .inl ⟨rfl, hT⟩⟩
  | succ d ih =>
    intro k i F hi' hd hk hF hT
    obtain ⟨k, rfl⟩ : ∃ m, k = m + 1 := ⟨k - 1, by omega⟩
    have hw : wrap64 ((i : Int) + 1) = ((i + 1 : Nat) : Int) := by rw [w64_id (by omega) (by omega)]; push_cast; rfl
    have hw4 : wrap64 (4 * (i : Int)) = ((4 * i : Nat) : Int) := by rw [w64_id (by omega) (by omega)]; push_cast; rfl
    rw [ticks_Span.l0, if_pos (by omega), if_pos (by omega), if_pos (by omega), hw, hw4]
    by_cases h1 : rd a (i : Int) < lo
    · rw [if_pos h1, if_neg (by omega)]
      refine ih k (i + 1) _ (by omega) (by omega) (by omega) (.inr ⟨i, by omega, rfl, h1, fun j hj1 hj2 => by omega⟩) fun j hj => ?_
      have := rises_mono ha (i := j) (j := i) (by omega) (by omega)
      omega
    · rw [if_neg h1]
      by_cases h2 : rd a (i : Int) > hi
      · rw [if_pos h2]
        exact ⟨F, _, rfl, from_more ha hF (by omega) (by omega), .inr ⟨i, by omega, rfl, h2, hT⟩⟩
      · rw [if_neg h2]
        refine ih k (i + 1) F (by omega) (by omega) (by omega) ?_ fun j hj => ?_
        · rcases hF with ⟨q1, q2⟩ | ⟨q, q1, q2, q3, q4⟩
          · refine .inl ⟨q1, fun j hj => ?_⟩
            rcases Nat.lt_or_ge j i with c | c
            · exact q2 j c
            · obtain rfl : j = i := by omega
              omega
          · refine .inr ⟨q, by omega, q2, q3, fun j hj1 hj2 => ?_⟩
            rcases Nat.lt_or_ge j i with c | c
            · exact q4 j hj1 c
            · obtain rfl : j = i := by omega
              omega
        · rcases Nat.lt_or_ge j i with c | c
          · exact hT j c
          · obtain rfl : j = i := by omega
            omega
/-- a span of an index that was built -/
theorem span_f {l : List Int} (hl : l.length ≤ 1048576) (hr : Rises l) (lo hi : Int) {k : Nat} (hk : l.length + 20 < k) :
    ∃ F T, ticks_Span.f k (l.length : Int) (lastTo l l.length) (four l ((l.length + 3) / 4)) lo hi = some (F, T) ∧
      ((F = 0 ∧ T = 0 ∧ (hi < lo ∨ l.length = 0 ∨ hi < rd l 0 ∨ lastTo l l.length < lo)) ∨
        (lo ≤ hi ∧ 0 < l.length ∧ rd l 0 ≤ hi ∧ lo ≤ lastTo l l.length ∧ From (four l ((l.length + 3) / 4)) lo ((l.length + 3) / 4) F ∧ To (four l ((l.length + 3) / 4)) hi (l.length : Int) T)) := by
  obtain ⟨k, rfl⟩ : ∃ m, k = m + 1 := ⟨k - 1, by omega⟩
  unfold ticks_Span.f
  have out : ticks_Span.j0 (k + 1) lo hi true (l.length : Int) (lastTo l l.length) (four l ((l.length + 3) / 4)) = some (0, 0) := by rw [ticks_Span.j0, if_pos rfl]
  by_cases h1 : hi < lo
  · rw [if_pos h1]
    exact ⟨0, 0, out, .inl ⟨rfl, rfl, .inl h1⟩⟩
  · rw [if_neg h1, right_f hl hr (by omega), Option.bind_some, if_pos rfl]
    by_cases h2 : l.length = 0
    · rw [if_pos (by omega)]
      exact ⟨0, 0, out, .inl ⟨rfl, rfl, .inr (.inl h2)⟩⟩
    · rw [if_neg (by omega), if_pos (by rw [four_len]; omega)]
      have h0 : rd (four l ((l.length + 3) / 4)) 0 = rd l 0 := four_rd l (show 0 < (l.length + 3) / 4 by omega)
      rw [h0]
      by_cases h3 : rd l 0 > hi
      · rw [if_pos h3]
        exact ⟨0, 0, out, .inl ⟨rfl, rfl, .inr (.inr (.inl h3))⟩⟩
      · rw [if_neg h3]
        by_cases h4 : lastTo l l.length < lo
        · rw [show decide (lastTo l l.length < lo) = true from by simpa using h4]
          exact ⟨0, 0, out, .inl ⟨rfl, rfl, .inr (.inr (.inr h4))⟩⟩
        · rw [show decide (lastTo l l.length < lo) = false from by simpa using h4, ticks_Span.j0, if_neg (by decide)]
          obtain ⟨F, T, hFT, hF, hT⟩ := span_loop (a := four l ((l.length + 3) / 4)) (lo := lo) (hi := hi) (rows := (l.length : Int)) (by rw [four_len]; omega) (four_rises hr) (by omega) ((l.length + 3) / 4) k 0 0 (by omega) (by rw [four_len]; omega) (by omega) (.inl ⟨rfl, fun j hj => by omega⟩) (fun j hj => by omega)
          rw [four_len] at hF
          exact ⟨F, T, hFT, .inr ⟨by omega, by omega, by omega, by omega, hF, hT⟩⟩
end Go.Proofs.Ytjpeojohakhmdaa.TBase

/- Times that rise, by steps. -/
namespace Go.Proofs.Ytjpeojohakhmdaa.TRising
open Go.RowKit Go.Proofs.Ytjpeojohakhmdaa.PS Go.Proofs.YtjpeojohakhmdaaW.PrintWords Go.Proofs.YtjpeojohakhmdaaW.PrintLast Go.Proofs.Ytjpeojohakhmdaa.Base Go.Proofs.Ytjpeojohakhmdaa.TBase Go.Proofs.Ytjpeojohakhmdaa.Within
/-- so far: i times, rising, none above t, all within bounds of where it began -/
def Good (b t : Int) (i : Nat) (acc : List Int) : Prop := acc.length = i ∧ Rises acc ∧ t ≤ b + 9 * i ∧ b ≤ t ∧ (∀ x ∈ acc, b ≤ x ∧ x ≤ t)
theorem rd_mem {l : List Int} {i : Nat} (h : i < l.length) : rd l (i : Int) ∈ l := by rw [rd_nat h]; exact List.getElem_mem h
theorem rd_app_lt {l m : List Int} {i : Nat} (h : i < l.length) : rd (l ++ m) (i : Int) = rd l (i : Int) := by
  rw [rd_nat (by rw [List.length_append]; omega), rd_nat h, List.getElem_append_left h]
theorem rd_app_at {l : List Int} {x : Int} : rd (l ++ [x]) (l.length : Int) = x := by
  rw [rd_nat (by simp), List.getElem_append_right (by omega)]
  simp
theorem good_step {b t : Int} {i : Nat} {acc : List Int} (h : Good b t i acc) {r : Int} (h0 : 0 ≤ r) (h9 : r ≤ 9) : Good b (t + r) (i + 1) (acc ++ [t + r]) := by
  obtain ⟨h1, h2, h3, h4, h5⟩ := h
  refine ⟨by simp [h1], ?_, by push_cast; omega, by omega, ?_⟩
  · intro j hj
    rw [List.length_append, List.length_singleton] at hj
    rcases Nat.lt_or_ge (j + 1) acc.length with c | c
    · rw [rd_app_lt (by omega), rd_app_lt c]
      exact h2 j c
    · have hj1 : j + 1 = acc.length := by omega
      rw [hj1, rd_app_at, rd_app_lt (by omega)]
      have := h5 _ (rd_mem (l := acc) (i := j) (by omega))
      omega
  · intro x hx
    rw [List.mem_append, List.mem_singleton] at hx
    rcases hx with hx | rfl
    · have := h5 x hx
      omega
    · omega
theorem rising_loop {s : List Int} (_hs : s.length ≤ 1000000000000000) {b : Int} (hb0 : -1099511627776 < b) (hb1 : b < 1099511627776) (d : Nat) : ∀ (k i : Nat) (t : Int) (acc : List Int), i ≤ 60 → 60 - i = d → d < k → i ≤ s.length → Good b t i acc →
    ∃ t' i' l, columbariumlaw10_rising.l0 k s t acc (i : Int) = some l ∧ i' ≤ 60 ∧ Good b t' i' l := by
  induction d with
  | zero =>
    intro k i t acc hi hd hk his hg
    obtain ⟨k, rfl⟩ : ∃ m, k = m + 1 := ⟨k - 1, by omega⟩
    rw [columbariumlaw10_rising.l0]
    by_cases h : (i : Int) < (s.length : Int)
    · rw [if_pos h, if_neg (by omega)]
      exact ⟨t, i, acc, rfl, hi, hg⟩
    · rw [if_neg h]
      exact ⟨t, i, acc, rfl, hi, hg⟩
  | succ d ih =>
    intro k i t acc hi hd hk his hg
    obtain ⟨k, rfl⟩ : ∃ m, k = m + 1 := ⟨k - 1, by omega⟩
    rw [columbariumlaw10_rising.l0]
    by_cases h : (i : Int) < (s.length : Int)
    · obtain ⟨r, hr, h0, h9⟩ := within_f (n := rd s (i : Int)) (hi := 9) (by decide) (by decide)
      have hw : wrap64 ((i : Int) + 1) = ((i + 1 : Nat) : Int) := by rw [w64_id (by omega) (by omega)]; push_cast; rfl
      have hg' := hg
      obtain ⟨g1, g2, g3, g4, g5⟩ := hg'
      rw [if_pos h, if_pos (by omega), if_pos (by omega), hr, Option.bind_some, if_pos (by omega), w64_id (n := t + r) (by omega) (by omega), hw]
      exact ih k (i + 1) (t + r) (acc ++ [t + r]) (by omega) (by omega) (by omega) (by omega) (good_step hg h0 h9)
    · rw [if_neg h]
      exact ⟨t, i, acc, rfl, hi, hg⟩
theorem base_range (a : Int) : -1099511627776 < Int.tmod a 1099511627776 ∧ Int.tmod a 1099511627776 < 1099511627776 := by
  have hm1 := Int.tmod_lt_of_pos a (show (0 : Int) < 1099511627776 by decide)
  have := Int.tmod_lt_of_pos (-a) (show (0 : Int) < 1099511627776 by decide)
  rw [Int.neg_tmod] at this
  omega
theorem rising_f (a : Int) {s : List Int} (hs : s.length ≤ 1000000000000000) {k : Nat} (hk : 60 < k) :
    ∃ l, columbariumlaw10_rising.f k a s = some l ∧ l.length ≤ 60 ∧ Rises l ∧ ∀ x ∈ l, Int.tmod a 1099511627776 ≤ x ∧ x ≤ Int.tmod a 1099511627776 + 540 := by
  have hb := base_range a
  obtain ⟨t, i, l, h1, h2, g1, g2, g3, g4, g5⟩ := rising_loop hs hb.1 hb.2 60 k 0 (Int.tmod a 1099511627776) [] (by omega) (by omega) (by omega) (by omega) ⟨rfl, fun j hj => by simp at hj, by omega, by omega, by simp⟩
  refine ⟨l, h1, by omega, g2, fun x hx => ?_⟩
  have := g5 x hx
  omega
end Go.Proofs.Ytjpeojohakhmdaa.TRising

/- Some of chapter 10's runs. -/
namespace Go.Proofs.Ytjpeojohakhmdaa.TKnown
open Go.RowKit Go.Proofs.Ytjpeojohakhmdaa.PS Go.Proofs.YtjpeojohakhmdaaW.PrintWords Go.Proofs.YtjpeojohakhmdaaW.PrintLast
theorem known_f {k : Nat} (hk : 100 ≤ k) : columbariumlaw10_known.f k = some true :=
  at_rounds columbariumlaw10_known.mono hk (by decide +kernel)
end Go.Proofs.Ytjpeojohakhmdaa.TKnown

/- What an index's Encode and Decode come to: on what was built, and on any bytes. -/
namespace Go.Proofs.Ytjpeojohakhmdaa.TBack
open Go.RowKit Go.Proofs.Ytjpeojohakhmdaa.PS Go.Proofs.YtjpeojohakhmdaaW.PrintWords Go.Proofs.YtjpeojohakhmdaaW.PrintLast Go.Proofs.Ytjpeojohakhmdaa.Base Go.Proofs.Ytjpeojohakhmdaa.TBase Go.Proofs.Ytjpeojohakhmdaa.VPlain Go.Proofs.Ytjpeojohakhmdaa.Zigs Go.Proofs.Ytjpeojohakhmdaa.DPlain Go.Proofs.Ytjpeojohakhmdaa.VGet Go.Proofs.Ytjpeojohakhmdaa.VPut Go.Proofs.Ytjpeojohakhmdaa.DDec Go.Proofs.Ytjpeojohakhmdaa.DEnc Go.Proofs.Ytjpeojohakhmdaa.DBack Go.Proofs.Ytjpeojohakhmdaa.DAny
open Go.Proofs.YtjpeojohakhmdaaW.PrintMore

/-- an index's bytes -/
def encX (rows last : Int) (at' : List Int) : List Int := vput rows ++ vput (zigI last) ++ encD at'
/-- Right answers, whatever the index -/
theorem right_any (rows last : Int) {at' : List Int} (hl : at'.length ≤ 1000000000) {k : Nat} (hk : at'.length + 10 < k) :
    ∃ b, ticks_Right.f k rows last at' = some b ∧ (b = true → 0 ≤ rows ∧ rows ≤ 1048576 ∧ at'.length ≤ 262144) := by
  obtain ⟨k, rfl⟩ : ∃ m, k = m + 1 := ⟨k - 1, by omega⟩
  have out : ticks_Right.j0 (k + 1) true rows last at' = some false := by rw [ticks_Right.j0, if_pos rfl]
  unfold ticks_Right.f
  by_cases h0 : rows < 0
  · rw [if_pos h0]
    exact ⟨_, out, fun h => by cases h⟩
  · rw [if_neg h0]
    by_cases h1 : rows > 1048576
    · rw [if_pos h1]
      exact ⟨_, out, fun h => by cases h⟩
    · rw [if_neg h1]
      have hq : wrap64 (Int.tdiv (wrap64 ((wrap64 (rows + 4)) - 1)) 4) = (rows + 3) / 4 := by
        rw [w64_id (n := rows + 4) (by omega) (by omega), w64_id (n := rows + 4 - 1) (by omega) (by omega), Int.tdiv_eq_ediv_of_nonneg (by omega), w64_id (by omega) (by omega)]
        omega
      rw [hq]
      by_cases h2 : (at'.length : Int) = (rows + 3) / 4
      · obtain ⟨b, hb, hb2⟩ := sorted_f (l := at') (by omega) (k := k + 1) (by omega)
        rw [if_pos h2, hb, Option.bind_some]
        cases b with
        | false => exact ⟨_, out, fun h => by cases h⟩
        | true =>
          rw [ticks_Right.j0, if_neg (by decide)]
          by_cases h3 : rows = 0
          · rw [if_pos h3]
            exact ⟨_, rfl, fun _ => ⟨by omega, by omega, by omega⟩⟩
          · have hw : wrap64 ((at'.length : Int) - 1) = (at'.length : Int) - 1 := w64_id (by omega) (by omega)
            rw [if_neg h3, hw, if_pos (by omega), if_pos (by omega)]
            split
            · exact ⟨_, rfl, fun _ => ⟨by omega, by omega, by omega⟩⟩
            · split
              · exact ⟨_, rfl, fun _ => ⟨by omega, by omega, by omega⟩⟩
              · exact ⟨_, rfl, fun h => by cases h⟩
      · rw [if_neg h2]
        exact ⟨_, out, fun h => by cases h⟩
theorem encX_f {rows last : Int} {at' : List Int} (h0 : 0 ≤ rows) (h1 : rows ≤ 1048576) (hl : at'.length ≤ 1000000000) (hI : ∀ x ∈ at', I64 x) (hlast : I64 last) {k : Nat} (hr : ticks_Right.f k rows last at' = some true) (hk : 3 * at'.length + 100 < k) :
    ticks_Encode.f k rows last at' = some (encX rows last at', 0) := by
  unfold ticks_Encode.f encX
  have hz := zig_range hlast.1 hlast.2
  have v1 := vput_len rows
  have v2 := vput_len (zigI last)
  have v3 := encD_len at'
  have hp : varint_Put.f k [] rows = some (vput rows) := by
    have := put_f (l := []) (by simp) h0 (by omega) (k := k) (by omega)
    rwa [List.nil_append] at this
  rw [hr, Option.bind_some, if_pos rfl, u64_id h0 (by omega), hp, Option.bind_some, zig_f hlast.1 hlast.2, Option.bind_some, put_f (by omega) hz.1 hz.2 (by omega), Option.bind_some, enc_f hl hI (by omega), Option.bind_some, if_pos (by rw [List.length_append]; omega)]
theorem small_f {l : List Int} (hl : l.length ≤ 140737488355328) (hb : ∀ x ∈ l, 0 ≤ x ∧ x ≤ 255) (a : Int) {k : Nat} (hk : l.length < k) :
    varint_Small.f k l a = some (mn (getI l a).1 1099511627776, (getI l a).2.1, (getI l a).2.2) := by
  have hr := getI_range hb a
  unfold varint_Small.f
  rw [get_f hl hb a hk, Option.bind_some]
  have : wrap64 (mn (getI l a).1 1099511627776) = mn (getI l a).1 1099511627776 := by
    unfold mn
    split
    · exact w64_id (by omega) (by omega)
    · exact w64_id (by omega) (by omega)
  rw [this]
/-- on what was written, behind anything -/
theorem decX_back {p : List Int} {rows last : Int} {at' : List Int} (h0 : 0 ≤ rows) (h1 : rows ≤ 1048576) (hl : at'.length ≤ 262144) (hI : ∀ x ∈ at', I64 x) (hlast : I64 last)
    (hlen : (p ++ encX rows last at').length ≤ 140737488355328) (hb : ∀ x ∈ p ++ encX rows last at', 0 ≤ x ∧ x ≤ 255) {k : Nat} (hr : ∀ k : Nat, at'.length + 10 < k → ticks_Right.f k rows last at' = some true) (hk : (p ++ encX rows last at').length + 1000000 < k) :
    ticks_Decode.f k (p ++ encX rows last at') (p.length : Int) = some (rows, last, at', ((p ++ encX rows last at').length : Int), 0) := by
  obtain ⟨k, rfl⟩ : ∃ m, k = m + 3 := ⟨k - 3, by omega⟩
  have hz := zig_range hlast.1 hlast.2
  have e1 : p ++ encX rows last at' = p ++ vput rows ++ (vput (zigI last) ++ encD at') := by unfold encX; simp only [List.append_assoc]
  have e2 : p ++ encX rows last at' = (p ++ vput rows) ++ vput (zigI last) ++ encD at' := by unfold encX; simp only [List.append_assoc]
  have e3 : p ++ encX rows last at' = (p ++ vput rows ++ vput (zigI last)) ++ encD at' ++ [] := by unfold encX; simp only [List.append_assoc, List.append_nil]
  have g1 : getI (p ++ encX rows last at') (p.length : Int) = (rows, (p.length : Int) + (vput rows).length, 0) := by rw [e1]; exact getI_put h0 (by omega)
  have g2 : getZ (p ++ encX rows last at') ((p.length : Int) + (vput rows).length) = (last, (p.length : Int) + (vput rows).length + (vput (zigI last)).length, 0) := by
    have := getZ_put (b := p ++ vput rows) (r := encD at') hlast
    rw [← e2, List.length_append] at this
    push_cast at this
    exact this
  have g3 : ∀ k : Nat, (p ++ encX rows last at').length + at'.length + 1 < k → delta_Decode.f k (p ++ encX rows last at') ((p.length : Int) + (vput rows).length + (vput (zigI last)).length) 262144 = some (at', ((p ++ encX rows last at').length : Int), 0) := by
    intro k hk
    have := dec_f (p := p ++ vput rows ++ vput (zigI last)) (m := at') (r := []) (most := 262144) (by omega) hI (by omega) (by decide) (by rw [← e3]; exact hlen) (by rw [← e3]; exact hb) (k := k) (by rw [← e3]; exact hk)
    rw [← e3] at this
    rw [List.length_append, List.length_append] at this
    push_cast at this
    rw [this]
    congr 3
    unfold encX
    simp only [List.length_append]
    push_cast
    omega
  unfold ticks_Decode.f
  rw [small_f hlen hb _ (by omega), Option.bind_some, g1]
  show (if (0 : Int) = 0 then _ else _) = _
  rw [if_pos rfl, getZag_f hlen hb _ (by omega), Option.bind_some, g2]
  show ticks_Decode.j0 (k + 3) _ ((p.length : Int) + (vput rows).length + (vput (zigI last)).length) 0 (mn rows 1099511627776) last = _
  have hmn : mn rows 1099511627776 = rows := by unfold mn; rw [if_neg (by omega)]
  rw [hmn, ticks_Decode.j0, if_pos rfl, g3 _ (by omega), Option.bind_some, ticks_Decode.j1, if_pos rfl, hr _ (by omega), Option.bind_some, ticks_Decode.j2, if_neg (by decide), if_pos rfl]
/-- on any bytes: an index that is Right, whose bytes are those that were read; or a refusal -/
theorem decX_any {l : List Int} (hl : l.length ≤ 140737488355328) (hb : ∀ x ∈ l, 0 ≤ x ∧ x ≤ 255) (a : Int) {k : Nat} (hk : l.length + 1000001000 < k) :
    ∃ rows last at' e why, ticks_Decode.f k l a = some (rows, last, at', e, why) ∧ (why = 0 → 0 ≤ rows ∧ rows ≤ 1048576 ∧ I64 last ∧ at'.length ≤ 262144 ∧ (∀ x ∈ at', I64 x) ∧ (∀ K, k ≤ K → ticks_Right.f K rows last at' = some true) ∧
      0 ≤ a ∧ e = a + (encX rows last at').length ∧ e ≤ l.length ∧ l.drop a.toNat = encX rows last at' ++ l.drop e.toNat) := by
  obtain ⟨k, rfl⟩ : ∃ m, k = m + 3 := ⟨k - 3, by omega⟩
  have no : ∀ (x8 why rows last : Int), why ≠ 0 → ticks_Decode.j0 (k + 3) l x8 why rows last = some (0, 0, [], 0, why) := by
    intro x8 why rows last h
    rw [ticks_Decode.j0, if_neg h, ticks_Decode.j1, if_neg h, ticks_Decode.j2, if_neg (by decide), if_neg h]
  unfold ticks_Decode.f
  rw [small_f hl hb _ (by omega), Option.bind_some]
  show ∃ rows last at' e why, (if (getI l a).2.2 = 0 then _ else _) = _ ∧ _
  by_cases h1 : (getI l a).2.2 = 0
  · obtain ⟨a0, a1, a2, a3, a4, a5⟩ := get_bytes hb h1
    rw [if_pos h1, getZag_f hl hb _ (by omega), Option.bind_some]
    generalize hn : (getI l a).1 = n at *
    generalize he1 : (getI l a).2.1 = e1 at *
    by_cases h2 : (getZ l e1).2.2 = 0
    · obtain ⟨b0, b1, b2, b3, b4⟩ := getZ_bytes hb h2
      rw [h2, ticks_Decode.j0, if_pos rfl]
      generalize (getZ l e1).1 = last at *
      generalize (getZ l e1).2.1 = e2 at *
      obtain ⟨t, ht, ht1, ht2⟩ := dec_any_f hl hb (a := e2) (most := 262144) (by decide) (by decide) (k := k + 2) (by omega)
      rw [ht, Option.bind_some]
      by_cases h3 : t.2.2 = 0
      · obtain ⟨c1, c2, c3, c4, c5, c6⟩ := ht2 h3
        obtain ⟨b, hbr, hbt⟩ := right_any (mn n 1099511627776) last (at' := t.1) (by omega) (k := k + 1) (by omega)
        rw [h3, ticks_Decode.j1, if_pos rfl, hbr, Option.bind_some]
        cases b with
        | false =>
          rw [ticks_Decode.j2, if_pos (by rfl)]
          exact ⟨_, _, _, _, _, rfl, fun h => by simp at h⟩
        | true =>
          obtain ⟨r1, r2, r3⟩ := hbt rfl
          rw [ticks_Decode.j2, if_neg (by decide), if_pos rfl]
          have hmn : mn n 1099511627776 = n := by
            unfold mn at r2 ⊢
            split at r2
            · omega
            · rename_i hc
              rw [if_neg hc]
          rw [hmn] at hbr r1 r2 ⊢
          refine ⟨_, _, _, _, _, rfl, fun _ => ⟨r1, r2, b1, r3, c1, fun K hK => at_rounds (ticks_Right.mono _ _ _) (by omega) hbr, a0, ?_, c5, ?_⟩⟩
          · unfold encX
            rw [c3, b2, a3]
            simp only [List.length_append]
            push_cast
            omega
          · unfold encX
            rw [a5, b4, c6]
            simp only [List.append_assoc]
      · rw [ticks_Decode.j1, if_neg h3, ticks_Decode.j2, if_neg (by decide), if_neg h3]
        exact ⟨_, _, _, _, _, rfl, fun h => absurd h h3⟩
    · rw [no _ _ _ _ h2]
      exact ⟨_, _, _, _, _, rfl, fun h => absurd h h2⟩
  · rw [if_neg h1, no _ _ _ _ h1]
    exact ⟨_, _, _, _, _, rfl, fun h => absurd h h1⟩
end Go.Proofs.Ytjpeojohakhmdaa.TBack
