/- Chapter 1's numbers as lists of bytes, in plain Lean: how they are written, how they are read, and that both fit. -/
import Derived.Test.YtdjalemejbjafaaEngAD
namespace Go.Proofs.Ytdjalemejbjafaa.VPl
open Go.RowKit

def vputF : Nat → Nat → List Int
  | 0, n => [(n : Int)]
  | f + 1, n => if n ≤ 127 then [(n : Int)] else ((n % 128 + 128 : Nat) : Int) :: vputF f (n / 128)
def vput (n : Int) : List Int := vputF 9 n.toNat

def go (a : Int) : List Int → Nat → Int → Int × Int × Int
  | [], _, _ => (0, 0, 10)
  | c :: t, i, acc =>
    if c > 127 then go a t (i + 1) (acc + (c % 128) * 2 ^ (7 * i))
    else if i > 9 ∨ (i = 9 ∧ c > 1) ∨ (i > 0 ∧ c = 0) then (0, 0, 12)
    else (acc + c * 2 ^ (7 * i), a + i + 1, 0)
def getI (l : List Int) (a : Int) : Int × Int × Int := if a < 0 ∨ a > l.length then (0, 0, 1) else go a (l.drop a.toNat) 0 0

theorem vputF_len (f : Nat) : ∀ n, 1 ≤ (vputF f n).length ∧ (vputF f n).length ≤ f + 1 := by
  induction f with
  | zero => intro n; simp [vputF]
  | succ f ih =>
    intro n
    unfold vputF
    split
    · simp
    · have := ih (n / 128)
      simp only [List.length_cons]
      omega
theorem vput_len (n : Int) : 1 ≤ (vput n).length ∧ (vput n).length ≤ 10 := vputF_len 9 _
theorem vputF_byte (f : Nat) : ∀ n, n < 128 ^ f * 256 → ∀ x ∈ vputF f n, 0 ≤ x ∧ x ≤ 255 := by
  induction f with
  | zero => intro n hn x hx; simp [vputF] at hx; omega
  | succ f ih =>
    intro n hn x hx
    unfold vputF at hx
    split at hx
    · simp at hx; omega
    · rcases List.mem_cons.1 hx with rfl | hx
      · omega
      · exact ih (n / 128) (by rw [Nat.pow_succ] at hn; omega) x hx
theorem vput_byte {n : Int} (h1 : n ≤ 18446744073709551615) : ∀ x ∈ vput n, 0 ≤ x ∧ x ≤ 255 := vputF_byte 9 _ (by omega)

/-- What was written is read. -/
theorem go_vputF (a : Int) (r : List Int) (f : Nat) : ∀ (i n : Nat) (acc : Int), i + f = 9 → n * 2 ^ (7 * i) < 2 ^ 64 → (0 < i → 0 < n) →
    go a (vputF f n ++ r) i acc = (acc + n * 2 ^ (7 * i), a + i + (vputF f n).length, 0) := by
  induction f with
  | zero =>
    intro i n acc hi hn h0
    obtain rfl : i = 9 := by omega
    have hn2 : n < 2 := by omega
    have := h0 (by omega)
    simp only [vputF, List.cons_append, List.nil_append, go, List.length_cons, List.length_nil]
    rw [if_neg (by omega), if_neg (by omega)]
    simp
  | succ f ih =>
    intro i n acc hi hn h0
    unfold vputF
    by_cases h : n ≤ 127
    · rw [if_pos h]
      simp only [List.cons_append, List.nil_append, go, List.length_cons, List.length_nil]
      rw [if_neg (by omega), if_neg (by omega)]
      simp
    · rw [if_neg h]
      simp only [List.cons_append, go, List.length_cons]
      rw [if_pos (by omega), ih (i + 1) (n / 128) _ (by omega) ?_ (by omega)]
      · have e : (2 : Int) ^ (7 * (i + 1)) = 2 ^ (7 * i) * 128 := by rw [Nat.mul_add, Int.pow_add]; rfl
        have e2 : ((n : Int)) = (n % 128 : Nat) + 128 * (n / 128 : Nat) := by omega
        have e3 : (((n % 128 + 128 : Nat) : Int)) % 128 = (n % 128 : Nat) := by omega
        rw [e, e3]
        refine Prod.ext ?_ (Prod.ext ?_ rfl)
        · simp only
          conv => rhs; rw [e2]
          rw [Int.add_mul]
          have : ((n / 128 : Nat) : Int) * (2 ^ (7 * i) * 128) = 128 * ((n / 128 : Nat) : Int) * 2 ^ (7 * i) := by
            rw [Int.mul_comm 128, Int.mul_assoc, Int.mul_comm 128]
          omega
        · simp only
          push_cast
          omega
      · have e : 2 ^ (7 * (i + 1)) = 2 ^ (7 * i) * 128 := by rw [Nat.mul_add, Nat.pow_add]
        rw [e]
        have h1 : n / 128 * 128 ≤ n := by omega
        have h2 : n / 128 * 128 * 2 ^ (7 * i) ≤ n * 2 ^ (7 * i) := Nat.mul_le_mul_right _ h1
        have h3 : n / 128 * (2 ^ (7 * i) * 128) = n / 128 * 128 * 2 ^ (7 * i) := by rw [Nat.mul_comm (2 ^ _), Nat.mul_assoc]
        omega
theorem go_vput (a : Int) (r : List Int) {n : Int} (h0 : 0 ≤ n) (h1 : n ≤ 18446744073709551615) : go a (vput n ++ r) 0 0 = (n, a + (vput n).length, 0) := by
  have := go_vputF a r 9 0 n.toNat 0 (by omega) (by omega) (by omega)
  simp only [vput]
  rw [this]
  refine Prod.ext ?_ (Prod.ext ?_ rfl)
  · simp; omega
  · simp
/-- Bytes that go on, and no end. -/
theorem go_open (a : Int) (l : List Int) : ∀ i acc, (∀ x ∈ l, x > 127) → go a l i acc = (0, 0, 10) := by
  induction l with
  | nil => intro i acc _; rfl
  | cons c t ih =>
    intro i acc h
    unfold go
    rw [if_pos (h c (by simp))]
    exact ih _ _ (fun x hx => h x (by simp [hx]))
theorem vputF_open (f : Nat) : ∀ (n j : Nat), j < (vputF f n).length → ∀ x ∈ (vputF f n).take j, x > 127 := by
  induction f with
  | zero => intro n j hj x hx; simp [vputF] at hj; subst hj; simp at hx
  | succ f ih =>
    intro n j hj x hx
    unfold vputF at hj hx
    split at hx
    · rename_i h; rw [if_pos h] at hj; simp at hj; subst hj; simp at hx
    · rename_i h
      rw [if_neg h] at hj
      cases j with
      | zero => simp at hx
      | succ j =>
        rw [List.take_succ_cons] at hx
        rcases List.mem_cons.1 hx with rfl | hx
        · omega
        · exact ih (n / 128) j (by simpa using hj) x hx
theorem go_cut (a : Int) (n : Int) (j : Nat) (hj : j < (vput n).length) : go a ((vput n).take j) 0 0 = (0, 0, 10) := go_open a _ _ _ (vputF_open 9 _ j hj)
/-- Behind ten bytes there is no number. -/
theorem go_late (a : Int) (l : List Int) : ∀ i acc acc', 10 ≤ i → go a l i acc = go a l i acc' ∧ ((go a l i acc) = (0, 0, 10) ∨ (go a l i acc) = (0, 0, 12)) := by
  induction l with
  | nil => intro i acc acc' _; exact ⟨rfl, .inl rfl⟩
  | cons c t ih =>
    intro i acc acc' hi
    simp only [go]
    by_cases h : c > 127
    · rw [if_pos h, if_pos h]
      exact ih (i + 1) _ _ (by omega)
    · rw [if_neg h, if_neg h, if_pos (by omega)]
      exact ⟨by rw [if_pos (by omega)], .inr rfl⟩
set_option maxRecDepth 100000 in
/-- What is read was written so, and in no other way. -/
theorem go_ok (a : Int) (l : List Int) : ∀ (i f : Nat) (acc v e : Int), i + f = 9 → (∀ x ∈ l, 0 ≤ x ∧ x ≤ 255) → go a l i acc = (v, e, 0) →
    ∃ n : Nat, v = acc + n * 2 ^ (7 * i) ∧ n * 2 ^ (7 * i) < 2 ^ 64 ∧ (0 < i → 0 < n) ∧ ∃ r, l = vputF f n ++ r ∧ e = a + i + (vputF f n).length := by
  induction l with
  | nil => intro i f acc v e _ _ h; simp [go] at h
  | cons c t ih =>
    intro i f acc v e hi hb h
    have hc := hb c (by simp)
    unfold go at h
    by_cases hgt : c > 127
    · rw [if_pos hgt] at h
      rcases Nat.lt_or_ge i 9 with h9 | h9
      · obtain ⟨f, rfl⟩ : ∃ f', f = f' + 1 := ⟨f - 1, by omega⟩
        obtain ⟨n, hv, hn, hp, r, hl, he⟩ := ih (i + 1) f _ v e (by omega) (fun x hx => hb x (by simp [hx])) h
        have hpos := hp (by omega)
        have e1 : (2 : Int) ^ (7 * (i + 1)) = 2 ^ (7 * i) * 128 := by rw [Nat.mul_add, Int.pow_add]; rfl
        have e1n : 2 ^ (7 * (i + 1)) = 2 ^ (7 * i) * 128 := by rw [Nat.mul_add, Nat.pow_add]
        refine ⟨(c % 128).toNat + 128 * n, ?_, ?_, fun _ => by omega, r, ?_, ?_⟩
        · rw [hv, e1]
          have : (((c % 128).toNat + 128 * n : Nat) : Int) = c % 128 + 128 * n := by omega
          rw [this, Int.add_mul, Int.mul_comm 128 (n : Int), Int.mul_assoc, Int.mul_comm (2 ^ (7 * i)) 128]
          omega
        · rw [e1n] at hn
          have hm : (c % 128).toNat < 128 := by omega
          have h7 : n * (2 ^ (7 * i) * 128) = n * 128 * 2 ^ (7 * i) := by rw [Nat.mul_comm (2 ^ _), Nat.mul_assoc]
          rw [h7] at hn
          have e64 : 2 ^ 64 = 2 ^ (57 - 7 * i) * 128 * 2 ^ (7 * i) := by
            rw [show 128 = 2 ^ 7 from rfl, ← Nat.pow_add, ← Nat.pow_add]
            congr 1
            omega
          rw [e64] at hn ⊢
          have hq : n * 128 < 2 ^ (57 - 7 * i) * 128 := Nat.lt_of_mul_lt_mul_right hn
          exact Nat.mul_lt_mul_of_pos_right (by omega) (Nat.two_pow_pos _)
        · rw [hl]
          rw [vputF.eq_def (f + 1)]
          simp only
          rw [if_neg (by omega), show ((c % 128).toNat + 128 * n) / 128 = n from by omega, List.cons_append]
          congr 1
          omega
        · rw [he]
          rw [vputF.eq_def (f + 1)]
          simp only
          rw [if_neg (by omega), show ((c % 128).toNat + 128 * n) / 128 = n from by omega, List.length_cons]
          push_cast
          omega
      · exfalso
        rcases (go_late a t (i + 1) (acc + c % 128 * 2 ^ (7 * i)) 0 (by omega)).2 with h' | h' <;> rw [h'] at h <;> simp at h
    · rw [if_neg hgt] at h
      split at h
      · simp at h
      · rename_i hno
        simp only [Prod.mk.injEq, and_true] at h
        refine ⟨c.toNat, by rw [← h.1]; congr 2; omega, ?_, fun h0 => by omega, t, ?_, ?_⟩
        · have hs : i = 0 ∨ i = 1 ∨ i = 2 ∨ i = 3 ∨ i = 4 ∨ i = 5 ∨ i = 6 ∨ i = 7 ∨ i = 8 ∨ i = 9 := by omega
          rcases hs with rfl | rfl | rfl | rfl | rfl | rfl | rfl | rfl | rfl | rfl <;> simp only [Nat.reduceMul, Nat.reducePow] <;> omega
        · cases f with
          | zero => simp only [vputF, List.cons_append, List.nil_append]; congr 1; omega
          | succ f => rw [vputF, if_pos (by omega)]; simp only [List.cons_append, List.nil_append]; congr 1; omega
        · rw [← h.2]
          cases f with
          | zero => simp [vputF]
          | succ f => rw [vputF, if_pos (by omega)]; simp
theorem go_ok0 {a : Int} {l : List Int} {v e : Int} (hb : ∀ x ∈ l, 0 ≤ x ∧ x ≤ 255) (h : go a l 0 0 = (v, e, 0)) :
    0 ≤ v ∧ v ≤ 18446744073709551615 ∧ ∃ r, l = vput v ++ r ∧ e = a + (vput v).length := by
  obtain ⟨n, hv, hn, _, r, hl, he⟩ := go_ok a l 0 9 0 v e (by omega) hb h
  simp at hv hn
  subst hv
  exact ⟨by omega, by omega, r, by simpa [vput] using hl, by simpa [vput] using he⟩
/-- Each number has one writing. -/
theorem vput_inj {n m : Int} (h0 : 0 ≤ n) (h1 : n ≤ 18446744073709551615) (g0 : 0 ≤ m) (g1 : m ≤ 18446744073709551615) (h : vput n = vput m) : n = m := by
  have e1 := go_vput 0 [] h0 h1
  have e2 := go_vput 0 [] g0 g1
  rw [h, e2] at e1
  simpa using (congrArg Prod.fst e1).symm
/-- Numbers get no shorter as they grow. -/
theorem vputF_mono (f : Nat) : ∀ n m, n ≤ m → (vputF f n).length ≤ (vputF f m).length := by
  induction f with
  | zero => intro n m _; simp [vputF]
  | succ f ih =>
    intro n m h
    unfold vputF
    by_cases h1 : n ≤ 127
    · rw [if_pos h1]
      split <;> simp
    · rw [if_neg h1, if_neg (by omega)]
      have := ih (n / 128) (m / 128) (by omega)
      simp only [List.length_cons]
      omega
theorem vput_mono {n m : Int} (h : n ≤ m) : (vput n).length ≤ (vput m).length := vputF_mono 9 _ _ (by omega)
/-- What is got lies in the bytes. -/
theorem getI_ok {l : List Int} {a v e : Int} (hb : ∀ x ∈ l, 0 ≤ x ∧ x ≤ 255) (h : getI l a = (v, e, 0)) :
    0 ≤ a ∧ a ≤ l.length ∧ 0 ≤ v ∧ v ≤ 18446744073709551615 ∧ e = a + (vput v).length ∧ e ≤ l.length ∧ ∃ r, l.drop a.toNat = vput v ++ r ∧ l = l.take a.toNat ++ vput v ++ r := by
  unfold getI at h
  split at h
  · simp at h
  · rename_i hr
    obtain ⟨h0, h1, r, hl, he⟩ := go_ok0 (fun x hx => hb x (List.mem_of_mem_drop hx)) h
    have hlen : l.length - a.toNat = (vput v).length + r.length := by rw [← List.length_append, ← hl, List.length_drop]
    have := vput_len v
    refine ⟨by omega, by omega, h0, h1, he, by omega, r, hl, ?_⟩
    rw [List.append_assoc, ← hl, List.take_append_drop]
theorem getI_put {b r : List Int} {n : Int} (h0 : 0 ≤ n) (h1 : n ≤ 18446744073709551615) : getI (b ++ vput n ++ r) b.length = (n, (b.length : Int) + (vput n).length, 0) := by
  unfold getI
  rw [if_neg (by simp; omega), Int.toNat_natCast, List.append_assoc, List.drop_left, go_vput _ r h0 h1]
end Go.Proofs.Ytdjalemejbjafaa.VPl
