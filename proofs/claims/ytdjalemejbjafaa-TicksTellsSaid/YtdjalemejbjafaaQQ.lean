/- Chapter 1's Get as the document has it. Printed by gen_qq.py. -/
import Derived.Test.YtdjalemejbjafaaQP
import Derived.Test.YtdjalemejbjafaaProg
import Derived.KernelRfl
namespace Go.Proofs.Ytdjalemejbjafaa.V
open Go Go.RowKit Go.Proofs Go.Proofs.Ytdjalemejbjafaa.Eng Go.Proofs.Ytdjalemejbjafaa.VPl
set_option maxRecDepth 100000
set_option linter.unusedVariables false
set_option linter.unusedSimpArgs false

theorem rg_loopA {B : Nat} {L : List Int} {m e : Nat} (hpre : ∀ t, m ≤ t → t < e → 128 ≤ L.getD t 0) (he : e ≤ L.length) (hend : e < L.length → ¬ 128 ≤ L.getD e 0) (hm : m ≤ e) (hL : L.length ≤ 140737488353000) : CodeDoes Try.prog B (Lf (Lf (Rt (Rt (Rt (Try.f28.body.getD .skip)))))) ⟨⟨87, [(0, .s (.slv L.length none 1 (flat bc L))), (1, .s (.int .i64 (m : Int))), (7, .s (.int .i64 (m : Int)))]⟩, [], 0⟩ (.exit 0) ⟨⟨87, [(0, .s (.slv L.length none 1 (flat bc L))), (1, .s (.int .i64 (m : Int))), (7, .s (.int .i64 (e : Int)))]⟩, [], 0⟩ := by
  have h := LoopDoes.scanAll (P := Try.prog) (B := B) (body := (Lf (Lf (Lf (Rt (Rt (Rt (Try.f28.body.getD .skip)))))))) (fun k => ⟨⟨87, [(0, .s (.slv L.length none 1 (flat bc L))), (1, .s (.int .i64 (m : Int))), (7, .s (.int .i64 ((m + k : Nat) : Int)))]⟩, [], 0⟩) (e - m) (e2 := .exit 0) (s2 := ⟨⟨87, [(0, .s (.slv L.length none 1 (flat bc L))), (1, .s (.int .i64 (m : Int))), (7, .s (.int .i64 (e : Int)))]⟩, [], 0⟩) (by simp) (fun k hk => by
    have h1 := rgA_1 (B := B) L (m : Int) (m + k) hL (by omega) (by omega) (hpre (m + k) (by omega) (by omega))
    have e1 : ((m + (k + 1) : Nat) : Int) = ((m + k : Nat) : Int) + 1 := by omega
    rw [e1]
    exact h1) (by
    have e2 : m + (e - m) = e := by omega
    rw [e2]
    by_cases hlt : e < L.length
    · exact rgA_2 (B := B) L (m : Int) e hL he (by omega) (by have := hend hlt; omega)
    · exact rgA_3 (B := B) L (m : Int) e hL he (by omega))
  exact CodeDoes.loopAt (by kernel_rfl) h
/-- The number of the first n bytes at m. -/
def accI (L : List Int) (m : Nat) : Nat → Int
  | 0 => 0
  | n + 1 => accI L m n + L.getD (m + n) 0 % 128 * 2 ^ (7 * n)
theorem accI_bd {L : List Int} {m : Nat} : ∀ n, 0 ≤ accI L m n ∧ accI L m n < 2 ^ (7 * n) := by
  intro n
  induction n with
  | zero => simp [accI]
  | succ n ih =>
    unfold accI
    have e : (2 : Int) ^ (7 * (n + 1)) = 2 ^ (7 * n) * 128 := by rw [Nat.mul_add, Int.pow_add]; rfl
    have h7 : (0 : Int) < 2 ^ (7 * n) := Int.pow_pos (by decide)
    have h1 : 0 ≤ L.getD (m + n) 0 % 128 * 2 ^ (7 * n) := Int.mul_nonneg (by omega) (Int.le_of_lt h7)
    have h2 : L.getD (m + n) 0 % 128 * 2 ^ (7 * n) ≤ 127 * 2 ^ (7 * n) := Int.mul_le_mul_of_nonneg_right (by omega) (Int.le_of_lt h7)
    rw [e]
    omega
theorem mask127 (x : Int) (h : 0 ≤ x ∧ x ≤ 255) : IntKind.wrap .u64 (IntKind.wrap .u8 (((BitVec.ofInt (IntKind.bits .u8) x &&& BitVec.ofInt (IntKind.bits .u8) 127).toNat : Nat) : Int)) = x % 128 := by
  rw [and127 x h, wrap64']
  omega
theorem rg_loopB {B : Nat} {L : List Int} {m j : Nat} {sz v z : Int} (hv : accI L m (j + 1) = v) (hsz : sz = (j : Int) + 1) (hj : j ≤ 9) (hm : m + j < L.length) (hL : L.length ≤ 140737488353000) (hx : ∀ x ∈ L, 0 ≤ x ∧ x ≤ 255) (h9 : j = 9 → L.getD (m + j) 0 ≤ 1) :
    CodeDoes Try.prog B (Lf (Rt (Lf (Rt (Rt (Rt (Rt (Rt (Rt (Rt (Rt (Try.f28.body.getD .skip)))))))))))) ⟨⟨87, [(0, .s (.slv L.length none 1 (flat bc L))), (1, .s (.int .i64 (m : Int))), (7, .s (.int .i64 z)), (8, .s (.int .i64 sz)), (9, .s (.int .u64 (0))), (10, .s (.int .i64 ((0 : Nat) : Int)))]⟩, [], 0⟩ (.exit 2) ⟨⟨87, [(7, .s (.int .i64 z)), (9, .s (.int .u64 v))]⟩, [], 0⟩ := by
  subst hv
  have hb : ∀ t, t < L.length → 0 ≤ L.getD t 0 ∧ L.getD t 0 ≤ 255 := fun t ht => hx _ (by simp [ht])
  have h := LoopDoes.scanAll (P := Try.prog) (B := B) (body := (Lf (Lf (Rt (Lf (Rt (Rt (Rt (Rt (Rt (Rt (Rt (Rt (Try.f28.body.getD .skip)))))))))))))) (fun k => ⟨⟨87, [(0, .s (.slv L.length none 1 (flat bc L))), (1, .s (.int .i64 (m : Int))), (7, .s (.int .i64 z)), (8, .s (.int .i64 sz)), (9, .s (.int .u64 (accI L m k))), (10, .s (.int .i64 (k : Int)))]⟩, [], 0⟩) (j + 1) (e2 := .exit 2) (s2 := ⟨⟨87, [(0, .s (.slv L.length none 1 (flat bc L))), (1, .s (.int .i64 (m : Int))), (7, .s (.int .i64 z)), (8, .s (.int .i64 sz)), (9, .s (.int .u64 (accI L m (j + 1)))), (10, .s (.int .i64 ((j + 1 : Nat) : Int)))]⟩, [], 0⟩) (by simp) (fun k hk => by
    have h1 := rgB_1 (B := B) L (m : Int) sz (accI L m k) z k (m + k) hL (by omega) (by omega) (by omega) (fun _ => by omega) (by omega)
    have hbk := hb (m + k) (by omega)
    have h2 : L.getD (m + k) 0 % 128 * 2 ^ (7 * k) < 18446744073709551616 := by
      by_cases hk9 : k = 9
      · subst hk9
        obtain rfl : j = 9 := by omega
        have := h9 rfl
        have h3 : L.getD (m + 9) 0 % 128 ≤ 1 := by omega
        have h4 : L.getD (m + 9) 0 % 128 * 2 ^ (7 * 9) ≤ 1 * 2 ^ (7 * 9) := Int.mul_le_mul_of_nonneg_right h3 (Int.le_of_lt (Int.pow_pos (by decide)))
        exact Int.lt_of_le_of_lt h4 (by decide)
      · have h7 : (2 : Int) ^ (7 * k) ≤ 2 ^ 56 := by
          have := Nat.pow_le_pow_right (n := 2) (by decide) (show 7 * k ≤ 56 by omega)
          exact_mod_cast this
        have h8 : L.getD (m + k) 0 % 128 * 2 ^ (7 * k) ≤ 127 * 2 ^ 56 := Int.mul_le_mul (by omega) h7 (Int.le_of_lt (Int.pow_pos (by decide))) (by decide)
        exact Int.lt_of_le_of_lt h8 (by decide)
    have hor := or_next (accI L m k) (L.getD (m + k) 0 % 128) k (by omega) (accI_bd k) ⟨by omega, h2⟩
    have e1 : ((k + 1 : Nat) : Int) = (k : Int) + 1 := by omega
    rw [and127 _ hbk] at h1
    rw [e1]
    show CodeDoes Try.prog B _ _ _ ⟨⟨87, [(0, .s (.slv L.length none 1 (flat bc L))), (1, .s (.int .i64 (m : Int))), (7, .s (.int .i64 z)), (8, .s (.int .i64 sz)), (9, .s (.int .u64 (accI L m k + L.getD (m + k) 0 % 128 * 2 ^ (7 * k)))), (10, .s (.int .i64 ((k : Int) + 1 : Int)))]⟩, [], 0⟩
    rw [← hor]
    exact h1) (rgB_2 (B := B) L (m : Int) sz (accI L m (j + 1)) z (j + 1) (m + (j + 1)) hL (by omega) (by omega) (by omega) (fun h => by omega) (by omega))
  refine (CodeDoes.loopAt (by kernel_rfl) h).after ⟨rfl, fun d => ?_, fun n b h => (by cases h), rfl⟩
  by_cases d7 : d = 7
  · subst d7; right; rfl
  by_cases d9 : d = 9
  · subst d9; right; rfl
  · left; show (if 7 = d then _ else if 9 = d then _ else AV.any) = .any; rw [if_neg (fun e => d7 e.symm), if_neg (fun e => d9 e.symm)]
end Go.Proofs.Ytdjalemejbjafaa.V
