/- Chapter 1: writing numbers. Printed by gen_va.py. -/
import Derived.Test.YtdjalemejbjafaaEngSh
import Derived.Test.YtdjalemejbjafaaVBits
import Derived.Test.YtdjalemejbjafaaProg
import Derived.KernelRfl
namespace Go.Proofs.Ytdjalemejbjafaa.V
open Go Go.RowKit Go.Proofs Go.Proofs.Ytdjalemejbjafaa.Eng Go.Proofs.Ytdjalemejbjafaa.VPl
set_option maxRecDepth 100000
set_option linter.unusedVariables false
set_option linter.unusedSimpArgs false
theorem mix : Try.prog.follows .mixedOrders = true := by kernel_rfl
theorem el25 : Eng.elemOf Try.prog 25 = some 5 := by kernel_rfl
theorem sz5 : tsize Try.prog 5 = some 1 := by kernel_rfl
theorem ag5 : tagg Try.prog 5 = some false := by kernel_rfl
theorem by5 : tbytes Try.prog 5 = some 1 := by kernel_rfl
theorem zr5 : tzero Try.prog 5 = some ([.int .u8 0]) := by kernel_rfl
theorem un9 : Try.prog.underlying 9 = some .string := by kernel_rfl

/-- A byte's cell. -/
abbrev bc (x : Int) : List SV := [.int .u8 x]
abbrev vB (l : List Int) : SV := .slv l.length none 1 (flat bc l)
abbrev CD := CallDoes Try.prog
theorem bc_len : ∀ x : Int, (bc x).length = 1 := fun _ => rfl
theorem bc_plain (L : List Int) : ∀ v ∈ flat bc L, plainB v = true := fun v hv => by obtain ⟨x, hx⟩ := flat_mem hv; simp at hx; subst hx; rfl
theorem bc_blk (L : List Int) (o : Bool) : blkN ⟨flat bc L, o⟩ = [] := List.flatMap_eq_nil_iff.2 fun v hv => by have := bc_plain L v hv; cases v <;> first | rfl | cases this
theorem bc_flen (L : List Int) : (flat bc L).length = L.length := by rw [flat_length _ 1 bc_len L, Nat.mul_one]
theorem ixB {kd : IntKind} {q : Int} {k len : Nat} {cap : Option Nat} {L : List Int} (hq : q = (k : Int)) (h1 : k < L.length) (hl : len = L.length) : evIndexAddr Try.prog 25 (.s (.slv len cap 1 (flat bc L))) (.s (.int kd q)) = some (.s (.ptv (bc (L.getD k 0)))) := claim_indexv (0 : Int) bc_len el25 sz5 hq h1 hl
theorem fromB {kd : IntKind} {q : Int} {k len : Nat} {cap : Option Nat} {L : List Int} (hq : q = (k : Int)) (h1 : k ≤ L.length) (hl : len = L.length) : evSlice Try.prog 25 (.s (.slv len cap 1 (flat bc L))) (some (.s (.int kd q))) none none = some (.s (.slv (len - k) (cap.map (· - k)) 1 (flat bc (L.drop k)))) := claim_slvfrom bc_len el25 sz5 (by decide) hq h1 hl
theorem toB {kd : IntKind} {q : Int} {k len : Nat} {cap : Option Nat} {L : List Int} (hq : q = (k : Int)) (h1 : k ≤ L.length) (hl : len = L.length) : evSlice Try.prog 25 (.s (.slv len cap 1 (flat bc L))) none (some (.s (.int kd q))) none = some (.s (.slv k cap 1 (flat bc (L.take k)))) := claim_slvto bc_len el25 sz5 (by decide) hq h1 hl
theorem midB {kd kd2 : IntKind} {q r : Int} {k h len : Nat} {cap : Option Nat} {L : List Int} (hq : q = (k : Int)) (hr : r = (h : Int)) (h1 : k ≤ h) (h2 : h ≤ L.length) (hl : len = L.length) : evSlice Try.prog 25 (.s (.slv len cap 1 (flat bc L))) (some (.s (.int kd q))) (some (.s (.int kd2 r))) none = some (.s (.slv (h - k) (cap.map (· - k)) 1 (flat bc ((L.drop k).take (h - k))))) := claim_slvmid bc_len el25 sz5 (by decide) hq hr h1 h2 hl
theorem appB {n len k c : Nat} {cap : Option Nat} {A X : List Int} (hl : len = A.length) (hk : k = X.length) (hmax : A.length + X.length ≤ 140737488355328) :
    less 1 (evAppend Try.prog 25 25 (.s (.sl n 0 len none 1)) (.s (.slv k cap 1 (flat bc X))) [(n, some ⟨flat bc A, true⟩)] c) = some (.s (.sl c 0 (len + k) none 1), [(c, some ⟨flat bc (A ++ X), true⟩), (n, none)], c + 1) := by
  subst hl; subst hk
  rw [flat_append]
  exact claim_appv el25 el25 sz5 by5 zr5 rfl (by decide) (by rw [bc_flen]; omega) (by unfold maxLen; omega) (by omega)
theorem appB0 {n k c : Nat} {cap : Option Nat} {X : List Int} (hk : k = X.length) (hmax : X.length ≤ 140737488355328) :
    less 1 (evAppend Try.prog 25 25 (.s (.sl n 0 0 none 1)) (.s (.slv k cap 1 (flat bc X))) [(n, some ⟨[], true⟩)] c) = some (.s (.sl c 0 k none 1), [(c, some ⟨flat bc X, true⟩), (n, none)], c + 1) := by
  have := appB (n := n) (c := c) (cap := cap) (len := 0) (A := []) rfl hk (by simpa using hmax)
  rw [Nat.zero_add] at this
  exact this
theorem appB1 {n n2 len c : Nat} {A : List Int} {x : Int} (hne : n ≠ n2) (hl : len = A.length) (hmax : A.length + 1 ≤ 140737488355328) :
    less 2 (evAppend Try.prog 25 25 (.s (.sl n 0 len none 1)) (.s (.sl n2 0 1 none 1)) [(n, some ⟨flat bc A, true⟩), (n2, some ⟨[.int .u8 x], true⟩)] c) = some (.s (.sl c 0 (len + 1) none 1), [(c, some ⟨flat bc (A ++ [x]), true⟩), (n, none)], c + 1) := by
  subst hl
  have hsub : sub (flat bc A) 0 A.length = some (flat bc A) := by
    unfold sub
    rw [if_pos (by rw [bc_flen]; omega), List.drop_zero, ← bc_flen A, List.take_length]
  have h1 : A.length + 1 ≤ maxLen := by unfold maxLen; omega
  rw [flat_append]
  simp [evAppend, evAppend1, evSrc, el25, sz5, by5, zr5, hne, Eng.get, hsub, h1, hmax, less, newBlk, show sub [SV.int .u8 x] 0 1 = some [SV.int .u8 x] from rfl, bc_flen]
  rfl
theorem subB (L : List Int) : sub (flat bc L) 0 (L.length * 1) = some (flat bc L) := by
  unfold sub
  rw [if_pos (by rw [bc_flen]; omega), List.drop_zero, Nat.mul_one, ← bc_flen L, List.take_length]
theorem strB (s : ByteArray) : strCells s = flat bc (s.data.toList.map fun b => (b.toNat : Int)) := by
  unfold strCells
  induction s.data.toList with
  | nil => rfl
  | cons b r ih => simp only [List.map_cons, flat, ih]; rfl
/-- The bytes of a text. -/
abbrev bytesOf (s : ByteArray) : List Int := s.data.toList.map fun b => (b.toNat : Int)
theorem bytesOf_len (s : ByteArray) : (bytesOf s).length = s.size := by simp [bytesOf]
theorem appBs {n len c : Nat} {A : List Int} {s : ByteArray} (hl : len = A.length) (hmax : A.length + s.size ≤ 140737488355328) :
    less 1 (evAppend Try.prog 25 9 (.s (.sl n 0 len none 1)) (.s (.str s)) [(n, some ⟨flat bc A, true⟩)] c) = some (.s (.sl c 0 (len + s.size) none 1), [(c, some ⟨flat bc (A ++ bytesOf s), true⟩), (n, none)], c + 1) := by
  subst hl
  have hsub : sub (flat bc A) 0 A.length = some (flat bc A) := by
    unfold sub
    rw [if_pos (by rw [bc_flen]; omega), List.drop_zero, ← bc_flen A, List.take_length]
  have h1 : A.length + s.size ≤ maxLen := by unfold maxLen; omega
  have h2 : A.length ≤ maxLen := by omega
  have h3 : A.length ≤ 140737488355328 := by omega
  rw [flat_append]
  simp [evAppend, evAppend1, evSrc, el25, sz5, by5, zr5, un9, Eng.get, hsub, h1, h2, h3, hmax, less, newBlk, bc_flen, strB]
attribute [local irreducible] Eng.evAppend Eng.evSlice Eng.less CallDoes Eng.loadG Eng.evIndexAddr Eng.evBin
theorem put0_1 {B : Nat} (L : List Int) (n : Int) (hL : L.length ≤ 140737488351232)  : CodeDoes Try.prog B (Lf (Rt (Try.f19.body.getD .skip))) ⟨⟨24, [(0, .s (.slv L.length none 1 (flat bc L))), (1, .s (.int .u64 n))]⟩, [], 0⟩ Ex.normal ⟨⟨24, [(1, AV.s (SV.int IntKind.u64 n)), (5, AV.s (SV.sl 1 0 (List.length L) none 1))]⟩, [(1, some (Blk.mk (flat bc L) true))], 2⟩ :=
  goA_ok mix (tape := [(2, Ans.mem (AV.s (SV.sl 1 0 (List.length L) none 1)) [(1, some (Blk.mk (flat bc L) true)), (0, none)] 2)]) (dl := [1, 5]) (nl := [1]) (C := [((less 1 (evAppend Try.prog 25 25 (AV.s (SV.sl 0 0 0 none 1)) (AV.s (vB L)) [(0, some (Blk.mk [] true))] 1)) = some (AV.s (SV.sl 1 0 (List.length L) none 1), [(1, some (Blk.mk (flat bc L) true)), (0, none)], 2))]) (by kernel_rfl) ⟨by (apply appB0 <;> first | rfl | omega), trivial⟩
theorem putF_1 {B : Nat} (L : List Int) (n : Int)  : CodeDoes Try.prog B (Lf (Try.f19.body.getD .skip)) ⟨⟨24, [(0, .s (.slv L.length none 1 (flat bc L))), (1, .s (.int .u64 n))]⟩, [], 0⟩ Ex.normal ⟨⟨24, [(0, AV.s (SV.slv (List.length L) none 1 (flat bc L))), (1, AV.s (SV.int IntKind.u64 n))]⟩, [], 0⟩ :=
  goA_ok mix (tape := []) (dl := [0, 1]) (nl := []) (C := []) (by kernel_rfl) trivial
theorem putR_1 {B : Nat} (L : List Int) (n : Int) (hL : L.length ≤ 140737488355000) (h0 : 0 ≤ n) (h_1 : n > 127) : CodeDoes Try.prog B (Lf (Lf (Lf (Rt (Rt (Try.f19.body.getD .skip)))))) ⟨⟨24, [(1, .s (.int .u64 n)), (5, .s (.sl 0 0 L.length none 1))]⟩, [(0, some ⟨flat bc L, true⟩)], 1⟩ Ex.normal ⟨⟨24, [(1, AV.s (SV.int IntKind.u64 (Int.fdiv n (2 ^ min (Int.toNat 7) (IntKind.bits IntKind.u64))))), (5, AV.s (SV.sl 2 0 (List.length L + 1) none 1))]⟩, [(2, some (Blk.mk (flat bc (L ++ [IntKind.wrap IntKind.u8 (↑(BitVec.toNat (BitVec.ofInt (IntKind.bits IntKind.u8) (IntKind.wrap IntKind.u8 n) ||| BitVec.ofInt (IntKind.bits IntKind.u8) 128)) : Int)])) true))], 3⟩ :=
  goA_ok mix (tape := [(1, aT), (7, Ans.mem (AV.s (SV.sl 2 0 (List.length L + 1) none 1)) [(2, some (Blk.mk (flat bc (L ++ [IntKind.wrap IntKind.u8 (↑(BitVec.toNat (BitVec.ofInt (IntKind.bits IntKind.u8) (IntKind.wrap IntKind.u8 n) ||| BitVec.ofInt (IntKind.bits IntKind.u8) 128)) : Int)])) true)), (0, none)] 3)]) (dl := [1, 5]) (nl := [2]) (C := [((less 2 (evAppend Try.prog 25 25 (AV.s (SV.sl 0 0 (List.length L) none 1)) (AV.s (SV.sl 1 0 1 none 1)) [(0, some (Blk.mk (flat bc L) true)), (1, some (Blk.mk [sB (IntKind.wrap IntKind.u8 (↑(BitVec.toNat (BitVec.ofInt (IntKind.bits IntKind.u8) (IntKind.wrap IntKind.u8 n) ||| BitVec.ofInt (IntKind.bits IntKind.u8) 128)) : Int))] true))] 2)) = some (AV.s (SV.sl 2 0 (List.length L + 1) none 1), [(2, some (Blk.mk (flat bc (L ++ [IntKind.wrap IntKind.u8 (↑(BitVec.toNat (BitVec.ofInt (IntKind.bits IntKind.u8) (IntKind.wrap IntKind.u8 n) ||| BitVec.ofInt (IntKind.bits IntKind.u8) 128)) : Int)])) true)), (0, none)], 3)), (IsT (decide (n > 127)))]) (by kernel_rfl) ⟨by (apply appB1 <;> first | rfl | omega), cT (by first | assumption | omega), trivial⟩
theorem putR_2 {B : Nat} (L : List Int) (n : Int) (hL : L.length ≤ 140737488355000) (h0 : 0 ≤ n) (h_1 : ¬ (n > 127)) : CodeDoes Try.prog B (Lf (Lf (Lf (Rt (Rt (Try.f19.body.getD .skip)))))) ⟨⟨24, [(1, .s (.int .u64 n)), (5, .s (.sl 0 0 L.length none 1))]⟩, [(0, some ⟨flat bc L, true⟩)], 1⟩ (Ex.exit 0) ⟨⟨24, [(1, AV.s (SV.int IntKind.u64 n)), (5, AV.s (SV.sl 0 0 (List.length L) none 1))]⟩, [(0, some (Blk.mk (flat bc L) true))], 1⟩ :=
  goA_ok mix (tape := [(1, aF)]) (dl := [1, 5]) (nl := [0]) (C := [(IsF (decide (n > 127)))]) (by kernel_rfl) ⟨cF (by first | assumption | omega), trivial⟩
theorem putE_1 {B : Nat} (L : List Int) (n : Int) (hL : L.length ≤ 140737488355000) (h0 : 0 ≤ n)  : CodeDoes Try.prog B (Rt (Rt (Rt (Try.f19.body.getD .skip)))) ⟨⟨24, [(1, .s (.int .u64 n)), (5, .s (.sl 0 0 L.length none 1))]⟩, [(0, some ⟨flat bc L, true⟩)], 1⟩ Ex.ret ⟨⟨24, [(4, AV.s (SV.sl 2 0 (List.length L + 1) none 1))]⟩, [(2, some (Blk.mk (flat bc (L ++ [IntKind.wrap IntKind.u8 n])) true))], 3⟩ :=
  goA_ok mix (tape := [(4, Ans.mem (AV.s (SV.sl 2 0 (List.length L + 1) none 1)) [(2, some (Blk.mk (flat bc (L ++ [IntKind.wrap IntKind.u8 n])) true)), (0, none)] 3)]) (dl := [4]) (nl := [2]) (C := [((less 2 (evAppend Try.prog 25 25 (AV.s (SV.sl 0 0 (List.length L) none 1)) (AV.s (SV.sl 1 0 1 none 1)) [(0, some (Blk.mk (flat bc L) true)), (1, some (Blk.mk [sB (IntKind.wrap IntKind.u8 n)] true))] 2)) = some (AV.s (SV.sl 2 0 (List.length L + 1) none 1), [(2, some (Blk.mk (flat bc (L ++ [IntKind.wrap IntKind.u8 n])) true)), (0, none)], 3))]) (by kernel_rfl) ⟨by (apply appB1 <;> first | rfl | omega), trivial⟩

theorem put_round {B : Nat} (L : List Int) (x : Int) (n c : Nat) (hn : n < c) (hL : L.length ≤ 140737488355000) (h0 : 0 ≤ x) (h1 : x > 127) : CodeDoes Try.prog B (Lf (Lf (Lf (Rt (Rt (Try.f19.body.getD .skip)))))) ⟨⟨24, [(1, .s (.int .u64 x)), (5, .s (.sl n 0 L.length none 1))]⟩, [(n, some ⟨flat bc L, true⟩)], c⟩ .normal
    ⟨⟨24, [(1, .s (.int .u64 (x / 128))), (5, .s (.sl c 0 (L ++ [x % 128 + 128]).length none 1))]⟩, [(c, some ⟨flat bc (L ++ [x % 128 + 128]), true⟩)], c + 1⟩ := by
  have h := putR_1 (B := B) L x hL h0 h1
  rw [shr7, or128] at h
  have h := (h).lift (fun k => if k = 0 then n else c) [0, 2] (c := c) (c' := c + 1) ⟨by simp; omega, by simp; omega, by simp, by omega⟩ (by simp [avNames, svNames]) (by simp [bc_blk]) (by simp [avNames, svNames]) (by simp [bc_blk])
  have e : (L ++ [x % 128 + 128]).length = L.length + 1 := by simp
  rw [e]
  exact h
/-- The loop: what is left is put behind, seven bits a byte; the last are left over. -/
theorem put_loop {B : Nat} : ∀ (f : Nat) (L : List Int) (x : Int) (n c : Nat), n < c → L.length + f ≤ 140737488355000 → 0 ≤ x → x < 128 ^ (f + 1) → ∃ (y : Int) (M : List Int) (n' c' : Nat), n' < c' ∧ c ≤ c' ∧ (n' = n ∨ c ≤ n') ∧ 0 ≤ y ∧ y ≤ 127 ∧ M.length ≤ L.length + f ∧ M ++ [y] = L ++ vputF f x.toNat ∧
    LoopDoes Try.prog B (Lf (Lf (Lf (Rt (Rt (Try.f19.body.getD .skip)))))) ⟨⟨24, [(1, .s (.int .u64 x)), (5, .s (.sl n 0 L.length none 1))]⟩, [(n, some ⟨flat bc L, true⟩)], c⟩ (.exit 0) ⟨⟨24, [(1, .s (.int .u64 y)), (5, .s (.sl n' 0 M.length none 1))]⟩, [(n', some ⟨flat bc M, true⟩)], c'⟩ := by
  have stop : ∀ (L : List Int) (x : Int) (n c : Nat), n < c → L.length ≤ 140737488355000 → 0 ≤ x → ¬ (x > 127) → LoopDoes Try.prog B (Lf (Lf (Lf (Rt (Rt (Try.f19.body.getD .skip)))))) ⟨⟨24, [(1, .s (.int .u64 x)), (5, .s (.sl n 0 L.length none 1))]⟩, [(n, some ⟨flat bc L, true⟩)], c⟩ (.exit 0) ⟨⟨24, [(1, .s (.int .u64 x)), (5, .s (.sl n 0 L.length none 1))]⟩, [(n, some ⟨flat bc L, true⟩)], c⟩ := by
    intro L x n c hn hL h0 h1
    have h := putR_2 (B := B) L x hL h0 h1
    have h := (h).lift (fun _ => n) [0] (c := c) (c' := c) ⟨by simp, by simp; omega, by simp, by omega⟩ (by simp [avNames, svNames]) (by simp [bc_blk]) (by simp [avNames, svNames]) (by simp [bc_blk])
    exact LoopDoes.last h (by simp)
  intro f
  induction f with
  | zero =>
    intro L x n c hn hL h0 h1
    refine ⟨x, L, n, c, hn, Nat.le_refl _, .inl rfl, h0, by omega, by omega, ?_, stop L x n c hn (by omega) h0 (by omega)⟩
    simp only [vputF]
    congr 2
    omega
  | succ f ih =>
    intro L x n c hn hL h0 h1
    by_cases hx : x > 127
    · obtain ⟨y, M, n', c', g1, g2, g3, g4, g5, g6, g7, g8⟩ := ih (L ++ [x % 128 + 128]) (x / 128) c (c + 1) (by omega) (by simp; omega) (by omega) (by rw [Int.pow_succ] at h1; omega)
      refine ⟨y, M, n', c', g1, by omega, by omega, g4, g5, by simp at g6; omega, ?_, LoopDoes.more (put_round L x n c hn (by omega) h0 hx) g8⟩
      rw [g7]
      conv => rhs; unfold vputF
      rw [if_neg (by omega), List.append_assoc]
      congr 1
      rw [List.singleton_append]
      congr 1
      · omega
      · congr 1
        omega
    · refine ⟨x, L, n, c, hn, Nat.le_refl _, .inl rfl, h0, by omega, by omega, ?_, stop L x n c hn (by omega) h0 hx⟩
      unfold vputF
      rw [if_pos (by omega)]
      congr 2
      omega

theorem put_norm {B : Nat} {code : Code} {s : St} {e : Ex} {k : Nat} {l : List (Nat × AV)} {m : Mem} {c : Nat} (h : CodeDoes Try.prog B code s e ⟨⟨k, l⟩, m, c⟩) {c' : Nat} (hc : c = c') : CodeDoes Try.prog B code s e ⟨⟨k, l⟩, m, c'⟩ := by subst hc; exact h
/-- Put, as its body goes. -/
theorem put_body {B : Nat} (L : List Int) (n : Int) (hL : L.length ≤ 140737488350000) (h0 : 0 ≤ n) (h1 : n ≤ 18446744073709551615) : ∃ j c, j < c ∧ CodeDoes Try.prog B (Try.f19.body.getD .skip) ⟨⟨24, [(0, .s (.slv L.length none 1 (flat bc L))), (1, .s (.int .u64 n))]⟩, [], 0⟩ .ret
    ⟨⟨24, [(4, .s (.sl j 0 (L ++ vput n).length none 1))]⟩, [(j, some ⟨flat bc (L ++ vput n), true⟩)], c⟩ := by
  obtain ⟨y, M, n', c', g1, g2, g3, g4, g5, g6, g7, g8⟩ := put_loop (B := B) 9 L n 1 2 (by omega) (by omega) h0 (Int.lt_of_le_of_lt h1 (by decide))
  have hE := (putE_1 (B := B) M y (by omega) g4).lift (fun k => if k = 0 then n' else c') [0, 2] (c := c') (c' := c' + 1) ⟨by simp; omega, by simp; omega, by simp, by omega⟩ (by simp [avNames, svNames]) (by simp [bc_blk]) (by simp [avNames, svNames]) (by simp [bc_blk])
  have ey : IntKind.wrap .u8 y = y := by rw [wrap8]; omega
  rw [ey, g7] at hE
  have el : (L ++ vputF 9 n.toNat).length = M.length + 1 := by rw [← g7]; simp
  refine ⟨c', c' + 1, by omega, ?_⟩
  show CodeDoes Try.prog B _ _ _ ⟨⟨24, [(4, .s (.sl c' 0 (L ++ vputF 9 n.toNat).length none 1))]⟩, [(c', some ⟨flat bc (L ++ vputF 9 n.toNat), true⟩)], c' + 1⟩
  rw [el]
  exact CodeDoes.seqAt (by kernel_rfl) (putF_1 L n) (CodeDoes.seqAt (by kernel_rfl) (put0_1 L n (by omega)) (CodeDoes.seqAt (by kernel_rfl) (CodeDoes.blockExitAt (id := 0) (by kernel_rfl) (CodeDoes.loopAt (by kernel_rfl) g8)) hE))
/-- Put: a row of its own. -/
theorem put_new (L : List Int) (n : Int) (hL : L.length ≤ 140737488350000) (h0 : 0 ≤ n) (h1 : n ≤ 18446744073709551615) : NewDoes Try.prog 19 [.s (.slv L.length none 1 (flat bc L)), .s (.int .u64 n)] (L ++ vput n).length 1 (flat bc (L ++ vput n)) :=
  NewDoes.of_code Try.func19 (by kernel_rfl) (by kernel_rfl) (k := 24) (by kernel_rfl) (fun B => by
    obtain ⟨j, c, hj, h⟩ := put_body (B := B) L n hL h0 h1
    exact ⟨_, _, j, .inr rfl, h, rfl, if_pos rfl, hj⟩) (bc_blk _ _) (List.all_eq_true.1 (by kernel_rfl))
/-- Put, as a value. -/
theorem put_val (L : List Int) (n : Int) (hL : L.length ≤ 140737488350000) (h0 : 0 ≤ n) (h1 : n ≤ 18446744073709551615) : ValDoes Try.prog 19 [.s (.slv L.length none 1 (flat bc L)), .s (.int .u64 n)] (.s (.slv (L ++ vput n).length none 1 (flat bc (L ++ vput n)))) :=
  ValDoes.of_code Try.func19 (by kernel_rfl) (by kernel_rfl) (k := 24) (by kernel_rfl) (fun B => by
    obtain ⟨j, c, hj, h⟩ := put_body (B := B) L n hL h0 h1
    exact ⟨_, _, .inr rfl, h.freeze j (l' := [(4, .s (.slv (L ++ vput n).length none 1 (flat bc (L ++ vput n))))]) (m' := [(j, none)]) (if_pos rfl) (bc_plain _) (.cons (.s (.sl (subB _))) .nil) (.gone .nil), rfl⟩) rfl (List.all_eq_true.1 (by kernel_rfl))
theorem put_new_call {B c len : Nat} {L M : List Int} {n : Int} (hM : L ++ vput n = M) (hl : len = L.length) (hL : L.length ≤ 140737488350000) (h0 : 0 ≤ n) (h1 : n ≤ 18446744073709551615) : CallDoes Try.prog B 19 [.s (.slv len none 1 (flat bc L)), .s (.int .u64 n)] [] c (.s (.sl c 0 M.length none 1)) ([(c, some ⟨flat bc M, true⟩)] ++ []) (c + 1) := by
  subst hM; subst hl; exact put_new L n hL h0 h1 B c
theorem put_call {B c len : Nat} {L M : List Int} {n : Int} (hM : L ++ vput n = M) (hl : len = L.length) (hL : L.length ≤ 140737488350000) (h0 : 0 ≤ n) (h1 : n ≤ 18446744073709551615) : CallDoes Try.prog B 19 [.s (.slv len none 1 (flat bc L)), .s (.int .u64 n)] [] c (.s (.slv M.length none 1 (flat bc M))) ([] ++ []) c := by
  subst hM; subst hl; exact put_val L n hL h0 h1 B c
end Go.Proofs.Ytdjalemejbjafaa.V
