/- The reckoner, piece by piece: a state in, a state out, each laid out. -/
import Derived.Test.YtaelliigpclipaaEngVC
import Derived.Test.YtaelliigpclipaaEngY
namespace Go.Proofs.Ytaelliigpclipaa.Eng
set_option linter.unusedVariables false
set_option linter.unusedSimpArgs false
open Go Go.RowKit

variable {P : Program}

noncomputable def slotsK {β : Type} : List (Nat × AV) → Tr AV → (Tr AV → Option β) → Option β
  | [], S, k => k S
  | e :: r, S, k => slotsK r S fun S => tp 64 S e.1 e.2 k
theorem slotsK_ok {β : Type} : ∀ (l : List (Nat × AV)) (k : Tr AV → Option β) (y : β), slotsK l .e k = some y → ∃ S', k S' = some y ∧ ∀ d, sg S' d = lk l d
  | [], k, y, h => ⟨.e, h, fun _ => rfl⟩
  | e :: r, k, y, h => by
    simp only [slotsK] at h
    obtain ⟨S1, h1, h2⟩ := slotsK_ok r _ y h
    obtain ⟨S2, h3, h4⟩ := tp_ok _ _ _ _ _ _ h1
    refine ⟨S2, h3, fun d => ?_⟩
    obtain ⟨q, v⟩ := e
    simp only [lk, sg] at h2 ⊢
    rw [h4 d]
    by_cases hq : d = q
    · subst hq; simp
    · rw [if_neg hq, if_neg (fun e => hq e.symm)]
      exact h2 d

noncomputable def pickT (dl nl : List Nat) (s : FS) : St := ⟨⟨s.n, dl.map fun d => (d, sg s.S d)⟩, nl.map fun n => (n, mg s.T n), s.c⟩
/-- From state s, code ends so, and of what it leaves these slots and names are told. -/
noncomputable def goT (P : Program) (n : Nat) (code : Code) (s : St) (dl nl : List Nat) : Option (Ex × St) :=
  slotsK s.t.l .e fun S => putsK s.m .e [] fun T _ => match evT P n code ⟨s.t.n, S, T, s.c, []⟩ with
    | some (e, s') => some (e, pickT dl nl s')
    | none => none
theorem lk_map (g : Nat → AV) (d : Nat) : ∀ (l : List Nat), lk (l.map fun d => (d, g d)) d = if d ∈ l then g d else .any
  | [] => by simp [lk]
  | x :: r => by
    simp only [List.map_cons, lk]
    rw [lk_map g d r]
    by_cases h : x = d
    · subst h; simp
    · have : d ≠ x := fun e => h e.symm
      simp [h, this]
theorem get_map (g : Nat → Option Blk) (d : Nat) : ∀ (l : List Nat), get (l.map fun d => (d, g d)) d = if d ∈ l then g d else none
  | [] => by simp [get]
  | x :: r => by
    simp only [List.map_cons, get]
    rw [get_map g d r]
    by_cases h : x = d
    · subst h; simp
    · have : d ≠ x := fun e => h e.symm
      simp [h, this]
theorem goT_ok {B : Nat} (hmix : P.follows .mixedOrders = true) {n : Nat} {code : Code} {s s1 : St} {dl nl : List Nat} {e : Ex} (h : goT P n code s dl nl = some (e, s1)) : CodeDoes P B code s e s1 := by
  unfold goT at h
  obtain ⟨S, h1, h2⟩ := slotsK_ok _ _ _ h
  obtain ⟨T, h3, h4⟩ := putsK_ok _ _ _ _ _ h1
  split at h3
  · rename_i e' s' he
    simp only [Option.some.injEq, Prod.mk.injEq] at h3
    obtain ⟨rfl, rfl⟩ := h3
    have hm := h4 [] (show RelM .e [] from rfl)
    rw [List.append_nil] at hm
    obtain ⟨t', δ, a1, a2, a3, _⟩ := evT_ok n _ _ _ _ he s.t s.m ⟨rfl, funext h2⟩ hm
    refine (CodeOk.does (evL_ok hmix n).1 (evL_touch n) a1).after ⟨a2.1.symm, fun d => ?_, fun q b hb => ?_, rfl⟩
    · show look _ d = .any ∨ _
      unfold pickT look
      rw [lk_map]
      split
      · right; exact congrFun a2.2 d
      · left; rfl
    · unfold pickT at hb
      simp only at hb
      rw [get_map] at hb
      split at hb
      · rw [← show mg s'.T = get (δ ++ s.m) from a3]; exact hb
      · cases hb
  · cases h3

/-- Numbers, shortly told. -/
abbrev i64 (n : Nat) : SV := .int .i64 (.ofNat n)
abbrev u8 (n : Nat) : SV := .int .u8 (.ofNat n)

section
variable {B : Nat} {C : Code} {s s1 s' : St} {e : Ex}
theorem CodeDoes.seqAt (hC : C = .seq (Lf C) (Rt C)) (h : CodeDoes P B (Lf C) s .normal s1) (k : CodeDoes P B (Rt C) s1 e s') : CodeDoes P B C s e s' := by
  have := h.seq k
  rwa [← hC] at this
theorem CodeDoes.seqOutAt (hC : C = .seq (Lf C) (Rt C)) (h : CodeDoes P B (Lf C) s e s') (he : e ≠ .normal) : CodeDoes P B C s e s' := by
  have : CodeDoes P B (.seq (Lf C) (Rt C)) s e s' := h.seq_out he
  rwa [← hC] at this
theorem CodeDoes.blockExitAt {id : Nat} (hC : C = .block id (Lf C)) (h : CodeDoes P B (Lf C) s (.exit id) s') : CodeDoes P B C s .normal s' := by
  have : CodeDoes P B (.block id (Lf C)) s .normal s' := h.block_exit
  rwa [← hC] at this
theorem CodeDoes.blockOutAt {id i : Nat} (hC : C = .block id (Lf C)) (h : CodeDoes P B (Lf C) s (.exit i) s') (hi : i ≠ id) : CodeDoes P B C s (.exit i) s' := by
  have : CodeDoes P B (.block id (Lf C)) s (.exit i) s' := h.block_out hi
  rwa [← hC] at this
theorem CodeDoes.blockAt {id : Nat} (hC : C = .block id (Lf C)) (h : CodeDoes P B (Lf C) s e s') (he : ∀ i, e ≠ .exit i) : CodeDoes P B C s e s' := by
  have : CodeDoes P B (.block id (Lf C)) s e s' := h.block he
  rwa [← hC] at this
theorem CodeDoes.loopAt (hC : C = .loop (Lf C)) (h : LoopDoes P B (Lf C) s e s') : CodeDoes P B C s e s' := by
  have : CodeDoes P B (.loop (Lf C)) s e s' := h.code
  rwa [← hC] at this
def Cx : Code → Operand
  | .cond x _ _ => x
  | _ => .tmp 0
theorem CodeDoes.condTAt (hC : C = .cond (Cx C) (Lf C) (Rt C)) (hq : evO (look s.t) (Cx C) = .s (.bool true)) (h : CodeDoes P B (Lf C) s e s') : CodeDoes P B C s e s' := by
  have : CodeDoes P B (.cond (Cx C) (Lf C) (Rt C)) s e s' := CodeDoes.cond hq (by rw [if_pos rfl]; exact h)
  rwa [← hC] at this
theorem CodeDoes.condFAt (hC : C = .cond (Cx C) (Lf C) (Rt C)) (hq : evO (look s.t) (Cx C) = .s (.bool false)) (h : CodeDoes P B (Rt C) s e s') : CodeDoes P B C s e s' := by
  have : CodeDoes P B (.cond (Cx C) (Lf C) (Rt C)) s e s' := CodeDoes.cond hq (by rw [if_neg (by decide)]; exact h)
  rwa [← hC] at this
end
/-- A closed function, out of its pieces. -/
theorem PureDoes.of_pieces {f : FuncId} {fn : Func} {body : Code} {s0 s' : St} {e : Ex} {v : AV} (hf : P.funcs[f]? = some fn) (hb : fn.body = some body) (hname : (fn.name == "runtime.NumGoroutine") = false)
    (hs : (⟨⟨0 + (fn.ntmps - 0), []⟩, [], 0⟩ : St) = s0) (h : ∀ B, CodeDoes P B body s0 e s') (he : e = .normal ∨ e = .ret) (hr : evResults P fn s' = some v) : PureDoes P f [] [] 0 v :=
  PureDoes.of_body hf hb hname (fun B => by rw [show (⟨⟨([] : List AV).length + (fn.ntmps - ([] : List AV).length), enum 0 []⟩, [], 0⟩ : St) = s0 from hs]; exact h B) he hr
end Go.Proofs.Ytaelliigpclipaa.Eng
