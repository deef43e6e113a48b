/- The reckoner over tries: code and calls. -/
import Derived.Test.YtaelliigpclipaaEngVB
import Derived.Test.YtaelliigpclipaaEngW
namespace Go.Proofs.Ytaelliigpclipaa.Eng
set_option linter.unusedVariables false
set_option linter.unusedSimpArgs false
open Go Go.RowKit

section
variable (P : Program)

noncomputable def stepT (call : CallT) (rec : Code → FS → Option (Ex × FS)) (code : Code) (s : FS) : Option (Ex × FS) := match code with
  | .skip => some (.normal, s)
  | .label _ => some (.normal, s)
  | .region _ ops draw => match regT P call ops draw s.n s.S s.T s.c s.lg with
    | some s' => some (.normal, s')
    | none => none
  | .seq a b => match rec a s with
    | some (.normal, s') => rec b s'
    | r => r
  | .cond x a b => match evO (sg s.S) x with
    | .s (.bool true) => rec a s
    | .s (.bool false) => rec b s
    | _ => none
  | .block id body => match rec body s with
    | some (.exit id', s') => if id' = id then some (.normal, s') else some (.exit id', s')
    | r => r
  | .loop body => match rec body s with
    | some (.normal, s') => rec (.loop body) s'
    | r => r
  | .exit id => some (.exit id, s)
  | .ret => some (.ret, s)
  | _ => none

/-! ### What a call leaves that something leads to -/
def dd : List Nat → List Nat → List Nat
  | [], acc => acc
  | n :: r, acc => if acc.contains n then dd r acc else dd r (n :: acc)
def blkNames : Option Blk → List Nat
  | some b => b.cells.flatMap svNames
  | none => []
def reachG (g : Nat → Option Blk) (c : Nat) : Nat → List Nat → List Nat → List Nat
  | 0, _, acc => acc
  | _ + 1, [], acc => acc
  | f + 1, x :: r, acc => if Nat.blt x c || acc.contains x then reachG g c f r acc else reachG g c f (blkNames (g x) ++ r) (x :: acc)
def oldOf (names : List Nat) (c c' : Nat) : List Nat := dd (names.filter fun n => Nat.blt n c || Nat.ble c' n) []
def leftG (v : AV) (names : List Nat) (g : Nat → Option Blk) (c c' : Nat) : Mem :=
  fL (oldOf names c c') fun olds => match avNames v ++ olds.flatMap fun n => blkNames (g n) with
    | [] => olds.map fun n => (n, g n)
    | rs => ((reachG g c 10000 rs []).filter (fun n => Nat.ble c n && Nat.blt n c') ++ olds).map fun n => (n, g n)

def resG (fn : Func) (t : Nat → AV) (g : Nat → Option Blk) : Option AV := match fn.results.toList with
  | [.tmp d] => some (t d)
  | rs => match go rs with
    | some [x] => ofComp x
    | some l => some (.tup l)
    | none => none
where
  go : List ResultVar → Option (List (Bool × List SV))
    | [] => some []
    | .tmp d :: r => match comp (t d), go r with
      | some x, some l => some (x :: l)
      | _, _ => none
    | .cell a ty :: r => match (loadG P ty (t a) g).bind comp, go r with
      | some x, some l => some (x :: l)
      | _, _ => none

noncomputable def argsK {β : Type} : List AV → Nat → Tr AV → (Tr AV → Option β) → Option β
  | [], _, S, k => k S
  | x :: r, i, S, k => fA x fun x => tp 64 S i x fun S => argsK r (i + 1) S k

noncomputable def endT (fn : Func) (c : Nat) (s : FS) : Res := match resG P fn (sg s.S) (mg s.T) with
  | some v => fA v fun v => fL (leftG v s.lg (mg s.T) c s.c) fun δ => fM δ.length δ fun δ => some (v, δ, s.c)
  | none => none

noncomputable def callT (rec : Code → FS → Option (Ex × FS)) : CallT := fun f args T c =>
  match P.funcs[f]? with
  | some fn => match fn.body with
    | some body => if fn.name == "runtime.NumGoroutine" then none else
      argsK args 0 .e fun S => fN (args.length + (fn.ntmps - args.length)) fun n => match rec body ⟨n, S, T, c, []⟩ with
      | some (.normal, s') => endT P fn c s'
      | some (.ret, s') => endT P fn c s'
      | _ => none
    | none => none
  | none => none

noncomputable def evT : Nat → Code → FS → Option (Ex × FS)
  | 0 => fun _ _ => none
  | n + 1 => stepT P (callT P (evT n)) (evT n)

/-! ### The same, over lists -/
def callL (rec : Code → St → Option (Ex × St)) : CallF := fun f args m c => match callEv P rec f args m c with
  | some (v, m', c') => some (v, leftG v ((m'.take (m'.length - m.length)).map (·.1)) (get m') c c' ++ m, c')
  | none => none
def evL : Nat → Code → St → Option (Ex × St)
  | 0 => fun _ _ => none
  | n + 1 => evStep (regAll P) (callL P (evL n)) (evL n)
end

variable {P : Program}

theorem dd_mem : ∀ (l acc : List Nat) (n : Nat), n ∈ l ∨ n ∈ acc → n ∈ dd l acc
  | [], acc, n, h => by simpa [dd] using h
  | x :: r, acc, n, h => by
    simp only [dd]
    split
    · rename_i hc
      refine dd_mem r acc n ?_
      rcases h with h | h
      · rcases List.mem_cons.1 h with rfl | h
        · exact .inr (by simpa using hc)
        · exact .inl h
      · exact .inr h
    · refine dd_mem r (x :: acc) n ?_
      rcases h with h | h
      · rcases List.mem_cons.1 h with rfl | h
        · exact .inr (by simp)
        · exact .inl h
      · exact .inr (by simp [h])
theorem upd_map (g : Nat → Option Blk) (M : MemF) (n : Nat) : ∀ (l : List Nat), upd (l.map fun n => (n, g n)) M n = if n ∈ l then g n else M n
  | [] => by simp [upd]
  | x :: r => by
    rw [List.map_cons, upd_cons, upd_one, upd_map g M n r]
    by_cases h : x = n
    · subst h; simp
    · rw [if_neg h]
      have : n ≠ x := fun e => h e.symm
      simp [this]
theorem leftG_eq (v : AV) (names : List Nat) (g : Nat → Option Blk) (c c' : Nat) : ∃ l : List Nat, leftG v names g c c' = l.map (fun n => (n, g n)) ∧ ∀ n ∈ names, (n < c ∨ c' ≤ n) → n ∈ l := by
  have key : ∀ n ∈ names, (n < c ∨ c' ≤ n) → n ∈ oldOf names c c' := by
    intro n hn h
    refine dd_mem _ _ _ (.inl ?_)
    rw [List.mem_filter]
    refine ⟨hn, ?_⟩
    rw [Bool.or_eq_true, Nat.blt_eq, Nat.ble_eq]
    exact h
  unfold leftG
  rw [fL_eq]
  split
  · exact ⟨_, rfl, key⟩
  · exact ⟨_, rfl, fun n hn h => List.mem_append.2 (.inr (key n hn h))⟩
theorem Post.left {B : Nat} {ρ : Rho} {M : MemF} {m : Mem} {c c' : Nat} {w : World} {v : AV} {δ : Mem} {v' : Value} {w' : World} (h : Post B ρ M c c' w v δ v' w') (hm : Agree m M) (hf : ∀ n, c ≤ n → n < c' → M n = none) :
    Post B ρ M c c' w v (leftG v (δ.map (·.1)) (get (δ ++ m)) c c') v' w' := by
  obtain ⟨ρ', e1, e2, e3, e4⟩ := h
  refine ⟨ρ', e1, e2, e3.sub (fun n b hb => ?_), e4⟩
  obtain ⟨l, h1, h2⟩ := leftG_eq v (δ.map (·.1)) (get (δ ++ m)) c c'
  rw [h1, upd_map] at hb
  split at hb
  · exact upd_here hm δ n b hb
  · rename_i hn
    by_cases ht : Touch δ n
    · obtain ⟨e, he, rfl⟩ := ht
      have h3 : ¬ (e.1 < c ∨ c' ≤ e.1) := fun hq => hn (h2 _ (List.mem_map.2 ⟨e, he, rfl⟩) hq)
      rw [hf _ (by omega) (by omega)] at hb
      cases hb
    · rw [upd_out ht]; exact hb
theorem dd_sub : ∀ (l acc : List Nat) (n : Nat), n ∈ dd l acc → n ∈ l ∨ n ∈ acc
  | [], acc, n, h => .inr h
  | x :: r, acc, n, h => by
    simp only [dd] at h
    split at h
    · rcases dd_sub r acc n h with h | h
      · exact .inl (List.mem_cons_of_mem _ h)
      · exact .inr h
    · rcases dd_sub r (x :: acc) n h with h | h
      · exact .inl (List.mem_cons_of_mem _ h)
      · rcases List.mem_cons.1 h with rfl | h
        · exact .inl (by simp)
        · exact .inr h
theorem leftG_touch {v : AV} {δ m : Mem} {g : Nat → Option Blk} {c c' : Nat} (h : Touches m c c' δ) : Touches m c c' (leftG v (δ.map (·.1)) g c c') := by
  have olds : ∀ n ∈ oldOf (δ.map (·.1)) c c', (∃ b, get m n = some b) ∨ (c ≤ n ∧ n < c') := by
    intro n hn
    have h1 := dd_sub _ _ _ hn
    simp only [List.not_mem_nil, or_false, List.mem_filter, List.mem_map] at h1
    obtain ⟨⟨e, he, rfl⟩, _⟩ := h1
    exact h e he
  intro e he
  unfold leftG at he
  rw [fL_eq] at he
  split at he
  · rw [List.mem_map] at he
    obtain ⟨n, hn, rfl⟩ := he
    exact olds n hn
  · rw [List.mem_map] at he
    obtain ⟨n, hn, rfl⟩ := he
    rcases List.mem_append.1 hn with hn | hn
    · rw [List.mem_filter, Bool.and_eq_true, Nat.ble_eq, Nat.blt_eq] at hn
      exact .inr hn.2
    · exact olds n hn
theorem callL_touch {rec : Code → St → Option (Ex × St)} (hrec : TouchCode rec) : TouchOk (callL P rec) := by
  intro f args m c v m' c' h
  unfold callL at h
  cases hc : callEv P rec f args m c with
  | none => rw [hc] at h; cases h
  | some p =>
    obtain ⟨v0, m0, c0⟩ := p
    rw [hc] at h
    simp only [Option.some.injEq, Prod.mk.injEq] at h
    obtain ⟨rfl, rfl, rfl⟩ := h
    obtain ⟨h0, δ, h1, h2⟩ := callEv_touch hrec hc
    subst h1
    rw [take_ahead]
    exact ⟨h0, _, rfl, leftG_touch h2⟩
theorem evL_touch : ∀ n, TouchCode (evL P n)
  | 0 => fun _ _ _ _ h => by simp [evL] at h
  | n + 1 => step_touch (callL_touch (evL_touch n)) (evL_touch n)
theorem callL_ok {B : Nat} {rec : Code → St → Option (Ex × St)} (hrec : CodeOk P B rec) : CallOk P B (callL P rec) := by
  intro f args m c v m' c' h
  unfold callL at h
  cases hc : callEv P rec f args m c with
  | none => rw [hc] at h; cases h
  | some p =>
    obtain ⟨v0, m0, c0⟩ := p
    rw [hc] at h
    simp only [Option.some.injEq, Prod.mk.injEq] at h
    obtain ⟨rfl, rfl, rfl⟩ := h
    obtain ⟨h0, h1, δ, rfl, h3⟩ := call_ok hrec _ _ _ _ _ _ _ hc
    rw [take_ahead]
    exact ⟨h0, h1, _, rfl, fun ρ M args' w ha hm hfr hs => (h3 ρ M args' w ha hm hfr hs).mono fun e w' ⟨v', a1, a2⟩ => ⟨v', a1, a2.left hm (fun n p q => hs.gone (hfr n p q))⟩⟩
theorem evL_ok {B : Nat} (hmix : P.follows .mixedOrders = true) : ∀ n, CodeOk P B (evL P n) ∧ LoopOk P B (evL P n)
  | 0 => ⟨fun _ _ _ _ h => by simp [evL] at h, fun _ _ _ _ h => by simp [evL] at h⟩
  | n + 1 => by
    obtain ⟨h1, h2⟩ := evL_ok hmix n
    exact step_ok (reg_ok hmix) (callL_ok h1) h1 h2

/-! ### The one does as the other -/
def SimCode (recT : Code → FS → Option (Ex × FS)) (rec : Code → St → Option (Ex × St)) : Prop := ∀ code s e s', recT code s = some (e, s') → ∀ t m, RelS s.n s.S t → RelM s.T m →
  ∃ t' δ, rec code ⟨t, m, s.c⟩ = some (e, ⟨t', δ ++ m, s'.c⟩) ∧ RelS s'.n s'.S t' ∧ RelM s'.T (δ ++ m) ∧ s'.lg = δ.map (·.1) ++ s.lg

theorem stepT_ok {cT : CallT} {call : CallF} (hc : SimCall cT call) {recT : Code → FS → Option (Ex × FS)} {rec : Code → St → Option (Ex × St)} (hr : SimCode recT rec) : SimCode (stepT P cT recT) (evStep (regAll P) call rec) := by
  intro code s e s' h t m ht hm
  cases code with
  | skip =>
    simp only [stepT, Option.some.injEq, Prod.mk.injEq] at h
    obtain ⟨rfl, rfl⟩ := h
    exact ⟨t, [], rfl, ht, hm, rfl⟩
  | label l =>
    simp only [stepT, Option.some.injEq, Prod.mk.injEq] at h
    obtain ⟨rfl, rfl⟩ := h
    exact ⟨t, [], rfl, ht, hm, rfl⟩
  | exit l =>
    simp only [stepT, Option.some.injEq, Prod.mk.injEq] at h
    obtain ⟨rfl, rfl⟩ := h
    exact ⟨t, [], rfl, ht, hm, rfl⟩
  | ret =>
    simp only [stepT, Option.some.injEq, Prod.mk.injEq] at h
    obtain ⟨rfl, rfl⟩ := h
    exact ⟨t, [], rfl, ht, hm, rfl⟩
  | region id ops draw =>
    simp only [stepT] at h
    split at h
    · rename_i s1 h1
      simp only [Option.some.injEq, Prod.mk.injEq] at h
      obtain ⟨rfl, rfl⟩ := h
      obtain ⟨t', δ, a1, a2, a3, a4⟩ := regT_ok hc h1 ht hm
      exact ⟨t', δ, by simp [evStep, a1], a2, a3, a4⟩
    · cases h
  | cond x a b =>
    simp only [stepT] at h
    rw [ht.2] at h
    simp only [evStep]
    split at h
    · rename_i hq; rw [hq]; exact hr _ _ _ _ h t m ht hm
    · rename_i hq; rw [hq]; exact hr _ _ _ _ h t m ht hm
    · cases h
  | seq a b =>
    simp only [stepT] at h
    simp only [evStep]
    split at h
    · rename_i s1 h1
      obtain ⟨t1, δ1, a1, a2, a3, a4⟩ := hr _ _ _ _ h1 t m ht hm
      rw [a1]
      obtain ⟨t2, δ2, b1, b2, b3, b4⟩ := hr _ _ _ _ h t1 _ a2 a3
      exact ⟨t2, δ2 ++ δ1, by rw [List.append_assoc]; exact b1, b2, by rw [List.append_assoc]; exact b3, by rw [b4, a4, List.map_append, List.append_assoc]⟩
    · rename_i hne
      obtain ⟨t1, δ1, a1, a2, a3, a4⟩ := hr _ _ _ _ h t m ht hm
      rw [a1]
      cases e with
      | normal => exact absurd h (hne s')
      | exit i => exact ⟨t1, δ1, rfl, a2, a3, a4⟩
      | ret => exact ⟨t1, δ1, rfl, a2, a3, a4⟩
  | block id body =>
    simp only [stepT] at h
    simp only [evStep]
    split at h
    · rename_i id' s1 h1
      obtain ⟨t1, δ1, a1, a2, a3, a4⟩ := hr _ _ _ _ h1 t m ht hm
      rw [a1]
      simp only
      split at h
      · rename_i hid
        simp only [Option.some.injEq, Prod.mk.injEq] at h
        obtain ⟨rfl, rfl⟩ := h
        exact ⟨t1, δ1, by rw [if_pos hid], a2, a3, a4⟩
      · rename_i hid
        simp only [Option.some.injEq, Prod.mk.injEq] at h
        obtain ⟨rfl, rfl⟩ := h
        exact ⟨t1, δ1, by rw [if_neg hid], a2, a3, a4⟩
    · rename_i hne
      obtain ⟨t1, δ1, a1, a2, a3, a4⟩ := hr _ _ _ _ h t m ht hm
      rw [a1]
      cases e with
      | normal => exact ⟨t1, δ1, rfl, a2, a3, a4⟩
      | exit i => exact absurd h (hne i s')
      | ret => exact ⟨t1, δ1, rfl, a2, a3, a4⟩
  | loop body =>
    simp only [stepT] at h
    simp only [evStep]
    split at h
    · rename_i s1 h1
      obtain ⟨t1, δ1, a1, a2, a3, a4⟩ := hr _ _ _ _ h1 t m ht hm
      rw [a1]
      obtain ⟨t2, δ2, b1, b2, b3, b4⟩ := hr _ _ _ _ h t1 _ a2 a3
      exact ⟨t2, δ2 ++ δ1, by rw [List.append_assoc]; exact b1, b2, by rw [List.append_assoc]; exact b3, by rw [b4, a4, List.map_append, List.append_assoc]⟩
    · rename_i hne
      obtain ⟨t1, δ1, a1, a2, a3, a4⟩ := hr _ _ _ _ h t m ht hm
      rw [a1]
      cases e with
      | normal => exact absurd h (hne s')
      | exit i => exact ⟨t1, δ1, rfl, a2, a3, a4⟩
      | ret => exact ⟨t1, δ1, rfl, a2, a3, a4⟩
  | _ => cases h

theorem resG_go {t : Tm} {m : Mem} {c : Nat} : ∀ {rs : List ResultVar} {l : List (Bool × List SV)}, resG.go P (look t) (get m) rs = some l → evResults.go P ⟨t, m, c⟩ rs = some l
  | [], l, h => h
  | .tmp d :: r, l, h => by
    simp only [resG.go] at h
    simp only [evResults.go]
    split at h
    · rename_i x l' h1 h2
      rw [h1, resG_go h2]
      exact h
    · cases h
  | .cell a ty :: r, l, h => by
    simp only [resG.go] at h
    simp only [evResults.go]
    split at h
    · rename_i x l' h1 h2
      rw [Option.bind_eq_some_iff] at h1
      obtain ⟨u, h3, h4⟩ := h1
      rw [loadG_ok h3, Option.bind_some, h4, resG_go h2]
      exact h
    · cases h
theorem resG_ok {fn : Func} {t : Tm} {m : Mem} {c : Nat} {v : AV} (h : resG P fn (look t) (get m) = some v) : evResults P fn ⟨t, m, c⟩ = some v := by
  unfold resG at h
  unfold evResults
  split at h
  · rename_i d hd
    rw [hd]
    exact h
  · rename_i hne
    split at h
    · rename_i x hg
      split
      · rename_i d hd; exact absurd hd (hne d)
      · rw [resG_go hg]; exact h
    · rename_i l hl hg
      split
      · rename_i d hd; exact absurd hd (hne d)
      · rw [resG_go hg]
        simp only
        exact h
    · cases h

theorem argsK_ok {β : Type} : ∀ (l : List AV) (i : Nat) (S : Tr AV) (k : Tr AV → Option β) (y : β), argsK l i S k = some y → ∃ S', k S' = some y ∧ ∀ d, sg S' d = if i ≤ d ∧ d < i + l.length then (l[d - i]?).getD .any else sg S d
  | [], i, S, k, y, h => ⟨S, h, fun d => by rw [if_neg (by simp)]⟩
  | x :: r, i, S, k, y, h => by
    simp only [argsK, fA_eq] at h
    obtain ⟨S1, h1, h2⟩ := tp_ok _ _ _ _ _ _ h
    obtain ⟨S2, h3, h4⟩ := argsK_ok r (i + 1) S1 k y h1
    refine ⟨S2, h3, fun d => ?_⟩
    rw [h4 d]
    by_cases hd : d = i
    · subst hd
      rw [if_neg (by omega), if_pos (by simp)]
      simp [sg, h2]
    · by_cases hr : i + 1 ≤ d ∧ d < i + 1 + r.length
      · rw [if_pos hr, if_pos (by simp only [List.length_cons]; omega), show d - i = (d - (i + 1)) + 1 by omega, List.getElem?_cons_succ]
      · rw [if_neg hr, if_neg (by simp only [List.length_cons]; omega)]
        simp [sg, h2, hd]

theorem callT_ok {recT : Code → FS → Option (Ex × FS)} {rec : Code → St → Option (Ex × St)} (hr : SimCode recT rec) : SimCall (callT P recT) (callL P rec) := by
  intro f args T c v δ c' m hm h
  unfold callT at h
  unfold callL callEv
  split at h
  · rename_i fn hf
    rw [hf]
    simp only
    split at h
    · rename_i body hb
      rw [hb]
      simp only
      split at h
      · cases h
      · rename_i hname
        rw [if_neg hname]
        obtain ⟨S, h1, h2⟩ := argsK_ok _ _ _ _ _ h
        rw [fN_eq] at h1
        have ht : RelS (args.length + (fn.ntmps - args.length)) S ⟨args.length + (fn.ntmps - args.length), enum 0 args⟩ := by
          refine ⟨rfl, funext fun d => ?_⟩
          rw [h2 d]
          show _ = lk (enum 0 args) d
          rw [lk_enum, if_pos (Nat.zero_le _)]
          by_cases hd : d < args.length
          · rw [if_pos (by omega)]
          · rw [if_neg (by omega), List.getElem?_eq_none (by omega)]
            rfl
        have fin : ∀ s' : FS, endT P fn c s' = some (v, δ, c') → ∀ (t' : Tm) (δ' : Mem), RelS s'.n s'.S t' → RelM s'.T (δ' ++ m) → s'.lg = δ'.map (·.1) ++ [] → ∃ v0 : AV, evResults P fn ⟨t', δ' ++ m, s'.c⟩ = some v0 ∧ (v0, leftG v0 (((δ' ++ m).take ((δ' ++ m).length - m.length)).map (·.1)) (get (δ' ++ m)) c s'.c ++ m, s'.c) = (v, δ ++ m, c') := by
          intro s' he t' δ' a2 a3 a4
          unfold endT at he
          rw [a2.2, show mg s'.T = get (δ' ++ m) from a3] at he
          split at he
          · rename_i v1 h3
            simp only [fA_eq, fL_eq, fM_eq, Option.some.injEq, Prod.mk.injEq] at he
            obtain ⟨rfl, rfl, rfl⟩ := he
            refine ⟨v1, resG_ok h3, ?_⟩
            rw [take_ahead, a4, List.append_nil]
          · cases he
        split at h1
        · rename_i s' hrun
          obtain ⟨t', δ', a1, a2, a3, a4⟩ := hr _ _ _ _ hrun _ m ht hm
          obtain ⟨v0, b1, b2⟩ := fin s' h1 t' δ' a2 a3 a4
          rw [a1]
          simp only [b1, Option.map_some]
          exact congrArg some b2
        · rename_i s' hrun
          obtain ⟨t', δ', a1, a2, a3, a4⟩ := hr _ _ _ _ hrun _ m ht hm
          obtain ⟨v0, b1, b2⟩ := fin s' h1 t' δ' a2 a3 a4
          rw [a1]
          simp only [b1, Option.map_some]
          exact congrArg some b2
        · cases h1
    · cases h
  · cases h
theorem evT_ok : ∀ n, SimCode (evT P n) (evL P n)
  | 0 => fun _ _ _ _ h => by simp [evT] at h
  | n + 1 => stepT_ok (callT_ok (evT_ok n)) (evT_ok n)
theorem callT_does {B : Nat} (hmix : P.follows .mixedOrders = true) {n : Nat} {f : FuncId} {args : List AV} {T : TM} {m : Mem} {c : Nat} {v : AV} {δ : Mem} {c' : Nat} (hm : RelM T m) (h : callT P (evT P n) f args T c = some (v, δ, c')) :
    callL P (evL P n) f args m c = some (v, δ ++ m, c') := callT_ok (evT_ok n) _ _ _ _ _ _ _ _ hm h

/-- A closed sentence, quickly. -/
theorem yesT_ok (hmix : P.follows .mixedOrders = true) {n : Nat} {f : FuncId} (h : yes (callT P (evT P n) f [] .e 0) = true) (w : World) :
    Calls P f #[] w fun e w' => e = .returned (.bool true) ∧ Below w.heap.size w w' := by
  unfold yes at h
  split at h
  · rename_i m c hc
    have h1 := callT_ok (evT_ok (P := P) n) _ _ _ _ _ _ _ [] (show RelM .e [] from rfl) hc
    obtain ⟨_, _, δ, _, h3⟩ := callL_ok (B := w.heap.size) (evL_ok hmix n).1 f [] [] 0 _ _ c h1
    exact (h3 Rho.none (fun _ => none) #[] w ⟨rfl, fun i x y h => by simp at h⟩ (fun _ _ h => by simp [get] at h) (fun _ _ _ => rfl) (Sat.start w)).mono fun e w' ⟨v', h1, ρ, _, h4, _, h5⟩ => by
      obtain rfl : v' = .bool true := h4
      exact ⟨h1, h5⟩
  · cases h
end Go.Proofs.Ytaelliigpclipaa.Eng
