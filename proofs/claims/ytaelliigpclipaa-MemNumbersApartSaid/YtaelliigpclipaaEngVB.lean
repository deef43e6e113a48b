/- The reckoner over tries: regions, code, calls; it answers as the reckoner does, so the machine keeps to it. -/
import Derived.Test.YtaelliigpclipaaEngV
namespace Go.Proofs.Ytaelliigpclipaa.Eng
set_option linter.unusedVariables false
set_option linter.unusedSimpArgs false
open Go Go.RowKit

variable {P : Program}

theorem evOpG_ok {callG : CallG} {call : CallF} {m : Mem} {c : Nat} (hc : ∀ f args v δ c', callG f args c = some (v, δ, c') → call f args m c = some (v, δ ++ m, c'))
    {o : Op} {t : Nat → AV} {v : AV} {δ : Mem} {c' : Nat} (h : evOpG P callG o t (get m) c = some (v, δ, c')) : evOpF P call o t m c = some (v, δ ++ m, c') := by
  have hone : ∀ {x : AV}, one x [] c = some (v, δ, c') → one x m c = some (v, δ ++ m, c') := by
    intro x h
    simp only [one, Option.some.injEq, Prod.mk.injEq] at h
    obtain ⟨rfl, rfl, rfl⟩ := h
    rfl
  cases o with
  | move x => exact hone h
  | assign x => exact hone h
  | pick x a b =>
    simp only [evOpG, evOpF, oPick] at h ⊢
    split at h
    · simp only [Option.some.injEq, Prod.mk.injEq] at h
      obtain ⟨rfl, rfl, rfl⟩ := h
      rfl
    · cases h
  | alloc e =>
    simp only [evOpG, evOpF, oAlloc] at h ⊢
    split at h
    · simp only [Option.some.injEq, Prod.mk.injEq] at h
      obtain ⟨rfl, rfl, rfl⟩ := h
      rfl
    · cases h
  | box e x =>
    simp only [evOpG, evOpF, oBox] at h ⊢
    split at h
    · simp only [Option.some.injEq, Prod.mk.injEq] at h
      obtain ⟨rfl, rfl, rfl⟩ := h
      rfl
    · cases h
  | build ty parts => exact stillG_ok h
  | buildSlice ty len parts =>
    simp only [evOpG, evOpF, evBuildSlice, Option.bind_eq_bind, Option.bind_eq_some_iff] at h ⊢
    obtain ⟨e, he, s, hs, z, hz, h⟩ := h
    refine ⟨e, he, s, hs, z, hz, ?_⟩
    split at h
    · rename_i hq
      rw [if_pos hq]
      simp only [Option.bind_eq_some_iff] at h ⊢
      obtain ⟨cs, hcs, h⟩ := h
      refine ⟨cs, hcs, ?_⟩
      simp only [Option.some.injEq, Prod.mk.injEq] at h
      obtain ⟨rfl, rfl, rfl⟩ := h
      rfl
    · cases h
  | load ty a =>
    simp only [evOpG, evOpF] at h ⊢
    cases hl : loadG P ty (evO t a) (get m) with
    | none => rw [hl] at h; cases h
    | some x => rw [hl] at h; rw [loadG_ok hl]; exact stillG_ok h
  | store ty a x =>
    simp only [evOpG, evOpF] at h ⊢
    cases hl : storeG P ty (evO t a) (evO t x) (get m) with
    | none => rw [hl] at h; cases h
    | some y =>
      rw [hl] at h
      rw [storeG_ok hl]
      simp only [storeR, Option.some.injEq, Prod.mk.injEq] at h
      obtain ⟨rfl, rfl, rfl⟩ := h
      rfl
  | nilCheck x =>
    simp only [evOpG, evOpF, oNil] at h ⊢
    split at h
    · simp only [Option.some.injEq, Prod.mk.injEq] at h
      obtain ⟨rfl, rfl, rfl⟩ := h
      rfl
    · simp only [Option.some.injEq, Prod.mk.injEq] at h
      obtain ⟨rfl, rfl, rfl⟩ := h
      rfl
    · simp only [Option.some.injEq, Prod.mk.injEq] at h
      obtain ⟨rfl, rfl, rfl⟩ := h
      rfl
    · cases h
  | binOp op xt x y yt => exact stillS_ok h
  | unOp op xt x => exact stillS_ok h
  | convert a b x => exact convG_ok h
  | makeFunc fn first caps =>
    simp only [evOpG, evOpF, oFunc] at h ⊢
    split at h
    · split at h
      · rename_i hq
        rw [if_pos hq]
        exact stillS_ok h
      · cases h
    · cases h
  | makeSlice ty l cp =>
    simp only [evOpG, evOpF, evMake, Option.bind_eq_bind, Option.bind_eq_some_iff] at h ⊢
    obtain ⟨e, he, s, hs, z, hz, b, hb, h⟩ := h
    refine ⟨e, he, s, hs, z, hz, b, hb, ?_⟩
    split at h
    · split at h
      · rename_i hq
        rw [if_pos hq]
        simp only [Option.some.injEq, Prod.mk.injEq] at h
        obtain ⟨rfl, rfl, rfl⟩ := h
        rfl
      · cases h
    · cases h
  | slice ty x lo hi mx =>
    simp only [evOpG, evOpF] at h ⊢
    cases hl : evSliceM P ty (evO t x) (lo.map (evO t)) (hi.map (evO t)) (mx.map (evO t)) (peek (get m) (evO t x)) with
    | none => rw [hl] at h; cases h
    | some y => rw [hl] at h; rw [sliceM_sub sub_peek1 hl]; exact stillG_ok h
  | fieldAddr s x f => exact stillG_ok h
  | field s x f => exact stillG_ok h
  | indexAddr ty x i => exact stillG_ok h
  | index ty x i => exact stillG_ok h
  | extract x i =>
    simp only [evOpG, evOpF, oExtract] at h ⊢
    split at h
    · exact still_ok h
    · cases h
  | call cl =>
    obtain ⟨callee, args, ts⟩ := cl
    simp only [evOpG, evOpF, calleeG, oCallee] at h ⊢
    cases callee with
    | invoke r n => cases h
    | value f =>
      simp only [fnG, oCall] at h ⊢
      split at h
      · rename_i g cs he
        simp only [he]
        exact hc _ _ _ _ _ h
      · cases h
    | builtin b =>
      simp only [builtinG, oBuiltin] at h ⊢
      cases b with
      | append => exact appendG_ok h
      | copy => exact copyG_ok h
      | clear => exact clearG_ok h
      | len =>
        simp only [oLen] at h ⊢
        split at h
        · exact still_ok h
        · cases h
      | cap =>
        simp only [oCap] at h ⊢
        split at h
        · exact still_ok h
        · cases h
      | min =>
        simp only [oMm] at h ⊢
        split at h
        · exact still_ok h
        · cases h
      | max =>
        simp only [oMm] at h ⊢
        split at h
        · exact still_ok h
        · cases h
      | _ => cases h
  | _ => cases h

/-! ### States -/
structure FS where
  n : Nat
  S : Tr AV
  T : TM
  c : Nat
  lg : List Nat

def RelM (T : TM) (m : Mem) : Prop := mg T = get m
def RelS (n : Nat) (S : Tr AV) (t : Tm) : Prop := t.n = n ∧ sg S = look t

noncomputable def putsK {β : Type} : Mem → TM → List Nat → (TM → List Nat → Option β) → Option β
  | [], T, lg, k => k T lg
  | e :: r, T, lg, k => putsK r T lg fun T lg => fE e fun e => tp 64 T e.1 e.2 fun T => k T (e.1 :: lg)
noncomputable def putSK {β : Type} (n : Nat) (S : Tr AV) (d : Option Tmp) (v : AV) (k : Tr AV → Option β) : Option β := match d with
  | none => k S
  | some d => match Nat.blt d n with
    | true => tp 64 S d v k
    | false => k S
theorem putsK_ok {β : Type} : ∀ (δ : Mem) (T : TM) (lg : List Nat) (k : TM → List Nat → Option β) (y : β), putsK δ T lg k = some y → ∃ T', k T' (δ.map (·.1) ++ lg) = some y ∧ ∀ m, RelM T m → RelM T' (δ ++ m)
  | [], T, lg, k, y, h => ⟨T, h, fun m hm => hm⟩
  | e :: r, T, lg, k, y, h => by
    simp only [putsK] at h
    obtain ⟨T1, h1, h2⟩ := putsK_ok r T lg _ y h
    rw [fE_eq] at h1
    obtain ⟨T2, h3, h4⟩ := tp_ok _ _ _ _ _ _ h1
    refine ⟨T2, h3, fun m hm => funext fun n => ?_⟩
    have h5 := congrFun (h2 m hm) n
    obtain ⟨q, b⟩ := e
    show mg T2 n = get ((q, b) :: (r ++ m)) n
    simp only [get, mg] at h5 ⊢
    rw [h4 n]
    by_cases hq : n = q
    · subst hq; simp
    · rw [if_neg hq, if_neg (fun e => hq e.symm)]
      exact h5
theorem putSK_ok {β : Type} {n : Nat} {S : Tr AV} {d : Option Tmp} {v : AV} {k : Tr AV → Option β} {y : β} (h : putSK n S d v k = some y) {t : Tm} (ht : RelS n S t) : ∃ S', k S' = some y ∧ RelS n S' (putT t d v) := by
  obtain ⟨h1, h2⟩ := ht
  obtain ⟨l1, l2⟩ := look_put t d v
  unfold putSK at h
  cases d with
  | none => exact ⟨S, h, h1, h2⟩
  | some d =>
    simp only at h
    split at h
    · rename_i hlt
      have hlt : d < n := by rw [Nat.blt_eq] at hlt; exact hlt
      obtain ⟨S', h3, h4⟩ := tp_ok _ _ _ _ _ _ h
      refine ⟨S', h3, by rw [l2]; exact h1, ?_⟩
      rw [l1]
      funext i
      simp only [setF, h1, hlt, if_true]
      have := congrFun h2 i
      simp only [sg] at this ⊢
      rw [h4 i]
      by_cases hi : i = d
      · subst hi; simp
      · rw [if_neg hi, if_neg (fun e => hi e.symm)]
        exact this
    · rename_i hlt
      have hlt : ¬ d < n := by
        intro hh
        rw [← Nat.blt_eq, hlt] at hh
        cases hh
      refine ⟨S, h, by rw [l2]; exact h1, ?_⟩
      rw [l1]
      simp only [setF, h1, hlt, if_false]
      exact h2

section
variable (P : Program)

noncomputable def evOpsT (call : CallT) (ops : Array Oper) : List Oper → Nat → Tr AV → TM → Nat → List Nat → Option FS
  | [], n, S, T, c, lg => some ⟨n, S, T, c, lg⟩
  | o :: r, n, S, T, c, lg => match want ops (sg S) o with
    | some true => match evOpG P (fun f a c => call f a T c) o.op (sg S) (mg T) c with
      | some (v, δ, c') => fA v fun v => fN c' fun c' => putsK δ T lg fun T lg => putSK n S o.dst v fun S => evOpsT call ops r n S T c' lg
      | none => none
    | some false => putSK n S o.dst .no fun S => evOpsT call ops r n S T c lg
    | none => none

def preOf (bss : List (List Nat)) (hid : List Mem) (ds : List Mem) (j : Nat) : Mem := hid.getD j [] ++ memOf (bss.getD j []) ds 0 []

noncomputable def evDT (call : CallT) (ops : Array Oper) (bss : List (List Nat)) (hid : List Mem) (T0 : TM) : List Oper → Nat → Nat → Tr AV → List Mem → Nat → Option (Tr AV × List Mem × Nat)
  | [], _, n, S, ds, c => some (S, ds, c)
  | o :: r, j, n, S, ds, c => match want ops (sg S) o with
    | some true => fL (preOf bss hid ds j) fun pre => putsK pre T0 [] fun T _ => match evOpG P (fun f a c => call f a T c) o.op (sg S) (mg T) c with
      | some (v, δ, c') => fA v fun v => fN c' fun c' => fM δ.length δ fun δ => fL (ds ++ [δ]) fun ds => putSK n S o.dst v fun S => evDT call ops bss hid T0 r (j + 1) n S ds c'
      | none => none
    | some false => fL (ds ++ [[]]) fun ds => putSK n S o.dst .no fun S => evDT call ops bss hid T0 r (j + 1) n S ds c
    | none => none

noncomputable def dynT (ops : Array Oper) (bss : List (List Nat)) (hid : List Mem) (T0 : TM) (ds : List Mem) : Bool :=
  (hid.all fun h => h.all fun e => e.2.isNone) &&
  (pairs ops.size bss).all fun p => (ds.getD p.1 []).all fun e => (upd (preOf bss hid ds p.2) (mg T0) e.1).isNone && (ds.getD p.2 []).all fun e' => decide (e.1 ≠ e'.1)

noncomputable def evDrawnT (call : CallT) (ops : Array Oper) (n : Nat) (S : Tr AV) (T : TM) (c : Nat) (lg : List Nat) : Option FS :=
  if static ops (befores ops.toList []) then
    match evDT P call ops (befores ops.toList []) [] T ops.toList 0 n S [] c with
    | some (S', ds, c') => if dynT ops (befores ops.toList []) [] T ds then putsK (allOf ds []) T lg fun T lg => some ⟨n, S', T, c', lg⟩ else
      match evDT P call ops (befores ops.toList []) (hides ops (befores ops.toList []) ds) T ops.toList 0 n S [] c with
      | some (S', ds', c') => if dynT ops (befores ops.toList []) (hides ops (befores ops.toList []) ds) T ds' then putsK (allOf ds' []) T lg fun T lg => some ⟨n, S', T, c', lg⟩ else none
      | none => none
    | none => none
  else none

noncomputable def regT (call : CallT) (ops : Array Oper) (draw : Bool) (n : Nat) (S : Tr AV) (T : TM) (c : Nat) (lg : List Nat) : Option FS := match draw with
  | true => evDrawnT P call ops n S T c lg
  | false => evOpsT P call ops ops.toList n S T c lg
end

/-- The calls of the one, and of the other. -/
def SimCall (callT : CallT) (call : CallF) : Prop := ∀ f args T c v δ c' m, RelM T m → callT f args T c = some (v, δ, c') → call f args m c = some (v, δ ++ m, c')

theorem evOpsT_ok {callT : CallT} {call : CallF} (hc : SimCall callT call) (ops : Array Oper) : ∀ (l : List Oper) (n : Nat) (S : Tr AV) (T : TM) (c : Nat) (lg : List Nat) (s' : FS), evOpsT P callT ops l n S T c lg = some s' →
    ∀ t m, RelS n S t → RelM T m → ∃ t' δ, evOps P call ops l t m c = some (t', δ ++ m, s'.c) ∧ RelS s'.n s'.S t' ∧ RelM s'.T (δ ++ m) ∧ s'.lg = δ.map (·.1) ++ lg
  | [], n, S, T, c, lg, s', h, t, m, ht, hm => by
    obtain rfl := Option.some.inj h
    exact ⟨t, [], rfl, ht, hm, rfl⟩
  | o :: r, n, S, T, c, lg, s', h, t, m, ht, hm => by
    simp only [evOpsT] at h
    simp only [evOps]
    rw [ht.2] at h
    split at h
    · rename_i hw
      rw [hw]
      split at h
      · rename_i v δ c' hop
        simp only [fA_eq, fN_eq] at h
        have hop' : evOpG P (fun f a c => callT f a T c) o.op (look t) (get m) c = some (v, δ, c') := by rw [← show mg T = get m from hm]; exact hop
        have h1 := evOpG_ok (call := call) (fun f args v δ c' hq => hc _ _ _ _ _ _ _ _ hm hq) hop'
        rw [evOpF_eq P call o.op o.type] at h1
        simp only [h1]
        obtain ⟨T1, h2, h3⟩ := putsK_ok _ _ _ _ _ h
        obtain ⟨S1, h4, h5⟩ := putSK_ok h2 ht
        obtain ⟨t', δ', a1, a2, a3, a4⟩ := evOpsT_ok hc ops r _ _ _ _ _ _ h4 _ _ h5 (h3 m hm)
        exact ⟨t', δ' ++ δ, by rw [List.append_assoc]; exact a1, a2, by rw [List.append_assoc]; exact a3, by rw [a4, List.map_append, List.append_assoc]⟩
      · cases h
    · rename_i hw
      rw [hw]
      obtain ⟨S1, h4, h5⟩ := putSK_ok h ht
      exact evOpsT_ok hc ops r _ _ _ _ _ _ h4 _ _ h5 hm
    · cases h

theorem memOf_out {bs : List Nat} : ∀ (ds : List Mem) (k : Nat) (m : Mem), memOf bs ds k m = memOf bs ds k [] ++ m
  | [], _, _ => rfl
  | x :: r, k, m => by
    simp only [memOf, join_eq]
    split
    · rw [memOf_out r (k + 1) (x ++ m), memOf_out r (k + 1) (x ++ []), List.append_nil, List.append_assoc]
    · exact memOf_out r (k + 1) m
theorem room_pre (bss : List (List Nat)) (hid : List Mem) (m0 : Mem) (ds : List Mem) (j : Nat) : roomOf bss hid m0 ds j = preOf bss hid ds j ++ m0 := by
  unfold roomOf preOf
  rw [memOf_out, List.append_assoc]
theorem evDT_ok {callT : CallT} {call : CallF} (hc : SimCall callT call) (ops : Array Oper) (bss : List (List Nat)) (hid : List Mem) {T0 : TM} {m0 : Mem} (h0 : RelM T0 m0) : ∀ (l : List Oper) (j n : Nat) (S : Tr AV) (ds : List Mem) (c : Nat) (S' : Tr AV) (ds' : List Mem) (c' : Nat), evDT P callT ops bss hid T0 l j n S ds c = some (S', ds', c') →
    ∀ t, RelS n S t → ∃ t', evD P call ops bss hid m0 l j t ds c = some (t', ds', c') ∧ RelS n S' t'
  | [], j, n, S, ds, c, S', ds', c', h, t, ht => by
    simp only [evDT, Option.some.injEq, Prod.mk.injEq] at h
    obtain ⟨rfl, rfl, rfl⟩ := h
    exact ⟨t, rfl, ht⟩
  | o :: r, j, n, S, ds, c, S', ds', c', h, t, ht => by
    simp only [evDT] at h
    simp only [evD]
    rw [ht.2] at h
    split at h
    · rename_i hw
      rw [hw]
      rw [fL_eq] at h
      obtain ⟨T1, h2, h3⟩ := putsK_ok _ _ _ _ _ h
      have h3 := h3 m0 h0
      rw [← room_pre] at h3
      split at h2
      · rename_i v δ c1 hop
        simp only [fA_eq, fN_eq, fM_eq, fL_eq] at h2
        have hop' : evOpG P (fun f a c => callT f a T1 c) o.op (look t) (get (roomOf bss hid m0 ds j)) c = some (v, δ, c1) := by rw [← show mg T1 = get _ from h3]; exact hop
        have h1 := evOpG_ok (call := call) (fun f args v δ c' hq => hc _ _ _ _ _ _ _ _ h3 hq) hop'
        rw [evOpF_eq P call o.op o.type] at h1
        simp only [h1]
        obtain ⟨S1, h4, h5⟩ := putSK_ok h2 ht
        rw [take_ahead]
        exact evDT_ok hc ops bss hid h0 r _ _ _ _ _ _ _ _ h4 _ h5
      · cases h2
    · rename_i hw
      rw [hw]
      rw [fL_eq] at h
      obtain ⟨S1, h4, h5⟩ := putSK_ok h ht
      exact evDT_ok hc ops bss hid h0 r _ _ _ _ _ _ _ _ h4 _ h5
    · cases h
theorem dynT_eq {ops : Array Oper} {bss : List (List Nat)} {hid : List Mem} {T0 : TM} {m0 : Mem} (h0 : RelM T0 m0) (ds : List Mem) : dynT ops bss hid T0 ds = dyn ops bss hid m0 ds := by
  unfold dynT dyn
  simp only [room_pre, get_append]
  rw [show mg T0 = get m0 from h0]
theorem regT_ok {callT : CallT} {call : CallF} (hc : SimCall callT call) {ops : Array Oper} {draw : Bool} {n : Nat} {S : Tr AV} {T : TM} {c : Nat} {lg : List Nat} {s' : FS} (h : regT P callT ops draw n S T c lg = some s') {t : Tm} {m : Mem} (ht : RelS n S t) (hm : RelM T m) :
    ∃ t' δ, regAll P call ops draw t m c = some (t', δ ++ m, s'.c) ∧ RelS s'.n s'.S t' ∧ RelM s'.T (δ ++ m) ∧ s'.lg = δ.map (·.1) ++ lg := by
  unfold regT at h
  unfold regAll
  cases draw with
  | false => exact evOpsT_ok hc ops _ _ _ _ _ _ _ h _ _ ht hm
  | true =>
    simp only [if_true] at h ⊢
    unfold evDrawnT at h
    unfold evDrawn
    split at h
    · rename_i hst
      rw [if_pos hst]
      split at h
      · rename_i S1 ds c1 hr
        obtain ⟨t1, a1, a2⟩ := evDT_ok (call := call) hc ops _ _ hm _ _ _ _ _ _ _ _ _ hr _ ht
        rw [a1]
        simp only
        rw [dynT_eq hm] at h
        split at h
        · rename_i hdy
          rw [if_pos hdy]
          obtain ⟨T2, b1, b2⟩ := putsK_ok _ _ _ _ _ h
          obtain rfl := Option.some.inj b1
          exact ⟨t1, allOf ds [], by rw [allOf_eq ds m], a2, b2 m hm, rfl⟩
        · rename_i hdy
          rw [if_neg hdy]
          split at h
          · rename_i S2 ds2 c2 hr2
            obtain ⟨t2, a3, a4⟩ := evDT_ok (call := call) hc ops _ _ hm _ _ _ _ _ _ _ _ _ hr2 _ ht
            rw [a3]
            simp only
            rw [dynT_eq hm] at h
            split at h
            · rename_i hdy2
              rw [if_pos hdy2]
              obtain ⟨T2, b1, b2⟩ := putsK_ok _ _ _ _ _ h
              obtain rfl := Option.some.inj b1
              exact ⟨t2, allOf ds2 [], by rw [allOf_eq ds2 m], a4, b2 m hm, rfl⟩
            · cases h
          · cases h
      · cases h
    · cases h
end Go.Proofs.Ytaelliigpclipaa.Eng
