-- Written by a program of this session, out of the translation; Lean checks it.
import Derived.Test.YtjpeojohakhmdaaProg
import Derived.Below
import Derived.Deep.Draws
import Derived.Deep.AppendLies
import Derived.Maps.AppendAt
import Derived.OwnWalk
import Derived.Laws.BytesArg
import Derived.Laws.MakeOwn
import Derived.Laws.OwnMore
import Derived.Deep.OwnRows
import Derived.Tactics
import Derived.Lib.ConvBytes
import Derived.Laws.Slices
import Derived.WalkKit
import Derived.KernelRfl
import Derived.RowKit3
import Derived.Deep.LoopGhost
import Derived.Deep.QuietTactic
import Derived.BigQuiet
import Derived.WideLaws
import Derived.Deep.DeepCutAuto
import Derived.Deep.CutBlock
import Derived.Deep.RegionHeld3
import Derived.Laws.Rows
import Derived.Lib.AppendStr
import Derived.ArgAppend
import Derived.Laws.IdiomCopy
import Derived.OrdersHeld
import Derived.Laws.BitsLemmas
import Derived.RowKit
import Derived.Laws.CopyOwn
import Derived.Test.YtjpeojohakhmdaaWWords
import Derived.Test.YtjpeojohakhmdaaWLast
import Derived.Test.YtjpeojohakhmdaaWTab
import Derived.Test.YtjpeojohakhmdaaWFour
import Derived.Test.YtjpeojohakhmdaaWQPut
import Derived.Test.YtjpeojohakhmdaaWApart
import Derived.Test.YtjpeojohakhmdaaWArr
import Derived.Test.YtjpeojohakhmdaaWZeros
import Derived.Test.YtjpeojohakhmdaaWFoot
import Derived.Test.YtjpeojohakhmdaaWKept
import Derived.Test.YtjpeojohakhmdaaWShare
import Derived.Test.YtjpeojohakhmdaaWN
import Derived.Test.YtjpeojohakhmdaaWFootNe
import Derived.Test.YtjpeojohakhmdaaWAt
import Derived.Test.YtjpeojohakhmdaaWEqStruct
import Derived.Test.YtjpeojohakhmdaaWRepsOne
import Derived.Test.YtjpeojohakhmdaaWInv
import Derived.Test.YtjpeojohakhmdaaWInvWords
import Derived.Test.YtjpeojohakhmdaaWGuard
import Derived.Test.YtjpeojohakhmdaaWNEv
import Derived.Test.YtjpeojohakhmdaaWMore
namespace Go.Proofs.Ytjpeojohakhmdaa.PS
open Go.RowKit Go.Proofs.YtjpeojohakhmdaaW.PrintWords Go.Proofs.YtjpeojohakhmdaaW.PrintLast Go.Proofs.YtjpeojohakhmdaaW.PrintMore
attribute [local go_sem] max2_int min2_int max_two min_two max_three min_three max_four min_four   -- for this text's walks alone
set_option linter.unusedVariables false
set_option linter.unusedSimpArgs false



def errW : Option Int → Value
  | none => .nilIface
  | some c => .iface 0 (.int .i64 c)
theorem errW_none : errW none = .nilIface := rfl
theorem errW_some (c : Int) : errW (some c) = .iface 0 (.int .i64 c) := rfl

theorem pw_cells_C {W : World} {g : Nat} {cur : Array Value} {e : TypeId} {fr : Nat × Nat} {xs : List Int} (hg : W.heap[g]? = some (.cells cur e fr)) (hx : cur.toList.take xs.length = encs (Value.int .u8) xs) (hm : xs.length ≤ 9223372036854775807) :
    (Kd.int .u8).C W (some ⟨g, 0, none⟩) xs.length xs := by
  refine Kd.C_of_reads (d := (0 : Int)) (h1 := fun _ => rfl) ⟨rfl, hm, fun _ => ⟨_, rfl, fun i hi => ?_⟩⟩
  have h2 : (cur.toList.take xs.length)[i]? = (encs (Value.int .u8) xs)[i]? := by rw [hx]
  rw [List.getElem?_take, if_pos hi] at h2
  have h3 : cur[i]? = some (Value.int .u8 (xs.getD i 0)) := by
    rw [← Array.getElem?_toList, h2]
    simp [encs, List.getD_eq_getElem?_getD, List.getElem?_eq_getElem hi]
  have ea : (⟨g, 0, none⟩ : Addr).add i = ⟨g, i, none⟩ := by unfold Addr.add; split <;> simp_all
  rw [ea]
  simp only [World.cell?, hg]
  simpa using h3
theorem pw_row_V {W1 : World} {g c base : Nat} {cur : Array Value} {e : TypeId} {fr : Nat × Nat} {ok : Nat → Prop} {xs : List Int} (hg : W1.heap[g]? = some (.cells cur e fr)) (hx : cur.toList.take xs.length = encs (Value.int .u8) xs) (hm : xs.length ≤ 9223372036854775807) (hc : xs.length ≤ c) (hok : ok g) :
    Kd.V (Kd.int .u8) e W1 base ok (.slice (some ⟨g, 0, none⟩) xs.length c) xs := by
  have hlt : g < W1.heap.size := (Array.getElem?_eq_some_iff.1 hg).1
  exact ⟨some ⟨g, 0, none⟩, c, rfl, hc, fun W' hW => pw_cells_C ((hW g hok hlt).trans hg) hx hm⟩
theorem pw_tobytes {P : Program} {ops : Array Oper} {rest : List Oper} {o : Oper} {a : Act} {Q : Exit → Act → World → Prop} {w0 W : World} (base : Nat) (hgd : o.guard = none) (x : Operand) (t u e : TypeId) (ho : o.op = .convert u t x)
    (ht : P.underlying t = some (.slice e)) (hu : P.underlying u = some .string) (he : P.underlying e = some (.int .u8)) (s : ByteArray) (hx : a.eval x = .string s) (ok : Nat → Prop) (hs : s.size ≤ 9223372036854775807)
    (hfresh : ∀ k, W.heap.size ≤ k → ok k) (HB : Below base w0 W) (hbase : base ≤ W.heap.size)
    (h : ∀ v1 w1, Kd.V (Kd.int .u8) e w1 base ok v1 (bytesOf s) → Below base w0 w1 → W.grownBy w1 (Value.slice none 0 0).ownBlock → (v1.ownBlock = (Value.slice none 0 0).ownBlock ∨ ∃ b, v1.ownBlock = some b ∧ W.heap.size ≤ b) → wpList P ops Q rest (a.put o.dst v1) w1) :
    wpList P ops Q (o :: rest) a W := by
  refine wpList_plain hgd fun K hK => ?_
  have hrun := Lib.run_convert_string_bytes (P := P) W u t e s hu ht he
  have hg : W.grownBy (Lib.bytesWorld W e s) none := ⟨by unfold Lib.bytesWorld World.freeze; rw [if_neg (by decide)]; rfl, by unfold Lib.bytesWorld World.freeze; rw [if_neg (by decide)]; rfl, by unfold Lib.bytesWorld World.freeze; rw [if_neg (by decide)]; rfl, by rw [Lib.bytesWorld_size]; omega, fun k hk _ => Lib.bytesWorld_at_old W e s k hk⟩
  have hcap : s.size ≤ grownCap W s.size 0 e := grownCap_ge W _ _ _
  have hV : Kd.V (Kd.int .u8) e (Lib.bytesWorld W e s) base ok (.slice (some ⟨W.heap.size, 0, none⟩) s.size (grownCap W s.size 0 e)) (bytesOf s) := by
    have := pw_row_V (base := base) (ok := ok) (W1 := Lib.bytesWorld W e s) (c := grownCap W s.size 0 e) (xs := bytesOf s) (Lib.bytesWorld_at_new W e s) (by
      rw [bytesOf_length]
      simp [Lib.bytesCells, bytesOf, encs, data_length]) (by rw [bytesOf_length]; exact hs) (by rw [bytesOf_length]; exact hcap) (hfresh _ (Nat.le_refl _))
    rw [bytesOf_length] at this
    exact this
  unfold Oper.wp
  simp [execOp, ho, hx, hrun, Result.andThen]
  exact hK _ _ (h _ _ hV (HB.grown hg hbase (fun k hk => by cases hk)) hg (.inr ⟨W.heap.size, by simp [Value.ownBlock], Nat.le_refl _⟩))
theorem pw_mark {P : Program} {ops : Array Oper} {rest : List Oper} {o : Oper} {a : Act} {Q : Exit → Act → World → Prop} {w0 W : World} (base : Nat) (hgd : o.guard = none) (x : Operand) (t e : TypeId) (ho : o.op = .convert t t x)
    (ht : P.underlying t = some (.slice e)) (he : P.underlying e = some (.int .u8)) (v : Value) (xs : List Int) (hx : a.eval x = v) (ok : Nat → Prop) (hn : 0 < xs.length) (HO : (Kd.int .u8).R e W base ok v xs)
    (HB : Below base w0 W) (hbase : base ≤ W.heap.size)
    (h : ∀ v1 w1, Kd.V (Kd.int .u8) e w1 base ok v1 xs → Below base w0 w1 → W.grownBy w1 v.ownBlock → (v1.ownBlock = v.ownBlock ∨ ∃ b, v1.ownBlock = some b ∧ W.heap.size ≤ b) → wpList P ops Q rest (a.put o.dst v1) w1) :
    wpList P ops Q (o :: rest) a W := by
  have hok := HO.1
  have hrow := Kd.own_of_R HO
  rcases hrow.2 with ⟨_, h0⟩ | ⟨g, cap, cur, rfl, hb, hg, hnc, hcm, hcs, hx2⟩
  · omega
  refine wpList_plain hgd fun K hK => ?_
  have hsh : W.shape? g = some (e, cur.size) := by
    unfold World.shape?
    rw [hg]
  have hrun : (convert t t (.slice (some ⟨g, 0, none⟩) xs.length cap)).run P W = .ok (.slice (some ⟨g, 0, none⟩) xs.length cap) (W.freeze ⟨g, cur.size, none⟩ 1) := by
    simp [convert, run_underlying ht, run_underlying he, markStringish, hsh]
  have hsz : (W.freeze ⟨g, cur.size, none⟩ 1).heap.size = W.heap.size := by simp [World.freeze]
  have hgg : W.grownBy (W.freeze ⟨g, cur.size, none⟩ 1) (some g) := ⟨by unfold World.freeze; rw [if_neg (by decide)], by unfold World.freeze; rw [if_neg (by decide)], by unfold World.freeze; rw [if_neg (by decide)], by rw [hsz]; omega, fun k hk hne => by
    have : g ≠ k := fun e_ => hne (by rw [e_])
    simp [World.freeze, Array.getElem?_modify, this]⟩
  have hnew : (W.freeze ⟨g, cur.size, none⟩ 1).heap[g]? = some (.cells cur e (cur.size, cur.size + 1)) := by
    simp [World.freeze, Array.getElem?_modify, hg]
  have hV : Kd.V (Kd.int .u8) e (W.freeze ⟨g, cur.size, none⟩ 1) base ok (.slice (some ⟨g, 0, none⟩) xs.length cap) xs :=
    pw_row_V hnew (by rw [Nat.mul_one] at hx2; exact hx2) (by simp only [maxLen] at hcm; omega) hnc (hok g (by simp [Value.ownBlock]))
  unfold Oper.wp
  simp [execOp, ho, hx, hrun, Result.andThen]
  exact hK _ _ (h _ _ hV (HB.grown hgg hbase (fun k hk => by injection hk with hk; omega)) hgg (.inl rfl))
theorem pw_copy {P : Program} {ops : Array Oper} {rest : List Oper} {o : Oper} {a : Act} {Q : Exit → Act → World → Prop} {w0 W : World} (base : Nat) (hgd : o.guard = none) (s x : Operand) (t u e : TypeId) (z : Value)
    (ho : o.op = .call { callee := .builtin .copy, args := #[s, x], argTypes := #[t, u] }) (ht : P.underlying t = some (.slice e)) (hinfo : (P.info? e).map (fun i => (i.zero, i.size, i.bytes)) = some (some z, 1, 1))
    (v : Value) (xs ys : List Int) (A : Option Addr) (n c : Nat) (hs : a.eval s = v) (hx : a.eval x = .slice A n c) (ok : Nat → Prop) (HO : (Kd.int .u8).R e W base ok v xs) (HC : (Kd.int .u8).C W A n ys)
    (HB : Below base w0 W) (hbase : base ≤ W.heap.size)
    (h : ∀ w1, (Kd.int .u8).R e w1 base ok v (ys.take xs.length ++ xs.drop ys.length) → Below base w0 w1 → W.grownBy w1 v.ownBlock → wpList P ops Q rest (a.put o.dst (goInt (Nat.min n xs.length))) w1) :
    wpList P ops Q (o :: rest) a W := by
  have hok := HO.1
  have hrow := Kd.own_of_R HO
  have hsz : (P.info? e).map (·.size) = some 1 := by
    cases hi : P.info? e with
    | none => simp [hi] at hinfo
    | some i => simp [hi] at hinfo; simp [hinfo.2.1]
  have hrd := Kd.reads_of_C (enc := Value.int .u8) (d := (0 : Int)) (h1 := fun _ => rfl) HC
  have hn : ys.length = n := hrd.1
  rcases hrow.2 with ⟨rfl, h0⟩ | ⟨g, cap, cur, rfl, hb, hg, hnc, hcm, hcs, hx2⟩
  · have hx0 : xs = [] := List.eq_nil_of_length_eq_zero h0
    subst hx0
    have h2 := h W (by simpa using HO) HB ⟨rfl, rfl, rfl, Nat.le_refl _, fun _ _ _ => rfl⟩
    refine wpList_copy_nothing hgd s x t u ho e ht hsz none A 0 0 n c hs hx (by simp) ?_
    simpa [goInt] using h2
  · by_cases hm : Nat.min n xs.length = 0
    · have hl : ys.take xs.length ++ xs.drop ys.length = xs := by
        rcases Nat.eq_zero_or_pos n with h0 | h0
        · have : ys = [] := List.eq_nil_of_length_eq_zero (hn.trans h0)
          subst this
          simp
        · have h1 : xs.length = 0 := by
            have hm2 : min n xs.length = 0 := hm
            omega
          have : xs = [] := List.eq_nil_of_length_eq_zero h1
          subst this
          simp
      have h2 := h W (by rw [hl]; exact HO) HB ⟨rfl, rfl, rfl, Nat.le_refl _, fun _ _ _ => rfl⟩
      refine wpList_copy_nothing hgd s x t u ho e ht hsz _ A xs.length cap n c hs hx hm ?_
      rw [hm] at h2
      exact h2
    · have hpos : 0 < n ∧ 0 < xs.length := by
        have h3 := Nat.min_le_left n xs.length
        have h4 := Nat.min_le_right n xs.length
        have h5 : 0 < Nat.min n xs.length := Nat.pos_of_ne_zero hm
        have e3 : Nat.min n xs.length = min n xs.length := rfl
        omega
      obtain ⟨ad, rfl, hcell⟩ := hrd.2.2 hpos.1
      have hcl : (encs (Value.int .u8) (ys.take xs.length)).length = Nat.min n xs.length := by
        rw [encs_length, List.length_take, hn]
        exact Nat.min_comm _ _
      have hfit : (encs (Value.int .u8) (ys.take xs.length)).length ≤ cur.size := by
        rw [encs_length, List.length_take]
        omega
      refine wpList_copy_own hgd s x t u ho e ht hsz g 0 xs.length cap ad n c hs hx cur e hg (encs (Value.int .u8) (ys.take xs.length)) hcl (fun j v_ hj => ?_) (by omega) (fun v_ hv => ?_) ?_
      · have hjl : j < (encs (Value.int .u8) (ys.take xs.length)).length := (List.getElem?_eq_some_iff.1 hj).1
        rw [encs_length, List.length_take] at hjl
        rw [hcell j (by omega), ← hj]
        simp [encs, List.getElem?_take, List.getD_eq_getElem?_getD, show j < xs.length from by omega, List.getElem?_eq_getElem (show j < ys.length from by omega)]
      · obtain ⟨y, _, rfl⟩ := List.mem_map.1 hv
        rfl
      · rw [show ((((encs (Value.int .u8) (ys.take xs.length)).length : Nat) : Int)) = ((Nat.min n xs.length : Nat) : Int) from by rw [hcl]]
        have hgW := setRow_heap W g cur (cur.toList.take 0 ++ (encs (Value.int .u8) (ys.take xs.length) ++ cur.toList.drop (0 + (encs (Value.int .u8) (ys.take xs.length)).length))).toArray e _ hg
        have hgrown : W.grownBy (W.setRow g (cur.toList.take 0 ++ (encs (Value.int .u8) (ys.take xs.length) ++ cur.toList.drop (0 + (encs (Value.int .u8) (ys.take xs.length)).length))).toArray) (some g) :=
          ⟨rfl, rfl, rfl, by simp [World.setRow], fun k _ hne => setRow_other W g k _ (fun e_ => hne (by rw [e_]))⟩
        refine h _ (Kd.R_of_own (h1 := fun _ => rfl) ?_ hok) (HB.grown hgrown hbase (fun k hk => by injection hk with hk; omega)) hgrown
        have hl2 : (ys.take xs.length ++ xs.drop ys.length).length = xs.length := by
          rw [List.length_append, List.length_take, List.length_drop]
          omega
        rw [hl2]
        refine ⟨by rw [encs_length, hl2, Nat.mul_one], .inr ⟨g, cap, _, rfl, hb, hgW, hnc, hcm, ?_, ?_⟩⟩
        · simp only [List.size_toArray, List.length_append, List.take_zero, List.length_nil, List.length_drop, Array.length_toList]
          omega
        · rw [Nat.mul_one] at hx2 ⊢
          simp only [List.take_zero, List.nil_append, Nat.zero_add]
          rw [List.take_append, hcl]
          have e1 : (encs (Value.int .u8) (ys.take xs.length)).take xs.length = encs (Value.int .u8) (ys.take xs.length) := List.take_of_length_le (by rw [encs_length, List.length_take]; omega)
          rw [e1]
          have e2 : (cur.toList.drop (Nat.min n xs.length)).take (xs.length - Nat.min n xs.length) = (encs (Value.int .u8) xs).drop (Nat.min n xs.length) := by
            rw [← hx2, List.drop_take]
          rw [e2]
          unfold encs
          rw [← List.map_drop, ← List.map_append]
          congr 2
          rcases Nat.le_total n xs.length with h2 | h2
          · rw [show Nat.min n xs.length = n from Nat.min_eq_left h2, hn]
          · rw [show Nat.min n xs.length = xs.length from Nat.min_eq_right h2, List.drop_length, List.drop_of_length_le (by omega)]
theorem pw_conv_val {P : Program} {W : World} {src dst e : TypeId} {A : Option Addr} {n m c : Nat} {xs : List Int} (hs : P.underlying src = some (.slice e)) (he : P.underlying e = some (.int .u8)) (hd : P.underlying dst = some .string) (h : (Kd.int .u8).C W A n xs) (hm : m = n) :
    (((convert src dst (.slice A m c)).run P W).andThen fun a w' => Result.ok (Next.value a) w') = Result.ok (Next.value (.string (strOfNums xs))) W := by
  subst hm
  rw [Kd.C_string hs he hd h]
  rfl
theorem pw_mid_len {α : Type} (l : List α) (W : Int) (m : Nat) (q : W ≤ (l.length : Int)) : ((l.take W.toNat).drop m).length = W.toNat - m := by
  rw [List.length_drop, List.length_take]
  omega
theorem pw_take_len {α : Type} (l : List α) (W : Int) (q : W ≤ (l.length : Int)) : (l.take W.toNat).length = W.toNat := by
  rw [List.length_take]
  omega
theorem pw_less_eq : ∀ (x y : List UInt8), Op.bytesLess x y = decide (x < y)
  | [], [] => by simp [Op.bytesLess]
  | _ :: _, [] => by simp [Op.bytesLess]
  | [], _ :: _ => by simp [Op.bytesLess]
  | a :: x, b :: y => by
    rw [Op.bytesLess, pw_less_eq x y]
    simp only [List.cons_lt_cons_iff]
    by_cases h1 : a < b <;> by_cases h2 : a = b <;> by_cases h3 : x < y <;> simp [h1, h2, h3]
theorem pw_leq_str (x y : List UInt8) : (Op.bytesLess x y || x == y) = !(Op.bytesLess y x) := by
  rw [pw_less_eq, pw_less_eq]
  by_cases h : y < x
  · have h1 : ¬ x < y := List.lt_asymm h
    have h2 : x ≠ y := fun e => by subst e; exact List.lt_irrefl _ h
    simp [h, h1, h2]
  · by_cases h1 : x < y
    · simp [h, h1]
    · obtain rfl : x = y := List.le_antisymm h h1
      simp [h]
def mxS (a b : ByteArray) : ByteArray := if Op.bytesLess a.toList b.toList = true then b else a
def mnS (a b : ByteArray) : ByteArray := if Op.bytesLess b.toList a.toList = true then b else a
theorem pw_max2_str (x y : ByteArray) : Builtin.max2 (.string x) (.string y) = pure (.string (if Op.bytesLess x.toList y.toList = true then y else x)) := by
  simp only [Builtin.max2, Op.stringOp]
  cases h : Op.bytesLess x.toList y.toList <;> simp [asBool]
theorem pw_min2_str (x y : ByteArray) : Builtin.min2 (.string x) (.string y) = pure (.string (if Op.bytesLess y.toList x.toList = true then y else x)) := by
  simp only [Builtin.min2, Op.stringOp]
  rw [pw_leq_str]
  cases h : Op.bytesLess y.toList x.toList <;> simp [asBool]
theorem pw_str_leq (t : TypeId) (a b : ByteArray) : binOp .leq t (.string a) (.string b) = pure (.bool !(Op.bytesLess b.toList a.toList)) := by
  have h : binOp .leq t (.string a) (.string b) = pure (.bool (Op.bytesLess a.toList b.toList || a.toList == b.toList)) := by simp [binOp, Op.stringOp]
  rw [h, pw_leq_str]
theorem pw_str_gtr (t : TypeId) (a b : ByteArray) : binOp .gtr t (.string a) (.string b) = pure (.bool (Op.bytesLess b.toList a.toList)) := by
  have h : binOp .gtr t (.string a) (.string b) = pure (.bool !(Op.bytesLess a.toList b.toList || a.toList == b.toList)) := by simp [binOp, Op.stringOp]
  rw [h, pw_leq_str, Bool.not_not]
theorem pw_cell_other {w : World} {g j j' : Nat} {u v : Value} (h : w.cell? ⟨g, j, none⟩ = some u) (hne : j ≠ j') : (w.setCell ⟨g, j', none⟩ v).cell? ⟨g, j, none⟩ = some u :=
  (World.cell?_setCell_other w ⟨g, j', none⟩ ⟨g, j, none⟩ v (by intro e; injection e with _ e2 _; exact hne e2.symm)).trans h

theorem pw_C_string_len {P : Program} {w : World} {src dst e : TypeId} {A : Option Addr} {n c : Nat} {xs : List Int} (hs : P.underlying src = some (.slice e)) (he : P.underlying e = some (.int .u8)) (hd : P.underlying dst = some .string) (h : (Kd.int .u8).C w A n xs) :
    (∀ m_ : Nat, m_ = n → (convert src dst (.slice A m_ c)).run P w = .ok (.string (strOfNums xs)) w) ∧ ∀ m_ q_ : Nat, m_ = n → (convert src dst (.slice A m_ c)).run P (w.drewN q_) = .ok (.string (strOfNums xs)) (w.drewN q_) := by
  refine ⟨fun m_ e_ => ?_, fun m_ q_ e_ => ?_⟩
  · subst e_; exact Kd.C_string hs he hd h
  · subst e_; exact Kd.C_string hs he hd (Kd.C_drewN h q_)

theorem pw_us8 : (if IntKind.u8.signed = true then (-1 : Int) else IntKind.u8.max) = 255 := by decide
theorem pw_us32 : (if IntKind.u32.signed = true then (-1 : Int) else IntKind.u32.max) = 4294967295 := by decide
theorem pw_us64 : (if IntKind.u64.signed = true then (-1 : Int) else IntKind.u64.max) = 18446744073709551615 := by decide
theorem info2 : (Try.prog.info? 2).map (fun i => (i.zero, i.size, i.bytes)) = some (some (.int .i64 0), 1, 8) := by kernel_rfl
theorem info3 : (Try.prog.info? 3).map (fun i => (i.zero, i.size, i.bytes)) = some (some (.int .i64 0), 1, 8) := by kernel_rfl
theorem info5 : (Try.prog.info? 5).map (fun i => (i.zero, i.size, i.bytes)) = some (some (.int .u8 0), 1, 1) := by kernel_rfl
theorem info24 : (Try.prog.info? 24).map (fun i => (i.zero, i.size, i.bytes)) = some (some (.agg #[(.string ⟨#[]⟩), (.int .i64 0), (.int .i64 0), (.string ⟨#[]⟩)]), 4, 48) := by kernel_rfl
theorem info40 : (Try.prog.info? 40).map (fun i => (i.zero, i.size, i.bytes)) = some (some (.slice none 0 0), 1, 24) := by kernel_rfl
theorem info61 : (Try.prog.info? 61).map (fun i => (i.zero, i.size, i.bytes)) = some (some (.agg #[(.int .i64 0), (.int .i64 0), (.slice none 0 0)]), 3, 40) := by kernel_rfl
-- the values' own types
/-! #### struct type 24 -/
structure S24 where
  f0 : ByteArray
  f1 : Int
  f2 : Int
  f3 : ByteArray
def z24 : S24 := ⟨(⟨#[]⟩ : ByteArray), (0 : Int), (0 : Int), (⟨#[]⟩ : ByteArray)⟩
def k24 : Kd S24 := Kd.iso (Kd.pair Kd.string (Kd.pair (Kd.int .i64) (Kd.pair (Kd.int .i64) Kd.string))) (fun x : S24 => (x.f0, x.f1, x.f2, x.f3))
theorem k24_open {w : World} {x : S24} {cs : List Value} (h : k24.K w x cs) : cs = [.string x.f0, .int .i64 x.f1, .int .i64 x.f2, .string x.f3] := by
  obtain ⟨_, _, rfl, rfl, ⟨_, _, rfl, rfl, ⟨_, _, rfl, rfl, rfl⟩⟩⟩ := h
  exact rfl
theorem k24_openM {w : World} {base : Nat} {ok : Nat → Prop} {x : S24} {cs : List Value} (h : k24.M w base ok x cs) : cs = [.string x.f0, .int .i64 x.f1, .int .i64 x.f2, .string x.f3] := by
  obtain ⟨_, _, rfl, rfl, ⟨_, _, rfl, rfl, ⟨_, _, rfl, rfl, rfl⟩⟩⟩ := h
  exact rfl
theorem k24_mk (w : World) (x : S24)  : k24.K w x [.string x.f0, .int .i64 x.f1, .int .i64 x.f2, .string x.f3] := ⟨[.string x.f0], [.int .i64 x.f1, .int .i64 x.f2, .string x.f3], rfl, rfl, ⟨[.int .i64 x.f1], [.int .i64 x.f2, .string x.f3], rfl, rfl, ⟨[.int .i64 x.f2], [.string x.f3], rfl, rfl, rfl⟩⟩⟩
theorem k24_mkM (w : World) (base : Nat) (ok : Nat → Prop) (x : S24)  : k24.M w base ok x [.string x.f0, .int .i64 x.f1, .int .i64 x.f2, .string x.f3] := ⟨[.string x.f0], [.int .i64 x.f1, .int .i64 x.f2, .string x.f3], rfl, rfl, ⟨[.int .i64 x.f1], [.int .i64 x.f2, .string x.f3], rfl, rfl, ⟨[.int .i64 x.f2], [.string x.f3], rfl, rfl, rfl⟩⟩⟩
theorem k24_mkF (W : World) (ok : Nat → Prop) (x : S24) : Kd.FK k24 W ok x [.string x.f0, .int .i64 x.f1, .int .i64 x.f2, .string x.f3] := fun W2 _ => k24_mk W2 x
def rd_T24 (xs : List S24) (i : Int) : S24 := xs.getD i.toNat z24
theorem at_T24 {w : World} {A : Option Addr} {n : Nat} {xs : List S24} (h : Kd.C k24 w A n xs) (i : Int) (h0 : 0 ≤ i) (h1 : i < n) : ∃ ad , A = some ad ∧ w.cell? (ad.add (i.toNat * 4)) = some (.string (rd_T24 xs i).f0) ∧ w.cell? ⟨(ad.add (i.toNat * 4)).block, (ad.add (i.toNat * 4)).off + 1, none⟩ = some (.int .i64 (rd_T24 xs i).f1) ∧ w.cell? ⟨(ad.add (i.toNat * 4)).block, (ad.add (i.toNat * 4)).off + 2, none⟩ = some (.int .i64 (rd_T24 xs i).f2) ∧ w.cell? ⟨(ad.add (i.toNat * 4)).block, (ad.add (i.toNat * 4)).off + 3, none⟩ = some (.string (rd_T24 xs i).f3) := by
  obtain ⟨ad, c, e, _, hK, hc0⟩ := Kd.C_get h z24 i h0 h1
  have hc : ∀ j u, c[j]? = some u → w.cell? (ad.add (i.toNat * 4 + j)) = some u := hc0
  obtain rfl := k24_open hK
  exact ⟨ad, e, hc 0 _ rfl, by rw [← add_field _ _ 1 (by omega)]; exact hc 1 _ rfl, by rw [← add_field _ _ 2 (by omega)]; exact hc 2 _ rfl, by rw [← add_field _ _ 3 (by omega)]; exact hc 3 _ rfl⟩

/-! #### struct type 28 -/
structure S28 where
  f0 : Int
  f1 : Int
  f2 : Int
  f3 : Int
  f4 : Int
  f5 : ByteArray
  f6 : ByteArray
def z28 : S28 := ⟨(0 : Int), (0 : Int), (0 : Int), (0 : Int), (0 : Int), (⟨#[]⟩ : ByteArray), (⟨#[]⟩ : ByteArray)⟩
def k28 : Kd S28 := Kd.iso (Kd.pair (Kd.int .i64) (Kd.pair (Kd.int .i64) (Kd.pair (Kd.int .i64) (Kd.pair (Kd.int .i64) (Kd.pair (Kd.int .i64) (Kd.pair Kd.string Kd.string)))))) (fun x : S28 => (x.f0, x.f1, x.f2, x.f3, x.f4, x.f5, x.f6))
theorem k28_open {w : World} {x : S28} {cs : List Value} (h : k28.K w x cs) : cs = [.int .i64 x.f0, .int .i64 x.f1, .int .i64 x.f2, .int .i64 x.f3, .int .i64 x.f4, .string x.f5, .string x.f6] := by
  obtain ⟨_, _, rfl, rfl, ⟨_, _, rfl, rfl, ⟨_, _, rfl, rfl, ⟨_, _, rfl, rfl, ⟨_, _, rfl, rfl, ⟨_, _, rfl, rfl, rfl⟩⟩⟩⟩⟩⟩ := h
  exact rfl
theorem k28_openM {w : World} {base : Nat} {ok : Nat → Prop} {x : S28} {cs : List Value} (h : k28.M w base ok x cs) : cs = [.int .i64 x.f0, .int .i64 x.f1, .int .i64 x.f2, .int .i64 x.f3, .int .i64 x.f4, .string x.f5, .string x.f6] := by
  obtain ⟨_, _, rfl, rfl, ⟨_, _, rfl, rfl, ⟨_, _, rfl, rfl, ⟨_, _, rfl, rfl, ⟨_, _, rfl, rfl, ⟨_, _, rfl, rfl, rfl⟩⟩⟩⟩⟩⟩ := h
  exact rfl
theorem k28_mk (w : World) (x : S28)  : k28.K w x [.int .i64 x.f0, .int .i64 x.f1, .int .i64 x.f2, .int .i64 x.f3, .int .i64 x.f4, .string x.f5, .string x.f6] := ⟨[.int .i64 x.f0], [.int .i64 x.f1, .int .i64 x.f2, .int .i64 x.f3, .int .i64 x.f4, .string x.f5, .string x.f6], rfl, rfl, ⟨[.int .i64 x.f1], [.int .i64 x.f2, .int .i64 x.f3, .int .i64 x.f4, .string x.f5, .string x.f6], rfl, rfl, ⟨[.int .i64 x.f2], [.int .i64 x.f3, .int .i64 x.f4, .string x.f5, .string x.f6], rfl, rfl, ⟨[.int .i64 x.f3], [.int .i64 x.f4, .string x.f5, .string x.f6], rfl, rfl, ⟨[.int .i64 x.f4], [.string x.f5, .string x.f6], rfl, rfl, ⟨[.string x.f5], [.string x.f6], rfl, rfl, rfl⟩⟩⟩⟩⟩⟩
theorem k28_mkM (w : World) (base : Nat) (ok : Nat → Prop) (x : S28)  : k28.M w base ok x [.int .i64 x.f0, .int .i64 x.f1, .int .i64 x.f2, .int .i64 x.f3, .int .i64 x.f4, .string x.f5, .string x.f6] := ⟨[.int .i64 x.f0], [.int .i64 x.f1, .int .i64 x.f2, .int .i64 x.f3, .int .i64 x.f4, .string x.f5, .string x.f6], rfl, rfl, ⟨[.int .i64 x.f1], [.int .i64 x.f2, .int .i64 x.f3, .int .i64 x.f4, .string x.f5, .string x.f6], rfl, rfl, ⟨[.int .i64 x.f2], [.int .i64 x.f3, .int .i64 x.f4, .string x.f5, .string x.f6], rfl, rfl, ⟨[.int .i64 x.f3], [.int .i64 x.f4, .string x.f5, .string x.f6], rfl, rfl, ⟨[.int .i64 x.f4], [.string x.f5, .string x.f6], rfl, rfl, ⟨[.string x.f5], [.string x.f6], rfl, rfl, rfl⟩⟩⟩⟩⟩⟩
theorem k28_mkF (W : World) (ok : Nat → Prop) (x : S28) : Kd.FK k28 W ok x [.int .i64 x.f0, .int .i64 x.f1, .int .i64 x.f2, .int .i64 x.f3, .int .i64 x.f4, .string x.f5, .string x.f6] := fun W2 _ => k28_mk W2 x
def rd_T28 (xs : List S28) (i : Int) : S28 := xs.getD i.toNat z28
theorem at_T28 {w : World} {A : Option Addr} {n : Nat} {xs : List S28} (h : Kd.C k28 w A n xs) (i : Int) (h0 : 0 ≤ i) (h1 : i < n) : ∃ ad , A = some ad ∧ w.cell? (ad.add (i.toNat * 7)) = some (.int .i64 (rd_T28 xs i).f0) ∧ w.cell? ⟨(ad.add (i.toNat * 7)).block, (ad.add (i.toNat * 7)).off + 1, none⟩ = some (.int .i64 (rd_T28 xs i).f1) ∧ w.cell? ⟨(ad.add (i.toNat * 7)).block, (ad.add (i.toNat * 7)).off + 2, none⟩ = some (.int .i64 (rd_T28 xs i).f2) ∧ w.cell? ⟨(ad.add (i.toNat * 7)).block, (ad.add (i.toNat * 7)).off + 3, none⟩ = some (.int .i64 (rd_T28 xs i).f3) ∧ w.cell? ⟨(ad.add (i.toNat * 7)).block, (ad.add (i.toNat * 7)).off + 4, none⟩ = some (.int .i64 (rd_T28 xs i).f4) ∧ w.cell? ⟨(ad.add (i.toNat * 7)).block, (ad.add (i.toNat * 7)).off + 5, none⟩ = some (.string (rd_T28 xs i).f5) ∧ w.cell? ⟨(ad.add (i.toNat * 7)).block, (ad.add (i.toNat * 7)).off + 6, none⟩ = some (.string (rd_T28 xs i).f6) := by
  obtain ⟨ad, c, e, _, hK, hc0⟩ := Kd.C_get h z28 i h0 h1
  have hc : ∀ j u, c[j]? = some u → w.cell? (ad.add (i.toNat * 7 + j)) = some u := hc0
  obtain rfl := k28_open hK
  exact ⟨ad, e, hc 0 _ rfl, by rw [← add_field _ _ 1 (by omega)]; exact hc 1 _ rfl, by rw [← add_field _ _ 2 (by omega)]; exact hc 2 _ rfl, by rw [← add_field _ _ 3 (by omega)]; exact hc 3 _ rfl, by rw [← add_field _ _ 4 (by omega)]; exact hc 4 _ rfl, by rw [← add_field _ _ 5 (by omega)]; exact hc 5 _ rfl, by rw [← add_field _ _ 6 (by omega)]; exact hc 6 _ rfl⟩

def rd_L5 (xs : List (List Int)) (i : Int) : (List Int) := xs.getD i.toNat ([] : List Int)
theorem at_L5 {w : World} {A : Option Addr} {n : Nat} {xs : List (List Int)} (h : Kd.C (Kd.slice 5 (Kd.int .u8)) w A n xs) (i : Int) (h0 : 0 ≤ i) (h1 : i < n) : ∃ ad A0 c0, A = some ad ∧ w.cell? (ad.add i.toNat) = some (.slice A0 (rd_L5 xs i).length c0) ∧ (rd_L5 xs i).length ≤ c0 ∧ (Kd.int .u8).C w A0 (rd_L5 xs i).length (rd_L5 xs i) := by
  obtain ⟨ad, c, e, _, hK, hc0⟩ := Kd.C_get h ([] : List Int) i h0 h1
  have hc : ∀ j u, c[j]? = some u → w.cell? (ad.add (i.toNat * 1 + j)) = some u := hc0
  obtain ⟨A0, c0, rfl, l0, g0⟩ := hK
  exact ⟨ad, A0, c0, e, by have hq := hc 0 _ rfl; rwa [Nat.mul_one, Nat.add_zero] at hq, l0, g0⟩

def rd_L6 (xs : List (List Int)) (i : Int) : (List Int) := xs.getD i.toNat ([] : List Int)
theorem at_L6 {w : World} {A : Option Addr} {n : Nat} {xs : List (List Int)} (h : Kd.C (Kd.slice 2 (Kd.int .i64)) w A n xs) (i : Int) (h0 : 0 ≤ i) (h1 : i < n) : ∃ ad A0 c0, A = some ad ∧ w.cell? (ad.add i.toNat) = some (.slice A0 (rd_L6 xs i).length c0) ∧ (rd_L6 xs i).length ≤ c0 ∧ (Kd.int .i64).C w A0 (rd_L6 xs i).length (rd_L6 xs i) := by
  obtain ⟨ad, c, e, _, hK, hc0⟩ := Kd.C_get h ([] : List Int) i h0 h1
  have hc : ∀ j u, c[j]? = some u → w.cell? (ad.add (i.toNat * 1 + j)) = some u := hc0
  obtain ⟨A0, c0, rfl, l0, g0⟩ := hK
  exact ⟨ad, A0, c0, e, by have hq := hc 0 _ rfl; rwa [Nat.mul_one, Nat.add_zero] at hq, l0, g0⟩

/-! #### struct type 61 -/
structure S61 where
  f0 : Int
  f1 : Int
  f2 : (List Int)
def z61 : S61 := ⟨(0 : Int), (0 : Int), ([] : List Int)⟩
def k61 : Kd S61 := Kd.iso (Kd.pair (Kd.int .i64) (Kd.pair (Kd.int .i64) (Kd.slice 2 (Kd.int .i64)))) (fun x : S61 => (x.f0, x.f1, x.f2))
theorem k61_open {w : World} {x : S61} {cs : List Value} (h : k61.K w x cs) : ∃ A2 c2, cs = [.int .i64 x.f0, .int .i64 x.f1, .slice A2 x.f2.length c2] ∧ x.f2.length ≤ c2 ∧ (Kd.int .i64).C w A2 x.f2.length x.f2 := by
  obtain ⟨_, _, rfl, rfl, ⟨_, _, rfl, rfl, ⟨A2, c2, rfl, l2, g2⟩⟩⟩ := h
  exact ⟨A2, c2, rfl, l2, g2⟩
theorem k61_openM {w : World} {base : Nat} {ok : Nat → Prop} {x : S61} {cs : List Value} (h : k61.M w base ok x cs) : ∃ v2, cs = [.int .i64 x.f0, .int .i64 x.f1, v2] ∧ (Kd.int .i64).R 2 w base ok v2 x.f2 := by
  obtain ⟨_, _, rfl, rfl, ⟨_, _, rfl, rfl, ⟨v2, rfl, g2⟩⟩⟩ := h
  exact ⟨v2, rfl, g2⟩
theorem k61_mk (w : World) (x : S61) {A2 : Option Addr} {c2 : Nat} (l2 : x.f2.length ≤ c2) (g2 : (Kd.int .i64).C w A2 x.f2.length x.f2) : k61.K w x [.int .i64 x.f0, .int .i64 x.f1, .slice A2 x.f2.length c2] := ⟨[.int .i64 x.f0], [.int .i64 x.f1, .slice A2 x.f2.length c2], rfl, rfl, ⟨[.int .i64 x.f1], [.slice A2 x.f2.length c2], rfl, rfl, ⟨A2, c2, rfl, l2, g2⟩⟩⟩
theorem k61_mkM (w : World) (base : Nat) (ok : Nat → Prop) (x : S61) {v2 : Value} (g2 : (Kd.int .i64).R 2 w base ok v2 x.f2) : k61.M w base ok x [.int .i64 x.f0, .int .i64 x.f1, v2] := ⟨[.int .i64 x.f0], [.int .i64 x.f1, v2], rfl, rfl, ⟨[.int .i64 x.f1], [v2], rfl, rfl, ⟨v2, rfl, g2⟩⟩⟩
theorem k61_openF {W : World} {ok : Nat → Prop} {x : S61} {cs : List Value} (h : Kd.FK k61 W ok x cs) : ∃ A2 c2, cs = [.int .i64 x.f0, .int .i64 x.f1, .slice A2 x.f2.length c2] ∧ x.f2.length ≤ c2 ∧ Kd.F (Kd.int .i64) W ok A2 x.f2.length x.f2 := by
  obtain ⟨A2, c2, rfl, l2, _⟩ := k61_open (Kd.FK_now h)
  exact ⟨A2, c2, rfl, l2, (fun W' hW => by obtain ⟨A2_, c2_, he, l2_, g2_⟩ := k61_open (h W' hW); injection (Option.some.inj (show some (Value.slice A2 x.f2.length c2) = some (Value.slice A2_ x.f2.length c2_) from congrArg (fun l => l[2]?) he)) with ha_ _ _; rw [ha_]; exact g2_)⟩
theorem k61_mkF (W : World) (ok : Nat → Prop) (x : S61) {A2 : Option Addr} {c2 : Nat} (l2 : x.f2.length ≤ c2) (g2 : Kd.F (Kd.int .i64) W ok A2 x.f2.length x.f2) : Kd.FK k61 W ok x [.int .i64 x.f0, .int .i64 x.f1, .slice A2 x.f2.length c2] := fun W2 hW => k61_mk W2 x l2 (g2 W2 hW)
def rd_T61 (xs : List S61) (i : Int) : S61 := xs.getD i.toNat z61
theorem at_T61 {w : World} {A : Option Addr} {n : Nat} {xs : List S61} (h : Kd.C k61 w A n xs) (i : Int) (h0 : 0 ≤ i) (h1 : i < n) : ∃ ad A2 c2, A = some ad ∧ w.cell? (ad.add (i.toNat * 3)) = some (.int .i64 (rd_T61 xs i).f0) ∧ w.cell? ⟨(ad.add (i.toNat * 3)).block, (ad.add (i.toNat * 3)).off + 1, none⟩ = some (.int .i64 (rd_T61 xs i).f1) ∧ w.cell? ⟨(ad.add (i.toNat * 3)).block, (ad.add (i.toNat * 3)).off + 2, none⟩ = some (.slice A2 (rd_T61 xs i).f2.length c2) ∧ (rd_T61 xs i).f2.length ≤ c2 ∧ (Kd.int .i64).C w A2 (rd_T61 xs i).f2.length (rd_T61 xs i).f2 := by
  obtain ⟨ad, c, e, _, hK, hc0⟩ := Kd.C_get h z61 i h0 h1
  have hc : ∀ j u, c[j]? = some u → w.cell? (ad.add (i.toNat * 3 + j)) = some u := hc0
  obtain ⟨A2, c2, rfl, l2, g2⟩ := k61_open hK
  exact ⟨ad, A2, c2, e, hc 0 _ rfl, by rw [← add_field _ _ 1 (by omega)]; exact hc 1 _ rfl, by rw [← add_field _ _ 2 (by omega)]; exact hc 2 _ rfl, l2, g2⟩

end Go.Proofs.Ytjpeojohakhmdaa.PS
