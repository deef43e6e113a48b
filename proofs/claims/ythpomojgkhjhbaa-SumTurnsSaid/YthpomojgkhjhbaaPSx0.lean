-- Written by a program of this session, out of the translation; Lean checks it.
import Derived.Test.YthpomojgkhjhbaaProg
import Derived.Below
import Derived.Deep.Draws
import Derived.Deep.AppendLies
import Derived.Maps.AppendAt
import Derived.OwnWalk
import Derived.Laws.BytesArg
import Derived.Laws.MakeOwn
import Derived.Laws.OwnMore
import Derived.Deep.OwnRows
import Derived.Tactics
import Derived.Lib.ConvBytes
import Derived.Laws.Slices
import Derived.WalkKit
import Derived.KernelRfl
import Derived.RowKit3
import Derived.Deep.LoopGhost
import Derived.Deep.QuietTactic
import Derived.BigQuiet
import Derived.WideLaws
import Derived.Deep.DeepCutAuto
import Derived.Deep.CutBlock
import Derived.Deep.RegionHeld3
import Derived.Laws.Rows
import Derived.Lib.AppendStr
import Derived.ArgAppend
import Derived.Laws.IdiomCopy
import Derived.OrdersHeld
import Derived.Laws.BitsLemmas
import Derived.RowKit
import Derived.Test.YthpomojgkhjhbaaWWords
import Derived.Test.YthpomojgkhjhbaaWLast
import Derived.Test.YthpomojgkhjhbaaWTab
import Derived.Test.YthpomojgkhjhbaaWFour
import Derived.Test.YthpomojgkhjhbaaWQPut
import Derived.Test.YthpomojgkhjhbaaWApart
import Derived.Test.YthpomojgkhjhbaaWArr
import Derived.Test.YthpomojgkhjhbaaWZeros
import Derived.Test.YthpomojgkhjhbaaWFoot
import Derived.Test.YthpomojgkhjhbaaWKept
import Derived.Test.YthpomojgkhjhbaaWShare
import Derived.Test.YthpomojgkhjhbaaWN
import Derived.Test.YthpomojgkhjhbaaWFootNe
import Derived.Test.YthpomojgkhjhbaaWAt
import Derived.Test.YthpomojgkhjhbaaWEqStruct
import Derived.Test.YthpomojgkhjhbaaWRepsOne
import Derived.Test.YthpomojgkhjhbaaWInv
import Derived.Test.YthpomojgkhjhbaaWInvWords
import Derived.Test.YthpomojgkhjhbaaWGuard
import Derived.Test.YthpomojgkhjhbaaWNEv
import Derived.Test.YthpomojgkhjhbaaWMore
namespace Go.Proofs.Ythpomojgkhjhbaa.PS
open Go.RowKit Go.Proofs.YthpomojgkhjhbaaW.PrintWords Go.Proofs.YthpomojgkhjhbaaW.PrintLast Go.Proofs.YthpomojgkhjhbaaW.PrintMore
attribute [local go_sem] max2_int min2_int max_two min_two max_three min_three max_four min_four   -- for this text's walks alone
set_option linter.unusedVariables false
set_option linter.unusedSimpArgs false



def errW : Option Int → Value
  | none => .nilIface
  | some c => .iface 0 (.int .i64 c)
theorem errW_none : errW none = .nilIface := rfl
theorem errW_some (c : Int) : errW (some c) = .iface 0 (.int .i64 c) := rfl

theorem pw_cells_C {W : World} {g : Nat} {cur : Array Value} {e : TypeId} {fr : Nat × Nat} {xs : List Int} (hg : W.heap[g]? = some (.cells cur e fr)) (hx : cur.toList.take xs.length = encs (Value.int .u8) xs) (hm : xs.length ≤ 9223372036854775807) :
    (Kd.int .u8).C W (some ⟨g, 0, none⟩) xs.length xs := by
  refine Kd.C_of_reads (d := (0 : Int)) (h1 := fun _ => rfl) ⟨rfl, hm, fun _ => ⟨_, rfl, fun i hi => ?_⟩⟩
  have h2 : (cur.toList.take xs.length)[i]? = (encs (Value.int .u8) xs)[i]? := by rw [hx]
  rw [List.getElem?_take, if_pos hi] at h2
  have h3 : cur[i]? = some (Value.int .u8 (xs.getD i 0)) := by
    rw [← Array.getElem?_toList, h2]
    simp [encs, List.getD_eq_getElem?_getD, List.getElem?_eq_getElem hi]
  have ea : (⟨g, 0, none⟩ : Addr).add i = ⟨g, i, none⟩ := by unfold Addr.add; split <;> simp_all
  rw [ea]
  simp only [World.cell?, hg]
  simpa using h3
theorem pw_row_V {W1 : World} {g c base : Nat} {cur : Array Value} {e : TypeId} {fr : Nat × Nat} {ok : Nat → Prop} {xs : List Int} (hg : W1.heap[g]? = some (.cells cur e fr)) (hx : cur.toList.take xs.length = encs (Value.int .u8) xs) (hm : xs.length ≤ 9223372036854775807) (hc : xs.length ≤ c) (hok : ok g) :
    Kd.V (Kd.int .u8) e W1 base ok (.slice (some ⟨g, 0, none⟩) xs.length c) xs := by
  have hlt : g < W1.heap.size := (Array.getElem?_eq_some_iff.1 hg).1
  exact ⟨some ⟨g, 0, none⟩, c, rfl, hc, fun W' hW => pw_cells_C ((hW g hok hlt).trans hg) hx hm⟩
theorem pw_tobytes {P : Program} {ops : Array Oper} {rest : List Oper} {o : Oper} {a : Act} {Q : Exit → Act → World → Prop} {w0 W : World} (base : Nat) (hgd : o.guard = none) (x : Operand) (t u e : TypeId) (ho : o.op = .convert u t x)
    (ht : P.underlying t = some (.slice e)) (hu : P.underlying u = some .string) (he : P.underlying e = some (.int .u8)) (s : ByteArray) (hx : a.eval x = .string s) (ok : Nat → Prop) (hs : s.size ≤ 9223372036854775807)
    (hfresh : ∀ k, W.heap.size ≤ k → ok k) (HB : Below base w0 W) (hbase : base ≤ W.heap.size)
    (h : ∀ v1 w1, Kd.V (Kd.int .u8) e w1 base ok v1 (bytesOf s) → Below base w0 w1 → W.grownBy w1 (Value.slice none 0 0).ownBlock → (v1.ownBlock = (Value.slice none 0 0).ownBlock ∨ ∃ b, v1.ownBlock = some b ∧ W.heap.size ≤ b) → wpList P ops Q rest (a.put o.dst v1) w1) :
    wpList P ops Q (o :: rest) a W := by
  refine wpList_plain hgd fun K hK => ?_
  have hrun := Lib.run_convert_string_bytes (P := P) W u t e s hu ht he
  have hg : W.grownBy (Lib.bytesWorld W e s) none := ⟨by unfold Lib.bytesWorld World.freeze; rw [if_neg (by decide)]; rfl, by unfold Lib.bytesWorld World.freeze; rw [if_neg (by decide)]; rfl, by unfold Lib.bytesWorld World.freeze; rw [if_neg (by decide)]; rfl, by rw [Lib.bytesWorld_size]; omega, fun k hk _ => Lib.bytesWorld_at_old W e s k hk⟩
  have hcap : s.size ≤ grownCap W s.size 0 e := grownCap_ge W _ _ _
  have hV : Kd.V (Kd.int .u8) e (Lib.bytesWorld W e s) base ok (.slice (some ⟨W.heap.size, 0, none⟩) s.size (grownCap W s.size 0 e)) (bytesOf s) := by
    have := pw_row_V (base := base) (ok := ok) (W1 := Lib.bytesWorld W e s) (c := grownCap W s.size 0 e) (xs := bytesOf s) (Lib.bytesWorld_at_new W e s) (by
      rw [bytesOf_length]
      simp [Lib.bytesCells, bytesOf, encs, data_length]) (by rw [bytesOf_length]; exact hs) (by rw [bytesOf_length]; exact hcap) (hfresh _ (Nat.le_refl _))
    rw [bytesOf_length] at this
    exact this
  unfold Oper.wp
  simp [execOp, ho, hx, hrun, Result.andThen]
  exact hK _ _ (h _ _ hV (HB.grown hg hbase (fun k hk => by cases hk)) hg (.inr ⟨W.heap.size, by simp [Value.ownBlock], Nat.le_refl _⟩))
theorem pw_mark {P : Program} {ops : Array Oper} {rest : List Oper} {o : Oper} {a : Act} {Q : Exit → Act → World → Prop} {w0 W : World} (base : Nat) (hgd : o.guard = none) (x : Operand) (t e : TypeId) (ho : o.op = .convert t t x)
    (ht : P.underlying t = some (.slice e)) (he : P.underlying e = some (.int .u8)) (v : Value) (xs : List Int) (hx : a.eval x = v) (ok : Nat → Prop) (hn : 0 < xs.length) (HO : (Kd.int .u8).R e W base ok v xs)
    (HB : Below base w0 W) (hbase : base ≤ W.heap.size)
    (h : ∀ v1 w1, Kd.V (Kd.int .u8) e w1 base ok v1 xs → Below base w0 w1 → W.grownBy w1 v.ownBlock → (v1.ownBlock = v.ownBlock ∨ ∃ b, v1.ownBlock = some b ∧ W.heap.size ≤ b) → wpList P ops Q rest (a.put o.dst v1) w1) :
    wpList P ops Q (o :: rest) a W := by
  have hok := HO.1
  have hrow := Kd.own_of_R HO
  rcases hrow.2 with ⟨_, h0⟩ | ⟨g, cap, cur, rfl, hb, hg, hnc, hcm, hcs, hx2⟩
  · omega
  refine wpList_plain hgd fun K hK => ?_
  have hsh : W.shape? g = some (e, cur.size) := by
    unfold World.shape?
    rw [hg]
  have hrun : (convert t t (.slice (some ⟨g, 0, none⟩) xs.length cap)).run P W = .ok (.slice (some ⟨g, 0, none⟩) xs.length cap) (W.freeze ⟨g, cur.size, none⟩ 1) := by
    simp [convert, run_underlying ht, run_underlying he, markStringish, hsh]
  have hsz : (W.freeze ⟨g, cur.size, none⟩ 1).heap.size = W.heap.size := by simp [World.freeze]
  have hgg : W.grownBy (W.freeze ⟨g, cur.size, none⟩ 1) (some g) := ⟨by unfold World.freeze; rw [if_neg (by decide)], by unfold World.freeze; rw [if_neg (by decide)], by unfold World.freeze; rw [if_neg (by decide)], by rw [hsz]; omega, fun k hk hne => by
    have : g ≠ k := fun e_ => hne (by rw [e_])
    simp [World.freeze, Array.getElem?_modify, this]⟩
  have hnew : (W.freeze ⟨g, cur.size, none⟩ 1).heap[g]? = some (.cells cur e (cur.size, cur.size + 1)) := by
    simp [World.freeze, Array.getElem?_modify, hg]
  have hV : Kd.V (Kd.int .u8) e (W.freeze ⟨g, cur.size, none⟩ 1) base ok (.slice (some ⟨g, 0, none⟩) xs.length cap) xs :=
    pw_row_V hnew (by rw [Nat.mul_one] at hx2; exact hx2) (by simp only [maxLen] at hcm; omega) hnc (hok g (by simp [Value.ownBlock]))
  unfold Oper.wp
  simp [execOp, ho, hx, hrun, Result.andThen]
  exact hK _ _ (h _ _ hV (HB.grown hgg hbase (fun k hk => by injection hk with hk; omega)) hgg (.inl rfl))

theorem pw_C_string_len {P : Program} {w : World} {src dst e : TypeId} {A : Option Addr} {n c : Nat} {xs : List Int} (hs : P.underlying src = some (.slice e)) (he : P.underlying e = some (.int .u8)) (hd : P.underlying dst = some .string) (h : (Kd.int .u8).C w A n xs) :
    (∀ m_ : Nat, m_ = n → (convert src dst (.slice A m_ c)).run P w = .ok (.string (strOfNums xs)) w) ∧ ∀ m_ q_ : Nat, m_ = n → (convert src dst (.slice A m_ c)).run P (w.drewN q_) = .ok (.string (strOfNums xs)) (w.drewN q_) := by
  refine ⟨fun m_ e_ => ?_, fun m_ q_ e_ => ?_⟩
  · subst e_; exact Kd.C_string hs he hd h
  · subst e_; exact Kd.C_string hs he hd (Kd.C_drewN h q_)

theorem info5 : (Try.prog.info? 5).map (fun i => (i.zero, i.size, i.bytes)) = some (some (.int .u8 0), 1, 1) := by kernel_rfl
theorem info27 : (Try.prog.info? 27).map (fun i => (i.zero, i.size, i.bytes)) = some (some (.slice none 0 0), 1, 24) := by kernel_rfl
-- the values' own types
def rd_L1 (xs : List (List Int)) (i : Int) : (List Int) := xs.getD i.toNat ([] : List Int)
theorem at_L1 {w : World} {A : Option Addr} {n : Nat} {xs : List (List Int)} (h : Kd.C (Kd.slice 5 (Kd.int .u8)) w A n xs) (i : Int) (h0 : 0 ≤ i) (h1 : i < n) : ∃ ad A0 c0, A = some ad ∧ w.cell? (ad.add i.toNat) = some (.slice A0 (rd_L1 xs i).length c0) ∧ (rd_L1 xs i).length ≤ c0 ∧ (Kd.int .u8).C w A0 (rd_L1 xs i).length (rd_L1 xs i) := by
  obtain ⟨ad, c, e, _, hK, hc0⟩ := Kd.C_get h ([] : List Int) i h0 h1
  have hc : ∀ j u, c[j]? = some u → w.cell? (ad.add (i.toNat * 1 + j)) = some u := hc0
  obtain ⟨A0, c0, rfl, l0, g0⟩ := hK
  exact ⟨ad, A0, c0, e, by have hq := hc 0 _ rfl; rwa [Nat.mul_one, Nat.add_zero] at hq, l0, g0⟩

end Go.Proofs.Ythpomojgkhjhbaa.PS
