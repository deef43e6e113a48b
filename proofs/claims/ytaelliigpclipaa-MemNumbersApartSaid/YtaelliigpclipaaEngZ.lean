/- The reckoner, step by step: a rule for each operation; values as they were put. -/
import Derived.Test.YtaelliigpclipaaEngY
namespace Go.Proofs.Ytaelliigpclipaa.Eng
set_option linter.unusedVariables false
set_option linter.unusedSimpArgs false
open Go Go.RowKit

variable {P : Program} {call : CallF} {t : Nat → AV} {m : Mem} {c n : Nat} {l : List (Nat × AV)} {ty : TypeId}

/-- An equation that is to be reckoned out. -/
structure Rf {α : Sort _} (a b : α) : Prop where
  eq : a = b
/-- A value, told in a spelling of choice. -/
structure Tell (a b : AV) : Prop where
  eq : a = b
/-- A slot holds so. -/
inductive Has : List (Nat × AV) → Nat → AV → Prop where
  | here {d : Nat} {v : AV} {r : List (Nat × AV)} : Has ((d, v) :: r) d v
  | there {k d : Nat} {x v : AV} {r : List (Nat × AV)} (h1 : Rf (k == d) false) (h2 : Has r d v) : Has ((k, x) :: r) d v
theorem Has.lk {l : List (Nat × AV)} {d : Nat} {v : AV} (h : Has l d v) : lk l d = v := by
  induction h with
  | here => simp [Eng.lk]
  | there hk _ ih => simp only [Eng.lk]; rw [if_neg (by simpa using hk.eq)]; exact ih

theorem v_tmp {d : Nat} {v : AV} (h : Has l d v) : evO (look ⟨n, l⟩) (.tmp d) = v := h.lk
theorem v_int {k : IntKind} {q : Int} : evO t (.const (.int k q)) = .s (.int k q) := rfl
theorem v_bool {b : Bool} : evO t (.const (.bool b)) = .s (.bool b) := rfl
theorem v_str {s : ByteArray} : evO t (.const (.string s)) = .s (.str s) := rfl
theorem v_ptr0 : evO t (.const (.pointer none)) = .s .ptr0 := rfl
theorem v_sl0 : evO t (.const (.slice none 0 0)) = .s .sl0 := rfl
theorem v_fnil : evO t (.const .nilFunc) = .s .fnil := rfl
theorem v_func {f : FuncId} : evO t (.func f) = .s (.fn f []) := rfl

theorem o_move {x : Operand} {v : AV} (hx : evO t x = v) : evOp P call (.move x) ty t m c = some (v, m, c) := by rw [← hx]; rfl
theorem o_assign {x : Operand} {v : AV} (hx : evO t x = v) : evOp P call (.assign x) ty t m c = some (v, m, c) := by rw [← hx]; rfl
theorem o_pick_t {x a b : Operand} {v : AV} (hx : evO t x = .s (.bool true)) (ha : evO t a = v) : evOp P call (.pick x a b) ty t m c = some (v, m, c) := by simp [evOp, hx, ha]
theorem o_pick_f {x a b : Operand} {v : AV} (hx : evO t x = .s (.bool false)) (ha : evO t b = v) : evOp P call (.pick x a b) ty t m c = some (v, m, c) := by simp [evOp, hx, ha]
theorem o_bin {op : BinOp} {xt yt : TypeId} {x y : Operand} {a b : AV} {v : SV} (hx : evO t x = a) (hy : evO t y = b) (h : Rf (evBin P op xt a b) (some v)) : evOp P call (.binOp op xt x y yt) ty t m c = some (.s v, m, c) := by simp [evOp, hx, hy, h.eq]
theorem o_un {op : UnOp} {xt : TypeId} {x : Operand} {a : AV} {v : SV} (hx : evO t x = a) (h : Rf (evUn op a) (some v)) : evOp P call (.unOp op xt x) ty t m c = some (.s v, m, c) := by simp [evOp, hx, h.eq]
theorem o_len {x : Operand} {a v : AV} {tx : TypeId} (hx : evO t x = a) (h : evLen P tx a = some v) : evOp P call (.call ⟨.builtin .len, #[x], #[tx]⟩) ty t m c = some (v, m, c) := by simp [evOp, hx, h]
theorem o_index {x i : Operand} {k off len sz e s : Nat} {cap : Option Nat} {kd : IntKind} {q : Int} {it : TypeId} (hx : evO t x = .s (.sl k off len cap sz)) (hi : evO t i = .s (.int kd q)) (he : Rf (elemOf P it) (some e)) (hs : Rf (tsize P e) (some s)) (h0 : 0 ≤ q) (h1 : q < len) :
    evOp P call (.indexAddr it x i) ty t m c = some (.s (.ptr k (off + q.toNat * s)), m, c) := op_index hx hi he.eq hs.eq h0 h1
theorem o_load {x : Operand} {k off sz : Nat} {b : Blk} {v : SV} {lt : TypeId} (hx : evO t x = .s (.ptr k off)) (hb : get m k = some b) (hs : Rf (tsize P lt) (some sz)) (ha : Rf (tagg P lt) (some false)) (hv : b.cells[off]? = some v) :
    evOp P call (.load lt x) ty t m c = some (.s v, m, c) := op_load hx hb hs.eq ha.eq hv
theorem o_slice_to {x i : Operand} {k off len sz e : Nat} {cap : Option Nat} {kd : IntKind} {q : Int} {st : TypeId} (hx : evO t x = .s (.sl k off len cap sz)) (hi : evO t i = .s (.int kd q)) (he : Rf (elemOf P st) (some e)) (hs : Rf (tsize P e) (some sz)) (hz : 0 < sz) (h0 : 0 ≤ q) (h1 : q ≤ len) :
    evOp P call (.slice st x none (some i) none) ty t m c = some (.s (.sl k off q.toNat cap sz), m, c) := op_slice_to hx hi he.eq hs.eq hz h0 h1
theorem o_extract {x : Operand} {i : Nat} {vs : List (Bool × List SV)} {p : Bool × List SV} {v : AV} (hx : evO t x = .tup vs) (hi : Rf (vs[i]?) (some p)) (hv : Rf (ofComp p) (some v)) : evOp P call (.extract x i) ty t m c = some (v, m, c) := by simp [evOp, hx, hi.eq, hv.eq]
theorem o_call0 {f : FuncId} {ts : Array TypeId} {v : AV} {m1 : Mem} {c1 : Nat} (h : call f [] m c = some (v, m1, c1)) : evOp P call (.call ⟨.value (.func f), #[], ts⟩) ty t m c = some (v, m1, c1) := by simpa [evOp, evO] using h
theorem o_call1 {f : FuncId} {x : Operand} {ts : Array TypeId} {a v : AV} {m1 : Mem} {c1 : Nat} (hx : evO t x = a) (h : call f [a] m c = some (v, m1, c1)) : evOp P call (.call ⟨.value (.func f), #[x], ts⟩) ty t m c = some (v, m1, c1) := by subst hx; exact h
theorem o_call2 {f : FuncId} {x y : Operand} {ts : Array TypeId} {a b v : AV} {m1 : Mem} {c1 : Nat} (hx : evO t x = a) (hy : evO t y = b) (h : call f [a, b] m c = some (v, m1, c1)) : evOp P call (.call ⟨.value (.func f), #[x, y], ts⟩) ty t m c = some (v, m1, c1) := by subst hx; subst hy; exact h
theorem o_call3 {f : FuncId} {x y z : Operand} {ts : Array TypeId} {a b d v : AV} {m1 : Mem} {c1 : Nat} (hx : evO t x = a) (hy : evO t y = b) (hz : evO t z = d) (h : call f [a, b, d] m c = some (v, m1, c1)) : evOp P call (.call ⟨.value (.func f), #[x, y, z], ts⟩) ty t m c = some (v, m1, c1) := by subst hx; subst hy; subst hz; exact h
theorem o_call4 {f : FuncId} {x y z u : Operand} {ts : Array TypeId} {a b d e v : AV} {m1 : Mem} {c1 : Nat} (hx : evO t x = a) (hy : evO t y = b) (hz : evO t z = d) (hu : evO t u = e) (h : call f [a, b, d, e] m c = some (v, m1, c1)) : evOp P call (.call ⟨.value (.func f), #[x, y, z, u], ts⟩) ty t m c = some (v, m1, c1) := by subst hx; subst hy; subst hz; subst hu; exact h
theorem o_box {x : Operand} {e : TypeId} {a : AV} {z : List SV} (hx : evO t x = a) (hz : Rf a.cells (some z)) : evOp P call (.box e x) ty t m c = some (.s (.ptr c 0), (c, some ⟨z, true⟩) :: m, c + 1) := by simp [evOp, hx, hz.eq, newBlk]

theorem o_indexv {x i : Operand} {a b v : AV} {it : TypeId} (hx : evO t x = a) (hi : evO t i = b) (h : evIndexAddr P it a b = some v) : evOp P call (.indexAddr it x i) ty t m c = some (v, m, c) := by simp [evOp, hx, hi, h]
theorem o_max {x y : Operand} {a b v : AV} {ts : Array TypeId} (hx : evO t x = a) (hy : evO t y = b) (h : mmAll true a [b] = some v) : evOp P call (.call ⟨.builtin .max, #[x, y], ts⟩) ty t m c = some (v, m, c) := by simp [evOp, hx, hy, h]
theorem o_min {x y : Operand} {a b v : AV} {ts : Array TypeId} (hx : evO t x = a) (hy : evO t y = b) (h : mmAll false a [b] = some v) : evOp P call (.call ⟨.builtin .min, #[x, y], ts⟩) ty t m c = some (v, m, c) := by simp [evOp, hx, hy, h]
theorem o_make {x y : Operand} {a b v : AV} {m1 : Mem} {c1 : Nat} {st : TypeId} (hx : evO t x = a) (hy : evO t y = b) (h : evMake P st a b m c = some (v, m1, c1)) : evOp P call (.makeSlice st x y) ty t m c = some (v, m1, c1) := by simp [evOp, hx, hy, h]
/-- One cell of a block of one's own is written. -/
theorem o_store {a x : Operand} {k off : Nat} {v : SV} {cs : List SV} {st : TypeId} (ha : evO t a = .s (.ptr k off)) (hx : evO t x = .s v) (hb : get m k = some ⟨cs, true⟩) (hs : Rf (tsize P st) (some 1)) (ho : off < cs.length) :
    evOp P call (.store st a x) ty t m c = some (.any, (k, some ⟨cs.set off v, true⟩) :: m, c) := by
  have : over cs off [v] = cs.set off v := by
    unfold over
    rw [List.set_eq_take_append_cons_drop, if_pos ho]
    simp
  have h2 : off + 1 ≤ cs.length := ho
  simp [evOp, ha, hx, evStore, hb, hs.eq, AV.cells, h2, this]
theorem drop_old {k : Nat} {x x' y : Option Blk} {M : Mem} (h : x = x') : ∀ n b, get ((k, x) :: M) n = some b → get ((k, x') :: (k, y) :: M) n = some b := by
  intro n b
  subst h
  simp only [get]
  split
  · exact id
  · exact id

/-- A test, told true or false. -/
theorem s_cond_t' {x : Operand} {a b : Code} {r : Option (Ex × St)} (hx : evO (look ⟨n, l⟩) x = .s (.bool true)) (k : evS P call a ⟨⟨n, l⟩, m, c⟩ = r) : evS P call (.cond x a b) ⟨⟨n, l⟩, m, c⟩ = r := s_cond_t hx k
theorem s_cond_f' {x : Operand} {a b : Code} {r : Option (Ex × St)} (hx : evO (look ⟨n, l⟩) x = .s (.bool false)) (k : evS P call b ⟨⟨n, l⟩, m, c⟩ = r) : evS P call (.cond x a b) ⟨⟨n, l⟩, m, c⟩ = r := s_cond_f hx k

theorem reg_last {id : Nat} {t' : Tm} {m' : Mem} {c' : Nat} {os : List Oper} {r : Option (Ex × St)} (h : evOps P call os.toArray os ⟨n, l⟩ m c = some (t', m', c')) (k : some (.normal, ⟨t', m', c'⟩) = r) : evS P call (.region id os.toArray false) ⟨⟨n, l⟩, m, c⟩ = r := by
  rw [← k]; exact reg_plain h
theorem u_val {ops : Array Oper} {r : List Oper} {R : Option (Tm × Mem × Nat)} {v v0 : AV} {m1 : Mem} {c1 d : Nat} {op : Op} {pos : String} {af : Array Edge} (hd : Rf (decide (d < n)) true) (hop : evOp P call op ty (look ⟨n, l⟩) m c = some (v0, m1, c1)) (hv : Tell v0 v) (h : evOps P call ops r ⟨n, (d, v) :: l⟩ m1 c1 = R) :
    evOps P call ops (⟨some d, op, ty, pos, af, none⟩ :: r) ⟨n, l⟩ m c = R := ops_val (of_decide_eq_true hd.eq) hop hv.eq h
theorem u_gval {ops : Array Oper} {r : List Oper} {R : Option (Tm × Mem × Nat)} {v v0 : AV} {m1 : Mem} {c1 d : Nat} {op : Op} {pos : String} {af : Array Edge} {q : Nat × Bool} (hd : Rf (decide (d < n)) true) (hw : want ops (look ⟨n, l⟩) ⟨some d, op, ty, pos, af, some q⟩ = some true) (hop : evOp P call op ty (look ⟨n, l⟩) m c = some (v0, m1, c1)) (hv : Tell v0 v) (h : evOps P call ops r ⟨n, (d, v) :: l⟩ m1 c1 = R) :
    evOps P call ops (⟨some d, op, ty, pos, af, some q⟩ :: r) ⟨n, l⟩ m c = R := ops_gval (of_decide_eq_true hd.eq) hw hop hv.eq h
theorem u_skip {ops : Array Oper} {r : List Oper} {R : Option (Tm × Mem × Nat)} {d : Nat} {op : Op} {pos : String} {af : Array Edge} {q : Nat × Bool} (hd : Rf (decide (d < n)) true) (hw : want ops (look ⟨n, l⟩) ⟨some d, op, ty, pos, af, some q⟩ = some false) (h : evOps P call ops r ⟨n, (d, .no) :: l⟩ m c = R) :
    evOps P call ops (⟨some d, op, ty, pos, af, some q⟩ :: r) ⟨n, l⟩ m c = R := ops_skip (of_decide_eq_true hd.eq) hw h
theorem ops_end {ops : Array Oper} {tm : Tm} : evOps P call ops [] tm m c = some (tm, m, c) := rfl
theorem blk_n {id : Nat} {s : St} : blk id .normal s = some (.normal, s) := rfl
theorem blk_r {id : Nat} {s : St} : blk id .ret s = some (.ret, s) := rfl
theorem blk_e {id : Nat} {s : St} : blk id (.exit id) s = some (.normal, s) := by simp [blk]
theorem blk_o {id i : Nat} {s : St} (h : Rf (i == id) false) : blk id (.exit i) s = some (.exit i, s) := by
  have : i ≠ id := by simpa using h.eq
  simp [blk, this]
/-- A guard. -/
theorem w_yes {ops : Array Oper} {o : Oper} {j d : Nat} {b : Bool} (hg : Rf o.guard (some (j, b))) (hj : Rf ((ops[j]?).bind (·.dst)) (some d)) (h : Has l d (.s (.bool b))) : want ops (look ⟨n, l⟩) o = some true := by
  have h2 : look ⟨n, l⟩ d = .s (.bool b) := h.lk
  simp [want, hg.eq, hj.eq, h2]
theorem w_no {ops : Array Oper} {o : Oper} {j d : Nat} {b q : Bool} (hg : Rf o.guard (some (j, b))) (hj : Rf ((ops[j]?).bind (·.dst)) (some d)) (h : Has l d (.s (.bool q))) (hq : Rf (q == b) false) : want ops (look ⟨n, l⟩) o = some false := by
  have h2 : look ⟨n, l⟩ d = .s (.bool q) := h.lk
  simp only [want, hg.eq, hj.eq, h2, hq.eq]
theorem w_none {ops : Array Oper} {o : Oper} {j d : Nat} {b : Bool} (hg : Rf o.guard (some (j, b))) (hj : Rf ((ops[j]?).bind (·.dst)) (some d)) (h : Has l d .no) : want ops (look ⟨n, l⟩) o = some false := by
  have h2 : look ⟨n, l⟩ d = .no := h.lk
  simp [want, hg.eq, hj.eq, h2]

theorem does2 {B : Nat} (hmix : P.follows .mixedOrders = true) {code : Code} {s s' : St} {e : Ex} {g : FuncId} {as : List AV} {m : Mem} {c : Nat} {v : AV} {m1 : Mem} {c1 : Nat} (hg : CallDoes P B g as m c v m1 c1)
    {g2 : FuncId} {as2 : List AV} {m2 : Mem} {c2 : Nat} {v2 : AV} {m3 : Mem} {c3 : Nat} (hg2 : CallDoes P B g2 as2 m2 c2 v2 m3 c3) (hne : ¬ g2 = g)
    (h : ∀ call : CallF, call g as m c = some (v, m1, c1) → call g2 as2 m2 c2 = some (v2, m3, c3) → evS P call code s = some (e, s')) : CodeDoes P B code s e s' :=
  have hl : ∀ x ∈ [(g, as, m, c, v, m1, c1), (g2, as2, m2, c2, v2, m3, c3)], CallDoes P B x.1 x.2.1 x.2.2.1 x.2.2.2.1 x.2.2.2.2.1 x.2.2.2.2.2.1 x.2.2.2.2.2.2 := fun x hx => by
    simp only [List.mem_cons, List.not_mem_nil, or_false] at hx
    rcases hx with rfl | rfl
    · exact hg
    · exact hg2
  evS_does hmix (exactly_ok hl) (exactly_touch hl) (h _ (by simp [exactly]) (by simp [exactly, hne]))
theorem rnA_id (x : AV) : rnA id x = x := by
  have hV : ∀ v, rnV id v = v := by intro v; cases v <;> simp [rnV]
  have hf : rnV id = id := funext hV
  cases x <;> simp [rnA, hV, hf]
/-- A call of a pure function in just the memory it was told for. -/
theorem PureDoes.here {B : Nat} {f : FuncId} {args : List AV} {m : Mem} {c : Nat} {v : AV} (h : PureDoes P f args m c v) (hb : bareA v = true) (hlt : ∀ x ∈ args, ltA c x)
    (hm : ∀ n b, get m n = some b → n < c ∧ b.own = false ∧ ∀ v ∈ b.cells, ltV c v) : CallDoes P B f args m c v m c := by
  have hV : ∀ v, rnV id v = v := by intro v; cases v <;> simp [rnV]
  have hf : rnV id = id := funext hV
  refine h.call hb id c ?_ hlt (fun n b hn => ?_)
  · have : rnA id = id := funext rnA_id
    rw [this, List.map_id]
  · obtain ⟨h1, h2, h3⟩ := hm n b hn
    exact ⟨h1, h2, h3, b, hn, by rw [hf, List.map_id]⟩
end Go.Proofs.Ytaelliigpclipaa.Eng
