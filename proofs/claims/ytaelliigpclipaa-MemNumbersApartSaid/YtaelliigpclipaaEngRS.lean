/- The reckoner, for a row: arguments that are structs, and rows of structs, of numbers, truths and texts. -/
import Derived.Test.YtaelliigpclipaaEngR
import Derived.Test.YtaelliigpclipaaEngAD
import Derived.DataReads
namespace Go.Proofs.Ytaelliigpclipaa.Eng
set_option linter.unusedVariables false
set_option linter.unusedSimpArgs false
open Go Go.RowKit Go.ChangeShapes Go.WideShapes Go.ChangeAt

/-- Cells of the machine that are these. -/
def PlainC (l : List SV) (cs : List Value) : Prop := l.length = cs.length ∧ ∀ (i : Nat) v, l[i]? = some v → ∃ c, cs[i]? = some c ∧ plainV v = some c
theorem PlainC.CR {ρ : Rho} {l : List SV} {cs : List Value} (h : PlainC l cs) : CR ρ l cs := ⟨h.1, fun i v c p q => by
  obtain ⟨c', h1, h2⟩ := h.2 i v p
  rw [q] at h1
  obtain rfl := Option.some.inj h1
  exact plainV.SR h2⟩
theorem PlainC.one {v : SV} {c : Value} (h : plainV v = some c) : PlainC [v] [c] := ⟨rfl, fun i u p => by
  cases i with
  | zero => obtain rfl := Option.some.inj p; exact ⟨c, rfl, h⟩
  | succ i => simp at p⟩
theorem PlainC.append {l l' : List SV} {cs cs' : List Value} (h : PlainC l cs) (k : PlainC l' cs') : PlainC (l ++ l') (cs ++ cs') := by
  refine ⟨by simp [h.1, k.1], fun i v p => ?_⟩
  rw [List.getElem?_append] at p ⊢
  rw [h.1] at p
  split at p
  · rename_i hi; rw [if_pos hi]; exact h.2 i v p
  · rename_i hi; rw [if_neg hi]; exact k.2 _ v p

section
variable {H : Type} (enc : TypeId × Value → H) (P : Program) (W : World) (base : Nat) (spare : Nat → Bool) (held : Bool) {α β : Type}
/-- Cells that read as type t are those of some x, and it is good. -/
def OpensV (t : TypeId) (sz : Nat) (f : α → List SV) (good : α → Prop) : Prop :=
  ∀ fuel cs x, DataW.trod enc P W base spare held fuel t cs = some x → ∃ v : α, PlainC (f v) cs ∧ good v ∧ (f v).length = sz
/-- The fields L, from place o on. -/
def OpensF (o : Nat) (sz : Nat) (f : α → List SV) (L : List Field) (good : α → Prop) : Prop :=
  ∀ (n : Nat) (cs : List Value), (∀ q ∈ L, ∃ y, DataW.trod enc P W base spare held n q.type ((cs.drop q.offset).take (P.cellsOf q.type)) = some y) → ∃ v : α, PlainC (f v) ((cs.drop o).take sz) ∧ good v ∧ (f v).length = sz
variable {enc P W base spare held}
theorem opensV_int {t : TypeId} {k : IntKind} (hu : P.underlying t = some (.int k)) : OpensV enc P W base spare held t 1 (fun n : Int => [.int k n]) (fun n => (Lit.int k n).wf = true) := by
  intro fuel cs x h
  obtain ⟨n, rfl, _, hw⟩ := DataW.trod_int hu h
  exact ⟨n, PlainC.one rfl, hw, rfl⟩
theorem opensV_bool {t : TypeId} (hu : P.underlying t = some .bool) : OpensV enc P W base spare held t 1 (fun b : Bool => [.bool b]) (fun _ => True) := by
  intro fuel cs x h
  obtain ⟨b, rfl, _⟩ := DataW.trod_bool hu h
  exact ⟨b, PlainC.one rfl, trivial, rfl⟩
theorem opensV_string {t : TypeId} (hu : P.underlying t = some .string) : OpensV enc P W base spare held t 1 (fun s : ByteArray => [.str s]) (fun s => s.size ≤ maxLen) := by
  intro fuel cs x h
  obtain ⟨s, rfl, _, hs⟩ := DataW.trod_string hu h
  exact ⟨s, PlainC.one rfl, hs, rfl⟩
theorem opensF_one {o sz : Nat} {f : α → List SV} {q : Field} {good : α → Prop} (ho : q.offset = o) (hc : P.cellsOf q.type = sz) (h : OpensV enc P W base spare held q.type sz f good) : OpensF enc P W base spare held o sz f [q] good := by
  intro n cs hf
  obtain ⟨y, hy⟩ := hf q (by simp)
  rw [ho, hc] at hy
  exact h n _ y hy
theorem opensF_cons {o sz sz' : Nat} {f : α → List SV} {g : β → List SV} {q : Field} {L : List Field} {good : α → Prop} {good' : β → Prop} (ho : q.offset = o) (hc : P.cellsOf q.type = sz) (h : OpensV enc P W base spare held q.type sz f good)
    (hr : OpensF enc P W base spare held (o + sz) sz' g L good') : OpensF enc P W base spare held o (sz + sz') (fun v : α × β => f v.1 ++ g v.2) (q :: L) (fun v => good v.1 ∧ good' v.2) := by
  intro n cs hf
  obtain ⟨y, hy⟩ := hf q (by simp)
  rw [ho, hc] at hy
  obtain ⟨v, hv, gv, lv⟩ := h n _ y hy
  obtain ⟨u, hu, gu, lu⟩ := hr n cs (fun p hp => hf p (by simp [hp]))
  refine ⟨(v, u), ?_, ⟨gv, gu⟩, by simp [lv, lu]⟩
  rw [List.take_add, List.drop_drop]
  exact hv.append hu
theorem opensV_struct {t : TypeId} {fs : Array Field} {sz : Nat} {f : α → List SV} {g : β → List SV} {good : α → Prop} (mk : α → β) (hm : ∀ v, g (mk v) = f v) (hu : P.underlying t = some (.struct fs)) (hc : P.cellsOf t = sz) (h : OpensF enc P W base spare held 0 sz f fs.toList good) :
    OpensV enc P W base spare held t sz g (fun b => ∃ v, mk v = b ∧ good v) := by
  intro fuel cs x hx
  obtain ⟨xs, n, _, _, hl, hn, hf⟩ := DataW.trod_struct hu hx
  obtain ⟨v, hv, gv, lv⟩ := h n cs (fun q hq => by
    obtain ⟨i, hi, he⟩ := List.getElem_of_mem hq
    have hfi : fs[i]? = some q := by
      rw [Array.getElem?_eq_getElem (by simpa using hi)]
      simpa using he
    have := hf i q hfi
    have hlt : i < xs.length := by rw [hn]; simpa using hi
    rw [List.getElem?_eq_getElem hlt] at this
    exact ⟨_, this⟩)
  rw [List.drop_zero, List.take_of_length_le (by omega)] at hv
  exact ⟨mk v, by rw [hm]; exact hv, ⟨v, rfl, gv⟩, by rw [hm]; exact lv⟩
theorem OpensV.weak {t : TypeId} {sz : Nat} {f : α → List SV} {good good' : α → Prop} (h : OpensV enc P W base spare held t sz f good) (hw : ∀ v, good v → good' v) : OpensV enc P W base spare held t sz f good' := fun fuel cs x hx => by
  obtain ⟨v, h1, h2, h3⟩ := h fuel cs x hx
  exact ⟨v, h1, hw v h2, h3⟩
theorem choose_rows {Q : Nat → α → Prop} (n : Nat) (h : ∀ i, i < n → ∃ v, Q i v) : ∃ vs : List α, vs.length = n ∧ ∀ i v, vs[i]? = some v → Q i v := by
  induction n with
  | zero => exact ⟨[], rfl, by simp⟩
  | succ n ih =>
    obtain ⟨vs, hl, hv⟩ := ih (fun i hi => h i (by omega))
    obtain ⟨v, hq⟩ := h n (by omega)
    refine ⟨vs ++ [v], by simp [hl], fun i u hu => ?_⟩
    rcases Nat.lt_or_ge i n with c | c
    · rw [List.getElem?_append_left (by omega)] at hu
      exact hv i u hu
    · have hi : i < (vs ++ [v]).length := (List.getElem?_eq_some_iff.1 hu).1
      rw [List.length_append, List.length_singleton, hl] at hi
      obtain rfl : i = n := by omega
      rw [List.getElem?_append_right (by omega), hl, Nat.sub_self] at hu
      simp at hu
      subst hu
      exact hq
/-- An argument that is a struct. -/
theorem struct_arg {t : TypeId} {fs : Array Field} {sz : Nat} {f : α → List SV} {good : α → Prop} {v : Value} {x : DataW H} {ps : List MemPlace} {r : Reach} {b0 : Nat} (hu : P.underlying t = some (.struct fs)) (hval : Value.okWide P W r b0 t v) (ho : OpensV enc P W base spare held t sz f good)
    (h : DataW.Trod enc P W base spare held t v x ps) : ∃ z : α, good z ∧ ∀ ρ : Rho, VR ρ (.agg (f z)) v := by
  obtain ⟨cs, rfl, _⟩ := okWide_struct hu hval
  obtain ⟨fuel, hf⟩ := h
  obtain ⟨z, h1, h2, _⟩ := ho fuel _ _ hf
  exact ⟨z, h2, fun ρ => ⟨cs, rfl, PlainC.CR h1⟩⟩
/-- An argument that is a row. -/
theorem row_arg {t e : TypeId} {sz : Nat} {f : α → List SV} {good : α → Prop} {v : Value} {x : DataW H} {ps : List MemPlace} {b0 B j : Nat} {ts : List TypeId} {ds : List (DataW H)}
    (hsz : (DataW.weightsEach P ts ds).all (· ≤ reachBytes) = true) (ht : ts[j]? = some t) (hd : ds[j]? = some x) (hB : P.bytesOf e = B) (hu : P.underlying t = some (.slice e)) (hc : P.cellsOf e = sz) (hs0 : 0 < sz) (hval : Value.okWide P W .any b0 t v) (ho : OpensV enc P W base spare held e sz f good)
    (h : DataW.Trod enc P W base spare held t v x ps) :
    v = .slice none 0 0 ∨ ∃ (a : Addr) (cap : Nat) (L : List α), v = .slice (some a) L.length cap ∧ L.length ≤ cap ∧ cap ≤ maxLen ∧ Reads W a (flat f L) ∧ (∀ z ∈ L, good z ∧ (f z).length = sz) ∧ L.length * B ≤ 140737488351232 := by
  obtain ⟨a', len', cap', rfl⟩ := okWide_slice hu hval
  obtain ⟨fuel, hf⟩ := h
  rcases DataW.trod_slice hu hf with ⟨h1, _⟩ | ⟨a, len, cap, elems, rest, n, _, h1, hxe, _, hl, hm, hn, he, _⟩
  · left
    simpa [Value.cells] using h1
  · right
    simp [Value.cells] at h1
    obtain ⟨rfl, rfl, rfl⟩ := h1
    obtain ⟨p1, p2, _⟩ := slice_place hu hval
    obtain ⟨vs, hvl, hv⟩ := choose_rows (Q := fun i v => (good v ∧ (f v).length = sz) ∧ ∃ c : List Value, c.length = sz ∧ PlainC (f v) c ∧ ∀ j u, c[j]? = some u → W.cell? (a.add (i * sz + j)) = some u) len' (fun i hi => by
      have hei := he i hi
      rw [hc] at hei
      have hlt : i < elems.length := by omega
      rw [List.getElem?_eq_getElem hlt] at hei
      obtain ⟨c, hcs, hct⟩ := Option.bind_eq_some_iff.1 hei
      obtain ⟨v, hK, hg, hgl⟩ := ho n c _ hct
      obtain ⟨_, hcl, hcell⟩ := World.cells?_some hcs
      refine ⟨v, ⟨hg, hgl⟩, c, hcl, hK, fun j u hu => ?_⟩
      have hj : j < c.length := (List.getElem?_eq_some_iff.1 hu).1
      rw [← Addr.add_add, hcell j (by omega), hu])
    have hlen : len' * B ≤ 140737488351232 := by
      obtain ⟨h4, _⟩ := Prod.mk.inj hxe
      subst h4
      have w := sized_slice hsz ht hd hu
      rw [hB] at w
      have : len' ≤ (elems.map (·.1)).length + (rest.map (·.1)).length := by
        rw [List.length_map, List.length_map]
        omega
      exact Nat.le_trans (Nat.mul_le_mul_right _ this) (by simpa [reachBytes] using w)
    refine ⟨a, cap', vs, by rw [hvl], by omega, hm, ⟨p1, p2, ?_⟩, fun z hz => ?_, by rw [hvl]; exact hlen⟩
    · -- cell by cell
      have key : ∀ (l : List α) (k : Nat), (∀ i v, l[i]? = some v → (f v).length = sz ∧ ∃ c : List Value, c.length = sz ∧ PlainC (f v) c ∧ ∀ j u, c[j]? = some u → W.cell? (a.add ((k + i) * sz + j)) = some u) →
          ∀ (i : Nat) v, (flat f l)[i]? = some v → ∃ c, plainV v = some c ∧ W.cell? (a.add (k * sz + i)) = some c := by
        intro l
        induction l with
        | nil => intro k _ i v hi; simp [flat] at hi
        | cons x r ih =>
          intro k hk i v hi
          obtain ⟨hxl, c, c1, c2, c3⟩ := hk 0 x rfl
          simp only [flat] at hi
          rw [List.getElem?_append, hxl] at hi
          split at hi
          · rename_i hlt
            obtain ⟨u, u1, u2⟩ := c2.2 i v hi
            exact ⟨u, u2, by have := c3 i u u1; rwa [Nat.add_zero] at this⟩
          · rename_i hge
            obtain ⟨u, u1, u2⟩ := ih (k + 1) (fun i v hv => by have := hk (i + 1) v (by simpa using hv); rwa [show k + (i + 1) = k + 1 + i by omega] at this) _ v hi
            refine ⟨u, u1, ?_⟩
            rw [← u2]
            congr 2
            rw [Nat.succ_mul]
            omega
      intro i v hi
      have := key vs 0 (fun i v hv' => by
        obtain ⟨⟨_, g2⟩, c, h1, h2, h3⟩ := hv i v hv'
        exact ⟨g2, c, h1, h2, fun j u hu => by rw [Nat.zero_add]; exact h3 j u hu⟩) i v hi
      rwa [Nat.zero_mul, Nat.zero_add] at this
    · obtain ⟨j, hj⟩ := List.getElem?_of_mem hz
      exact (hv j z hj).1
end
/-- A pure function, out of its body's ways. -/
theorem PureDoes.of_ends {P : Program} {f : FuncId} {fn : Func} {body : Code} {args : List AV} {m : Mem} {c k : Nat} {v : AV} (hf : P.funcs[f]? = some fn) (hb : fn.body = some body) (hname : (fn.name == "runtime.NumGoroutine") = false) (hk : args.length + (fn.ntmps - args.length) = k)
    (h : ∀ B, ∃ e s', (e = .normal ∨ e = .ret) ∧ CodeDoes P B body ⟨⟨k, enum 0 args⟩, m, c⟩ e s' ∧ evResults P fn s' = some v) : PureDoes P f args m c v := by
  subst hk
  refine ⟨⟨fn, hf, hname, by rw [hb]; rfl⟩, fun B ρ M args' w ha hm hfr hs => ?_⟩
  obtain ⟨e, s', he, ⟨h1, δ0, h2, h3⟩, hr⟩ := h B
  refine calls_of_wp hf hb (h3 ρ M _ w rfl ?_ hm (fun n p _ => hfr n p) hs _ ?_)
  · refine ⟨by simp [ha.1], fun d => ?_⟩
    show VR ρ (lk (enum 0 args) d) ((args' ++ Array.replicate (fn.ntmps - args'.size) undef).getD d undef)
    rw [lk_enum, if_pos (Nat.zero_le _), Nat.sub_zero]
    cases hx : args[d]? with
    | none => trivial
    | some x =>
      have hlt : d < args'.size := by rw [← ha.1]; exact (List.getElem?_eq_some_iff.1 hx).1
      have : (args' ++ Array.replicate (fn.ntmps - args'.size) undef).getD d undef = args'[d] := by
        rw [Array.getD_eq_getD_getElem?, Array.getElem?_append, if_pos hlt, Array.getElem?_eq_getElem hlt]
        rfl
      rw [this]
      exact ha.2 d x _ hx (Array.getElem?_eq_getElem hlt)
  · intro ρ' a' w' hd ht he' hs' hbel
    obtain ⟨v', r1, r2⟩ := results_ok hr ht (h2.ag M hm) hs'
    have : a'.defers = [] ∧ ∃ v1, (results fn a'.tmps).run P w' = .ok v1 w' ∧ ∃ v' ρ', (Ending.returned v1) = .returned v' ∧ VR ρ' v v' ∧ Below B w w' := ⟨hd, v', r1, v', ρ', rfl, r2, hbel⟩
    rcases he with rfl | rfl
    · exact this
    · exact this
theorem Less.empty {n c : Nat} {l : List (Nat × AV)} {m : Mem} : Less ⟨⟨n, l⟩, [], c⟩ ⟨⟨n, l⟩, m, c⟩ := ⟨rfl, fun _ => .inr rfl, fun _ _ h => (by cases h), rfl⟩
end Go.Proofs.Ytaelliigpclipaa.Eng
