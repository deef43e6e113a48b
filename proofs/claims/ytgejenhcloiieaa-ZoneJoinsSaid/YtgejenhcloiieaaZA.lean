/- Chapter 8: contracts of the zone's functions. Printed by gen_zone.py. -/
import Derived.Test.YtgejenhcloiieaaEngN
import Derived.Test.YtgejenhcloiieaaProg
import Derived.KernelRfl
namespace Go.Proofs.Ytgejenhcloiieaa.Z8
open Go Go.RowKit Go.Proofs Go.Proofs.Ytgejenhcloiieaa.Eng
set_option linter.unusedVariables false
set_option linter.unusedSimpArgs false

theorem mix : Try.prog.follows .mixedOrders = true := by kernel_rfl
theorem el22 : Eng.elemOf Try.prog 22 = some 24 := by kernel_rfl
theorem sz24 : tsize Try.prog 24 = some 4 := by kernel_rfl
theorem ag24 : tagg Try.prog 24 = some true := by kernel_rfl
theorem un9 : Try.prog.underlying 9 = some .string := by kernel_rfl
theorem sz2 : tsize Try.prog 2 = some 1 := by kernel_rfl
theorem ag2 : tagg Try.prog 2 = some false := by kernel_rfl
/-- A zone. -/
structure Zn where
  kind : Int
  rows : Int
  nulls : Int
  minN : Int
  maxN : Int
  minS : ByteArray
  maxS : ByteArray
abbrev Zn.cells (z : Zn) : List SV := [.int .i64 z.kind, .int .i64 z.rows, .int .i64 z.nulls, .int .i64 z.minN, .int .i64 z.maxN, .str z.minS, .str z.maxS]
/-- A cell. -/
structure Cl where
  col : ByteArray
  kind : Int
  n : Int
  s : ByteArray
abbrev Cl.cells (x : Cl) : List SV := [.str x.col, .int .i64 x.kind, .int .i64 x.n, .str x.s]
abbrev Cl0 : Cl := ⟨⟨#[]⟩, 0, 0, ⟨#[]⟩⟩
theorem cl_len : ∀ x : Cl, x.cells.length = 4 := fun _ => rfl
theorem by24 : tbytes Try.prog 24 = some 48 := by kernel_rfl
theorem zr24 : tzero Try.prog 24 = some Cl0.cells := by kernel_rfl
theorem load_cell {n i : Nat} {L : List Cl} {o : Bool} (h : i < L.length) : loadG Try.prog 24 (.s (.ptr n (0 + i * 4))) (fun _ => some ⟨flat Cl.cells L, o⟩) = some (.agg (L.getD i Cl0).cells) := by
  refine claim_load_agg sz24 ag24 ?_
  show sub (flat Cl.cells L) (0 + i * 4) 4 = _
  rw [Nat.zero_add, flat_get Cl.cells 4 cl_len L i h]
  simp [h]
theorem load_cell0 {n : Nat} {L : List Cl} {o : Bool} (h : 0 < L.length) : loadG Try.prog 24 (.s (.ptr n 0)) (fun _ => some ⟨flat Cl.cells L, o⟩) = some (.agg (L.getD 0 Cl0).cells) := load_cell (i := 0) h
theorem cl_bare : Bare Cl.cells := ⟨fun x v hv => by simp at hv; rcases hv with rfl | rfl | rfl | rfl <;> rfl, fun x v hv g cs => by simp at hv; rcases hv with rfl | rfl | rfl | rfl <;> simp⟩
theorem claim_append {P : Program} {ts tx e e2 : TypeId} {n n2 len off2 k sz b c : Nat} {cells cs2 news : List SV} {cap2 : Option Nat} {own2 : Bool} {z : List SV} (he : Eng.elemOf P ts = some e) (hx : Eng.elemOf P tx = some e2) (hs : tsize P e = some sz) (hb : tbytes P e = some b) (hz : tzero P e = some z)
    (hzl : z.length = sz) (h0 : 0 < sz) (hk : 0 < k) (hne : n ≠ n2) (hl : cells.length = len * sz) (hn : sub cs2 off2 (k * sz) = some news) (hmax : len + k ≤ maxLen) (hby : (len + k) * b ≤ 140737488355328) :
    less 2 (evAppend P ts tx (.s (.sl n 0 len none sz)) (.s (.sl n2 off2 k cap2 sz)) [(n, some ⟨cells, true⟩), (n2, some ⟨cs2, own2⟩)] c) = some (.s (.sl c 0 (len + k) none sz), [(c, some ⟨cells ++ news, true⟩), (n, none)], c + 1) := by
  have hk' : ¬ k = 0 := by omega
  have hsub : sub cells 0 (len * sz) = some cells := by
    unfold sub
    rw [if_pos (by omega), List.drop_zero, ← hl, List.take_length]
  simp [evAppend, evAppend1, evSrc, he, hx, hs, hb, hz, hzl, h0, hk', hne, Eng.get, hn, hsub, hl, hmax, hby, less, newBlk]
abbrev mnI (a b : Int) : Int := if b < a then b else a
abbrev mxI (a b : Int) : Int := if b > a then b else a
abbrev mnS (a b : ByteArray) : ByteArray := if Op.bytesLess a.data.toList b.data.toList || a.data.toList == b.data.toList then a else b
abbrev mxS (a b : ByteArray) : ByteArray := if !Op.bytesLess a.data.toList b.data.toList then a else b
/-- widen. -/
abbrev wid (z x : Zn) : Zn := ⟨z.kind, z.rows, z.nulls, mnI z.minN x.minN, mxI z.maxN x.maxN, mnS z.minS x.minS, mxS z.maxS x.maxS⟩
abbrev widF (z x : Zn) : Zn := ⟨z.kind, z.rows, z.nulls, x.minN, x.maxN, x.minS, x.maxS⟩
abbrev widen (z x : Zn) (f : Bool) : Zn := wid (bif f then widF z x else z) x
theorem none_t {B : Nat} (z : Zn) (h : (z.rows == z.nulls) = true) : CodeDoes Try.prog B (Try.f24.body.getD .skip) ⟨⟨8, [(0, .agg z.cells)]⟩, [], 0⟩ Ex.ret ⟨⟨8, [(2, AV.s (SV.bool true))]⟩, [], 1⟩ :=
  goA_ok mix (tape := [(6, Ans.val (AV.s (SV.bool Bool.true)))]) (dl := [2]) (nl := []) (C := [(some (AV.s (SV.bool (Zn.rows z == Zn.nulls z))) = some (AV.s (SV.bool Bool.true)))]) (by kernel_rfl) ⟨claim_b (by assumption), trivial⟩
theorem none_f {B : Nat} (z : Zn) (h : (z.rows == z.nulls) = false) : CodeDoes Try.prog B (Try.f24.body.getD .skip) ⟨⟨8, [(0, .agg z.cells)]⟩, [], 0⟩ Ex.ret ⟨⟨8, [(2, AV.s (SV.bool false))]⟩, [], 1⟩ :=
  goA_ok mix (tape := [(6, Ans.val (AV.s (SV.bool Bool.false)))]) (dl := [2]) (nl := []) (C := [(some (AV.s (SV.bool (Zn.rows z == Zn.nulls z))) = some (AV.s (SV.bool Bool.false)))]) (by kernel_rfl) ⟨claim_b (by assumption), trivial⟩
theorem widen_t {B : Nat} (z x : Zn) : CodeDoes Try.prog B (Try.f23.body.getD .skip) ⟨⟨67, [(0, .s (.ptr 0 0)), (1, .agg x.cells), (2, .s (.bool true))]⟩, [(0, some ⟨z.cells, true⟩)], 1⟩ Ex.normal ⟨⟨67, []⟩, [(0, some (Blk.mk [SV.int IntKind.i64 (Zn.kind z), SV.int IntKind.i64 (Zn.rows z), SV.int IntKind.i64 (Zn.nulls z), SV.int IntKind.i64 (if false = true then if Zn.minN x > Zn.minN x then Zn.minN x else Zn.minN x else if Zn.minN x < Zn.minN x then Zn.minN x else Zn.minN x), SV.int IntKind.i64 (if true = true then if Zn.maxN x > Zn.maxN x then Zn.maxN x else Zn.maxN x else if Zn.maxN x < Zn.maxN x then Zn.maxN x else Zn.maxN x), SV.str (if false = true then if (!Op.bytesLess (Array.toList (ByteArray.data (Zn.minS x))) (Array.toList (ByteArray.data (Zn.minS x)))) = true then Zn.minS x else Zn.minS x else if (Op.bytesLess (Array.toList (ByteArray.data (Zn.minS x))) (Array.toList (ByteArray.data (Zn.minS x))) || Array.toList (ByteArray.data (Zn.minS x)) == Array.toList (ByteArray.data (Zn.minS x))) = true then Zn.minS x else Zn.minS x), SV.str (if true = true then if (!Op.bytesLess (Array.toList (ByteArray.data (Zn.maxS x))) (Array.toList (ByteArray.data (Zn.maxS x)))) = true then Zn.maxS x else Zn.maxS x else if (Op.bytesLess (Array.toList (ByteArray.data (Zn.maxS x))) (Array.toList (ByteArray.data (Zn.maxS x))) || Array.toList (ByteArray.data (Zn.maxS x)) == Array.toList (ByteArray.data (Zn.maxS x))) = true then Zn.maxS x else Zn.maxS x)] true))], 2⟩ :=
  goA_ok mix (tape := []) (dl := []) (nl := [0]) (C := []) (by kernel_rfl) trivial
theorem widen_f {B : Nat} (z x : Zn) : CodeDoes Try.prog B (Try.f23.body.getD .skip) ⟨⟨67, [(0, .s (.ptr 0 0)), (1, .agg x.cells), (2, .s (.bool false))]⟩, [(0, some ⟨z.cells, true⟩)], 1⟩ Ex.normal ⟨⟨67, []⟩, [(0, some (Blk.mk [SV.int IntKind.i64 (Zn.kind z), SV.int IntKind.i64 (Zn.rows z), SV.int IntKind.i64 (Zn.nulls z), SV.int IntKind.i64 (if false = true then if Zn.minN x > Zn.minN z then Zn.minN x else Zn.minN z else if Zn.minN x < Zn.minN z then Zn.minN x else Zn.minN z), SV.int IntKind.i64 (if true = true then if Zn.maxN x > Zn.maxN z then Zn.maxN x else Zn.maxN z else if Zn.maxN x < Zn.maxN z then Zn.maxN x else Zn.maxN z), SV.str (if false = true then if (!Op.bytesLess (Array.toList (ByteArray.data (Zn.minS z))) (Array.toList (ByteArray.data (Zn.minS x)))) = true then Zn.minS z else Zn.minS x else if (Op.bytesLess (Array.toList (ByteArray.data (Zn.minS z))) (Array.toList (ByteArray.data (Zn.minS x))) || Array.toList (ByteArray.data (Zn.minS z)) == Array.toList (ByteArray.data (Zn.minS x))) = true then Zn.minS z else Zn.minS x), SV.str (if true = true then if (!Op.bytesLess (Array.toList (ByteArray.data (Zn.maxS z))) (Array.toList (ByteArray.data (Zn.maxS x)))) = true then Zn.maxS z else Zn.maxS x else if (Op.bytesLess (Array.toList (ByteArray.data (Zn.maxS z))) (Array.toList (ByteArray.data (Zn.maxS x))) || Array.toList (ByteArray.data (Zn.maxS z)) == Array.toList (ByteArray.data (Zn.maxS x))) = true then Zn.maxS z else Zn.maxS x)] true))], 2⟩ :=
  goA_ok mix (tape := []) (dl := []) (nl := [0]) (C := []) (by kernel_rfl) trivial
theorem few_0s {B : Nat} (L : List Cl) (cp : Option Nat) (o : Bool) (h : 0 < L.length) (hs : 41 < (L.getD 0 Cl0).s.size) : CodeDoes Try.prog B (Lf (Lf (Rt (Lf (Rt (Rt (Try.f10.body.getD .skip))))))) ⟨⟨33, [(0, .s (.sl 0 0 L.length cp 4)), (3, .s .sl0), (4, .s (.int .i64 ((0 : Nat) : Int)))]⟩, [(0, some ⟨flat Cl.cells L, o⟩)], 1⟩ Ex.normal ⟨⟨33, [(0, AV.s (SV.sl 0 0 (List.length L) cp 4)), (3, AV.s (SV.sl 3 0 1 none 4)), (4, AV.s (SV.int IntKind.i64 1))]⟩, [(0, some (Blk.mk (flat Cl.cells L) o)), (3, some (Blk.mk [SV.str (Cl.col (List.getD L 0 Cl0)), SV.int IntKind.i64 (Cl.kind (List.getD L 0 Cl0)), SV.int IntKind.i64 (Cl.n (List.getD L 0 Cl0)), SV.str (ByteArray.extract (Cl.s (List.getD L 0 Cl0)) 0 41)] true))], 4⟩ :=
  goA_ok mix (tape := [(3, Ans.val (AV.s (SV.bool Bool.true))), (10, Ans.val (AV.s (SV.ptr 0 (0 + 0 * 4)))), (11, Ans.val (AV.agg (Cl.cells (List.getD L 0 Cl0)))), (17, Ans.val (AV.s (SV.bool Bool.true))), (20, Ans.val (AV.s (SV.str (ByteArray.extract (Cl.s (List.getD L 0 Cl0)) 0 41))))]) (dl := [0, 3, 4]) (nl := [0, 3]) (C := [((evSlice Try.prog 9 (AV.s (SV.str (Cl.s (List.getD L 0 Cl0)))) none (some (AV.s (SV.int IntKind.i64 41))) none) = some (AV.s (SV.str (ByteArray.extract (Cl.s (List.getD L 0 Cl0)) 0 41)))), (some (AV.s (SV.bool (decide ((↑(ByteArray.size (Cl.s (List.getD L 0 Cl0))) : Int) > 41)))) = some (AV.s (SV.bool Bool.true))), ((loadG Try.prog 24 (AV.s (SV.ptr 0 0)) fun (x : Nat) => some (Blk.mk (flat Cl.cells L) o)) = some (AV.agg (Cl.cells (List.getD L 0 Cl0)))), ((evIndexAddr Try.prog 22 (AV.s (SV.sl 0 0 (List.length L) cp 4)) (AV.s (SV.int IntKind.i64 0))) = some (AV.s (SV.ptr 0 (0 + 0 * 4)))), (some (AV.s (SV.bool (decide (0 < (↑(List.length L) : Int))))) = some (AV.s (SV.bool Bool.true)))]) (by kernel_rfl) ⟨by (apply claim_strto <;> first | exact el22 | exact sz24 | exact by24 | exact zr24 | exact ag24 | exact un9 | exact sz2 | exact ag2 | exact flat_length _ 4 cl_len _ | rfl | assumption | omega | (unfold maxLen; omega) | decide), claim_b (by exact decide_eq_true (by omega)), by (apply load_cell0 <;> first | exact el22 | exact sz24 | exact by24 | exact zr24 | exact ag24 | exact un9 | exact sz2 | exact ag2 | exact flat_length _ 4 cl_len _ | rfl | assumption | omega | (unfold maxLen; omega) | decide), by (apply claim_index <;> first | exact el22 | exact sz24 | exact by24 | exact zr24 | exact ag24 | exact un9 | exact sz2 | exact ag2 | exact flat_length _ 4 cl_len _ | rfl | assumption | omega | (unfold maxLen; omega) | decide), claim_b (by exact decide_eq_true (by omega)), trivial⟩
theorem few_0n {B : Nat} (L : List Cl) (cp : Option Nat) (o : Bool) (h : 0 < L.length) (hs : ¬ 41 < (L.getD 0 Cl0).s.size) : CodeDoes Try.prog B (Lf (Lf (Rt (Lf (Rt (Rt (Try.f10.body.getD .skip))))))) ⟨⟨33, [(0, .s (.sl 0 0 L.length cp 4)), (3, .s .sl0), (4, .s (.int .i64 ((0 : Nat) : Int)))]⟩, [(0, some ⟨flat Cl.cells L, o⟩)], 1⟩ Ex.normal ⟨⟨33, [(0, AV.s (SV.sl 0 0 (List.length L) cp 4)), (3, AV.s (SV.sl 3 0 1 none 4)), (4, AV.s (SV.int IntKind.i64 1))]⟩, [(0, some (Blk.mk (flat Cl.cells L) o)), (3, some (Blk.mk [SV.str (Cl.col (List.getD L 0 Cl0)), SV.int IntKind.i64 (Cl.kind (List.getD L 0 Cl0)), SV.int IntKind.i64 (Cl.n (List.getD L 0 Cl0)), SV.str (Cl.s (List.getD L 0 Cl0))] true))], 4⟩ :=
  goA_ok mix (tape := [(3, Ans.val (AV.s (SV.bool Bool.true))), (10, Ans.val (AV.s (SV.ptr 0 (0 + 0 * 4)))), (11, Ans.val (AV.agg (Cl.cells (List.getD L 0 Cl0)))), (17, Ans.val (AV.s (SV.bool Bool.false)))]) (dl := [0, 3, 4]) (nl := [0, 3]) (C := [(some (AV.s (SV.bool (decide ((↑(ByteArray.size (Cl.s (List.getD L 0 Cl0))) : Int) > 41)))) = some (AV.s (SV.bool Bool.false))), ((loadG Try.prog 24 (AV.s (SV.ptr 0 0)) fun (x : Nat) => some (Blk.mk (flat Cl.cells L) o)) = some (AV.agg (Cl.cells (List.getD L 0 Cl0)))), ((evIndexAddr Try.prog 22 (AV.s (SV.sl 0 0 (List.length L) cp 4)) (AV.s (SV.int IntKind.i64 0))) = some (AV.s (SV.ptr 0 (0 + 0 * 4)))), (some (AV.s (SV.bool (decide (0 < (↑(List.length L) : Int))))) = some (AV.s (SV.bool Bool.true)))]) (by kernel_rfl) ⟨claim_b (by exact decide_eq_false (by omega)), by (apply load_cell0 <;> first | exact el22 | exact sz24 | exact by24 | exact zr24 | exact ag24 | exact un9 | exact sz2 | exact ag2 | exact flat_length _ 4 cl_len _ | rfl | assumption | omega | (unfold maxLen; omega) | decide), by (apply claim_index <;> first | exact el22 | exact sz24 | exact by24 | exact zr24 | exact ag24 | exact un9 | exact sz2 | exact ag2 | exact flat_length _ 4 cl_len _ | rfl | assumption | omega | (unfold maxLen; omega) | decide), claim_b (by exact decide_eq_true (by omega)), trivial⟩
theorem few_s {B : Nat} (L : List Cl) (cp : Option Nat) (o : Bool) (O : List Cl) (i : Nat) (h : i < L.length) (h40 : i < 40) (hO : O.length ≤ 40) (hs : 41 < (L.getD i Cl0).s.size) : CodeDoes Try.prog B (Lf (Lf (Rt (Lf (Rt (Rt (Try.f10.body.getD .skip))))))) ⟨⟨33, [(0, .s (.sl 0 0 L.length cp 4)), (3, .s (.sl 1 0 O.length none 4)), (4, .s (.int .i64 (i : Int)))]⟩, [(0, some ⟨flat Cl.cells L, o⟩), (1, some ⟨flat Cl.cells O, true⟩)], 2⟩ Ex.normal ⟨⟨33, [(0, AV.s (SV.sl 0 0 (List.length L) cp 4)), (3, AV.s (SV.sl 4 0 (List.length O + 1) none 4)), (4, AV.s (SV.int IntKind.i64 ((↑i : Int) + 1)))]⟩, [(0, some (Blk.mk (flat Cl.cells L) o)), (4, some (Blk.mk (flat Cl.cells O ++ List.take (1 * 4) (List.drop 0 [SV.str (Cl.col (List.getD L i Cl0)), SV.int IntKind.i64 (Cl.kind (List.getD L i Cl0)), SV.int IntKind.i64 (Cl.n (List.getD L i Cl0)), SV.str (ByteArray.extract (Cl.s (List.getD L i Cl0)) 0 41)])) true))], 5⟩ :=
  goA_ok mix (tape := [(3, Ans.val (AV.s (SV.bool Bool.true))), (6, Ans.val (AV.s (SV.bool Bool.true))), (10, Ans.val (AV.s (SV.ptr 0 (0 + i * 4)))), (11, Ans.val (AV.agg (Cl.cells (List.getD L i Cl0)))), (17, Ans.val (AV.s (SV.bool Bool.true))), (20, Ans.val (AV.s (SV.str (ByteArray.extract (Cl.s (List.getD L i Cl0)) 0 41)))), (26, Ans.mem (AV.s (SV.sl 4 0 (List.length O + 1) none 4)) [(4, some (Blk.mk (flat Cl.cells O ++ List.take (1 * 4) (List.drop 0 [SV.str (Cl.col (List.getD L i Cl0)), SV.int IntKind.i64 (Cl.kind (List.getD L i Cl0)), SV.int IntKind.i64 (Cl.n (List.getD L i Cl0)), SV.str (ByteArray.extract (Cl.s (List.getD L i Cl0)) 0 41)])) true)), (1, none)] 5), (29, Ans.val (AV.s (SV.int IntKind.i64 ((↑i : Int) + 1))))]) (dl := [0, 3, 4]) (nl := [0, 4]) (C := [(some (AV.s (SV.int IntKind.i64 (IntKind.wrap IntKind.i64 ((↑i : Int) + 1)))) = some (AV.s (SV.int IntKind.i64 ((↑i : Int) + 1)))), ((less 2 (evAppend Try.prog 22 22 (AV.s (SV.sl 1 0 (List.length O) none 4)) (AV.s (SV.sl 3 0 1 none 4)) [(1, some (Blk.mk (flat Cl.cells O) true)), (3, some (Blk.mk [SV.str (Cl.col (List.getD L i Cl0)), SV.int IntKind.i64 (Cl.kind (List.getD L i Cl0)), SV.int IntKind.i64 (Cl.n (List.getD L i Cl0)), SV.str (ByteArray.extract (Cl.s (List.getD L i Cl0)) 0 41)] true))] 4)) = some (AV.s (SV.sl 4 0 (List.length O + 1) none 4), [(4, some (Blk.mk (flat Cl.cells O ++ List.take (1 * 4) (List.drop 0 [SV.str (Cl.col (List.getD L i Cl0)), SV.int IntKind.i64 (Cl.kind (List.getD L i Cl0)), SV.int IntKind.i64 (Cl.n (List.getD L i Cl0)), SV.str (ByteArray.extract (Cl.s (List.getD L i Cl0)) 0 41)])) true)), (1, none)], 5)), ((evSlice Try.prog 9 (AV.s (SV.str (Cl.s (List.getD L i Cl0)))) none (some (AV.s (SV.int IntKind.i64 41))) none) = some (AV.s (SV.str (ByteArray.extract (Cl.s (List.getD L i Cl0)) 0 41)))), (some (AV.s (SV.bool (decide ((↑(ByteArray.size (Cl.s (List.getD L i Cl0))) : Int) > 41)))) = some (AV.s (SV.bool Bool.true))), ((loadG Try.prog 24 (AV.s (SV.ptr 0 (0 + i * 4))) fun (x : Nat) => some (Blk.mk (flat Cl.cells L) o)) = some (AV.agg (Cl.cells (List.getD L i Cl0)))), ((evIndexAddr Try.prog 22 (AV.s (SV.sl 0 0 (List.length L) cp 4)) (AV.s (SV.int IntKind.i64 (↑i : Int)))) = some (AV.s (SV.ptr 0 (0 + i * 4)))), (some (AV.s (SV.bool (decide ((↑i : Int) < 40)))) = some (AV.s (SV.bool Bool.true))), (some (AV.s (SV.bool (decide ((↑i : Int) < (↑(List.length L) : Int))))) = some (AV.s (SV.bool Bool.true)))]) (by kernel_rfl) ⟨claim_i (by exact wrap_i64 (by omega) (by omega)), by (apply claim_append <;> first | exact el22 | exact sz24 | exact by24 | exact zr24 | exact ag24 | exact un9 | exact sz2 | exact ag2 | exact flat_length _ 4 cl_len _ | rfl | assumption | omega | (unfold maxLen; omega) | decide), by (apply claim_strto <;> first | exact el22 | exact sz24 | exact by24 | exact zr24 | exact ag24 | exact un9 | exact sz2 | exact ag2 | exact flat_length _ 4 cl_len _ | rfl | assumption | omega | (unfold maxLen; omega) | decide), claim_b (by exact decide_eq_true (by omega)), by (apply load_cell <;> first | exact el22 | exact sz24 | exact by24 | exact zr24 | exact ag24 | exact un9 | exact sz2 | exact ag2 | exact flat_length _ 4 cl_len _ | rfl | assumption | omega | (unfold maxLen; omega) | decide), by (apply claim_index <;> first | exact el22 | exact sz24 | exact by24 | exact zr24 | exact ag24 | exact un9 | exact sz2 | exact ag2 | exact flat_length _ 4 cl_len _ | rfl | assumption | omega | (unfold maxLen; omega) | decide), claim_b (by exact decide_eq_true (by omega)), claim_b (by exact decide_eq_true (by omega)), trivial⟩
theorem few_n {B : Nat} (L : List Cl) (cp : Option Nat) (o : Bool) (O : List Cl) (i : Nat) (h : i < L.length) (h40 : i < 40) (hO : O.length ≤ 40) (hs : ¬ 41 < (L.getD i Cl0).s.size) : CodeDoes Try.prog B (Lf (Lf (Rt (Lf (Rt (Rt (Try.f10.body.getD .skip))))))) ⟨⟨33, [(0, .s (.sl 0 0 L.length cp 4)), (3, .s (.sl 1 0 O.length none 4)), (4, .s (.int .i64 (i : Int)))]⟩, [(0, some ⟨flat Cl.cells L, o⟩), (1, some ⟨flat Cl.cells O, true⟩)], 2⟩ Ex.normal ⟨⟨33, [(0, AV.s (SV.sl 0 0 (List.length L) cp 4)), (3, AV.s (SV.sl 4 0 (List.length O + 1) none 4)), (4, AV.s (SV.int IntKind.i64 ((↑i : Int) + 1)))]⟩, [(0, some (Blk.mk (flat Cl.cells L) o)), (4, some (Blk.mk (flat Cl.cells O ++ List.take (1 * 4) (List.drop 0 [SV.str (Cl.col (List.getD L i Cl0)), SV.int IntKind.i64 (Cl.kind (List.getD L i Cl0)), SV.int IntKind.i64 (Cl.n (List.getD L i Cl0)), SV.str (Cl.s (List.getD L i Cl0))])) true))], 5⟩ :=
  goA_ok mix (tape := [(3, Ans.val (AV.s (SV.bool Bool.true))), (6, Ans.val (AV.s (SV.bool Bool.true))), (10, Ans.val (AV.s (SV.ptr 0 (0 + i * 4)))), (11, Ans.val (AV.agg (Cl.cells (List.getD L i Cl0)))), (17, Ans.val (AV.s (SV.bool Bool.false))), (21, Ans.mem (AV.s (SV.sl 4 0 (List.length O + 1) none 4)) [(4, some (Blk.mk (flat Cl.cells O ++ List.take (1 * 4) (List.drop 0 [SV.str (Cl.col (List.getD L i Cl0)), SV.int IntKind.i64 (Cl.kind (List.getD L i Cl0)), SV.int IntKind.i64 (Cl.n (List.getD L i Cl0)), SV.str (Cl.s (List.getD L i Cl0))])) true)), (1, none)] 5), (24, Ans.val (AV.s (SV.int IntKind.i64 ((↑i : Int) + 1))))]) (dl := [0, 3, 4]) (nl := [0, 4]) (C := [(some (AV.s (SV.int IntKind.i64 (IntKind.wrap IntKind.i64 ((↑i : Int) + 1)))) = some (AV.s (SV.int IntKind.i64 ((↑i : Int) + 1)))), ((less 2 (evAppend Try.prog 22 22 (AV.s (SV.sl 1 0 (List.length O) none 4)) (AV.s (SV.sl 3 0 1 none 4)) [(1, some (Blk.mk (flat Cl.cells O) true)), (3, some (Blk.mk [SV.str (Cl.col (List.getD L i Cl0)), SV.int IntKind.i64 (Cl.kind (List.getD L i Cl0)), SV.int IntKind.i64 (Cl.n (List.getD L i Cl0)), SV.str (Cl.s (List.getD L i Cl0))] true))] 4)) = some (AV.s (SV.sl 4 0 (List.length O + 1) none 4), [(4, some (Blk.mk (flat Cl.cells O ++ List.take (1 * 4) (List.drop 0 [SV.str (Cl.col (List.getD L i Cl0)), SV.int IntKind.i64 (Cl.kind (List.getD L i Cl0)), SV.int IntKind.i64 (Cl.n (List.getD L i Cl0)), SV.str (Cl.s (List.getD L i Cl0))])) true)), (1, none)], 5)), (some (AV.s (SV.bool (decide ((↑(ByteArray.size (Cl.s (List.getD L i Cl0))) : Int) > 41)))) = some (AV.s (SV.bool Bool.false))), ((loadG Try.prog 24 (AV.s (SV.ptr 0 (0 + i * 4))) fun (x : Nat) => some (Blk.mk (flat Cl.cells L) o)) = some (AV.agg (Cl.cells (List.getD L i Cl0)))), ((evIndexAddr Try.prog 22 (AV.s (SV.sl 0 0 (List.length L) cp 4)) (AV.s (SV.int IntKind.i64 (↑i : Int)))) = some (AV.s (SV.ptr 0 (0 + i * 4)))), (some (AV.s (SV.bool (decide ((↑i : Int) < 40)))) = some (AV.s (SV.bool Bool.true))), (some (AV.s (SV.bool (decide ((↑i : Int) < (↑(List.length L) : Int))))) = some (AV.s (SV.bool Bool.true)))]) (by kernel_rfl) ⟨claim_i (by exact wrap_i64 (by omega) (by omega)), by (apply claim_append <;> first | exact el22 | exact sz24 | exact by24 | exact zr24 | exact ag24 | exact un9 | exact sz2 | exact ag2 | exact flat_length _ 4 cl_len _ | rfl | assumption | omega | (unfold maxLen; omega) | decide), claim_b (by exact decide_eq_false (by omega)), by (apply load_cell <;> first | exact el22 | exact sz24 | exact by24 | exact zr24 | exact ag24 | exact un9 | exact sz2 | exact ag2 | exact flat_length _ 4 cl_len _ | rfl | assumption | omega | (unfold maxLen; omega) | decide), by (apply claim_index <;> first | exact el22 | exact sz24 | exact by24 | exact zr24 | exact ag24 | exact un9 | exact sz2 | exact ag2 | exact flat_length _ 4 cl_len _ | rfl | assumption | omega | (unfold maxLen; omega) | decide), claim_b (by exact decide_eq_true (by omega)), claim_b (by exact decide_eq_true (by omega)), trivial⟩
theorem few_e {B : Nat} (L : List Cl) (cp : Option Nat) (o : Bool) (O : List Cl) (i : Nat) (h : ¬ i < L.length) : CodeDoes Try.prog B (Lf (Lf (Rt (Lf (Rt (Rt (Try.f10.body.getD .skip))))))) ⟨⟨33, [(0, .s (.sl 0 0 L.length cp 4)), (3, .s (.sl 1 0 O.length none 4)), (4, .s (.int .i64 (i : Int)))]⟩, [(0, some ⟨flat Cl.cells L, o⟩), (1, some ⟨flat Cl.cells O, true⟩)], 2⟩ (Ex.exit 0) ⟨⟨33, [(0, AV.s (SV.sl 0 0 (List.length L) cp 4)), (3, AV.s (SV.sl 1 0 (List.length O) none 4)), (4, AV.s (SV.int IntKind.i64 (↑i : Int)))]⟩, [(0, some (Blk.mk (flat Cl.cells L) o)), (1, some (Blk.mk (flat Cl.cells O) true))], 2⟩ :=
  goA_ok mix (tape := [(3, Ans.val (AV.s (SV.bool Bool.false)))]) (dl := [0, 3, 4]) (nl := [0, 1]) (C := [(some (AV.s (SV.bool (decide ((↑i : Int) < (↑(List.length L) : Int))))) = some (AV.s (SV.bool Bool.false)))]) (by kernel_rfl) ⟨claim_b (by exact decide_eq_false (by omega)), trivial⟩
theorem few_f {B : Nat} (L : List Cl) (cp : Option Nat) (o : Bool) (O : List Cl) (i : Nat) (h : i < L.length) (h40 : ¬ i < 40) : CodeDoes Try.prog B (Lf (Lf (Rt (Lf (Rt (Rt (Try.f10.body.getD .skip))))))) ⟨⟨33, [(0, .s (.sl 0 0 L.length cp 4)), (3, .s (.sl 1 0 O.length none 4)), (4, .s (.int .i64 (i : Int)))]⟩, [(0, some ⟨flat Cl.cells L, o⟩), (1, some ⟨flat Cl.cells O, true⟩)], 2⟩ (Ex.exit 0) ⟨⟨33, [(0, AV.s (SV.sl 0 0 (List.length L) cp 4)), (3, AV.s (SV.sl 1 0 (List.length O) none 4)), (4, AV.s (SV.int IntKind.i64 (↑i : Int)))]⟩, [(0, some (Blk.mk (flat Cl.cells L) o)), (1, some (Blk.mk (flat Cl.cells O) true))], 2⟩ :=
  goA_ok mix (tape := [(3, Ans.val (AV.s (SV.bool Bool.true))), (6, Ans.val (AV.s (SV.bool Bool.false)))]) (dl := [0, 3, 4]) (nl := [0, 1]) (C := [(some (AV.s (SV.bool (decide ((↑i : Int) < 40)))) = some (AV.s (SV.bool Bool.false))), (some (AV.s (SV.bool (decide ((↑i : Int) < (↑(List.length L) : Int))))) = some (AV.s (SV.bool Bool.true)))]) (by kernel_rfl) ⟨claim_b (by exact decide_eq_false (by omega)), claim_b (by exact decide_eq_true (by omega)), trivial⟩
theorem few_0e {B : Nat} (L : List Cl) (cp : Option Nat) (o : Bool) (h : ¬ 0 < L.length) : CodeDoes Try.prog B (Lf (Lf (Rt (Lf (Rt (Rt (Try.f10.body.getD .skip))))))) ⟨⟨33, [(0, .s (.sl 0 0 L.length cp 4)), (3, .s .sl0), (4, .s (.int .i64 ((0 : Nat) : Int)))]⟩, [(0, some ⟨flat Cl.cells L, o⟩)], 1⟩ (Ex.exit 0) ⟨⟨33, [(0, AV.s (SV.sl 0 0 (List.length L) cp 4)), (3, AV.s SV.sl0), (4, AV.s (SV.int IntKind.i64 0))]⟩, [(0, some (Blk.mk (flat Cl.cells L) o))], 1⟩ :=
  goA_ok mix (tape := [(3, Ans.val (AV.s (SV.bool Bool.false)))]) (dl := [0, 3, 4]) (nl := [0]) (C := [(some (AV.s (SV.bool (decide (0 < (↑(List.length L) : Int))))) = some (AV.s (SV.bool Bool.false)))]) (by kernel_rfl) ⟨claim_b (by exact decide_eq_false (by omega)), trivial⟩

abbrev cutC (x : Cl) : Cl := if 41 < x.s.size then ⟨x.col, x.kind, x.n, x.s.extract 0 41⟩ else x
abbrev fewS (L : List Cl) (cp : Option Nat) (o : Bool) (out : AV) (i : Nat) (M : Mem) (c : Nat) : St := ⟨⟨33, [(0, .s (.sl 0 0 L.length cp 4)), (3, out), (4, .s (.int .i64 (i : Int)))]⟩, (0, some ⟨flat Cl.cells L, o⟩) :: M, c⟩
theorem few_it {B : Nat} (L : List Cl) (cp : Option Nat) (o : Bool) (O : List Cl) (i n c : Nat) (h : i < L.length) (h40 : i < 40) (hO : O.length ≤ 40) (hn : 0 < n) (hc : n < c) :
    CodeDoes Try.prog B (Lf (Lf (Rt (Lf (Rt (Rt (Try.f10.body.getD .skip))))))) (fewS L cp o (.s (.sl n 0 O.length none 4)) i [(n, some ⟨flat Cl.cells O, true⟩)] c) .normal
      (fewS L cp o (.s (.sl c 0 (O ++ [cutC (L.getD i Cl0)]).length none 4)) (i + 1) [(c, some ⟨flat Cl.cells (O ++ [cutC (L.getD i Cl0)]), true⟩)] (c + 1)) := by
  have key : ∀ x : Cl, CodeDoes Try.prog B (Lf (Lf (Rt (Lf (Rt (Rt (Try.f10.body.getD .skip))))))) (fewS L cp o (.s (.sl 1 0 O.length none 4)) i [(1, some ⟨flat Cl.cells O, true⟩)] 2) .normal (fewS L cp o (.s (.sl 4 0 (O ++ [x]).length none 4)) (i + 1) [(4, some ⟨flat Cl.cells (O ++ [x]), true⟩)] 5) →
      CodeDoes Try.prog B (Lf (Lf (Rt (Lf (Rt (Rt (Try.f10.body.getD .skip))))))) (fewS L cp o (.s (.sl n 0 O.length none 4)) i [(n, some ⟨flat Cl.cells O, true⟩)] c) .normal (fewS L cp o (.s (.sl c 0 (O ++ [x]).length none 4)) (i + 1) [(c, some ⟨flat Cl.cells (O ++ [x]), true⟩)] (c + 1)) := by
    intro x h
    have := h.names (fun k => if k = 1 then n else if k = 4 then c else k) [0, 1, 4] (c := c) (c' := c + 1) ⟨by simp; omega, by simp; omega, by simp, by omega⟩ (by simp [avNames, svNames]) (by simp)
      (names_get (by simp [cl_bare.blk])) (by simp [avNames, svNames]) (by simp) (names_get' (by simp [cl_bare.blk]))
    simpa [fewS, rnL, rnX, rnV, rnM, rnB, cl_bare.flat_rn] using this
  refine key _ ?_
  have e1 : flat Cl.cells (O ++ [cutC (L.getD i Cl0)]) = flat Cl.cells O ++ (cutC (L.getD i Cl0)).cells := by rw [flat_append]; simp [flat]
  by_cases hs : 41 < (L.getD i Cl0).s.size
  · have := few_s (B := B) L cp o O i h h40 hO hs
    rw [e1]
    simp only [cutC, hs, if_true]
    simpa [fewS] using this
  · have := few_n (B := B) L cp o O i h h40 hO hs
    rw [e1]
    simp only [cutC, hs, if_false]
    simpa [fewS] using this

theorem few_first {B : Nat} (L : List Cl) (cp : Option Nat) (o : Bool) (h : 0 < L.length) :
    CodeDoes Try.prog B (Lf (Lf (Rt (Lf (Rt (Rt (Try.f10.body.getD .skip))))))) (fewS L cp o (.s .sl0) 0 [] 1) .normal (fewS L cp o (.s (.sl 1 0 [cutC (L.getD 0 Cl0)].length none 4)) 1 [(1, some ⟨flat Cl.cells [cutC (L.getD 0 Cl0)], true⟩)] 2) := by
  have key : ∀ x : Cl, CodeDoes Try.prog B (Lf (Lf (Rt (Lf (Rt (Rt (Try.f10.body.getD .skip))))))) (fewS L cp o (.s .sl0) 0 [] 1) .normal (fewS L cp o (.s (.sl 3 0 1 none 4)) 1 [(3, some ⟨flat Cl.cells [x], true⟩)] 4) →
      CodeDoes Try.prog B (Lf (Lf (Rt (Lf (Rt (Rt (Try.f10.body.getD .skip))))))) (fewS L cp o (.s .sl0) 0 [] 1) .normal (fewS L cp o (.s (.sl 1 0 1 none 4)) 1 [(1, some ⟨flat Cl.cells [x], true⟩)] 2) := by
    intro x h
    have := h.names (fun k => if k = 3 then 1 else k) [0, 3] (c := 1) (c' := 2) ⟨by simp, by simp, by simp, by omega⟩ (by simp [avNames, svNames]) (by simp)
      (names_get (by simp [cl_bare.blk])) (by simp [avNames, svNames]) (by simp) (names_get' (by simp [cl_bare.blk]))
    simpa [fewS, rnL, rnX, rnV, rnM, rnB, cl_bare.flat_rn] using this
  refine key _ ?_
  by_cases hs : 41 < (L.getD 0 Cl0).s.size
  · have := few_0s (B := B) L cp o h hs
    simp only [cutC, hs, if_true]
    simpa [fewS, flat] using this
  · have := few_0n (B := B) L cp o h hs
    simp only [cutC, hs, if_false]
    simpa [fewS, flat] using this
abbrev fewL (L : List Cl) : List Cl := (L.take 40).map cutC
theorem few_rounds {B : Nat} (L : List Cl) (cp : Option Nat) (o : Bool) : ∀ (k i n c : Nat) (O : List Cl), k = min L.length 40 - i → i ≤ min L.length 40 → O = (L.take i).map cutC → 0 < n → n < c →
    ∃ n' c', 0 < n' ∧ n' < c' ∧ (n' = n ∨ c ≤ n') ∧ c ≤ c' ∧ LoopDoes Try.prog B (Lf (Lf (Rt (Lf (Rt (Rt (Try.f10.body.getD .skip))))))) (fewS L cp o (.s (.sl n 0 O.length none 4)) i [(n, some ⟨flat Cl.cells O, true⟩)] c) (.exit 0)
      (fewS L cp o (.s (.sl n' 0 (fewL L).length none 4)) (min L.length 40) [(n', some ⟨flat Cl.cells (fewL L), true⟩)] c')
  | 0, i, n, c, O, hk, hi, hO, hn, hc => by
    have he : i = min L.length 40 := by omega
    have hOL : O = fewL L := by
      rw [hO, he]
      show (L.take (min L.length 40)).map cutC = (L.take 40).map cutC
      rw [Nat.min_comm, ← List.take_eq_take_min]
    refine ⟨n, c, hn, hc, .inl rfl, Nat.le_refl _, LoopDoes.last ?_ (by simp)⟩
    rw [← he, ← hOL]
    have key : CodeDoes Try.prog B (Lf (Lf (Rt (Lf (Rt (Rt (Try.f10.body.getD .skip))))))) (fewS L cp o (.s (.sl 1 0 O.length none 4)) i [(1, some ⟨flat Cl.cells O, true⟩)] 2) (.exit 0) (fewS L cp o (.s (.sl 1 0 O.length none 4)) i [(1, some ⟨flat Cl.cells O, true⟩)] 2) := by
      by_cases h : i < L.length
      · exact few_f L cp o O i h (by omega)
      · exact few_e L cp o O i h
    have := key.names (fun k => if k = 1 then n else k) [0, 1] (c := c) (c' := c) ⟨by simp; omega, by simp; omega, by simp, by omega⟩ (by simp [avNames, svNames]) (by simp)
      (names_get (by simp [cl_bare.blk])) (by simp [avNames, svNames]) (by simp) (names_get' (by simp [cl_bare.blk]))
    simpa [fewS, rnL, rnX, rnV, rnM, rnB, cl_bare.flat_rn] using this
  | k + 1, i, n, c, O, hk, hi, hO, hn, hc => by
    have hlt : i < L.length := by omega
    have hlen : O.length ≤ 40 := by rw [hO, List.length_map, List.length_take]; omega
    have hO' : O ++ [cutC (L.getD i Cl0)] = (L.take (i + 1)).map cutC := by
      rw [hO, List.take_add_one, List.map_append]
      simp [hlt]
    obtain ⟨n', c', h1, h2, h3, h4, h5⟩ := few_rounds L cp o k (i + 1) c (c + 1) _ (by omega) (by omega) hO' (by omega) (by omega)
    exact ⟨n', c', h1, h2, .inr (by omega), by omega, LoopDoes.more (few_it L cp o O i n c hlt (by omega) hlen hn hc) h5⟩
/-- The loop, whole, its names let go. -/
theorem few_loop {B : Nat} (L : List Cl) (cp : Option Nat) (o : Bool) (h : 0 < L.length) : CodeDoes Try.prog B (Lf (Rt (Lf (Rt (Rt (Try.f10.body.getD .skip)))))) (fewS L cp o (.s .sl0) 0 [] 1) (.exit 0)
    ⟨⟨33, [(3, .s (.sl 1 0 (fewL L).length none 4))]⟩, [(0, some ⟨flat Cl.cells L, o⟩), (1, some ⟨flat Cl.cells (fewL L), true⟩)], 2⟩ := by
  obtain ⟨n', c', h1, h2, h3, h4, h5⟩ := few_rounds (B := B) L cp o _ 1 1 2 [cutC (L.getD 0 Cl0)] rfl (by omega) (by
    cases L with
    | nil => simp at h
    | cons x r => simp) (by omega) (by omega)
  have h6 : CodeDoes Try.prog B (Lf (Rt (Lf (Rt (Rt (Try.f10.body.getD .skip)))))) _ _ _ := CodeDoes.loopAt (by kernel_rfl) (LoopDoes.more (few_first L cp o h) h5)
  have := h6.names (fun k => if k = n' then 1 else k) [0, n'] (c := 1) (c' := 2) ⟨by simp; omega, by simp; omega, by simp; omega, by omega⟩ (by simp [avNames, svNames]) (by simp)
      (names_get (by simp [cl_bare.blk])) (by simp [avNames, svNames]) (by simp) (names_get' (by simp [cl_bare.blk]))
  have h0 : ¬ 0 = n' := by omega
  simp only [rnL, rnX, rnV, rnM, rnB, cl_bare.flat_rn, List.map_cons, List.map_nil, Option.map_some, if_true, h0, if_false] at this
  exact this.after (less_of rfl (fun e he => by simp only [List.mem_cons, List.not_mem_nil, or_false] at he; subst he; rfl) (fun _ _ h => h) rfl)
theorem few_all {B : Nat} (L : List Cl) (cp : Option Nat) (o : Bool) (h : 0 < L.length) : CodeDoes Try.prog B (Try.f10.body.getD .skip) ⟨⟨33, [(0, .s (.sl 0 0 L.length cp 4))]⟩, [(0, some ⟨flat Cl.cells L, o⟩)], 1⟩ Ex.ret ⟨⟨33, [(2, AV.s (SV.sl 1 0 (List.length (fewL L)) none 4))]⟩, [(0, some (Blk.mk (flat Cl.cells L) o)), (1, some (Blk.mk (flat Cl.cells (fewL L)) true))], 2⟩ :=
  goA_ok mix (tape := [(3, Ans.loop [0, 3, 4] [0] (Ex.exit 0) (St.mk (Tm.mk 33 [(3, AV.s (SV.sl 1 0 (List.length (fewL L)) none 4))]) [(0, some (Blk.mk (flat Cl.cells L) o)), (1, some (Blk.mk (flat Cl.cells (fewL L)) true))] 2))]) (dl := [2]) (nl := [0, 1]) (C := [(CodeDoes Try.prog B (Lf (Rt (Lf (Rt (Rt (Try.f10.body.getD .skip)))))) (fewS L cp o (AV.s SV.sl0) 0 [] 1) (Ex.exit 0) (St.mk (Tm.mk 33 [(3, AV.s (SV.sl 1 0 (List.length (fewL L)) none 4))]) [(0, some (Blk.mk (flat Cl.cells L) o)), (1, some (Blk.mk (flat Cl.cells (fewL L)) true))] 2))]) (by kernel_rfl) ⟨by (apply few_loop <;> first | exact el22 | exact sz24 | exact by24 | exact zr24 | exact ag24 | exact un9 | exact sz2 | exact ag2 | exact flat_length _ 4 cl_len _ | rfl | assumption | omega | (unfold maxLen; omega) | decide), trivial⟩
end Go.Proofs.Ytgejenhcloiieaa.Z8
