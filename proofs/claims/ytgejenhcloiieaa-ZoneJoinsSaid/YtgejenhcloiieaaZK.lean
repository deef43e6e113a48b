/- ZoneJoins: its loops. Printed by gen_zonek.py. -/
import Derived.Test.YtgejenhcloiieaaZJ
import Derived.Test.YtgejenhcloiieaaProg
import Derived.KernelRfl
namespace Go.Proofs.Ytgejenhcloiieaa.Z8
open Go Go.RowKit Go.Proofs Go.Proofs.Ytgejenhcloiieaa.Eng
set_option linter.unusedVariables false
set_option linter.unusedSimpArgs false

theorem sz3 : tsize Try.prog 3 = some 1 := by kernel_rfl
theorem ag3 : tagg Try.prog 3 = some false := by kernel_rfl
theorem sz9 : tsize Try.prog 9 = some 1 := by kernel_rfl
theorem ag9 : tagg Try.prog 9 = some false := by kernel_rfl
theorem flat_at : ∀ (L : List Cl) (i j : Nat), i < L.length → j < 4 → (flat Cl.cells L)[i * 4 + j]? = (L.getD i Cl0).cells[j]?
  | [], i, j, h, hj => by simp at h
  | x :: L, 0, j, h, hj => by
    rw [show flat Cl.cells (x :: L) = x.cells ++ flat Cl.cells L by simp [flat]]
    rw [List.getElem?_append_left (by simp; omega)]
    simp
  | x :: L, i + 1, j, h, hj => by
    rw [show flat Cl.cells (x :: L) = x.cells ++ flat Cl.cells L by simp [flat]]
    rw [List.getElem?_append_right (by simp; omega)]
    have := flat_at L i j (by simpa using h) hj
    rw [show (i + 1) * 4 + j - x.cells.length = i * 4 + j by simp; omega, this]
    simp
theorem flat_set : ∀ (L : List Cl) (i : Nat) (s : ByteArray), i < L.length → (flat Cl.cells L).set (i * 4 + 3) (.str s) = flat Cl.cells (L.set i ⟨(L.getD i Cl0).col, (L.getD i Cl0).kind, (L.getD i Cl0).n, s⟩)
  | [], i, s, h => by simp at h
  | x :: L, 0, s, h => by simp [flat]
  | x :: L, i + 1, s, h => by
    have := flat_set L i s (by simpa using h)
    have e1 : flat Cl.cells (x :: L) = x.cells ++ flat Cl.cells L := by simp [flat]
    have e2 : ∀ M : List SV, (x.cells ++ M).set (i * 4 + 3 + 1 + 1 + 1 + 1) (.str s) = x.cells ++ M.set (i * 4 + 3) (.str s) := fun M => rfl
    rw [e1, show (i + 1) * 4 + 3 = i * 4 + 3 + 1 + 1 + 1 + 1 by omega, e2, this]
    simp [flat]
theorem claim_str40 {s : ByteArray} (h : 40 ≤ s.size) : evSlice Try.prog 9 (.s (.str s)) none (some (.s (.int .i64 40))) none = some (.s (.str (s.extract 0 40))) :=
  claim_strto un9 rfl h
theorem claim_load_kd {n i : Nat} {L : List Cl} {o : Bool} (h : i < L.length) : loadG Try.prog 3 (.s (.ptr n (0 + i * 4 + 1))) (fun _ => some ⟨flat Cl.cells L, o⟩) = some (.s (.int .i64 (L.getD i Cl0).kind)) := by
  refine claim_load sz3 ag3 ?_
  show (flat Cl.cells L)[0 + i * 4 + 1]? = _
  rw [Nat.zero_add, flat_at L i 1 h (by decide)]
  rfl
theorem over_one (l : List SV) (k : Nat) (v : SV) (h : k < l.length) : over l k [v] = l.set k v := by
  rw [List.set_eq_take_append_cons_drop, if_pos h]
  simp [over]
theorem claim_store_st {n i c : Nat} {L : List Cl} {s : ByteArray} (h : i < L.length) : storeR (storeG Try.prog 9 (.s (.ptr n (0 + i * 4 + 3))) (.s (.str s)) (fun _ => some ⟨flat Cl.cells L, true⟩)) c = some (.any, [(n, some ⟨flat Cl.cells (L.set i ⟨(L.getD i Cl0).col, (L.getD i Cl0).kind, (L.getD i Cl0).n, s⟩), true⟩)], c) := by
  have hl : (flat Cl.cells L).length = L.length * 4 := flat_length Cl.cells 4 cl_len L
  have ho : over (flat Cl.cells L) (0 + i * 4 + 3) [.str s] = (flat Cl.cells L).set (i * 4 + 3) (.str s) := by
    rw [Nat.zero_add]
    exact over_one _ _ _ (by omega)
  have hc : (([SV.str s] : List SV).length == 1 && decide (0 + i * 4 + 3 + 1 ≤ (flat Cl.cells L).length)) = true := by
    rw [hl, Bool.and_eq_true]
    exact ⟨rfl, decide_eq_true (by omega)⟩
  simp only [storeG, sz9, AV.cells]
  rw [if_pos hc, ho, flat_set L i s h]
  rfl
theorem claim_load_st {n i : Nat} {L : List Cl} {o : Bool} (h : i < L.length) : loadG Try.prog 9 (.s (.ptr n (0 + i * 4 + 3))) (fun _ => some ⟨flat Cl.cells L, o⟩) = some (.s (.str (L.getD i Cl0).s)) := by
  refine claim_load sz9 ag9 ?_
  show (flat Cl.cells L)[0 + i * 4 + 3]? = _
  rw [Nat.zero_add, flat_at L i 3 h (by decide)]
  rfl
attribute [local irreducible] Eng.evAppend Eng.evSlice Eng.less CallDoes Eng.loadG Eng.evIndexAddr Eng.evBin
theorem tr_k {B : Nat} (F : List Cl) (K cu mo : Int) (i : Nat) (h : i < F.length) (h40 : i < 40) (hk : ¬ (F.getD i Cl0).kind = 2) : CodeDoes Try.prog B (Lf (Lf (Rt (Lf (Rt (Rt (Rt (Try.f5.body.getD .skip)))))))) ⟨⟨205, [(0, .s (.int .i64 K)), (1, .s (.sl 1 0 F.length none 4)), (2, .s (.int .i64 cu)), (3, .s (.int .i64 mo)), (9, .s (.int .i64 (i : Int)))]⟩, [(1, some ⟨flat Cl.cells F, true⟩)], 2⟩ Ex.normal ⟨⟨205, [(0, AV.s (SV.int IntKind.i64 K)), (1, AV.s (SV.sl 1 0 (List.length F) none 4)), (2, AV.s (SV.int IntKind.i64 cu)), (3, AV.s (SV.int IntKind.i64 mo)), (9, AV.s (SV.int IntKind.i64 ((↑i : Int) + 1)))]⟩, [(1, some (Blk.mk (flat Cl.cells F) true))], 2⟩ :=
  goA_ok mix (tape := [(3, Ans.val (AV.s (SV.bool Bool.true))), (6, Ans.val (AV.s (SV.ptr 1 (0 + i * (fun (x : TypeInfo) => TypeInfo.size x) (Tables.types (Program.toTables Try.prog))[24])))), (8, Ans.val (AV.s (SV.int IntKind.i64 (Cl.kind (List.getD F i Cl0))))), (9, Ans.val (AV.s (SV.bool Bool.false))), (13, Ans.val (AV.s (SV.int IntKind.i64 ((↑i : Int) + 1))))]) (dl := [0, 1, 2, 3, 9]) (nl := [1]) (C := [(some (AV.s (SV.int IntKind.i64 (IntKind.wrap IntKind.i64 ((↑i : Int) + 1)))) = some (AV.s (SV.int IntKind.i64 ((↑i : Int) + 1)))), (some (AV.s (SV.bool (Cl.kind (List.getD F i Cl0) == 2))) = some (AV.s (SV.bool Bool.false))), ((loadG Try.prog 3 (AV.s (SV.ptr 1 (0 + i * (fun (x : TypeInfo) => TypeInfo.size x) (Tables.types (Program.toTables Try.prog))[24] + Field.offset #[Field.mk "Col" 9 0 false "" "" 0, Field.mk "Kind" 3 1 false "" "" 16, Field.mk "N" 2 2 false "" "" 24, Field.mk "S" 9 3 false "" "" 32][1]))) fun (x : Nat) => some (Blk.mk (flat Cl.cells F) true)) = some (AV.s (SV.int IntKind.i64 (Cl.kind (List.getD F i Cl0))))), ((evIndexAddr Try.prog 22 (AV.s (SV.sl 1 0 (List.length F) none 4)) (AV.s (SV.int IntKind.i64 (↑i : Int)))) = some (AV.s (SV.ptr 1 (0 + i * (fun (x : TypeInfo) => TypeInfo.size x) (Tables.types (Program.toTables Try.prog))[24])))), (some (AV.s (SV.bool (decide ((↑i : Int) < (↑(List.length F) : Int))))) = some (AV.s (SV.bool Bool.true)))]) (by kernel_rfl) ⟨claim_i (by exact wrap_i64 (by omega) (by omega)), claim_b (by exact decide_eq_false (by omega)), by (apply claim_load_kd <;> first | assumption | with_reducible rfl | omega | decide | (simp; done) | (simp; omega) | rfl), by (apply claim_index <;> first | assumption | with_reducible rfl | omega | decide | (simp; done) | (simp; omega) | rfl), claim_b (by exact decide_eq_true (by omega)), trivial⟩
theorem tr_s {B : Nat} (F : List Cl) (K cu mo : Int) (i : Nat) (h : i < F.length) (h40 : i < 40) (hk : (F.getD i Cl0).kind = 2) (hs : ¬ 40 < (F.getD i Cl0).s.size) : CodeDoes Try.prog B (Lf (Lf (Rt (Lf (Rt (Rt (Rt (Try.f5.body.getD .skip)))))))) ⟨⟨205, [(0, .s (.int .i64 K)), (1, .s (.sl 1 0 F.length none 4)), (2, .s (.int .i64 cu)), (3, .s (.int .i64 mo)), (9, .s (.int .i64 (i : Int)))]⟩, [(1, some ⟨flat Cl.cells F, true⟩)], 2⟩ Ex.normal ⟨⟨205, [(0, AV.s (SV.int IntKind.i64 K)), (1, AV.s (SV.sl 1 0 (List.length F) none 4)), (2, AV.s (SV.int IntKind.i64 cu)), (3, AV.s (SV.int IntKind.i64 mo)), (9, AV.s (SV.int IntKind.i64 ((↑i : Int) + 1)))]⟩, [(1, some (Blk.mk (flat Cl.cells F) true))], 2⟩ :=
  goA_ok mix (tape := [(3, Ans.val (AV.s (SV.bool Bool.true))), (6, Ans.val (AV.s (SV.ptr 1 (0 + i * (fun (x : TypeInfo) => TypeInfo.size x) (Tables.types (Program.toTables Try.prog))[24])))), (8, Ans.val (AV.s (SV.int IntKind.i64 (Cl.kind (List.getD F i Cl0))))), (9, Ans.val (AV.s (SV.bool Bool.true))), (13, Ans.val (AV.s (SV.ptr 1 (0 + i * (fun (x : TypeInfo) => TypeInfo.size x) (Tables.types (Program.toTables Try.prog))[24])))), (15, Ans.val (AV.s (SV.str (Cl.s (List.getD F i Cl0))))), (17, Ans.val (AV.s (SV.bool Bool.false))), (20, Ans.val (AV.s (SV.int IntKind.i64 ((↑i : Int) + 1))))]) (dl := [0, 1, 2, 3, 9]) (nl := [1]) (C := [(some (AV.s (SV.int IntKind.i64 (IntKind.wrap IntKind.i64 ((↑i : Int) + 1)))) = some (AV.s (SV.int IntKind.i64 ((↑i : Int) + 1)))), (some (AV.s (SV.bool (decide ((↑(ByteArray.size (Cl.s (List.getD F i Cl0))) : Int) > 40)))) = some (AV.s (SV.bool Bool.false))), ((loadG Try.prog 9 (AV.s (SV.ptr 1 (0 + i * (fun (x : TypeInfo) => TypeInfo.size x) (Tables.types (Program.toTables Try.prog))[24] + Field.offset #[Field.mk "Col" 9 0 false "" "" 0, Field.mk "Kind" 3 1 false "" "" 16, Field.mk "N" 2 2 false "" "" 24, Field.mk "S" 9 3 false "" "" 32][3]))) fun (x : Nat) => some (Blk.mk (flat Cl.cells F) true)) = some (AV.s (SV.str (Cl.s (List.getD F i Cl0))))), ((evIndexAddr Try.prog 22 (AV.s (SV.sl 1 0 (List.length F) none 4)) (AV.s (SV.int IntKind.i64 (↑i : Int)))) = some (AV.s (SV.ptr 1 (0 + i * (fun (x : TypeInfo) => TypeInfo.size x) (Tables.types (Program.toTables Try.prog))[24])))), (some (AV.s (SV.bool (Cl.kind (List.getD F i Cl0) == 2))) = some (AV.s (SV.bool Bool.true))), ((loadG Try.prog 3 (AV.s (SV.ptr 1 (0 + i * (fun (x : TypeInfo) => TypeInfo.size x) (Tables.types (Program.toTables Try.prog))[24] + Field.offset #[Field.mk "Col" 9 0 false "" "" 0, Field.mk "Kind" 3 1 false "" "" 16, Field.mk "N" 2 2 false "" "" 24, Field.mk "S" 9 3 false "" "" 32][1]))) fun (x : Nat) => some (Blk.mk (flat Cl.cells F) true)) = some (AV.s (SV.int IntKind.i64 (Cl.kind (List.getD F i Cl0))))), ((evIndexAddr Try.prog 22 (AV.s (SV.sl 1 0 (List.length F) none 4)) (AV.s (SV.int IntKind.i64 (↑i : Int)))) = some (AV.s (SV.ptr 1 (0 + i * (fun (x : TypeInfo) => TypeInfo.size x) (Tables.types (Program.toTables Try.prog))[24])))), (some (AV.s (SV.bool (decide ((↑i : Int) < (↑(List.length F) : Int))))) = some (AV.s (SV.bool Bool.true)))]) (by kernel_rfl) ⟨claim_i (by exact wrap_i64 (by omega) (by omega)), claim_b (by exact decide_eq_false (by omega)), by (apply claim_load_st <;> first | assumption | with_reducible rfl | omega | decide | (simp; done) | (simp; omega) | rfl), by (apply claim_index <;> first | assumption | with_reducible rfl | omega | decide | (simp; done) | (simp; omega) | rfl), claim_b (by exact decide_eq_true (by omega)), by (apply claim_load_kd <;> first | assumption | with_reducible rfl | omega | decide | (simp; done) | (simp; omega) | rfl), by (apply claim_index <;> first | assumption | with_reducible rfl | omega | decide | (simp; done) | (simp; omega) | rfl), claim_b (by exact decide_eq_true (by omega)), trivial⟩
theorem tr_l {B : Nat} (F : List Cl) (K cu mo : Int) (i : Nat) (h : i < F.length) (h40 : i < 40) (hk : (F.getD i Cl0).kind = 2) (hs : 40 < (F.getD i Cl0).s.size) : CodeDoes Try.prog B (Lf (Lf (Rt (Lf (Rt (Rt (Rt (Try.f5.body.getD .skip)))))))) ⟨⟨205, [(0, .s (.int .i64 K)), (1, .s (.sl 1 0 F.length none 4)), (2, .s (.int .i64 cu)), (3, .s (.int .i64 mo)), (9, .s (.int .i64 (i : Int)))]⟩, [(1, some ⟨flat Cl.cells F, true⟩)], 2⟩ Ex.normal ⟨⟨205, [(0, AV.s (SV.int IntKind.i64 K)), (1, AV.s (SV.sl 1 0 (List.length F) none 4)), (2, AV.s (SV.int IntKind.i64 cu)), (3, AV.s (SV.int IntKind.i64 mo)), (9, AV.s (SV.int IntKind.i64 ((↑i : Int) + 1)))]⟩, [(1, some (Blk.mk (flat Cl.cells (List.set F i (Cl.mk (Cl.col (List.getD F i Cl0)) (Cl.kind (List.getD F i Cl0)) (Cl.n (List.getD F i Cl0)) (ByteArray.extract (Cl.s (List.getD F i Cl0)) 0 40)))) true))], 2⟩ :=
  goA_ok mix (tape := [(3, Ans.val (AV.s (SV.bool Bool.true))), (6, Ans.val (AV.s (SV.ptr 1 (0 + i * (fun (x : TypeInfo) => TypeInfo.size x) (Tables.types (Program.toTables Try.prog))[24])))), (8, Ans.val (AV.s (SV.int IntKind.i64 (Cl.kind (List.getD F i Cl0))))), (9, Ans.val (AV.s (SV.bool Bool.true))), (13, Ans.val (AV.s (SV.ptr 1 (0 + i * (fun (x : TypeInfo) => TypeInfo.size x) (Tables.types (Program.toTables Try.prog))[24])))), (15, Ans.val (AV.s (SV.str (Cl.s (List.getD F i Cl0))))), (17, Ans.val (AV.s (SV.bool Bool.true))), (23, Ans.val (AV.s (SV.ptr 1 (0 + i * (fun (x : TypeInfo) => TypeInfo.size x) (Tables.types (Program.toTables Try.prog))[24])))), (25, Ans.val (AV.s (SV.str (Cl.s (List.getD F i Cl0))))), (26, Ans.val (AV.s (SV.str (ByteArray.extract (Cl.s (List.getD F i Cl0)) 0 40)))), (27, Ans.val (AV.s (SV.ptr 1 (0 + i * (fun (x : TypeInfo) => TypeInfo.size x) (Tables.types (Program.toTables Try.prog))[24])))), (29, Ans.mem (AV.any) [(1, some (Blk.mk (flat Cl.cells (List.set F i (Cl.mk (Cl.col (List.getD F i Cl0)) (Cl.kind (List.getD F i Cl0)) (Cl.n (List.getD F i Cl0)) (ByteArray.extract (Cl.s (List.getD F i Cl0)) 0 40)))) true))] 2), (31, Ans.val (AV.s (SV.int IntKind.i64 ((↑i : Int) + 1))))]) (dl := [0, 1, 2, 3, 9]) (nl := [1]) (C := [(some (AV.s (SV.int IntKind.i64 (IntKind.wrap IntKind.i64 ((↑i : Int) + 1)))) = some (AV.s (SV.int IntKind.i64 ((↑i : Int) + 1)))), ((storeR (storeG Try.prog 9 (AV.s (SV.ptr 1 (0 + i * (fun (x : TypeInfo) => TypeInfo.size x) (Tables.types (Program.toTables Try.prog))[24] + Field.offset #[Field.mk "Col" 9 0 false "" "" 0, Field.mk "Kind" 3 1 false "" "" 16, Field.mk "N" 2 2 false "" "" 24, Field.mk "S" 9 3 false "" "" 32][3]))) (AV.s (SV.str (ByteArray.extract (Cl.s (List.getD F i Cl0)) 0 40))) fun (x : Nat) => some (Blk.mk (flat Cl.cells F) true)) 2) = some (AV.any, [(1, some (Blk.mk (flat Cl.cells (List.set F i (Cl.mk (Cl.col (List.getD F i Cl0)) (Cl.kind (List.getD F i Cl0)) (Cl.n (List.getD F i Cl0)) (ByteArray.extract (Cl.s (List.getD F i Cl0)) 0 40)))) true))], 2)), ((evIndexAddr Try.prog 22 (AV.s (SV.sl 1 0 (List.length F) none 4)) (AV.s (SV.int IntKind.i64 (↑i : Int)))) = some (AV.s (SV.ptr 1 (0 + i * (fun (x : TypeInfo) => TypeInfo.size x) (Tables.types (Program.toTables Try.prog))[24])))), ((evSlice Try.prog 9 (AV.s (SV.str (Cl.s (List.getD F i Cl0)))) none (some (AV.s (SV.int IntKind.i64 40))) none) = some (AV.s (SV.str (ByteArray.extract (Cl.s (List.getD F i Cl0)) 0 40)))), ((loadG Try.prog 9 (AV.s (SV.ptr 1 (0 + i * (fun (x : TypeInfo) => TypeInfo.size x) (Tables.types (Program.toTables Try.prog))[24] + Field.offset #[Field.mk "Col" 9 0 false "" "" 0, Field.mk "Kind" 3 1 false "" "" 16, Field.mk "N" 2 2 false "" "" 24, Field.mk "S" 9 3 false "" "" 32][3]))) fun (x : Nat) => some (Blk.mk (flat Cl.cells F) true)) = some (AV.s (SV.str (Cl.s (List.getD F i Cl0))))), ((evIndexAddr Try.prog 22 (AV.s (SV.sl 1 0 (List.length F) none 4)) (AV.s (SV.int IntKind.i64 (↑i : Int)))) = some (AV.s (SV.ptr 1 (0 + i * (fun (x : TypeInfo) => TypeInfo.size x) (Tables.types (Program.toTables Try.prog))[24])))), (some (AV.s (SV.bool (decide ((↑(ByteArray.size (Cl.s (List.getD F i Cl0))) : Int) > 40)))) = some (AV.s (SV.bool Bool.true))), ((loadG Try.prog 9 (AV.s (SV.ptr 1 (0 + i * (fun (x : TypeInfo) => TypeInfo.size x) (Tables.types (Program.toTables Try.prog))[24] + Field.offset #[Field.mk "Col" 9 0 false "" "" 0, Field.mk "Kind" 3 1 false "" "" 16, Field.mk "N" 2 2 false "" "" 24, Field.mk "S" 9 3 false "" "" 32][3]))) fun (x : Nat) => some (Blk.mk (flat Cl.cells F) true)) = some (AV.s (SV.str (Cl.s (List.getD F i Cl0))))), ((evIndexAddr Try.prog 22 (AV.s (SV.sl 1 0 (List.length F) none 4)) (AV.s (SV.int IntKind.i64 (↑i : Int)))) = some (AV.s (SV.ptr 1 (0 + i * (fun (x : TypeInfo) => TypeInfo.size x) (Tables.types (Program.toTables Try.prog))[24])))), (some (AV.s (SV.bool (Cl.kind (List.getD F i Cl0) == 2))) = some (AV.s (SV.bool Bool.true))), ((loadG Try.prog 3 (AV.s (SV.ptr 1 (0 + i * (fun (x : TypeInfo) => TypeInfo.size x) (Tables.types (Program.toTables Try.prog))[24] + Field.offset #[Field.mk "Col" 9 0 false "" "" 0, Field.mk "Kind" 3 1 false "" "" 16, Field.mk "N" 2 2 false "" "" 24, Field.mk "S" 9 3 false "" "" 32][1]))) fun (x : Nat) => some (Blk.mk (flat Cl.cells F) true)) = some (AV.s (SV.int IntKind.i64 (Cl.kind (List.getD F i Cl0))))), ((evIndexAddr Try.prog 22 (AV.s (SV.sl 1 0 (List.length F) none 4)) (AV.s (SV.int IntKind.i64 (↑i : Int)))) = some (AV.s (SV.ptr 1 (0 + i * (fun (x : TypeInfo) => TypeInfo.size x) (Tables.types (Program.toTables Try.prog))[24])))), (some (AV.s (SV.bool (decide ((↑i : Int) < (↑(List.length F) : Int))))) = some (AV.s (SV.bool Bool.true)))]) (by kernel_rfl) ⟨claim_i (by exact wrap_i64 (by omega) (by omega)), by (apply claim_store_st <;> first | assumption | with_reducible rfl | omega | decide | (simp; done) | (simp; omega) | rfl), by (apply claim_index <;> first | assumption | with_reducible rfl | omega | decide | (simp; done) | (simp; omega) | rfl), by (apply claim_str40 <;> first | assumption | with_reducible rfl | omega | decide | (simp; done) | (simp; omega) | rfl), by (apply claim_load_st <;> first | assumption | with_reducible rfl | omega | decide | (simp; done) | (simp; omega) | rfl), by (apply claim_index <;> first | assumption | with_reducible rfl | omega | decide | (simp; done) | (simp; omega) | rfl), claim_b (by exact decide_eq_true (by omega)), by (apply claim_load_st <;> first | assumption | with_reducible rfl | omega | decide | (simp; done) | (simp; omega) | rfl), by (apply claim_index <;> first | assumption | with_reducible rfl | omega | decide | (simp; done) | (simp; omega) | rfl), claim_b (by exact decide_eq_true (by omega)), by (apply claim_load_kd <;> first | assumption | with_reducible rfl | omega | decide | (simp; done) | (simp; omega) | rfl), by (apply claim_index <;> first | assumption | with_reducible rfl | omega | decide | (simp; done) | (simp; omega) | rfl), claim_b (by exact decide_eq_true (by omega)), trivial⟩
theorem tr_e {B : Nat} (F : List Cl) (K cu mo : Int) (i : Nat) (h : ¬ i < F.length) : CodeDoes Try.prog B (Lf (Lf (Rt (Lf (Rt (Rt (Rt (Try.f5.body.getD .skip)))))))) ⟨⟨205, [(0, .s (.int .i64 K)), (1, .s (.sl 1 0 F.length none 4)), (2, .s (.int .i64 cu)), (3, .s (.int .i64 mo)), (9, .s (.int .i64 (i : Int)))]⟩, [(1, some ⟨flat Cl.cells F, true⟩)], 2⟩ (Ex.exit 0) ⟨⟨205, [(0, AV.s (SV.int IntKind.i64 K)), (1, AV.s (SV.sl 1 0 (List.length F) none 4)), (2, AV.s (SV.int IntKind.i64 cu)), (3, AV.s (SV.int IntKind.i64 mo)), (9, AV.s (SV.int IntKind.i64 (↑i : Int)))]⟩, [(1, some (Blk.mk (flat Cl.cells F) true))], 2⟩ :=
  goA_ok mix (tape := [(3, Ans.val (AV.s (SV.bool Bool.false)))]) (dl := [0, 1, 2, 3, 9]) (nl := [1]) (C := [(some (AV.s (SV.bool (decide ((↑i : Int) < (↑(List.length F) : Int))))) = some (AV.s (SV.bool Bool.false)))]) (by kernel_rfl) ⟨claim_b (by exact decide_eq_false (by omega)), trivial⟩

abbrev capC (x : Cl) : Cl := if x.kind = 2 then (if 40 < x.s.size then ⟨x.col, x.kind, x.n, x.s.extract 0 40⟩ else x) else x
abbrev trS (K cu mo : Int) (len i : Nat) (M : List Cl) : St := ⟨⟨205, [(0, .s (.int .i64 K)), (1, .s (.sl 1 0 len none 4)), (2, .s (.int .i64 cu)), (3, .s (.int .i64 mo)), (9, .s (.int .i64 (i : Int)))]⟩, [(1, some ⟨flat Cl.cells M, true⟩)], 2⟩
theorem set_self (M : List Cl) (i : Nat) (h : i < M.length) : M.set i (M.getD i Cl0) = M := by
  apply List.ext_getElem (by simp)
  intro j h1 h2
  rw [List.getElem_set]
  split
  · next e => subst e; simp [h]
  · rfl
theorem tr_it {B : Nat} (K cu mo : Int) (len i : Nat) (M : List Cl) (hl : M.length = len) (h : i < len) (h40 : i < 40) :
    CodeDoes Try.prog B (Lf (Lf (Rt (Lf (Rt (Rt (Rt (Try.f5.body.getD .skip)))))))) (trS K cu mo len i M) .normal (trS K cu mo len (i + 1) (M.set i (capC (M.getD i Cl0)))) := by
  subst hl
  by_cases hk : (M.getD i Cl0).kind = 2
  · by_cases hs : 40 < (M.getD i Cl0).s.size
    · rw [show capC (M.getD i Cl0) = ⟨(M.getD i Cl0).col, (M.getD i Cl0).kind, (M.getD i Cl0).n, (M.getD i Cl0).s.extract 0 40⟩ by simp only [capC, hk, hs, if_true]]
      exact tr_l M K cu mo i h h40 hk hs
    · rw [show capC (M.getD i Cl0) = M.getD i Cl0 by simp only [capC, hk, hs, if_true, if_false], set_self M i h]
      exact tr_s M K cu mo i h h40 hk hs
  · rw [show capC (M.getD i Cl0) = M.getD i Cl0 by simp only [capC, hk, if_false], set_self M i h]
    exact tr_k M K cu mo i h h40 hk
theorem step_list (f : Cl → Cl) (A D : List Cl) (y : Cl) : (A ++ y :: D).take (A.length + 1) ++ ((A ++ y :: D).drop (A.length + 1)).map f = A ++ y :: D.map f := by
  have e : A ++ y :: D = (A ++ [y]) ++ D := by simp
  rw [e, List.take_append_of_le_length (by simp), List.drop_append_of_le_length (by simp), List.take_of_length_le (by simp), List.drop_of_length_le (by simp)]
  simp
theorem tr_rounds {B : Nat} (K cu mo : Int) (len : Nat) (h40 : len ≤ 40) : ∀ (k i : Nat) (M : List Cl), k = len - i → i ≤ len → M.length = len →
    LoopDoes Try.prog B (Lf (Lf (Rt (Lf (Rt (Rt (Rt (Try.f5.body.getD .skip)))))))) (trS K cu mo len i M) (.exit 0) (trS K cu mo len len (M.take i ++ (M.drop i).map capC))
  | 0, i, M, hk, hi, hl => by
    have he : i = len := by omega
    subst he
    rw [List.take_of_length_le (by omega), List.drop_eq_nil_of_le (by omega), List.map_nil, List.append_nil]
    have := tr_e (B := B) M K cu mo i (by omega)
    rw [hl] at this
    exact LoopDoes.last this (by simp)
  | k + 1, i, M, hk, hi, hl => by
    have hlt : i < M.length := by omega
    have e := List.set_eq_take_append_cons_drop (l := M) (i := i) (a := capC (M.getD i Cl0))
    rw [if_pos hlt] at e
    have ht : (M.take i).length = i := by rw [List.length_take]; omega
    have hd : M.drop i = M.getD i Cl0 :: M.drop (i + 1) := by
      rw [List.drop_eq_getElem_cons hlt]
      congr 1
      simp [hlt]
    have step : (M.set i (capC (M.getD i Cl0))).take (i + 1) ++ ((M.set i (capC (M.getD i Cl0))).drop (i + 1)).map capC = M.take i ++ (M.drop i).map capC := by
      have := step_list capC (M.take i) (M.drop (i + 1)) (capC (M.getD i Cl0))
      rw [ht] at this
      rw [e, hd, List.map_cons]
      exact this
    rw [← step]
    exact LoopDoes.more (tr_it K cu mo len i M hl (by omega) (by omega)) (tr_rounds K cu mo len h40 k (i + 1) _ (by omega) (by omega) (by rw [List.length_set]; exact hl))
abbrev capL (F : List Cl) : List Cl := F.map capC
theorem tr_loop {B : Nat} (K cu mo : Int) (F G : List Cl) (hG : capL F = G) (h40 : F.length ≤ 40) : CodeDoes Try.prog B (Lf (Rt (Lf (Rt (Rt (Rt (Try.f5.body.getD .skip))))))) (trS K cu mo F.length ((0 : Nat)) F) (.exit 0) (trS K cu mo G.length G.length G) := by
  have h := tr_rounds (B := B) K cu mo F.length h40 F.length 0 F rfl (Nat.zero_le _) rfl
  subst hG
  rw [show (F.map capC).length = F.length by simp]
  exact CodeDoes.loopAt (by kernel_rfl) h
theorem co_n {B : Nat} (G : List Cl) (z : Zn) (i : Nat) (u : Int) (K : Int) (h : i < G.length) (h40 : i < 40) (hu : 0 ≤ u ∧ u ≤ 1000) (hk : ¬ (G.getD i Cl0).kind = K) : CodeDoes Try.prog B (Lf (Lf (Rt (Lf (Rt (Rt (Rt (Rt (Rt (Rt (Rt (Rt (Rt (Rt (Rt (Rt (Try.f5.body.getD .skip))))))))))))))))) ⟨⟨205, [(0, .s (.int .i64 K)), (1, .s (.sl 1 0 G.length none 4)), (12, .s (.ptr 2 0)), (19, .s (.int .i64 u)), (20, .s (.int .i64 (i : Int)))]⟩, [(1, some ⟨flat Cl.cells G, true⟩), (2, some ⟨z.cells, true⟩)], 6⟩ Ex.normal ⟨⟨205, [(0, AV.s (SV.int IntKind.i64 K)), (1, AV.s (SV.sl 1 0 (List.length G) none 4)), (12, AV.s (SV.ptr 2 0)), (19, AV.s (SV.int IntKind.i64 (u + 1))), (20, AV.s (SV.int IntKind.i64 ((↑i : Int) + 1)))]⟩, [(1, some (Blk.mk (flat Cl.cells G) true)), (2, some (Blk.mk [SV.int IntKind.i64 (Zn.kind z), SV.int IntKind.i64 (Zn.rows z), SV.int IntKind.i64 (Zn.nulls z), SV.int IntKind.i64 (Zn.minN z), SV.int IntKind.i64 (Zn.maxN z), SV.str (Zn.minS z), SV.str (Zn.maxS z)] true))], 7⟩ :=
  goA_ok mix (tape := [(3, Ans.val (AV.s (SV.bool Bool.true))), (6, Ans.val (AV.s (SV.ptr 1 (0 + i * (fun (x : TypeInfo) => TypeInfo.size x) (Tables.types (Program.toTables Try.prog))[24])))), (7, Ans.val (AV.agg (Cl.cells (List.getD G i Cl0)))), (13, Ans.val (AV.s (SV.bool Bool.true))), (15, Ans.val (AV.s (SV.int IntKind.i64 (u + 1)))), (18, Ans.val (AV.s (SV.int IntKind.i64 ((↑i : Int) + 1))))]) (dl := [0, 1, 12, 19, 20]) (nl := [1, 2]) (C := [(some (AV.s (SV.int IntKind.i64 (IntKind.wrap IntKind.i64 ((↑i : Int) + 1)))) = some (AV.s (SV.int IntKind.i64 ((↑i : Int) + 1)))), (some (AV.s (SV.int IntKind.i64 (IntKind.wrap IntKind.i64 (u + 1)))) = some (AV.s (SV.int IntKind.i64 (u + 1)))), (some (AV.s (SV.bool (Cl.kind (List.getD G i Cl0) != K))) = some (AV.s (SV.bool Bool.true))), ((loadG Try.prog 24 (AV.s (SV.ptr 1 (0 + i * (fun (x : TypeInfo) => TypeInfo.size x) (Tables.types (Program.toTables Try.prog))[24]))) fun (x : Nat) => some (Blk.mk (flat Cl.cells G) true)) = some (AV.agg (Cl.cells (List.getD G i Cl0)))), ((evIndexAddr Try.prog 22 (AV.s (SV.sl 1 0 (List.length G) none 4)) (AV.s (SV.int IntKind.i64 (↑i : Int)))) = some (AV.s (SV.ptr 1 (0 + i * (fun (x : TypeInfo) => TypeInfo.size x) (Tables.types (Program.toTables Try.prog))[24])))), (some (AV.s (SV.bool (decide ((↑i : Int) < (↑(List.length G) : Int))))) = some (AV.s (SV.bool Bool.true)))]) (by kernel_rfl) ⟨claim_i (by exact wrap_i64 (by omega) (by omega)), claim_i (by exact wrap_i64 (by omega) (by omega)), claim_b (by exact bne_iff_ne.2 (by omega)), by (apply load_cell <;> first | assumption | with_reducible rfl | omega | decide | (simp; done) | (simp; omega) | rfl), by (apply claim_index <;> first | assumption | with_reducible rfl | omega | decide | (simp; done) | (simp; omega) | rfl), claim_b (by exact decide_eq_true (by omega)), trivial⟩
theorem co_i {B : Nat} (G : List Cl) (z : Zn) (i : Nat) (u : Int) (h : i < G.length) (h40 : i < 40) (hk : (G.getD i Cl0).kind = 1) (h1 : z.minN ≤ (G.getD i Cl0).n) (h2 : (G.getD i Cl0).n ≤ z.maxN) : CodeDoes Try.prog B (Lf (Lf (Rt (Lf (Rt (Rt (Rt (Rt (Rt (Rt (Rt (Rt (Rt (Rt (Rt (Rt (Try.f5.body.getD .skip))))))))))))))))) ⟨⟨205, [(0, .s (.int .i64 1)), (1, .s (.sl 1 0 G.length none 4)), (12, .s (.ptr 2 0)), (19, .s (.int .i64 u)), (20, .s (.int .i64 (i : Int)))]⟩, [(1, some ⟨flat Cl.cells G, true⟩), (2, some ⟨z.cells, true⟩)], 6⟩ Ex.normal ⟨⟨205, [(0, AV.s (SV.int IntKind.i64 1)), (1, AV.s (SV.sl 1 0 (List.length G) none 4)), (12, AV.s (SV.ptr 2 0)), (19, AV.s (SV.int IntKind.i64 u)), (20, AV.s (SV.int IntKind.i64 ((↑i : Int) + 1)))]⟩, [(1, some (Blk.mk (flat Cl.cells G) true)), (2, some (Blk.mk [SV.int IntKind.i64 (Zn.kind z), SV.int IntKind.i64 (Zn.rows z), SV.int IntKind.i64 (Zn.nulls z), SV.int IntKind.i64 (Zn.minN z), SV.int IntKind.i64 (Zn.maxN z), SV.str (Zn.minS z), SV.str (Zn.maxS z)] true))], 7⟩ :=
  goA_ok mix (tape := [(3, Ans.val (AV.s (SV.bool Bool.true))), (6, Ans.val (AV.s (SV.ptr 1 (0 + i * (fun (x : TypeInfo) => TypeInfo.size x) (Tables.types (Program.toTables Try.prog))[24])))), (7, Ans.val (AV.agg (Cl.cells (List.getD G i Cl0)))), (13, Ans.val (AV.s (SV.bool Bool.false))), (21, Ans.val (AV.s (SV.bool Bool.false))), (27, Ans.val (AV.s (SV.bool Bool.false))), (37, Ans.val (AV.s (SV.int IntKind.i64 ((↑i : Int) + 1))))]) (dl := [0, 1, 12, 19, 20]) (nl := [1, 2]) (C := [(some (AV.s (SV.int IntKind.i64 (IntKind.wrap IntKind.i64 ((↑i : Int) + 1)))) = some (AV.s (SV.int IntKind.i64 ((↑i : Int) + 1)))), (some (AV.s (SV.bool (decide (Cl.n (List.getD G i Cl0) > Zn.maxN z)))) = some (AV.s (SV.bool Bool.false))), (some (AV.s (SV.bool (decide (Cl.n (List.getD G i Cl0) < Zn.minN z)))) = some (AV.s (SV.bool Bool.false))), (some (AV.s (SV.bool (Cl.kind (List.getD G i Cl0) != 1))) = some (AV.s (SV.bool Bool.false))), ((loadG Try.prog 24 (AV.s (SV.ptr 1 (0 + i * (fun (x : TypeInfo) => TypeInfo.size x) (Tables.types (Program.toTables Try.prog))[24]))) fun (x : Nat) => some (Blk.mk (flat Cl.cells G) true)) = some (AV.agg (Cl.cells (List.getD G i Cl0)))), ((evIndexAddr Try.prog 22 (AV.s (SV.sl 1 0 (List.length G) none 4)) (AV.s (SV.int IntKind.i64 (↑i : Int)))) = some (AV.s (SV.ptr 1 (0 + i * (fun (x : TypeInfo) => TypeInfo.size x) (Tables.types (Program.toTables Try.prog))[24])))), (some (AV.s (SV.bool (decide ((↑i : Int) < (↑(List.length G) : Int))))) = some (AV.s (SV.bool Bool.true)))]) (by kernel_rfl) ⟨claim_i (by exact wrap_i64 (by omega) (by omega)), claim_b (by exact decide_eq_false (by omega)), claim_b (by exact decide_eq_false (by omega)), claim_b (by exact bne_eq_false_iff_eq.2 (by omega)), by (apply load_cell <;> first | assumption | with_reducible rfl | omega | decide | (simp; done) | (simp; omega) | rfl), by (apply claim_index <;> first | assumption | with_reducible rfl | omega | decide | (simp; done) | (simp; omega) | rfl), claim_b (by exact decide_eq_true (by omega)), trivial⟩
theorem co_t {B : Nat} (G : List Cl) (z : Zn) (i : Nat) (u : Int) (h : i < G.length) (h40 : i < 40) (hk : (G.getD i Cl0).kind = 2) (h1 : Op.bytesLess (G.getD i Cl0).s.data.toList z.minS.data.toList = false) (h2 : (!(Op.bytesLess (G.getD i Cl0).s.data.toList z.maxS.data.toList || (G.getD i Cl0).s.data.toList == z.maxS.data.toList)) = false) : CodeDoes Try.prog B (Lf (Lf (Rt (Lf (Rt (Rt (Rt (Rt (Rt (Rt (Rt (Rt (Rt (Rt (Rt (Rt (Try.f5.body.getD .skip))))))))))))))))) ⟨⟨205, [(0, .s (.int .i64 2)), (1, .s (.sl 1 0 G.length none 4)), (12, .s (.ptr 2 0)), (19, .s (.int .i64 u)), (20, .s (.int .i64 (i : Int)))]⟩, [(1, some ⟨flat Cl.cells G, true⟩), (2, some ⟨z.cells, true⟩)], 6⟩ Ex.normal ⟨⟨205, [(0, AV.s (SV.int IntKind.i64 2)), (1, AV.s (SV.sl 1 0 (List.length G) none 4)), (12, AV.s (SV.ptr 2 0)), (19, AV.s (SV.int IntKind.i64 u)), (20, AV.s (SV.int IntKind.i64 ((↑i : Int) + 1)))]⟩, [(1, some (Blk.mk (flat Cl.cells G) true)), (2, some (Blk.mk [SV.int IntKind.i64 (Zn.kind z), SV.int IntKind.i64 (Zn.rows z), SV.int IntKind.i64 (Zn.nulls z), SV.int IntKind.i64 (Zn.minN z), SV.int IntKind.i64 (Zn.maxN z), SV.str (Zn.minS z), SV.str (Zn.maxS z)] true))], 7⟩ :=
  goA_ok mix (tape := [(3, Ans.val (AV.s (SV.bool Bool.true))), (6, Ans.val (AV.s (SV.ptr 1 (0 + i * (fun (x : TypeInfo) => TypeInfo.size x) (Tables.types (Program.toTables Try.prog))[24])))), (7, Ans.val (AV.agg (Cl.cells (List.getD G i Cl0)))), (13, Ans.val (AV.s (SV.bool Bool.false))), (26, Ans.val (AV.s (SV.bool Bool.false))), (32, Ans.val (AV.s (SV.bool Bool.false))), (37, Ans.val (AV.s (SV.int IntKind.i64 ((↑i : Int) + 1))))]) (dl := [0, 1, 12, 19, 20]) (nl := [1, 2]) (C := [(some (AV.s (SV.int IntKind.i64 (IntKind.wrap IntKind.i64 ((↑i : Int) + 1)))) = some (AV.s (SV.int IntKind.i64 ((↑i : Int) + 1)))), (some (AV.s (SV.bool (!(Op.bytesLess (Array.toList (ByteArray.data (Cl.s (List.getD G i Cl0)))) (Array.toList (ByteArray.data (Zn.maxS z))) || Array.toList (ByteArray.data (Cl.s (List.getD G i Cl0))) == Array.toList (ByteArray.data (Zn.maxS z)))))) = some (AV.s (SV.bool Bool.false))), (some (AV.s (SV.bool (Op.bytesLess (Array.toList (ByteArray.data (Cl.s (List.getD G i Cl0)))) (Array.toList (ByteArray.data (Zn.minS z)))))) = some (AV.s (SV.bool Bool.false))), (some (AV.s (SV.bool (Cl.kind (List.getD G i Cl0) != 2))) = some (AV.s (SV.bool Bool.false))), ((loadG Try.prog 24 (AV.s (SV.ptr 1 (0 + i * (fun (x : TypeInfo) => TypeInfo.size x) (Tables.types (Program.toTables Try.prog))[24]))) fun (x : Nat) => some (Blk.mk (flat Cl.cells G) true)) = some (AV.agg (Cl.cells (List.getD G i Cl0)))), ((evIndexAddr Try.prog 22 (AV.s (SV.sl 1 0 (List.length G) none 4)) (AV.s (SV.int IntKind.i64 (↑i : Int)))) = some (AV.s (SV.ptr 1 (0 + i * (fun (x : TypeInfo) => TypeInfo.size x) (Tables.types (Program.toTables Try.prog))[24])))), (some (AV.s (SV.bool (decide ((↑i : Int) < (↑(List.length G) : Int))))) = some (AV.s (SV.bool Bool.true)))]) (by kernel_rfl) ⟨claim_i (by exact wrap_i64 (by omega) (by omega)), claim_b (by assumption), claim_b (by assumption), claim_b (by exact bne_eq_false_iff_eq.2 (by omega)), by (apply load_cell <;> first | assumption | with_reducible rfl | omega | decide | (simp; done) | (simp; omega) | rfl), by (apply claim_index <;> first | assumption | with_reducible rfl | omega | decide | (simp; done) | (simp; omega) | rfl), claim_b (by exact decide_eq_true (by omega)), trivial⟩
theorem co_e {B : Nat} (G : List Cl) (z : Zn) (i : Nat) (u : Int) (K : Int) (h : ¬ i < G.length) : CodeDoes Try.prog B (Lf (Lf (Rt (Lf (Rt (Rt (Rt (Rt (Rt (Rt (Rt (Rt (Rt (Rt (Rt (Rt (Try.f5.body.getD .skip))))))))))))))))) ⟨⟨205, [(0, .s (.int .i64 K)), (1, .s (.sl 1 0 G.length none 4)), (12, .s (.ptr 2 0)), (19, .s (.int .i64 u)), (20, .s (.int .i64 (i : Int)))]⟩, [(1, some ⟨flat Cl.cells G, true⟩), (2, some ⟨z.cells, true⟩)], 6⟩ (Ex.exit 2) ⟨⟨205, [(0, AV.s (SV.int IntKind.i64 K)), (1, AV.s (SV.sl 1 0 (List.length G) none 4)), (12, AV.s (SV.ptr 2 0)), (19, AV.s (SV.int IntKind.i64 u)), (20, AV.s (SV.int IntKind.i64 (↑i : Int)))]⟩, [(1, some (Blk.mk (flat Cl.cells G) true)), (2, some (Blk.mk [SV.int IntKind.i64 (Zn.kind z), SV.int IntKind.i64 (Zn.rows z), SV.int IntKind.i64 (Zn.nulls z), SV.int IntKind.i64 (Zn.minN z), SV.int IntKind.i64 (Zn.maxN z), SV.str (Zn.minS z), SV.str (Zn.maxS z)] true))], 6⟩ :=
  goA_ok mix (tape := [(3, Ans.val (AV.s (SV.bool Bool.false)))]) (dl := [0, 1, 12, 19, 20]) (nl := [1, 2]) (C := [(some (AV.s (SV.bool (decide ((↑i : Int) < (↑(List.length G) : Int))))) = some (AV.s (SV.bool Bool.false)))]) (by kernel_rfl) ⟨claim_b (by exact decide_eq_false (by omega)), trivial⟩

abbrev coS (K : Int) (len i : Nat) (u : Int) (G : List Cl) (z : Zn) : St := ⟨⟨205, [(0, .s (.int .i64 K)), (1, .s (.sl 1 0 len none 4)), (12, .s (.ptr 2 0)), (19, .s (.int .i64 u)), (20, .s (.int .i64 (i : Int)))]⟩, [(1, some ⟨flat Cl.cells G, true⟩), (2, some ⟨z.cells, true⟩)], 6⟩
theorem co_pack {B : Nat} {K : Int} {len i j : Nat} {u u' q : Int} {G : List Cl} {z : Zn} {c' : Nat} {e : Ex} (hq : q = (j : Int))
    (h : CodeDoes Try.prog B (Lf (Lf (Rt (Lf (Rt (Rt (Rt (Rt (Rt (Rt (Rt (Rt (Rt (Rt (Rt (Rt (Try.f5.body.getD .skip))))))))))))))))) (coS K len i u G z) e ⟨⟨205, [(0, .s (.int .i64 K)), (1, .s (.sl 1 0 len none 4)), (12, .s (.ptr 2 0)), (19, .s (.int .i64 u')), (20, .s (.int .i64 q))]⟩, [(1, some ⟨flat Cl.cells G, true⟩), (2, some ⟨z.cells, true⟩)], c'⟩) :
    CodeDoes Try.prog B (Lf (Lf (Rt (Lf (Rt (Rt (Rt (Rt (Rt (Rt (Rt (Rt (Rt (Rt (Rt (Rt (Try.f5.body.getD .skip))))))))))))))))) (coS K len i u G z) e (coS K len j u' G z) := by
  subst hq
  have := h.names id [1, 2] (c := 6) (c' := 6) ⟨by simp, by simp, by simp, by omega⟩ (by simp [avNames, svNames]) (by simp)
      (names_get (by simp [cl_bare.blk, blkN_nil, blkN_int, blkN_str])) (by simp [avNames, svNames]) (by simp) (names_get' (by simp [cl_bare.blk, blkN_nil, blkN_int, blkN_str]))
  simp only [rnL, rnX, rnV, rnM, rnB, cl_bare.flat_rn, List.map_cons, List.map_nil, Option.map_some, id] at this
  exact this
/-- The cells lie within. -/
structure Inz (K : Int) (G : List Cl) (z : Zn) : Prop where
  num : K = 1 → ∀ i, i < G.length → (G.getD i Cl0).kind = 1 → z.minN ≤ (G.getD i Cl0).n ∧ (G.getD i Cl0).n ≤ z.maxN
  txt : K = 2 → ∀ i, i < G.length → (G.getD i Cl0).kind = 2 → Op.bytesLess (G.getD i Cl0).s.data.toList z.minS.data.toList = false ∧ (!(Op.bytesLess (G.getD i Cl0).s.data.toList z.maxS.data.toList || (G.getD i Cl0).s.data.toList == z.maxS.data.toList)) = false
abbrev nullL (K : Int) (L : List Cl) : Nat := (L.filter fun x => decide (x.kind ≠ K)).length
theorem null_take (K : Int) (G : List Cl) (i : Nat) (h : i < G.length) : nullL K (G.take (i + 1)) = nullL K (G.take i) + (if (G.getD i Cl0).kind = K then 0 else 1) := by
  have e : G.take (i + 1) = G.take i ++ [G.getD i Cl0] := by
    rw [List.take_succ_eq_append_getElem h]
    simp [h]
  rw [nullL, e, List.filter_append, List.length_append]
  by_cases hk : (G.getD i Cl0).kind = K
  · rw [if_pos hk, List.filter_cons_of_neg (by simpa using hk)]
    rfl
  · rw [if_neg hk, List.filter_cons_of_pos (by simpa using hk)]
    rfl
theorem co_rounds {B : Nat} (K : Int) (G : List Cl) (z : Zn) (hK : K = 1 ∨ K = 2) (hz : Inz K G z) (h40 : G.length ≤ 40) : ∀ (k i : Nat), k = G.length - i → i ≤ G.length →
    LoopDoes Try.prog B (Lf (Lf (Rt (Lf (Rt (Rt (Rt (Rt (Rt (Rt (Rt (Rt (Rt (Rt (Rt (Rt (Try.f5.body.getD .skip))))))))))))))))) (coS K G.length i (nullL K (G.take i) : Nat) G z) (.exit 2) (coS K G.length G.length (nullL K G : Nat) G z)
  | 0, i, hk, hi => by
    have he : i = G.length := by omega
    rw [he, List.take_length]
    exact LoopDoes.last (co_pack rfl (co_e G z G.length _ K (by omega))) (by simp)
  | k + 1, i, hk, hi => by
    have hlt : i < G.length := by omega
    have hs := null_take K G i hlt
    have hle : nullL K (G.take i) ≤ 40 := by
      have h1 : nullL K (G.take i) ≤ (G.take i).length := List.length_filter_le _ _
      rw [List.length_take] at h1
      omega
    refine LoopDoes.more (s1 := coS K G.length (i + 1) (nullL K (G.take (i + 1)) : Nat) G z) ?_ (co_rounds K G z hK hz h40 k (i + 1) (by omega) (by omega))
    by_cases hc : (G.getD i Cl0).kind = K
    · rw [if_pos hc, Nat.add_zero] at hs
      rw [hs]
      rcases hK with rfl | rfl
      · obtain ⟨h1, h2⟩ := hz.num rfl i hlt hc
        exact co_pack (by omega) (co_i G z i _ hlt (by omega) hc h1 h2)
      · obtain ⟨h1, h2⟩ := hz.txt rfl i hlt hc
        exact co_pack (by omega) (co_t G z i _ hlt (by omega) hc h1 h2)
    · rw [if_neg hc] at hs
      rw [hs, show ((nullL K (G.take i) + 1 : Nat) : Int) = ((nullL K (G.take i) : Nat) : Int) + 1 by omega]
      exact co_pack (by omega) (co_n G z i _ K hlt (by omega) (by omega) hc)
theorem co_loop {B : Nat} (K : Int) (G : List Cl) (z : Zn) (hz : Inz K G ⟨z.kind, z.rows, z.nulls, z.minN, z.maxN, z.minS, z.maxS⟩) (hK : K = 1 ∨ K = 2) (hn : (nullL K G : Int) = z.nulls) (h40 : G.length ≤ 40) :
    CodeDoes Try.prog B (Lf (Rt (Lf (Rt (Rt (Rt (Rt (Rt (Rt (Rt (Rt (Rt (Rt (Rt (Rt (Try.f5.body.getD .skip)))))))))))))))) (coS K G.length (0 : Nat) 0 G z) (.exit 2) (coS K G.length G.length z.nulls G z) := by
  rw [← hn]
  exact CodeDoes.loopAt (by kernel_rfl) (co_rounds K G z hK hz h40 G.length 0 rfl (Nat.zero_le _))
end Go.Proofs.Ytgejenhcloiieaa.Z8
