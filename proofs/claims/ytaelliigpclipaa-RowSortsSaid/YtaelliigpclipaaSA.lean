/- Rows as values, compared. Printed by gen_sa.py. -/
import Derived.Test.YtaelliigpclipaaEngRD
import Derived.Test.YtaelliigpclipaaVBits
import Derived.Test.YtaelliigpclipaaProg
import Derived.KernelRfl
namespace Go.Proofs.Ytaelliigpclipaa.V
open Go Go.RowKit Go.Proofs Go.Proofs.Ytaelliigpclipaa.Eng Go.Proofs.Ytaelliigpclipaa.VPl
set_option maxRecDepth 100000
set_option linter.unusedVariables false
set_option linter.unusedSimpArgs false
theorem mix : Try.prog.follows .mixedOrders = true := by kernel_rfl
theorem el23 : Eng.elemOf Try.prog 23 = some 28 := by kernel_rfl
theorem el22 : Eng.elemOf Try.prog 22 = some 25 := by kernel_rfl
theorem sz28 : tsize Try.prog 28 = some 4 := by kernel_rfl
theorem ag28 : tagg Try.prog 28 = some true := by kernel_rfl
theorem sz25 : tsize Try.prog 25 = some 3 := by kernel_rfl
theorem ag25 : tagg Try.prog 25 = some true := by kernel_rfl
theorem sz9 : tsize Try.prog 9 = some 1 := by kernel_rfl
theorem ag9 : tagg Try.prog 9 = some false := by kernel_rfl
theorem sz3 : tsize Try.prog 3 = some 1 := by kernel_rfl
theorem ag3 : tagg Try.prog 3 = some false := by kernel_rfl
theorem sz2 : tsize Try.prog 2 = some 1 := by kernel_rfl
theorem ag2 : tagg Try.prog 2 = some false := by kernel_rfl
theorem sz23 : tsize Try.prog 23 = some 1 := by kernel_rfl
theorem ag23 : tagg Try.prog 23 = some false := by kernel_rfl
theorem un9 : Try.prog.underlying 9 = some .string := by kernel_rfl
theorem by28 : tbytes Try.prog 28 = some 48 := by kernel_rfl
theorem by25 : tbytes Try.prog 25 = some 40 := by kernel_rfl
structure Cl where
  col : ByteArray
  kind : Int
  n : Int
  s : ByteArray
abbrev Cl.cv (x : Cl) : List SV := [.str x.col, .int .i64 x.kind, .int .i64 x.n, .str x.s]
abbrev Cl0 : Cl := ⟨⟨#[]⟩, 0, 0, ⟨#[]⟩⟩
theorem Cl_len : ∀ x : Cl, x.cv.length = 4 := fun _ => rfl
theorem Cl_plain : ∀ x : Cl, ∀ v ∈ x.cv, plainB v = true := fun x v hv => by simp at hv; rcases hv with rfl | rfl | rfl | rfl <;> rfl
theorem Cl_flat (L : List Cl) : ∀ v ∈ flat Cl.cv L, plainB v = true := fun v hv => by obtain ⟨x, hx⟩ := flat_mem hv; exact Cl_plain x v hx
theorem Cl_blk (L : List Cl) (o : Bool) : blkN ⟨flat Cl.cv L, o⟩ = [] := List.flatMap_eq_nil_iff.2 fun v hv => by have := Cl_flat L v hv; cases v <;> first | rfl | cases this
theorem subCl (L : List Cl) : sub (flat Cl.cv L) 0 (L.length * 4) = some (flat Cl.cv L) := by
  have := flat_sub Cl.cv 4 Cl_len L 0 L.length (by omega)
  rwa [Nat.zero_mul, List.drop_zero, List.take_length] at this
theorem subToCl (L : List Cl) (k : Nat) (h : k ≤ L.length) : sub (flat Cl.cv L) 0 (k * 4) = some (flat Cl.cv (L.take k)) := by
  have := flat_sub Cl.cv 4 Cl_len L 0 k (by omega)
  rwa [Nat.zero_mul, List.drop_zero] at this
theorem Cl_flen (L : List Cl) : (flat Cl.cv L).length = L.length * 4 := flat_length _ 4 Cl_len L
structure Rw where
  time : Int
  seq : Int
  cells : List Cl
abbrev Rw.cv (x : Rw) : List SV := [.int .i64 x.time, .int .i64 x.seq, .slv x.cells.length none 4 (flat Cl.cv x.cells)]
abbrev Rw0 : Rw := ⟨0, 0, []⟩
theorem Rw_len : ∀ x : Rw, x.cv.length = 3 := fun _ => rfl
theorem Rw_plain : ∀ x : Rw, ∀ v ∈ x.cv, plainB v = true := fun x v hv => by simp at hv; rcases hv with rfl | rfl | rfl <;> rfl
theorem Rw_flat (L : List Rw) : ∀ v ∈ flat Rw.cv L, plainB v = true := fun v hv => by obtain ⟨x, hx⟩ := flat_mem hv; exact Rw_plain x v hx
theorem Rw_blk (L : List Rw) (o : Bool) : blkN ⟨flat Rw.cv L, o⟩ = [] := List.flatMap_eq_nil_iff.2 fun v hv => by have := Rw_flat L v hv; cases v <;> first | rfl | cases this
theorem subRw (L : List Rw) : sub (flat Rw.cv L) 0 (L.length * 3) = some (flat Rw.cv L) := by
  have := flat_sub Rw.cv 3 Rw_len L 0 L.length (by omega)
  rwa [Nat.zero_mul, List.drop_zero, List.take_length] at this
theorem subToRw (L : List Rw) (k : Nat) (h : k ≤ L.length) : sub (flat Rw.cv L) 0 (k * 3) = some (flat Rw.cv (L.take k)) := by
  have := flat_sub Rw.cv 3 Rw_len L 0 k (by omega)
  rwa [Nat.zero_mul, List.drop_zero] at this
theorem Rw_flen (L : List Rw) : (flat Rw.cv L).length = L.length * 3 := flat_length _ 3 Rw_len L
theorem zr28 : tzero Try.prog 28 = some [.str ⟨#[]⟩, .int .i64 0, .int .i64 0, .str ⟨#[]⟩] := by kernel_rfl
theorem zr25 : tzero Try.prog 25 = some [.int .i64 0, .int .i64 0, .sl0] := by kernel_rfl
theorem ixCl {kd : IntKind} {q : Int} {k len : Nat} {cap : Option Nat} {L : List Cl} (hq : q = (k : Int)) (h1 : k < L.length) (hl : len = L.length) : evIndexAddr Try.prog 23 (.s (.slv len cap 4 (flat Cl.cv L))) (.s (.int kd q)) = some (.s (.ptv (L.getD k Cl0).cv)) := claim_indexv Cl0 Cl_len el23 sz28 hq h1 hl
theorem ixpCl {kd : IntKind} {k len : Nat} {cap : Option Nat} {L : List Cl} (h0 : 0 < k) (h1 : k ≤ L.length) (hl : len = L.length) : evIndexAddr Try.prog 23 (.s (.slv len cap 4 (flat Cl.cv L))) (.s (.int kd ((k : Int) - 1))) = some (.s (.ptv (L.getD (k - 1) Cl0).cv)) := claim_indexv Cl0 Cl_len el23 sz28 (by omega) (by omega) hl
theorem sltoCl {kd : IntKind} {q : Int} {len n off : Nat} {cap : Option Nat} (h0 : 0 ≤ q) (h1 : q ≤ (len : Int)) : evSlice Try.prog 23 (.s (.sl n off len cap 4)) none (some (.s (.int kd q))) none = some (.s (.sl n off q.toNat cap 4)) := claim_slto el23 sz28 (by decide) (by omega) (by omega)
theorem appoCl {n n2 len c : Nat} {A : List Cl} {news : List SV} {own2 : Bool} (hne : n ≠ n2) (hl : len = A.length) (hn : news.length = 4) (hmax : A.length + 1 ≤ maxLen) (hby : (A.length + 1) * 48 ≤ 140737488355328) :
    less 2 (evAppend Try.prog 23 23 (.s (.sl n 0 len none 4)) (.s (.sl n2 0 1 none 4)) [(n, some ⟨flat Cl.cv A, true⟩), (n2, some ⟨news, own2⟩)] c) = some (.s (.sl c 0 (len + 1) none 4), [(c, some ⟨flat Cl.cv A ++ news, true⟩), (n, none)], c + 1) := by
  subst hl
  exact claim_appown el23 el23 sz28 by28 zr28 rfl (by decide) hne (Cl_flen A) (by unfold sub; rw [if_pos (by omega), List.drop_zero, ← hn, Nat.one_mul, List.take_length]) hmax hby
theorem ldCl_col {n k : Nat} {L : List Cl} {o : Bool} (h : k < L.length) : loadG Try.prog 9 (.s (.ptr n (0 + k * 4 + 0))) (fun _ => some ⟨flat Cl.cv L, o⟩) = some (.s (.str (L.getD k Cl0).col)) := claim_loadf (i := k) (j := 0) Cl0 Cl_len sz9 ag9 (by omega) h (by decide) rfl
theorem stCl_col {n k c : Nat} {L : List Cl} {v : ByteArray} (h : k < L.length) : storeR (storeG Try.prog 9 (.s (.ptr n (0 + k * 4 + 0))) (.s (.str v)) (fun _ => some ⟨flat Cl.cv L, true⟩)) c = some (.any, [(n, some ⟨flat Cl.cv (L.set k ⟨v, (L.getD k Cl0).kind, (L.getD k Cl0).n, (L.getD k Cl0).s⟩), true⟩)], c) := claim_storef (i := k) (j := 0) Cl0 ⟨v, (L.getD k Cl0).kind, (L.getD k Cl0).n, (L.getD k Cl0).s⟩ Cl_len sz9 (by omega) h (by decide) rfl
theorem ldCl_kind {n k : Nat} {L : List Cl} {o : Bool} (h : k < L.length) : loadG Try.prog 3 (.s (.ptr n (0 + k * 4 + 1))) (fun _ => some ⟨flat Cl.cv L, o⟩) = some (.s (.int .i64 (L.getD k Cl0).kind)) := claim_loadf (i := k) (j := 1) Cl0 Cl_len sz3 ag3 (by omega) h (by decide) rfl
theorem stCl_kind {n k c : Nat} {L : List Cl} {v : Int} (h : k < L.length) : storeR (storeG Try.prog 3 (.s (.ptr n (0 + k * 4 + 1))) (.s (.int .i64 v)) (fun _ => some ⟨flat Cl.cv L, true⟩)) c = some (.any, [(n, some ⟨flat Cl.cv (L.set k ⟨(L.getD k Cl0).col, v, (L.getD k Cl0).n, (L.getD k Cl0).s⟩), true⟩)], c) := claim_storef (i := k) (j := 1) Cl0 ⟨(L.getD k Cl0).col, v, (L.getD k Cl0).n, (L.getD k Cl0).s⟩ Cl_len sz3 (by omega) h (by decide) rfl
theorem ldCl_n {n k : Nat} {L : List Cl} {o : Bool} (h : k < L.length) : loadG Try.prog 2 (.s (.ptr n (0 + k * 4 + 2))) (fun _ => some ⟨flat Cl.cv L, o⟩) = some (.s (.int .i64 (L.getD k Cl0).n)) := claim_loadf (i := k) (j := 2) Cl0 Cl_len sz2 ag2 (by omega) h (by decide) rfl
theorem stCl_n {n k c : Nat} {L : List Cl} {v : Int} (h : k < L.length) : storeR (storeG Try.prog 2 (.s (.ptr n (0 + k * 4 + 2))) (.s (.int .i64 v)) (fun _ => some ⟨flat Cl.cv L, true⟩)) c = some (.any, [(n, some ⟨flat Cl.cv (L.set k ⟨(L.getD k Cl0).col, (L.getD k Cl0).kind, v, (L.getD k Cl0).s⟩), true⟩)], c) := claim_storef (i := k) (j := 2) Cl0 ⟨(L.getD k Cl0).col, (L.getD k Cl0).kind, v, (L.getD k Cl0).s⟩ Cl_len sz2 (by omega) h (by decide) rfl
theorem ldCl_s {n k : Nat} {L : List Cl} {o : Bool} (h : k < L.length) : loadG Try.prog 9 (.s (.ptr n (0 + k * 4 + 3))) (fun _ => some ⟨flat Cl.cv L, o⟩) = some (.s (.str (L.getD k Cl0).s)) := claim_loadf (i := k) (j := 3) Cl0 Cl_len sz9 ag9 (by omega) h (by decide) rfl
theorem stCl_s {n k c : Nat} {L : List Cl} {v : ByteArray} (h : k < L.length) : storeR (storeG Try.prog 9 (.s (.ptr n (0 + k * 4 + 3))) (.s (.str v)) (fun _ => some ⟨flat Cl.cv L, true⟩)) c = some (.any, [(n, some ⟨flat Cl.cv (L.set k ⟨(L.getD k Cl0).col, (L.getD k Cl0).kind, (L.getD k Cl0).n, v⟩), true⟩)], c) := claim_storef (i := k) (j := 3) Cl0 ⟨(L.getD k Cl0).col, (L.getD k Cl0).kind, (L.getD k Cl0).n, v⟩ Cl_len sz9 (by omega) h (by decide) rfl
theorem ixsCl {kd : IntKind} {q : Int} {k len n off : Nat} {cap : Option Nat} (hq : q = (k : Int)) (h1 : k < len) : evIndexAddr Try.prog 23 (.s (.sl n off len cap 4)) (.s (.int kd q)) = some (.s (.ptr n (off + k * 4))) := claim_index el23 sz28 hq h1
theorem toCl {kd : IntKind} {q : Int} {k len : Nat} {cap : Option Nat} {L : List Cl} (hq : q = (k : Int)) (h1 : k ≤ L.length) (hl : len = L.length) : evSlice Try.prog 23 (.s (.slv len cap 4 (flat Cl.cv L))) none (some (.s (.int kd q))) none = some (.s (.slv k cap 4 (flat Cl.cv (L.take k)))) := claim_slvto Cl_len el23 sz28 (by decide) hq h1 hl
theorem fromCl {kd : IntKind} {q : Int} {k len : Nat} {cap : Option Nat} {L : List Cl} (hq : q = (k : Int)) (h1 : k ≤ L.length) (hl : len = L.length) : evSlice Try.prog 23 (.s (.slv len cap 4 (flat Cl.cv L))) (some (.s (.int kd q))) none none = some (.s (.slv (len - k) (cap.map (· - k)) 4 (flat Cl.cv (L.drop k)))) := claim_slvfrom Cl_len el23 sz28 (by decide) hq h1 hl
theorem loadCl {n off k : Nat} {L : List Cl} {o : Bool} (ho : off = 0) (h : k < L.length) : loadG Try.prog 28 (.s (.ptr n (off + k * 4))) (fun _ => some ⟨flat Cl.cv L, o⟩) = some (.agg (L.getD k Cl0).cv) := by
  subst ho
  refine claim_load_agg sz28 ag28 ?_
  show sub (flat Cl.cv L) (0 + k * 4) 4 = _
  rw [Nat.zero_add, flat_get Cl.cv 4 Cl_len L k h]
  simp [h]
theorem appCl {tx e2 n len k c : Nat} {cap : Option Nat} {A X : List Cl} (hx : Eng.elemOf Try.prog tx = some e2) (hl : len = A.length) (hk : k = X.length) (hmax : A.length + X.length ≤ maxLen) (hby : (A.length + X.length) * 48 ≤ 140737488355328) :
    less 1 (evAppend Try.prog 23 tx (.s (.sl n 0 len none 4)) (.s (.slv k cap 4 (flat Cl.cv X))) [(n, some ⟨flat Cl.cv A, true⟩)] c) = some (.s (.sl c 0 (len + k) none 4), [(c, some ⟨flat Cl.cv (A ++ X), true⟩), (n, none)], c + 1) := by
  subst hl; subst hk
  rw [flat_append]
  exact claim_appv el23 hx sz28 by28 zr28 rfl (by decide) (Cl_flen A) hmax hby
theorem app0Cl {tx e2 n k c : Nat} {cap : Option Nat} {X : List Cl} (hx : Eng.elemOf Try.prog tx = some e2) (hk : k = X.length) (hmax : X.length ≤ maxLen) (hby : X.length * 48 ≤ 140737488355328) :
    less 1 (evAppend Try.prog 23 tx (.s (.sl n 0 0 none 4)) (.s (.slv k cap 4 (flat Cl.cv X))) [(n, some ⟨[], true⟩)] c) = some (.s (.sl c 0 k none 4), [(c, some ⟨flat Cl.cv X, true⟩), (n, none)], c + 1) := by
  have := appCl (n := n) (c := c) (cap := cap) (len := 0) (A := []) (X := X) hx rfl hk (by simpa using hmax) (by simpa using hby)
  rw [Nat.zero_add] at this
  exact this
theorem appnilCl {tx e2 k c : Nat} {cap : Option Nat} {X : List Cl} (hx : Eng.elemOf Try.prog tx = some e2) (hk : k = X.length) (h0 : 0 < X.length) (hmax : X.length ≤ maxLen) (hby : X.length * 48 ≤ 140737488355328) :
    less 0 (evAppend Try.prog 23 tx (.s .sl0) (.s (.slv k cap 4 (flat Cl.cv X))) [] c) = some (.s (.sl c 0 k none 4), [(c, some ⟨flat Cl.cv X, true⟩)], c + 1) := by
  subst hk
  exact claim_appnil el23 hx sz28 by28 zr28 rfl (by decide) h0 hmax hby
theorem ixRw {kd : IntKind} {q : Int} {k len : Nat} {cap : Option Nat} {L : List Rw} (hq : q = (k : Int)) (h1 : k < L.length) (hl : len = L.length) : evIndexAddr Try.prog 22 (.s (.slv len cap 3 (flat Rw.cv L))) (.s (.int kd q)) = some (.s (.ptv (L.getD k Rw0).cv)) := claim_indexv Rw0 Rw_len el22 sz25 hq h1 hl
theorem ixpRw {kd : IntKind} {k len : Nat} {cap : Option Nat} {L : List Rw} (h0 : 0 < k) (h1 : k ≤ L.length) (hl : len = L.length) : evIndexAddr Try.prog 22 (.s (.slv len cap 3 (flat Rw.cv L))) (.s (.int kd ((k : Int) - 1))) = some (.s (.ptv (L.getD (k - 1) Rw0).cv)) := claim_indexv Rw0 Rw_len el22 sz25 (by omega) (by omega) hl
theorem sltoRw {kd : IntKind} {q : Int} {len n off : Nat} {cap : Option Nat} (h0 : 0 ≤ q) (h1 : q ≤ (len : Int)) : evSlice Try.prog 22 (.s (.sl n off len cap 3)) none (some (.s (.int kd q))) none = some (.s (.sl n off q.toNat cap 3)) := claim_slto el22 sz25 (by decide) (by omega) (by omega)
theorem appoRw {n n2 len c : Nat} {A : List Rw} {news : List SV} {own2 : Bool} (hne : n ≠ n2) (hl : len = A.length) (hn : news.length = 3) (hmax : A.length + 1 ≤ maxLen) (hby : (A.length + 1) * 40 ≤ 140737488355328) :
    less 2 (evAppend Try.prog 22 22 (.s (.sl n 0 len none 3)) (.s (.sl n2 0 1 none 3)) [(n, some ⟨flat Rw.cv A, true⟩), (n2, some ⟨news, own2⟩)] c) = some (.s (.sl c 0 (len + 1) none 3), [(c, some ⟨flat Rw.cv A ++ news, true⟩), (n, none)], c + 1) := by
  subst hl
  exact claim_appown el22 el22 sz25 by25 zr25 rfl (by decide) hne (Rw_flen A) (by unfold sub; rw [if_pos (by omega), List.drop_zero, ← hn, Nat.one_mul, List.take_length]) hmax hby
theorem ldRw_time {n k : Nat} {L : List Rw} {o : Bool} (h : k < L.length) : loadG Try.prog 2 (.s (.ptr n (0 + k * 3 + 0))) (fun _ => some ⟨flat Rw.cv L, o⟩) = some (.s (.int .i64 (L.getD k Rw0).time)) := claim_loadf (i := k) (j := 0) Rw0 Rw_len sz2 ag2 (by omega) h (by decide) rfl
theorem stRw_time {n k c : Nat} {L : List Rw} {v : Int} (h : k < L.length) : storeR (storeG Try.prog 2 (.s (.ptr n (0 + k * 3 + 0))) (.s (.int .i64 v)) (fun _ => some ⟨flat Rw.cv L, true⟩)) c = some (.any, [(n, some ⟨flat Rw.cv (L.set k ⟨v, (L.getD k Rw0).seq, (L.getD k Rw0).cells⟩), true⟩)], c) := claim_storef (i := k) (j := 0) Rw0 ⟨v, (L.getD k Rw0).seq, (L.getD k Rw0).cells⟩ Rw_len sz2 (by omega) h (by decide) rfl
theorem ldRw_seq {n k : Nat} {L : List Rw} {o : Bool} (h : k < L.length) : loadG Try.prog 3 (.s (.ptr n (0 + k * 3 + 1))) (fun _ => some ⟨flat Rw.cv L, o⟩) = some (.s (.int .i64 (L.getD k Rw0).seq)) := claim_loadf (i := k) (j := 1) Rw0 Rw_len sz3 ag3 (by omega) h (by decide) rfl
theorem stRw_seq {n k c : Nat} {L : List Rw} {v : Int} (h : k < L.length) : storeR (storeG Try.prog 3 (.s (.ptr n (0 + k * 3 + 1))) (.s (.int .i64 v)) (fun _ => some ⟨flat Rw.cv L, true⟩)) c = some (.any, [(n, some ⟨flat Rw.cv (L.set k ⟨(L.getD k Rw0).time, v, (L.getD k Rw0).cells⟩), true⟩)], c) := claim_storef (i := k) (j := 1) Rw0 ⟨(L.getD k Rw0).time, v, (L.getD k Rw0).cells⟩ Rw_len sz3 (by omega) h (by decide) rfl
theorem ixsRw {kd : IntKind} {q : Int} {k len n off : Nat} {cap : Option Nat} (hq : q = (k : Int)) (h1 : k < len) : evIndexAddr Try.prog 22 (.s (.sl n off len cap 3)) (.s (.int kd q)) = some (.s (.ptr n (off + k * 3))) := claim_index el22 sz25 hq h1
theorem toRw {kd : IntKind} {q : Int} {k len : Nat} {cap : Option Nat} {L : List Rw} (hq : q = (k : Int)) (h1 : k ≤ L.length) (hl : len = L.length) : evSlice Try.prog 22 (.s (.slv len cap 3 (flat Rw.cv L))) none (some (.s (.int kd q))) none = some (.s (.slv k cap 3 (flat Rw.cv (L.take k)))) := claim_slvto Rw_len el22 sz25 (by decide) hq h1 hl
theorem fromRw {kd : IntKind} {q : Int} {k len : Nat} {cap : Option Nat} {L : List Rw} (hq : q = (k : Int)) (h1 : k ≤ L.length) (hl : len = L.length) : evSlice Try.prog 22 (.s (.slv len cap 3 (flat Rw.cv L))) (some (.s (.int kd q))) none none = some (.s (.slv (len - k) (cap.map (· - k)) 3 (flat Rw.cv (L.drop k)))) := claim_slvfrom Rw_len el22 sz25 (by decide) hq h1 hl
theorem loadRw {n off k : Nat} {L : List Rw} {o : Bool} (ho : off = 0) (h : k < L.length) : loadG Try.prog 25 (.s (.ptr n (off + k * 3))) (fun _ => some ⟨flat Rw.cv L, o⟩) = some (.agg (L.getD k Rw0).cv) := by
  subst ho
  refine claim_load_agg sz25 ag25 ?_
  show sub (flat Rw.cv L) (0 + k * 3) 3 = _
  rw [Nat.zero_add, flat_get Rw.cv 3 Rw_len L k h]
  simp [h]
theorem appRw {tx e2 n len k c : Nat} {cap : Option Nat} {A X : List Rw} (hx : Eng.elemOf Try.prog tx = some e2) (hl : len = A.length) (hk : k = X.length) (hmax : A.length + X.length ≤ maxLen) (hby : (A.length + X.length) * 40 ≤ 140737488355328) :
    less 1 (evAppend Try.prog 22 tx (.s (.sl n 0 len none 3)) (.s (.slv k cap 3 (flat Rw.cv X))) [(n, some ⟨flat Rw.cv A, true⟩)] c) = some (.s (.sl c 0 (len + k) none 3), [(c, some ⟨flat Rw.cv (A ++ X), true⟩), (n, none)], c + 1) := by
  subst hl; subst hk
  rw [flat_append]
  exact claim_appv el22 hx sz25 by25 zr25 rfl (by decide) (Rw_flen A) hmax hby
theorem app0Rw {tx e2 n k c : Nat} {cap : Option Nat} {X : List Rw} (hx : Eng.elemOf Try.prog tx = some e2) (hk : k = X.length) (hmax : X.length ≤ maxLen) (hby : X.length * 40 ≤ 140737488355328) :
    less 1 (evAppend Try.prog 22 tx (.s (.sl n 0 0 none 3)) (.s (.slv k cap 3 (flat Rw.cv X))) [(n, some ⟨[], true⟩)] c) = some (.s (.sl c 0 k none 3), [(c, some ⟨flat Rw.cv X, true⟩), (n, none)], c + 1) := by
  have := appRw (n := n) (c := c) (cap := cap) (len := 0) (A := []) (X := X) hx rfl hk (by simpa using hmax) (by simpa using hby)
  rw [Nat.zero_add] at this
  exact this
theorem appnilRw {tx e2 k c : Nat} {cap : Option Nat} {X : List Rw} (hx : Eng.elemOf Try.prog tx = some e2) (hk : k = X.length) (h0 : 0 < X.length) (hmax : X.length ≤ maxLen) (hby : X.length * 40 ≤ 140737488355328) :
    less 0 (evAppend Try.prog 22 tx (.s .sl0) (.s (.slv k cap 3 (flat Rw.cv X))) [] c) = some (.s (.sl c 0 k none 3), [(c, some ⟨flat Rw.cv X, true⟩)], c + 1) := by
  subst hk
  exact claim_appnil el22 hx sz25 by25 zr25 rfl (by decide) h0 hmax hby
theorem fs28 : ∃ fs, fieldsOf Try.prog 28 = some fs := ⟨(fieldsOf Try.prog 28).getD #[], by kernel_rfl⟩
theorem eqCl {a0 b0 : ByteArray} {a1 b1 : Int} {a2 b2 : Int} {a3 b3 : ByteArray} : Option.map AV.s (evBin Try.prog .eql 28 (.agg [.str a0, .int .i64 a1, .int .i64 a2, .str a3]) (.agg [.str b0, .int .i64 b1, .int .i64 b2, .str b3])) = some (.s (.bool (allB [(a0.data.toList == b0.data.toList), (a1 == b1), (a2 == b2), (a3.data.toList == b3.data.toList)]))) := claim_eqs (fs := (fieldsOf Try.prog 28).getD #[]) (by kernel_rfl) (by kernel_rfl) (by kernel_rfl)
theorem neCl {a0 b0 : ByteArray} {a1 b1 : Int} {a2 b2 : Int} {a3 b3 : ByteArray} : Option.map AV.s (evBin Try.prog .neq 28 (.agg [.str a0, .int .i64 a1, .int .i64 a2, .str a3]) (.agg [.str b0, .int .i64 b1, .int .i64 b2, .str b3])) = some (.s (.bool (!allB [(a0.data.toList == b0.data.toList), (a1 == b1), (a2 == b2), (a3.data.toList == b3.data.toList)]))) := claim_nes (fs := (fieldsOf Try.prog 28).getD #[]) (by kernel_rfl) (by kernel_rfl) (by kernel_rfl)

theorem over_flat {α : Type} {f : α → List SV} {sz : Nat} (hf : ∀ x, (f x).length = sz) (y : α) : ∀ (L : List α) (i : Nat), i < L.length → over (flat f L) (i * sz) (f y) = flat f (L.set i y)
  | [], i, h => by simp at h
  | x :: L, 0, h => by
    show (flat f (x :: L)).take (0 * sz) ++ f y ++ (flat f (x :: L)).drop (0 * sz + (f y).length) = _
    rw [Nat.zero_mul, List.take_zero, List.nil_append, Nat.zero_add, hf, List.set_cons_zero, flat, flat]
    congr 1
    rw [← hf x, List.drop_left]
  | x :: L, i + 1, h => by
    have ih := over_flat hf y L i (by simpa using h)
    unfold over at ih ⊢
    rw [List.set_cons_succ, flat, flat, ← ih, Nat.succ_mul, Nat.add_comm (i * sz) sz]
    have h1 : (f x ++ flat f L).take (sz + i * sz) = f x ++ (flat f L).take (i * sz) := by rw [← hf x, List.take_length_add_append]
    have h2 : (f x ++ flat f L).drop (sz + i * sz + (f y).length) = (flat f L).drop (i * sz + (f y).length) := by rw [Nat.add_assoc, ← hf x, List.drop_length_add_append]
    rw [h1, h2]
    simp only [List.append_assoc]
/-- A whole element of a row, stored. -/
theorem claim_storew {α : Type} {f : α → List SV} {t sz n off i c : Nat} {L : List α} (y : α) {cs : List SV} (hf : ∀ x, (f x).length = sz) (hs : tsize Try.prog t = some sz) (ho : off = i * sz) (hi : i < L.length) (hy : f y = cs) :
    storeR (storeG Try.prog t (.s (.ptr n off)) (.agg cs) (fun _ => some ⟨flat f L, true⟩)) c = some (.any, [(n, some ⟨flat f (L.set i y), true⟩)], c) := by
  subst ho
  subst hy
  have hl : (flat f L).length = L.length * sz := flat_length f sz hf L
  have hle : i * sz + sz ≤ (flat f L).length := by
    rw [hl]
    have : (i + 1) * sz ≤ L.length * sz := Nat.mul_le_mul_right _ hi
    rw [Nat.succ_mul] at this
    omega
  have hc : ((f y).length == sz && decide (i * sz + sz ≤ (flat f L).length)) = true := by
    rw [Bool.and_eq_true]
    exact ⟨by simp [hf], decide_eq_true hle⟩
  simp only [storeG, hs, AV.cells]
  rw [if_pos hc, over_flat hf y L i hi]
  rfl
theorem stwRw {n off k c len : Nat} {L : List Rw} {t q : Int} {C : List Cl} (ho : off = 0) (hl : len = C.length) (h : k < L.length) : storeR (storeG Try.prog 25 (.s (.ptr n (off + k * 3))) (.agg [.int .i64 t, .int .i64 q, .slv len none 4 (flat Cl.cv C)]) (fun _ => some ⟨flat Rw.cv L, true⟩)) c = some (.any, [(n, some ⟨flat Rw.cv (L.set k ⟨t, q, C⟩), true⟩)], c) := by
  subst ho; subst hl; exact claim_storew (i := k) ⟨t, q, C⟩ Rw_len sz25 (show 0 + k * 3 = k * 3 by omega) h rfl
theorem ldRw_cells {n k : Nat} {L : List Rw} {o : Bool} (h : k < L.length) : loadG Try.prog 23 (.s (.ptr n (0 + k * 3 + 2))) (fun _ => some ⟨flat Rw.cv L, o⟩) = some (.s (.slv ((L).getD k Rw0).cells.length none 4 (flat Cl.cv ((L).getD k Rw0).cells))) := claim_loadf (i := k) (j := 2) Rw0 Rw_len sz23 ag23 (by omega) h (by decide) rfl
theorem stRw_cells {n k c len : Nat} {L : List Rw} {C : List Cl} (hl : len = C.length) (h : k < L.length) : storeR (storeG Try.prog 23 (.s (.ptr n (0 + k * 3 + 2))) (.s (.slv len none 4 (flat Cl.cv C))) (fun _ => some ⟨flat Rw.cv L, true⟩)) c = some (.any, [(n, some ⟨flat Rw.cv (L.set k ⟨(L.getD k Rw0).time, (L.getD k Rw0).seq, C⟩), true⟩)], c) := by
  subst hl; exact claim_storef (i := k) (j := 2) Rw0 ⟨(L.getD k Rw0).time, (L.getD k Rw0).seq, C⟩ Rw_len sz23 (by omega) h (by decide) rfl
theorem ixspRw {kd : IntKind} {k len n off : Nat} {cap : Option Nat} (h0 : 0 < k) (h1 : k ≤ len) : evIndexAddr Try.prog 22 (.s (.sl n off len cap 3)) (.s (.int kd ((k : Int) - 1))) = some (.s (.ptr n (off + (k - 1) * 3))) := claim_index el22 sz25 (by omega) (by omega)

/-- Two numbers, compared. -/
@[irreducible] def cmpI (x y : Int) : Int := if x < y then -1 else if x > y then 1 else 0
attribute [local irreducible] Eng.evAppend Eng.evSlice Eng.less CallDoes Eng.loadG Eng.evIndexAddr Eng.evBin
theorem nanA_1 {B : Nat} (x : Int)  : CodeDoes Try.prog B (Try.f70.body.getD .skip) ⟨⟨6, [(0, .s (.int .i64 x))]⟩, [], 0⟩ Ex.ret ⟨⟨6, [(2, AV.s (SV.bool false))]⟩, [], 0⟩ :=
  goA_ok mix (tape := [(3, Ans.val (AV.s (SV.bool Bool.false)))]) (dl := [2]) (nl := []) (C := [(some (AV.s (SV.bool (x != x))) = some (AV.s (SV.bool Bool.false)))]) (by kernel_rfl) ⟨claim_b (by exact bne_eq_false_iff_eq.2 (by first | assumption | omega)), trivial⟩
theorem nanA_does (x : Int) : ValDoes Try.prog 70 [.s (.int .i64 x)] (.s (.bool false)) := by
  exact ValDoes.of_code Try.func70 (by kernel_rfl) (by kernel_rfl) (k := 6) (by kernel_rfl) (fun B => ⟨_, _, .inr rfl, nanA_1 x, Eq.trans (b := some (AV.s (SV.bool false))) (by kernel_rfl) (congrArg some (show (AV.s (SV.bool false)) = (.s (.bool false)) by refine congrArg (fun b => AV.s (SV.bool b)) ?_; simp))⟩) (by kernel_rfl) (List.all_eq_true.1 (by kernel_rfl))
theorem nanA_call {B cc : Nat} (x : Int) : CallDoes Try.prog B 70 [.s (.int .i64 x)] [] cc (.s (.bool false)) ([] ++ []) cc := nanA_does x B cc
theorem nanB_1 {B : Nat} (x : Int)  : CodeDoes Try.prog B (Try.f71.body.getD .skip) ⟨⟨6, [(0, .s (.int .i64 x))]⟩, [], 0⟩ Ex.ret ⟨⟨6, [(2, AV.s (SV.bool false))]⟩, [], 0⟩ :=
  goA_ok mix (tape := [(3, Ans.val (AV.s (SV.bool Bool.false)))]) (dl := [2]) (nl := []) (C := [(some (AV.s (SV.bool (x != x))) = some (AV.s (SV.bool Bool.false)))]) (by kernel_rfl) ⟨claim_b (by exact bne_eq_false_iff_eq.2 (by first | assumption | omega)), trivial⟩
theorem nanB_does (x : Int) : ValDoes Try.prog 71 [.s (.int .i64 x)] (.s (.bool false)) := by
  exact ValDoes.of_code Try.func71 (by kernel_rfl) (by kernel_rfl) (k := 6) (by kernel_rfl) (fun B => ⟨_, _, .inr rfl, nanB_1 x, Eq.trans (b := some (AV.s (SV.bool false))) (by kernel_rfl) (congrArg some (show (AV.s (SV.bool false)) = (.s (.bool false)) by refine congrArg (fun b => AV.s (SV.bool b)) ?_; simp))⟩) (by kernel_rfl) (List.all_eq_true.1 (by kernel_rfl))
theorem nanB_call {B cc : Nat} (x : Int) : CallDoes Try.prog B 71 [.s (.int .i64 x)] [] cc (.s (.bool false)) ([] ++ []) cc := nanB_does x B cc
theorem cmpA_1 {B : Nat} (x y : Int) (h_1 : x < y) : CodeDoes Try.prog B (Try.f52.body.getD .skip) ⟨⟨20, [(0, .s (.int .i64 x)), (1, .s (.int .i64 y))]⟩, [], 0⟩ Ex.ret ⟨⟨20, [(4, AV.s (SV.int IntKind.i64 (-1)))]⟩, [], 0⟩ :=
  goA_ok mix (tape := [(2, Ans.call [] (AV.s (SV.bool false)) [] 0), (5, Ans.call [] (AV.s (SV.bool false)) [] 0), (11, Ans.val (AV.s (SV.bool Bool.true)))]) (dl := [4]) (nl := []) (C := [(some (AV.s (SV.bool (decide (x < y)))) = some (AV.s (SV.bool Bool.true))), (CallDoes Try.prog B 70 [AV.s (SV.int IntKind.i64 y)] [] 0 (AV.s (SV.bool false)) ([] ++ []) 0), (CallDoes Try.prog B 70 [AV.s (SV.int IntKind.i64 x)] [] 0 (AV.s (SV.bool false)) ([] ++ []) 0)]) (by kernel_rfl) ⟨claim_b (by exact decide_eq_true (by first | assumption | omega)), show CallDoes Try.prog B 70 [AV.s (SV.int IntKind.i64 y)] [] 0 (AV.s (SV.bool false)) ([] ++ []) 0 from by (apply nanA_call <;> first | exact el23 | exact el22 | exact sz28 | exact sz25 | exact by28 | exact by25 | exact zr28 | exact zr25 | exact ag28 | exact ag25 | exact un9 | assumption | rfl | omega | (unfold maxLen; omega) | decide | (simp; done) | (simp; omega)), show CallDoes Try.prog B 70 [AV.s (SV.int IntKind.i64 x)] [] 0 (AV.s (SV.bool false)) ([] ++ []) 0 from by (apply nanA_call <;> first | exact el23 | exact el22 | exact sz28 | exact sz25 | exact by28 | exact by25 | exact zr28 | exact zr25 | exact ag28 | exact ag25 | exact un9 | assumption | rfl | omega | (unfold maxLen; omega) | decide | (simp; done) | (simp; omega)), trivial⟩
theorem cmpA_2 {B : Nat} (x y : Int) (h_1 : ¬ (x < y)) (h_2 : x > y) : CodeDoes Try.prog B (Try.f52.body.getD .skip) ⟨⟨20, [(0, .s (.int .i64 x)), (1, .s (.int .i64 y))]⟩, [], 0⟩ Ex.ret ⟨⟨20, [(4, AV.s (SV.int IntKind.i64 1))]⟩, [], 0⟩ :=
  goA_ok mix (tape := [(2, Ans.call [] (AV.s (SV.bool false)) [] 0), (5, Ans.call [] (AV.s (SV.bool false)) [] 0), (11, Ans.val (AV.s (SV.bool Bool.false))), (14, Ans.val (AV.s (SV.bool Bool.true)))]) (dl := [4]) (nl := []) (C := [(some (AV.s (SV.bool (decide (x > y)))) = some (AV.s (SV.bool Bool.true))), (some (AV.s (SV.bool (decide (x < y)))) = some (AV.s (SV.bool Bool.false))), (CallDoes Try.prog B 70 [AV.s (SV.int IntKind.i64 y)] [] 0 (AV.s (SV.bool false)) ([] ++ []) 0), (CallDoes Try.prog B 70 [AV.s (SV.int IntKind.i64 x)] [] 0 (AV.s (SV.bool false)) ([] ++ []) 0)]) (by kernel_rfl) ⟨claim_b (by exact decide_eq_true (by first | assumption | omega)), claim_b (by exact decide_eq_false (by first | assumption | omega)), show CallDoes Try.prog B 70 [AV.s (SV.int IntKind.i64 y)] [] 0 (AV.s (SV.bool false)) ([] ++ []) 0 from by (apply nanA_call <;> first | exact el23 | exact el22 | exact sz28 | exact sz25 | exact by28 | exact by25 | exact zr28 | exact zr25 | exact ag28 | exact ag25 | exact un9 | assumption | rfl | omega | (unfold maxLen; omega) | decide | (simp; done) | (simp; omega)), show CallDoes Try.prog B 70 [AV.s (SV.int IntKind.i64 x)] [] 0 (AV.s (SV.bool false)) ([] ++ []) 0 from by (apply nanA_call <;> first | exact el23 | exact el22 | exact sz28 | exact sz25 | exact by28 | exact by25 | exact zr28 | exact zr25 | exact ag28 | exact ag25 | exact un9 | assumption | rfl | omega | (unfold maxLen; omega) | decide | (simp; done) | (simp; omega)), trivial⟩
theorem cmpA_3 {B : Nat} (x y : Int) (h_1 : ¬ (x < y)) (h_2 : ¬ (x > y)) : CodeDoes Try.prog B (Try.f52.body.getD .skip) ⟨⟨20, [(0, .s (.int .i64 x)), (1, .s (.int .i64 y))]⟩, [], 0⟩ Ex.ret ⟨⟨20, [(4, AV.s (SV.int IntKind.i64 0))]⟩, [], 0⟩ :=
  goA_ok mix (tape := [(2, Ans.call [] (AV.s (SV.bool false)) [] 0), (5, Ans.call [] (AV.s (SV.bool false)) [] 0), (11, Ans.val (AV.s (SV.bool Bool.false))), (14, Ans.val (AV.s (SV.bool Bool.false)))]) (dl := [4]) (nl := []) (C := [(some (AV.s (SV.bool (decide (x > y)))) = some (AV.s (SV.bool Bool.false))), (some (AV.s (SV.bool (decide (x < y)))) = some (AV.s (SV.bool Bool.false))), (CallDoes Try.prog B 70 [AV.s (SV.int IntKind.i64 y)] [] 0 (AV.s (SV.bool false)) ([] ++ []) 0), (CallDoes Try.prog B 70 [AV.s (SV.int IntKind.i64 x)] [] 0 (AV.s (SV.bool false)) ([] ++ []) 0)]) (by kernel_rfl) ⟨claim_b (by exact decide_eq_false (by first | assumption | omega)), claim_b (by exact decide_eq_false (by first | assumption | omega)), show CallDoes Try.prog B 70 [AV.s (SV.int IntKind.i64 y)] [] 0 (AV.s (SV.bool false)) ([] ++ []) 0 from by (apply nanA_call <;> first | exact el23 | exact el22 | exact sz28 | exact sz25 | exact by28 | exact by25 | exact zr28 | exact zr25 | exact ag28 | exact ag25 | exact un9 | assumption | rfl | omega | (unfold maxLen; omega) | decide | (simp; done) | (simp; omega)), show CallDoes Try.prog B 70 [AV.s (SV.int IntKind.i64 x)] [] 0 (AV.s (SV.bool false)) ([] ++ []) 0 from by (apply nanA_call <;> first | exact el23 | exact el22 | exact sz28 | exact sz25 | exact by28 | exact by25 | exact zr28 | exact zr25 | exact ag28 | exact ag25 | exact un9 | assumption | rfl | omega | (unfold maxLen; omega) | decide | (simp; done) | (simp; omega)), trivial⟩
theorem cmpA_does (x y : Int) : ValDoes Try.prog 52 [.s (.int .i64 x), .s (.int .i64 y)] (.s (.int .i64 (cmpI x y))) := by
  by_cases h_1 : x < y
  · exact ValDoes.of_code Try.func52 (by kernel_rfl) (by kernel_rfl) (k := 20) (by kernel_rfl) (fun B => ⟨_, _, .inr rfl, cmpA_1 x y h_1, Eq.trans (b := some (AV.s (SV.int IntKind.i64 (-1)))) (by kernel_rfl) (congrArg some (show (AV.s (SV.int IntKind.i64 (-1))) = (.s (.int .i64 (cmpI x y))) by refine congrArg (fun b => AV.s (SV.int .i64 b)) ?_; unfold cmpI; grind))⟩) (by kernel_rfl) (List.all_eq_true.1 (by kernel_rfl))
  · by_cases h_2 : x > y
    · exact ValDoes.of_code Try.func52 (by kernel_rfl) (by kernel_rfl) (k := 20) (by kernel_rfl) (fun B => ⟨_, _, .inr rfl, cmpA_2 x y h_1 h_2, Eq.trans (b := some (AV.s (SV.int IntKind.i64 1))) (by kernel_rfl) (congrArg some (show (AV.s (SV.int IntKind.i64 1)) = (.s (.int .i64 (cmpI x y))) by refine congrArg (fun b => AV.s (SV.int .i64 b)) ?_; unfold cmpI; grind))⟩) (by kernel_rfl) (List.all_eq_true.1 (by kernel_rfl))
    · exact ValDoes.of_code Try.func52 (by kernel_rfl) (by kernel_rfl) (k := 20) (by kernel_rfl) (fun B => ⟨_, _, .inr rfl, cmpA_3 x y h_1 h_2, Eq.trans (b := some (AV.s (SV.int IntKind.i64 0))) (by kernel_rfl) (congrArg some (show (AV.s (SV.int IntKind.i64 0)) = (.s (.int .i64 (cmpI x y))) by refine congrArg (fun b => AV.s (SV.int .i64 b)) ?_; unfold cmpI; grind))⟩) (by kernel_rfl) (List.all_eq_true.1 (by kernel_rfl))
theorem cmpA_call {B cc : Nat} (x y : Int) : CallDoes Try.prog B 52 [.s (.int .i64 x), .s (.int .i64 y)] [] cc (.s (.int .i64 (cmpI x y))) ([] ++ []) cc := cmpA_does x y B cc
theorem cmpB_1 {B : Nat} (x y : Int) (h_1 : x < y) : CodeDoes Try.prog B (Try.f53.body.getD .skip) ⟨⟨20, [(0, .s (.int .i64 x)), (1, .s (.int .i64 y))]⟩, [], 0⟩ Ex.ret ⟨⟨20, [(4, AV.s (SV.int IntKind.i64 (-1)))]⟩, [], 0⟩ :=
  goA_ok mix (tape := [(2, Ans.call [] (AV.s (SV.bool false)) [] 0), (5, Ans.call [] (AV.s (SV.bool false)) [] 0), (11, Ans.val (AV.s (SV.bool Bool.true)))]) (dl := [4]) (nl := []) (C := [(some (AV.s (SV.bool (decide (x < y)))) = some (AV.s (SV.bool Bool.true))), (CallDoes Try.prog B 71 [AV.s (SV.int IntKind.i64 y)] [] 0 (AV.s (SV.bool false)) ([] ++ []) 0), (CallDoes Try.prog B 71 [AV.s (SV.int IntKind.i64 x)] [] 0 (AV.s (SV.bool false)) ([] ++ []) 0)]) (by kernel_rfl) ⟨claim_b (by exact decide_eq_true (by first | assumption | omega)), show CallDoes Try.prog B 71 [AV.s (SV.int IntKind.i64 y)] [] 0 (AV.s (SV.bool false)) ([] ++ []) 0 from by (apply nanB_call <;> first | exact el23 | exact el22 | exact sz28 | exact sz25 | exact by28 | exact by25 | exact zr28 | exact zr25 | exact ag28 | exact ag25 | exact un9 | assumption | rfl | omega | (unfold maxLen; omega) | decide | (simp; done) | (simp; omega)), show CallDoes Try.prog B 71 [AV.s (SV.int IntKind.i64 x)] [] 0 (AV.s (SV.bool false)) ([] ++ []) 0 from by (apply nanB_call <;> first | exact el23 | exact el22 | exact sz28 | exact sz25 | exact by28 | exact by25 | exact zr28 | exact zr25 | exact ag28 | exact ag25 | exact un9 | assumption | rfl | omega | (unfold maxLen; omega) | decide | (simp; done) | (simp; omega)), trivial⟩
theorem cmpB_2 {B : Nat} (x y : Int) (h_1 : ¬ (x < y)) (h_2 : x > y) : CodeDoes Try.prog B (Try.f53.body.getD .skip) ⟨⟨20, [(0, .s (.int .i64 x)), (1, .s (.int .i64 y))]⟩, [], 0⟩ Ex.ret ⟨⟨20, [(4, AV.s (SV.int IntKind.i64 1))]⟩, [], 0⟩ :=
  goA_ok mix (tape := [(2, Ans.call [] (AV.s (SV.bool false)) [] 0), (5, Ans.call [] (AV.s (SV.bool false)) [] 0), (11, Ans.val (AV.s (SV.bool Bool.false))), (14, Ans.val (AV.s (SV.bool Bool.true)))]) (dl := [4]) (nl := []) (C := [(some (AV.s (SV.bool (decide (x > y)))) = some (AV.s (SV.bool Bool.true))), (some (AV.s (SV.bool (decide (x < y)))) = some (AV.s (SV.bool Bool.false))), (CallDoes Try.prog B 71 [AV.s (SV.int IntKind.i64 y)] [] 0 (AV.s (SV.bool false)) ([] ++ []) 0), (CallDoes Try.prog B 71 [AV.s (SV.int IntKind.i64 x)] [] 0 (AV.s (SV.bool false)) ([] ++ []) 0)]) (by kernel_rfl) ⟨claim_b (by exact decide_eq_true (by first | assumption | omega)), claim_b (by exact decide_eq_false (by first | assumption | omega)), show CallDoes Try.prog B 71 [AV.s (SV.int IntKind.i64 y)] [] 0 (AV.s (SV.bool false)) ([] ++ []) 0 from by (apply nanB_call <;> first | exact el23 | exact el22 | exact sz28 | exact sz25 | exact by28 | exact by25 | exact zr28 | exact zr25 | exact ag28 | exact ag25 | exact un9 | assumption | rfl | omega | (unfold maxLen; omega) | decide | (simp; done) | (simp; omega)), show CallDoes Try.prog B 71 [AV.s (SV.int IntKind.i64 x)] [] 0 (AV.s (SV.bool false)) ([] ++ []) 0 from by (apply nanB_call <;> first | exact el23 | exact el22 | exact sz28 | exact sz25 | exact by28 | exact by25 | exact zr28 | exact zr25 | exact ag28 | exact ag25 | exact un9 | assumption | rfl | omega | (unfold maxLen; omega) | decide | (simp; done) | (simp; omega)), trivial⟩
theorem cmpB_3 {B : Nat} (x y : Int) (h_1 : ¬ (x < y)) (h_2 : ¬ (x > y)) : CodeDoes Try.prog B (Try.f53.body.getD .skip) ⟨⟨20, [(0, .s (.int .i64 x)), (1, .s (.int .i64 y))]⟩, [], 0⟩ Ex.ret ⟨⟨20, [(4, AV.s (SV.int IntKind.i64 0))]⟩, [], 0⟩ :=
  goA_ok mix (tape := [(2, Ans.call [] (AV.s (SV.bool false)) [] 0), (5, Ans.call [] (AV.s (SV.bool false)) [] 0), (11, Ans.val (AV.s (SV.bool Bool.false))), (14, Ans.val (AV.s (SV.bool Bool.false)))]) (dl := [4]) (nl := []) (C := [(some (AV.s (SV.bool (decide (x > y)))) = some (AV.s (SV.bool Bool.false))), (some (AV.s (SV.bool (decide (x < y)))) = some (AV.s (SV.bool Bool.false))), (CallDoes Try.prog B 71 [AV.s (SV.int IntKind.i64 y)] [] 0 (AV.s (SV.bool false)) ([] ++ []) 0), (CallDoes Try.prog B 71 [AV.s (SV.int IntKind.i64 x)] [] 0 (AV.s (SV.bool false)) ([] ++ []) 0)]) (by kernel_rfl) ⟨claim_b (by exact decide_eq_false (by first | assumption | omega)), claim_b (by exact decide_eq_false (by first | assumption | omega)), show CallDoes Try.prog B 71 [AV.s (SV.int IntKind.i64 y)] [] 0 (AV.s (SV.bool false)) ([] ++ []) 0 from by (apply nanB_call <;> first | exact el23 | exact el22 | exact sz28 | exact sz25 | exact by28 | exact by25 | exact zr28 | exact zr25 | exact ag28 | exact ag25 | exact un9 | assumption | rfl | omega | (unfold maxLen; omega) | decide | (simp; done) | (simp; omega)), show CallDoes Try.prog B 71 [AV.s (SV.int IntKind.i64 x)] [] 0 (AV.s (SV.bool false)) ([] ++ []) 0 from by (apply nanB_call <;> first | exact el23 | exact el22 | exact sz28 | exact sz25 | exact by28 | exact by25 | exact zr28 | exact zr25 | exact ag28 | exact ag25 | exact un9 | assumption | rfl | omega | (unfold maxLen; omega) | decide | (simp; done) | (simp; omega)), trivial⟩
theorem cmpB_does (x y : Int) : ValDoes Try.prog 53 [.s (.int .i64 x), .s (.int .i64 y)] (.s (.int .i64 (cmpI x y))) := by
  by_cases h_1 : x < y
  · exact ValDoes.of_code Try.func53 (by kernel_rfl) (by kernel_rfl) (k := 20) (by kernel_rfl) (fun B => ⟨_, _, .inr rfl, cmpB_1 x y h_1, Eq.trans (b := some (AV.s (SV.int IntKind.i64 (-1)))) (by kernel_rfl) (congrArg some (show (AV.s (SV.int IntKind.i64 (-1))) = (.s (.int .i64 (cmpI x y))) by refine congrArg (fun b => AV.s (SV.int .i64 b)) ?_; unfold cmpI; grind))⟩) (by kernel_rfl) (List.all_eq_true.1 (by kernel_rfl))
  · by_cases h_2 : x > y
    · exact ValDoes.of_code Try.func53 (by kernel_rfl) (by kernel_rfl) (k := 20) (by kernel_rfl) (fun B => ⟨_, _, .inr rfl, cmpB_2 x y h_1 h_2, Eq.trans (b := some (AV.s (SV.int IntKind.i64 1))) (by kernel_rfl) (congrArg some (show (AV.s (SV.int IntKind.i64 1)) = (.s (.int .i64 (cmpI x y))) by refine congrArg (fun b => AV.s (SV.int .i64 b)) ?_; unfold cmpI; grind))⟩) (by kernel_rfl) (List.all_eq_true.1 (by kernel_rfl))
    · exact ValDoes.of_code Try.func53 (by kernel_rfl) (by kernel_rfl) (k := 20) (by kernel_rfl) (fun B => ⟨_, _, .inr rfl, cmpB_3 x y h_1 h_2, Eq.trans (b := some (AV.s (SV.int IntKind.i64 0))) (by kernel_rfl) (congrArg some (show (AV.s (SV.int IntKind.i64 0)) = (.s (.int .i64 (cmpI x y))) by refine congrArg (fun b => AV.s (SV.int .i64 b)) ?_; unfold cmpI; grind))⟩) (by kernel_rfl) (List.all_eq_true.1 (by kernel_rfl))
theorem cmpB_call {B cc : Nat} (x y : Int) : CallDoes Try.prog B 53 [.s (.int .i64 x), .s (.int .i64 y)] [] cc (.s (.int .i64 (cmpI x y))) ([] ++ []) cc := cmpB_does x y B cc
theorem orI_1 {B : Nat} (a b : Int) (h_1 : ¬a = 0) : CodeDoes Try.prog B (Try.f51.body.getD .skip) ⟨⟨18, [(0, .s (.slv 2 none 1 [.int .i64 a, .int .i64 b]))]⟩, [], 0⟩ Ex.ret ⟨⟨18, [(2, AV.s (SV.int IntKind.i64 a))]⟩, [], 0⟩ :=
  goA_ok mix (tape := [(5, Ans.rounds 1), (12, Ans.val (AV.s (SV.bool Bool.true)))]) (dl := [2]) (nl := []) (C := [(some (AV.s (SV.bool (a != 0))) = some (AV.s (SV.bool Bool.true)))]) (by kernel_rfl) ⟨claim_b (by exact bne_iff_ne.2 (by first | assumption | omega)), trivial⟩
theorem orI_2 {B : Nat} (a b : Int) (h_1 : ¬ (¬a = 0)) (h_2 : ¬b = 0) : CodeDoes Try.prog B (Try.f51.body.getD .skip) ⟨⟨18, [(0, .s (.slv 2 none 1 [.int .i64 a, .int .i64 b]))]⟩, [], 0⟩ Ex.ret ⟨⟨18, [(2, AV.s (SV.int IntKind.i64 b))]⟩, [], 0⟩ :=
  goA_ok mix (tape := [(5, Ans.rounds 2), (12, Ans.val (AV.s (SV.bool Bool.false))), (21, Ans.val (AV.s (SV.bool Bool.true)))]) (dl := [2]) (nl := []) (C := [(some (AV.s (SV.bool (b != 0))) = some (AV.s (SV.bool Bool.true))), (some (AV.s (SV.bool (a != 0))) = some (AV.s (SV.bool Bool.false)))]) (by kernel_rfl) ⟨claim_b (by exact bne_iff_ne.2 (by first | assumption | omega)), claim_b (by exact bne_eq_false_iff_eq.2 (by first | assumption | omega)), trivial⟩
theorem orI_3 {B : Nat} (a b : Int) (h_1 : ¬ (¬a = 0)) (h_2 : ¬ (¬b = 0)) : CodeDoes Try.prog B (Try.f51.body.getD .skip) ⟨⟨18, [(0, .s (.slv 2 none 1 [.int .i64 a, .int .i64 b]))]⟩, [], 0⟩ Ex.ret ⟨⟨18, [(2, AV.s (SV.int IntKind.i64 0))]⟩, [], 0⟩ :=
  goA_ok mix (tape := [(5, Ans.rounds 3), (12, Ans.val (AV.s (SV.bool Bool.false))), (21, Ans.val (AV.s (SV.bool Bool.false)))]) (dl := [2]) (nl := []) (C := [(some (AV.s (SV.bool (b != 0))) = some (AV.s (SV.bool Bool.false))), (some (AV.s (SV.bool (a != 0))) = some (AV.s (SV.bool Bool.false)))]) (by kernel_rfl) ⟨claim_b (by exact bne_eq_false_iff_eq.2 (by first | assumption | omega)), claim_b (by exact bne_eq_false_iff_eq.2 (by first | assumption | omega)), trivial⟩
theorem orI_does (a b : Int) : ValDoes Try.prog 51 [.s (.slv 2 none 1 [.int .i64 a, .int .i64 b])] (.s (.int .i64 (if a ≠ 0 then a else b))) := by
  by_cases h_1 : ¬a = 0
  · exact ValDoes.of_code Try.func51 (by kernel_rfl) (by kernel_rfl) (k := 18) (by kernel_rfl) (fun B => ⟨_, _, .inr rfl, orI_1 a b h_1, Eq.trans (b := some (AV.s (SV.int IntKind.i64 a))) (by kernel_rfl) (congrArg some (show (AV.s (SV.int IntKind.i64 a)) = (.s (.int .i64 (if a ≠ 0 then a else b))) by refine congrArg (fun b => AV.s (SV.int .i64 b)) ?_; grind))⟩) (by kernel_rfl) (List.all_eq_true.1 (by kernel_rfl))
  · by_cases h_2 : ¬b = 0
    · exact ValDoes.of_code Try.func51 (by kernel_rfl) (by kernel_rfl) (k := 18) (by kernel_rfl) (fun B => ⟨_, _, .inr rfl, orI_2 a b h_1 h_2, Eq.trans (b := some (AV.s (SV.int IntKind.i64 b))) (by kernel_rfl) (congrArg some (show (AV.s (SV.int IntKind.i64 b)) = (.s (.int .i64 (if a ≠ 0 then a else b))) by refine congrArg (fun b => AV.s (SV.int .i64 b)) ?_; grind))⟩) (by kernel_rfl) (List.all_eq_true.1 (by kernel_rfl))
    · exact ValDoes.of_code Try.func51 (by kernel_rfl) (by kernel_rfl) (k := 18) (by kernel_rfl) (fun B => ⟨_, _, .inr rfl, orI_3 a b h_1 h_2, Eq.trans (b := some (AV.s (SV.int IntKind.i64 0))) (by kernel_rfl) (congrArg some (show (AV.s (SV.int IntKind.i64 0)) = (.s (.int .i64 (if a ≠ 0 then a else b))) by refine congrArg (fun b => AV.s (SV.int .i64 b)) ?_; grind))⟩) (by kernel_rfl) (List.all_eq_true.1 (by kernel_rfl))
theorem orI_call {B cc : Nat} (a b : Int) : CallDoes Try.prog B 51 [.s (.slv 2 none 1 [.int .i64 a, .int .i64 b])] [] cc (.s (.int .i64 (if a ≠ 0 then a else b))) ([] ++ []) cc := orI_does a b B cc

theorem or_peek {B c n : Nat} {a b : Int} {cp : Option Nat} {o : Bool} : CallDoes Try.prog B 51 [.s (.sl n 0 2 cp 1)] [(n, some ⟨[.int .i64 a, .int .i64 b], o⟩)] c (.s (.int .i64 (if a ≠ 0 then a else b))) ([] ++ [(n, some ⟨[.int .i64 a, .int .i64 b], o⟩)]) c :=
  (orI_does a b).peek rfl (.cons (.s (.sl (b := ⟨[.int .i64 a, .int .i64 b], o⟩) (by simp [Eng.get]) rfl (fun v hv => by simp at hv; rcases hv with rfl | rfl <;> rfl))) .nil) B c
/-- Rows, compared. -/
@[irreducible] def cmpRw (t1 q1 t2 q2 : Int) : Int := if cmpI t1 t2 ≠ 0 then cmpI t1 t2 else cmpI q1 q2
/-- Is a row less than another? -/
abbrev ltR (x y : Rw) : Prop := x.time < y.time ∨ x.time = y.time ∧ x.seq < y.seq
theorem cmpRw_lt (t1 q1 t2 q2 : Int) : cmpRw t1 q1 t2 q2 < 0 ↔ (t1 < t2 ∨ t1 = t2 ∧ q1 < q2) := by
  unfold cmpRw cmpI
  grind
theorem cmpR_1 {B : Nat} (t1 q1 t2 q2 : Int) (L1 L2 : List Cl)  : CodeDoes Try.prog B (Try.f30.body.getD .skip) ⟨⟨17, [(0, .agg [.int .i64 t1, .int .i64 q1, .slv L1.length none 4 (flat Cl.cv L1)]), (1, .agg [.int .i64 t2, .int .i64 q2, .slv L2.length none 4 (flat Cl.cv L2)])]⟩, [], 0⟩ Ex.ret ⟨⟨17, [(4, AV.s (SV.int IntKind.i64 (if cmpI t1 t2 ≠ 0 then cmpI t1 t2 else cmpI q1 q2)))]⟩, [(2, some (Blk.mk [SV.int IntKind.i64 (cmpI t1 t2), SV.int IntKind.i64 (cmpI q1 q2)] true)), (1, some (Blk.mk [SV.int IntKind.i64 t2, SV.int IntKind.i64 q2, SV.slv (List.length L2) none 4 (flat Cl.cv L2)] true)), (0, some (Blk.mk [SV.int IntKind.i64 t1, SV.int IntKind.i64 q1, SV.slv (List.length L1) none 4 (flat Cl.cv L1)] true))], 3⟩ :=
  goA_ok mix (tape := [(7, Ans.call [] (AV.s (SV.int IntKind.i64 (cmpI t1 t2))) [] 2), (12, Ans.call [] (AV.s (SV.int IntKind.i64 (cmpI q1 q2))) [] 2), (14, Ans.call [2] (AV.s (SV.int IntKind.i64 (if cmpI t1 t2 ≠ 0 then cmpI t1 t2 else cmpI q1 q2))) [] 3)]) (dl := [4]) (nl := [2, 1, 0]) (C := [(CallDoes Try.prog B 51 [AV.s (SV.sl 2 0 2 none 1)] [(2, some (Blk.mk [SV.int IntKind.i64 (cmpI t1 t2), SV.int IntKind.i64 (cmpI q1 q2)] true))] 3 (AV.s (SV.int IntKind.i64 (if cmpI t1 t2 ≠ 0 then cmpI t1 t2 else cmpI q1 q2))) ([] ++ [(2, some (Blk.mk [SV.int IntKind.i64 (cmpI t1 t2), SV.int IntKind.i64 (cmpI q1 q2)] true))]) 3), (CallDoes Try.prog B 53 [AV.s (SV.int IntKind.i64 q1), AV.s (SV.int IntKind.i64 q2)] [] 2 (AV.s (SV.int IntKind.i64 (cmpI q1 q2))) ([] ++ []) 2), (CallDoes Try.prog B 52 [AV.s (SV.int IntKind.i64 t1), AV.s (SV.int IntKind.i64 t2)] [] 2 (AV.s (SV.int IntKind.i64 (cmpI t1 t2))) ([] ++ []) 2)]) (by kernel_rfl) ⟨show CallDoes Try.prog B 51 [AV.s (SV.sl 2 0 2 none 1)] [(2, some (Blk.mk [SV.int IntKind.i64 (cmpI t1 t2), SV.int IntKind.i64 (cmpI q1 q2)] true))] 3 (AV.s (SV.int IntKind.i64 (if cmpI t1 t2 ≠ 0 then cmpI t1 t2 else cmpI q1 q2))) ([] ++ [(2, some (Blk.mk [SV.int IntKind.i64 (cmpI t1 t2), SV.int IntKind.i64 (cmpI q1 q2)] true))]) 3 from by (apply or_peek <;> first | exact el23 | exact el22 | exact sz28 | exact sz25 | exact by28 | exact by25 | exact zr28 | exact zr25 | exact ag28 | exact ag25 | exact un9 | assumption | rfl | omega | (unfold maxLen; omega) | decide | (simp; done) | (simp; omega)), show CallDoes Try.prog B 53 [AV.s (SV.int IntKind.i64 q1), AV.s (SV.int IntKind.i64 q2)] [] 2 (AV.s (SV.int IntKind.i64 (cmpI q1 q2))) ([] ++ []) 2 from by (apply cmpB_call <;> first | exact el23 | exact el22 | exact sz28 | exact sz25 | exact by28 | exact by25 | exact zr28 | exact zr25 | exact ag28 | exact ag25 | exact un9 | assumption | rfl | omega | (unfold maxLen; omega) | decide | (simp; done) | (simp; omega)), show CallDoes Try.prog B 52 [AV.s (SV.int IntKind.i64 t1), AV.s (SV.int IntKind.i64 t2)] [] 2 (AV.s (SV.int IntKind.i64 (cmpI t1 t2))) ([] ++ []) 2 from by (apply cmpA_call <;> first | exact el23 | exact el22 | exact sz28 | exact sz25 | exact by28 | exact by25 | exact zr28 | exact zr25 | exact ag28 | exact ag25 | exact un9 | assumption | rfl | omega | (unfold maxLen; omega) | decide | (simp; done) | (simp; omega)), trivial⟩
theorem cmpR_does (t1 q1 t2 q2 : Int) (L1 L2 : List Cl) : ValDoes Try.prog 30 [.agg [.int .i64 t1, .int .i64 q1, .slv L1.length none 4 (flat Cl.cv L1)], .agg [.int .i64 t2, .int .i64 q2, .slv L2.length none 4 (flat Cl.cv L2)]] (.s (.int .i64 (cmpRw t1 q1 t2 q2))) := by
  exact ValDoes.of_code Try.func30 (by kernel_rfl) (by kernel_rfl) (k := 17) (by kernel_rfl) (fun B => ⟨_, _, .inr rfl, cmpR_1 t1 q1 t2 q2 L1 L2, Eq.trans (b := some (AV.s (SV.int IntKind.i64 (if cmpI t1 t2 ≠ 0 then cmpI t1 t2 else cmpI q1 q2)))) (by kernel_rfl) (congrArg some (show (AV.s (SV.int IntKind.i64 (if cmpI t1 t2 ≠ 0 then cmpI t1 t2 else cmpI q1 q2))) = (.s (.int .i64 (cmpRw t1 q1 t2 q2))) by refine congrArg (fun b => AV.s (SV.int .i64 b)) ?_; unfold cmpRw; grind))⟩) (by kernel_rfl) (List.all_eq_true.1 (by kernel_rfl))
theorem cmpR_call {B cc : Nat} (t1 q1 t2 q2 : Int) (L1 L2 : List Cl) : CallDoes Try.prog B 30 [.agg [.int .i64 t1, .int .i64 q1, .slv L1.length none 4 (flat Cl.cv L1)], .agg [.int .i64 t2, .int .i64 q2, .slv L2.length none 4 (flat Cl.cv L2)]] [] cc (.s (.int .i64 (cmpRw t1 q1 t2 q2))) ([] ++ []) cc := cmpR_does t1 q1 t2 q2 L1 L2 B cc
theorem lessR_1 {B : Nat} (t1 q1 t2 q2 : Int) (L1 L2 : List Cl)  : CodeDoes Try.prog B (Try.f12.body.getD .skip) ⟨⟨9, [(0, .agg [.int .i64 t1, .int .i64 q1, .slv L1.length none 4 (flat Cl.cv L1)]), (1, .agg [.int .i64 t2, .int .i64 q2, .slv L2.length none 4 (flat Cl.cv L2)])]⟩, [], 0⟩ Ex.ret ⟨⟨9, [(4, AV.s (SV.bool (decide (cmpRw t1 q1 t2 q2 < 0))))]⟩, [(1, some (Blk.mk [SV.int IntKind.i64 t2, SV.int IntKind.i64 q2, SV.slv (List.length L2) none 4 (flat Cl.cv L2)] true)), (0, some (Blk.mk [SV.int IntKind.i64 t1, SV.int IntKind.i64 q1, SV.slv (List.length L1) none 4 (flat Cl.cv L1)] true))], 2⟩ :=
  goA_ok mix (tape := [(5, Ans.call [] (AV.s (SV.int IntKind.i64 (cmpRw t1 q1 t2 q2))) [] 2)]) (dl := [4]) (nl := [1, 0]) (C := [(CallDoes Try.prog B 30 [AV.agg [SV.int IntKind.i64 t1, SV.int IntKind.i64 q1, SV.slv (List.length L1) none 4 (flat Cl.cv L1)], AV.agg [SV.int IntKind.i64 t2, SV.int IntKind.i64 q2, SV.slv (List.length L2) none 4 (flat Cl.cv L2)]] [] 2 (AV.s (SV.int IntKind.i64 (cmpRw t1 q1 t2 q2))) ([] ++ []) 2)]) (by kernel_rfl) ⟨show CallDoes Try.prog B 30 [AV.agg [SV.int IntKind.i64 t1, SV.int IntKind.i64 q1, SV.slv (List.length L1) none 4 (flat Cl.cv L1)], AV.agg [SV.int IntKind.i64 t2, SV.int IntKind.i64 q2, SV.slv (List.length L2) none 4 (flat Cl.cv L2)]] [] 2 (AV.s (SV.int IntKind.i64 (cmpRw t1 q1 t2 q2))) ([] ++ []) 2 from by (apply cmpR_call <;> first | exact el23 | exact el22 | exact sz28 | exact sz25 | exact by28 | exact by25 | exact zr28 | exact zr25 | exact ag28 | exact ag25 | exact un9 | assumption | rfl | omega | (unfold maxLen; omega) | decide | (simp; done) | (simp; omega)), trivial⟩
theorem lessR_does (t1 q1 t2 q2 : Int) (L1 L2 : List Cl) : ValDoes Try.prog 12 [.agg [.int .i64 t1, .int .i64 q1, .slv L1.length none 4 (flat Cl.cv L1)], .agg [.int .i64 t2, .int .i64 q2, .slv L2.length none 4 (flat Cl.cv L2)]] (.s (.bool (decide (cmpRw t1 q1 t2 q2 < 0)))) := by
  exact ValDoes.of_code Try.func12 (by kernel_rfl) (by kernel_rfl) (k := 9) (by kernel_rfl) (fun B => ⟨_, _, .inr rfl, lessR_1 t1 q1 t2 q2 L1 L2, Eq.trans (b := some (AV.s (SV.bool (decide (cmpRw t1 q1 t2 q2 < 0))))) (by kernel_rfl) (congrArg some (show (AV.s (SV.bool (decide (cmpRw t1 q1 t2 q2 < 0)))) = (.s (.bool (decide (cmpRw t1 q1 t2 q2 < 0)))) by refine congrArg (fun b => AV.s (SV.bool b)) ?_; grind))⟩) (by kernel_rfl) (List.all_eq_true.1 (by kernel_rfl))
theorem lessR_call {B cc : Nat} (t1 q1 t2 q2 : Int) (L1 L2 : List Cl) : CallDoes Try.prog B 12 [.agg [.int .i64 t1, .int .i64 q1, .slv L1.length none 4 (flat Cl.cv L1)], .agg [.int .i64 t2, .int .i64 q2, .slv L2.length none 4 (flat Cl.cv L2)]] [] cc (.s (.bool (decide (cmpRw t1 q1 t2 q2 < 0)))) ([] ++ []) cc := lessR_does t1 q1 t2 q2 L1 L2 B cc
end Go.Proofs.Ytaelliigpclipaa.V
