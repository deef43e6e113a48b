/- All gives back what was sealed, and with one byte turned what lies ahead of it: no condition. -/
import Derived.Test.YtfgceanepgjfiaaPScolumbariumlaw6BlockBack
import Derived.Test.YtfgceanepgjfiaaBWritten
import Derived.Test.YtfgceanepgjfiaaBTurn
import Derived.Test.YtfgceanepgjfiaaBKnown
import Derived.Test.YtfgceanepgjfiaaWithin
namespace Go.Proofs.Ytfgceanepgjfiaa.Pure
open Go.RowKit Go.Proofs.Ytfgceanepgjfiaa.PS Go.Proofs.YtfgceanepgjfiaaW.PrintWords Go.Proofs.YtfgceanepgjfiaaW.PrintLast Go.Proofs.Ytfgceanepgjfiaa.Base Go.Proofs.Ytfgceanepgjfiaa.BlkPlain Go.Proofs.Ytfgceanepgjfiaa.Blk Go.Proofs.Ytfgceanepgjfiaa.BKnown Go.Proofs.Ytfgceanepgjfiaa.BFew Go.Proofs.Ytfgceanepgjfiaa.BAll Go.Proofs.Ytfgceanepgjfiaa.BTurn Go.Proofs.Ytfgceanepgjfiaa.BWritten Go.Proofs.Ytfgceanepgjfiaa.Within
/-- Where the first n end. -/
def ends (ws : List (List Int)) (n : Nat) : List Int := (List.range n).map fun j => ((sealAll (ws.take (j + 1))).length : Int)
theorem ends_len (ws : List (List Int)) (n : Nat) : (ends ws n).length = n := by unfold ends; rw [List.length_map, List.length_range]
theorem ends_rd (ws : List (List Int)) {n j : Nat} (h : j < n) : rd (ends ws n) (j : Int) = ((sealAll (ws.take (j + 1))).length : Int) := by
  unfold rd ends
  rw [Int.toNat_natCast, List.getD_eq_getElem?_getD, List.getElem?_map, List.getElem?_range h]
  rfl
theorem ends_succ (ws : List (List Int)) (n : Nat) : ends ws (n + 1) = ends ws n ++ [((sealAll (ws.take (n + 1))).length : Int)] := by
  unfold ends
  rw [List.range_succ, List.map_append]
  rfl
theorem rd_L2_nat {a : List (List Int)} {i : Nat} (h : i < a.length) : rd_L2 a (i : Int) = a[i] := by
  unfold rd_L2
  rw [Int.toNat_natCast, List.getD_eq_getElem?_getD, List.getElem?_eq_getElem h]
  rfl
theorem wnext {i : Nat} (h : i ≤ 1000) : wrap64 ((i : Int) + 1) = ((i + 1 : Nat) : Int) := by rw [w64_id (by omega) (by omega)]; push_cast; rfl
theorem sealAll_find (ws : List (List Int)) : ∀ r, r < (sealAll ws).length → ∃ p b q, ws = p ++ b :: q ∧ (sealAll p).length ≤ r ∧ r < (sealAll p).length + (sealL b).length := by
  induction ws with
  | nil => intro r h; simp [sealAll] at h
  | cons b t ih =>
    intro r h
    rw [sealAll, List.length_append] at h
    by_cases hb : r < (sealL b).length
    · exact ⟨[], b, t, rfl, Nat.zero_le _, by rw [sealAll, List.length_nil]; omega⟩
    · obtain ⟨p, c, q, rfl, h1, h2⟩ := ih (r - (sealL b).length) (by omega)
      exact ⟨b :: p, c, q, rfl, by rw [sealAll, List.length_append]; omega, by rw [sealAll, List.length_append]; omega⟩
theorem back_l3 (l : List ByteArray) (p : List (List Int)) (hp : p.length ≤ 10) (hpl : p.length ≤ l.length) (he : ∀ i (h : i < p.length) (h2 : i < l.length), p[i] = bytesOf (cut200 l[i])) (d : Nat) : ∀ (k i : Nat), i ≤ p.length → p.length - i = d → d + 300 < k →
    columbariumlaw6_BlockBack.l3 k l (p.length : Int) p (i : Int) = some true := by
  induction d with
  | zero =>
    intro k i hi hd hk
    obtain ⟨k, rfl⟩ : ∃ m, k = m + 1 := ⟨k - 1, by omega⟩
    rw [columbariumlaw6_BlockBack.l3, if_neg (by omega), known_f (by omega), Option.bind_some]
  | succ d ih =>
    intro k i hi hd hk
    obtain ⟨k, rfl⟩ : ∃ m, k = m + 1 := ⟨k - 1, by omega⟩
    have h : i < p.length := by omega
    have h2 : i < l.length := by omega
    rw [columbariumlaw6_BlockBack.l3, if_pos (by omega), if_pos (by omega), if_pos (by omega), if_pos (by omega), rdOf_nat h2, few_f, Option.bind_some, rd_L2_nat h, if_pos (by rw [he i h h2, str_bytesOf]), wnext (by omega)]
    exact ih k (i + 1) (by omega) (by omega) (by omega)
theorem back_j4 (l : List ByteArray) (p : List (List Int)) (b : List Int) (q : List (List Int)) (j : Nat) (x : Int) (hp : p.length ≤ 10) (hpl : p.length ≤ l.length) (he : ∀ i (h : i < p.length) (h2 : i < l.length), p[i] = bytesOf (cut200 l[i]))
    (hs : ∀ c ∈ p ++ b :: q, c.length ≤ 200 ∧ ∀ y ∈ c, 0 ≤ y ∧ y ≤ 255) (hlen : (sealAll (p ++ b :: q)).length ≤ 3000) (hx : 0 ≤ x ∧ x ≤ 255) (hj : j < (sealL b).length) (hne : (sealL b).set j x ≠ sealL b) (n : Nat) (hn : p.length < n) (k : Nat) (hk : 10486000 ≤ k) :
    columbariumlaw6_BlockBack.j4 (k + 1) l (sealAll p ++ ((sealL b).set j x ++ sealAll q)) (ends (p ++ b :: q) n) (p.length : Int) = some true := by
  have hb := hs b (by simp)
  have hpb : ∀ c ∈ p, c.length ≤ 1048576 ∧ ∀ y ∈ c, 0 ≤ y ∧ y ≤ 255 := fun c hc => ⟨by have := (hs c (by simp [hc])).1; omega, (hs c (by simp [hc])).2⟩
  have hqb : ∀ c ∈ q, c.length ≤ 1048576 ∧ ∀ y ∈ c, 0 ≤ y ∧ y ≤ 255 := fun c hc => ⟨by have := (hs c (by simp [hc])).1; omega, (hs c (by simp [hc])).2⟩
  have ht := open_turned (r := sealAll q) (by omega) hb.2 (sealAll_byte hqb) hx hne
  have hnil : (sealL b).set j x ++ sealAll q ≠ [] := by
    intro h
    have := congrArg List.length h
    rw [List.length_append, List.length_set, List.length_nil] at this
    omega
  have hl1 : (sealAll p ++ ((sealL b).set j x ++ sealAll q)).length ≤ 3000 := by
    rw [sealAll_append, sealAll, List.length_append, List.length_append] at hlen
    rw [List.length_append, List.length_append, List.length_set]
    exact hlen
  have hby : ∀ y ∈ sealAll p ++ ((sealL b).set j x ++ sealAll q), 0 ≤ y ∧ y ≤ 255 := by
    intro y hy
    rcases List.mem_append.1 hy with hy | hy
    · exact sealAll_byte hpb y hy
    rcases List.mem_append.1 hy with hy | hy
    · rcases List.mem_or_eq_of_mem_set hy with hy | rfl
      · exact sealL_byte (by omega) hb.2 y hy
      · exact hx
    · exact sealAll_byte hqb y hy
  have hall := all_f (t := (sealL b).set j x ++ sealAll q) (x := (openL ((sealL b).set j x ++ sealAll q)).1) (n := (openL ((sealL b).set j x ++ sealAll q)).2.1) (e := (openL ((sealL b).set j x ++ sealAll q)).2.2) rfl (.inr ht) (ws := p) (fun c hc => (hpb c hc).1) (by omega) (by omega) hby (k := k) (by omega)
  rw [if_neg hnil] at hall
  have hel := ends_len (p ++ b :: q) n
  have h3 := back_l3 l p hp hpl he p.length k 0 (by omega) (by omega) (by omega)
  rw [columbariumlaw6_BlockBack.j4, hall, Option.bind_some, if_pos rfl, if_neg ht]
  by_cases h0 : p.length = 0
  · have : p = [] := List.length_eq_zero_iff.1 h0
    subst this
    rw [if_neg (by decide)]
    exact (if_pos (show ((([] : List (List Int)).length : Nat) : Int) = 0 from rfl)).trans ((if_pos (show (((sealAll []).length : Nat) : Int) = 0 from rfl)).trans h3)
  · have hw : wrap64 ((p.length : Int) - 1) = ((p.length - 1 : Nat) : Int) := by rw [w64_id (by omega) (by omega)]; omega
    rw [if_pos (by omega), hw, if_pos (by omega), if_pos (by omega), ends_rd _ (by omega), show p.length - 1 + 1 = p.length from by omega, List.take_left, if_pos rfl, if_neg (by omega)]
    exact h3
theorem back_l2 (l : List ByteArray) (X : List Int) (ws : List (List Int)) (n r hit : Nat) (hn : n ≤ 10) (hh : hit < n) (h1 : ∀ j, j < hit → (sealAll (ws.take (j + 1))).length ≤ r) (h2 : r < (sealAll (ws.take (hit + 1))).length) (K : Nat)
    (hfin : ∀ k, K ≤ k → columbariumlaw6_BlockBack.j4 (k + 1) l X (ends ws n) (hit : Int) = some true) (d : Nat) : ∀ (k i : Nat), i ≤ hit → hit - i = d → d + K + 1 < k →
    columbariumlaw6_BlockBack.l2 k l X (ends ws n) (r : Int) (i : Int) = some true := by
  have hel := ends_len ws n
  induction d with
  | zero =>
    intro k i hi hd hk
    obtain ⟨k, rfl⟩ : ∃ m, k = m + 2 := ⟨k - 2, by omega⟩
    have : i = hit := by omega
    subst this
    rw [columbariumlaw6_BlockBack.l2, if_pos (by omega), if_pos (by omega), ends_rd _ hh, if_neg (by omega)]
    exact hfin k (by omega)
  | succ d ih =>
    intro k i hi hd hk
    obtain ⟨k, rfl⟩ : ∃ m, k = m + 1 := ⟨k - 1, by omega⟩
    have := h1 i (by omega)
    rw [columbariumlaw6_BlockBack.l2, if_pos (by omega), if_pos (by omega), ends_rd _ (by omega), if_pos (by omega), wnext (by omega)]
    exact ih k (i + 1) (by omega) (by omega) (by omega)
theorem back_end (l : List ByteArray) (a1 a2 : Int) (ha : 0 ≤ a2 ∧ a2 ≤ 255) (ws : List (List Int)) (hw : ws.length ≤ 10) (hwl : ws.length ≤ l.length) (he : ∀ i (h : i < ws.length) (h2 : i < l.length), ws[i] = bytesOf (cut200 l[i]))
    (hs : ∀ c ∈ ws, c.length ≤ 200 ∧ ∀ y ∈ c, 0 ≤ y ∧ y ≤ 255) (d : Nat) : ∀ (k i : Nat), i ≤ ws.length → ws.length - i = d → d + 10487000 < k →
    columbariumlaw6_BlockBack.l1 k l a1 a2 (sealAll ws) (ends ws ws.length) ws (i : Int) = some true := by
  have hlen := sealAll_len (fun c hc => (hs c hc).1)
  induction d with
  | zero =>
    intro k i hi hd hk
    obtain ⟨k, rfl⟩ : ∃ m, k = m + 1 := ⟨k - 1, by omega⟩
    rw [columbariumlaw6_BlockBack.l1, if_neg (by omega)]
    by_cases h0 : ((sealAll ws).length : Int) = 0
    · rw [if_pos h0, known_f (by omega), Option.bind_some]
    · rw [if_neg h0]
      by_cases h2 : a2 = 0
      · rw [if_pos h2, known_f (by omega), Option.bind_some]
      · rw [if_neg h2, w64_id (n := ((sealAll ws).length : Int) - 1) (by omega) (by omega)]
        obtain ⟨r, hr, hr0, hr1⟩ := within_f (n := a1) (hi := ((sealAll ws).length : Int) - 1) (by omega) (by omega)
        obtain ⟨r, rfl⟩ := Int.eq_ofNat_of_zero_le hr0
        rw [hr, Option.bind_some, if_pos hr0, if_pos (by omega), Int.toNat_natCast]
        have hby := sealAll_byte (ws := ws) (fun c hc => ⟨by have := (hs c hc).1; omega, (hs c hc).2⟩)
        have hold := rd_byte hby (r : Int)
        obtain ⟨u, hu⟩ := byte_bv hold.1 hold.2
        obtain ⟨v, hv⟩ := byte_bv ha.1 ha.2
        have hxv : bits .xor .u8 (rd (sealAll ws) (r : Int)) a2 = ((u ^^^ v).toNat : Int) := by rw [hu, hv, xor_bv8]
        have hx : 0 ≤ bits .xor .u8 (rd (sealAll ws) (r : Int)) a2 ∧ bits .xor .u8 (rd (sealAll ws) (r : Int)) a2 ≤ 255 := by
          rw [hxv]
          have := (u ^^^ v).isLt
          omega
        have hxne : bits .xor .u8 (rd (sealAll ws) (r : Int)) a2 ≠ rd (sealAll ws) (r : Int) := by
          rw [hxv, hu]
          intro h
          have h3 : u ^^^ v = u := BitVec.eq_of_toNat_eq (by omega)
          have h4 : v = 0#8 := by
            have : u ^^^ (u ^^^ v) = u ^^^ u := by rw [h3]
            rwa [← BitVec.xor_assoc, BitVec.xor_self, BitVec.zero_xor] at this
          rw [h4] at hv
          exact h2 hv
        generalize bits .xor .u8 (rd (sealAll ws) (r : Int)) a2 = x at *
        obtain ⟨p, b, q, hpq, hp1, hp2⟩ := sealAll_find ws r (by omega)
        have hsplit : sealAll ws = sealAll p ++ (sealL b ++ sealAll q) := by rw [hpq, sealAll_append, sealAll]
        have hset : (sealAll ws).set r x = sealAll p ++ ((sealL b).set (r - (sealAll p).length) x ++ sealAll q) := by
          rw [hsplit, List.set_append_right _ _ hp1, List.set_append_left _ _ (by omega)]
        have hrd : rd (sealAll ws) (r : Int) = (sealL b)[r - (sealAll p).length]'(by omega) := by
          rw [rd_nat (by omega)]
          simp only [hsplit]
          rw [List.getElem_append_right hp1, List.getElem_append_left (by omega)]
        have hne : (sealL b).set (r - (sealAll p).length) x ≠ sealL b := by
          intro h
          apply hxne
          rw [hrd]
          have h5 : ((sealL b).set (r - (sealAll p).length) x)[r - (sealAll p).length]'(by rw [List.length_set]; omega) = x := List.getElem_set_self _
          rw [← h5]
          simp only [h]
        have hpw : p.length < ws.length := by rw [hpq, List.length_append, List.length_cons]; omega
        have hep : ∀ i (h : i < p.length) (h2 : i < l.length), p[i] = bytesOf (cut200 l[i]) := by
          intro i h h2
          rw [← he i (by omega) h2]
          simp only [hpq]
          rw [List.getElem_append_left h]
        have hmono : ∀ j, j < p.length → (sealAll (ws.take (j + 1))).length ≤ r := by
          intro j hj
          have e : p = p.take (j + 1) ++ p.drop (j + 1) := (List.take_append_drop _ _).symm
          have e2 : ws.take (j + 1) = p.take (j + 1) := by rw [hpq, List.take_append_of_le_length (by omega)]
          have e3 := congrArg (fun z => (sealAll z).length) e
          simp only [sealAll_append, List.length_append] at e3
          rw [e2]
          omega
        have hhit : r < (sealAll (ws.take (p.length + 1))).length := by
          rw [hpq, List.take_append, List.take_of_length_le (by omega), show p.length + 1 - p.length = 1 from by omega, List.take_succ_cons, List.take_zero, sealAll_append, sealAll, sealAll, List.append_nil, List.length_append]
          exact hp2
        rw [hset]
        refine back_l2 l _ ws ws.length r p.length hw hpw hmono hhit 10486000 ?_ p.length k 0 (by omega) (by omega) (by omega)
        intro k hk
        have := back_j4 l p b q (r - (sealAll p).length) x (by omega) (by omega) hep (by rw [← hpq]; exact hs) (by rw [← hpq]; omega) hx (by omega) hne ws.length hpw k hk
        rwa [← hpq] at this
  | succ d ih =>
    intro k i hi hd hk
    obtain ⟨k, rfl⟩ : ∃ m, k = m + 1 := ⟨k - 1, by omega⟩
    have h : i < ws.length := by omega
    have h2 : i < l.length := by omega
    rw [columbariumlaw6_BlockBack.l1, if_pos (by omega), if_pos (by omega), if_pos (by omega), rdOf_nat h2, few_f, Option.bind_some, rd_L2_nat h, if_pos (by rw [he i h h2, str_bytesOf]), wnext (by omega)]
    exact ih k (i + 1) (by omega) (by omega) (by omega)
theorem back_l0 (l : List ByteArray) (a1 a2 : Int) (ws : List (List Int)) (hw : ws.length ≤ 10) (hwl : ws.length ≤ l.length) (hfull : ws.length = l.length ∨ ws.length = 10) (he : ∀ i (h : i < ws.length) (h2 : i < l.length), ws[i] = bytesOf (cut200 l[i]))
    (hs : ∀ c ∈ ws, c.length ≤ 200 ∧ ∀ y ∈ c, 0 ≤ y ∧ y ≤ 255) (K : Nat) (hfin : ∀ k, K ≤ k → columbariumlaw6_BlockBack.j1 k l a1 a2 (sealAll ws) (ends ws ws.length) = some true) (d : Nat) : ∀ (k i : Nat), i ≤ ws.length → ws.length - i = d → d + K + 3000 < k →
    columbariumlaw6_BlockBack.l0 k l a1 a2 (sealAll (ws.take i)) (ends ws i) (i : Int) = some true := by
  induction d with
  | zero =>
    intro k i hi hd hk
    obtain ⟨k, rfl⟩ : ∃ m, k = m + 1 := ⟨k - 1, by omega⟩
    have : i = ws.length := by omega
    subst this
    rw [columbariumlaw6_BlockBack.l0, List.take_length]
    by_cases h : (ws.length : Int) < (l.length : Int)
    · rw [if_pos h, if_neg (by omega)]
      exact hfin k (by omega)
    · rw [if_neg h]
      exact hfin k (by omega)
  | succ d ih =>
    intro k i hi hd hk
    obtain ⟨k, rfl⟩ : ∃ m, k = m + 1 := ⟨k - 1, by omega⟩
    have h : i < ws.length := by omega
    have h2 : i < l.length := by omega
    have hc := cut200_size l[i]
    have hcs := bytesOf_size (cut200 l[i])
    have hsl := sealL_len (bytesOf (cut200 l[i]))
    have hlen := sealAll_len (ws := ws.take i) (fun c hc => (hs c (List.mem_of_mem_take hc)).1)
    rw [List.length_take] at hlen
    have hel := ends_len ws i
    have hnext : sealAll (ws.take i) ++ sealL (bytesOf (cut200 l[i])) = sealAll (ws.take (i + 1)) := by
      rw [List.take_succ_eq_append_getElem h, sealAll_append, sealAll, sealAll, List.append_nil, he i h h2]
    have hseal := seal_f (b := bytesOf (cut200 l[i])) (by omega) (fun x hx => bytesOf_range hx) (k := k) (by omega)
    rw [columbariumlaw6_BlockBack.l0, if_pos (by omega), if_pos (by omega), if_pos (by omega), rdOf_nat h2, few_f, Option.bind_some, if_pos (by omega), hseal, Option.bind_some, if_pos rfl, if_pos (by show (sealAll (ws.take i)).length + (sealL (bytesOf (cut200 l[i]))).length < _; omega), Option.bind_some,
      if_pos (by omega), wnext (by omega)]
    show columbariumlaw6_BlockBack.l0 k l a1 a2 (sealAll (ws.take i) ++ sealL (bytesOf (cut200 l[i]))) (ends ws i ++ [((sealAll (ws.take i) ++ sealL (bytesOf (cut200 l[i]))).length : Int)]) ((i + 1 : Nat) : Int) = some true
    rw [hnext, ← ends_succ]
    exact ih k (i + 1) (by omega) (by omega) (by omega)
theorem BlockBack : columbariumlaw6_BlockBack.Pure := by
  intro l a1 a2 hl _ _ ha2
  have ha := u8wf ha2
  refine ⟨20980000, ?_⟩
  unfold columbariumlaw6_BlockBack.f
  have hs := firsts_short l
  have hfl := firsts_len l
  have hfull : (firsts l).length = l.length ∨ (firsts l).length = 10 := by unfold firsts; rw [List.length_map, List.length_take]; omega
  have he : ∀ i (h : i < (firsts l).length) (h2 : i < l.length), (firsts l)[i] = bytesOf (cut200 l[i]) := by
    intro i h h2
    have e : (firsts l)[i]? = some (firsts l)[i] := List.getElem?_eq_getElem h
    have : i < 10 := by omega
    conv at e => lhs; unfold firsts
    rw [List.getElem?_map, List.getElem?_take, if_pos this, List.getElem?_eq_getElem h2] at e
    exact (Option.some.inj e).symm
  have hlen := sealAll_len (fun c hc => (hs c hc).1)
  have hel := ends_len (firsts l) (firsts l).length
  generalize firsts l = ws at *
  have hby := sealAll_byte (ws := ws) (fun c hc => ⟨by have := (hs c hc).1; omega, (hs c hc).2⟩)
  refine back_l0 l a1 a2 ws hfl.1 hfl.2 hfull he hs 10488000 ?_ ws.length 20980000 0 (by omega) (by omega) (by omega)
  intro k hk
  obtain ⟨k, rfl⟩ : ∃ m, k = m + 1 := ⟨k - 1, by omega⟩
  have hall := all_f (t := []) (x := []) (n := 0) (e := 10) rfl (.inl rfl) (ws := ws) (fun c hc => by have := (hs c hc).1; omega) (by omega) (by rw [List.append_nil]; omega) (by rw [List.append_nil]; exact hby) (k := k) (by omega)
  rw [List.append_nil] at hall
  rw [columbariumlaw6_BlockBack.j1, hall, Option.bind_some, if_pos (by show (ws.length : Int) = _; omega), if_pos rfl, if_pos rfl]
  exact back_end l a1 a2 ha ws hfl.1 hfl.2 he hs ws.length k 0 (by omega) (by omega) (by omega)
end Go.Proofs.Ytfgceanepgjfiaa.Pure
