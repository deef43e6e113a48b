/- What stands behind whole Seals is read as if it stood alone; Open at each place where one ends tells the next; where what is read is of bulk at most 1048576. -/
import Derived.Test.YtfgceanepgjfiaaUBlockJoins
import Derived.Test.YtfgceanepgjfiaaAllBlockJoinsUpto
namespace Go.Proofs.Ytfgceanepgjfiaa.Pure
open Go.RowKit Go.Proofs.Ytfgceanepgjfiaa.PS Go.Proofs.YtfgceanepgjfiaaW.PrintWords Go.Proofs.YtfgceanepgjfiaaW.PrintLast Go.Proofs.Ytfgceanepgjfiaa.Base Go.Proofs.Ytfgceanepgjfiaa.CPlain Go.Proofs.Ytfgceanepgjfiaa.BlkPlain Go.Proofs.Ytfgceanepgjfiaa.Blk Go.Proofs.Ytfgceanepgjfiaa.BAll Go.Proofs.Ytfgceanepgjfiaa.BAny Go.Proofs.Ytfgceanepgjfiaa.BWritten Go.Proofs.Ytfgceanepgjfiaa.BKnown
theorem rdL_mid (p r : List (List Int)) (b : List Int) : rd_L2 (p ++ b :: r) (p.length : Int) = b := by
  unfold rd_L2
  simp
theorem joins_loop {ws : List (List Int)} (hws : ∀ b ∈ ws, b.length ≤ 200 ∧ ∀ x ∈ b, 0 ≤ x ∧ x ≤ 255) (hwl : ws.length ≤ 10) {k0 : Nat} (hk0 : 20000000 < k0) (r : List (List Int)) : ∀ (p : List (List Int)) (k : Nat), ws = p ++ r → k0 + r.length < k →
    columbariumlaw6_BlockJoins.l0 k (sealAll ws) ws ((sealAll p).length : Int) (p.length : Int) = some true := by
  have hbytes := sealAll_byte (ws := ws) (fun b hb => ⟨by have := (hws b hb).1; omega, (hws b hb).2⟩)
  have hlen := sealAll_len (ws := ws) (fun b hb => (hws b hb).1)
  induction r with
  | nil =>
    intro p k hp hk
    obtain ⟨k, rfl⟩ : ∃ m, k = m + 1 := ⟨k - 1, by omega⟩
    rw [List.append_nil] at hp
    subst hp
    rw [columbariumlaw6_BlockJoins.l0, if_neg (by omega), if_pos rfl, known_f (by omega)]
    rfl
  | cons b r ih =>
    intro p k hp hk
    obtain ⟨k, rfl⟩ : ∃ m, k = m + 1 := ⟨k - 1, by omega⟩
    rw [List.length_cons] at hk
    have hwp : ws.length = p.length + (r.length + 1) := by rw [hp, List.length_append, List.length_cons]
    have hb := hws b (by rw [hp]; simp)
    have hs : sealAll ws = sealAll p ++ (sealL b ++ sealAll r) := by rw [hp, sealAll_append]; rfl
    have hdrop : (sealAll ws).drop (sealAll p).length = sealL b ++ sealAll r := by rw [hs, List.drop_left]
    have hple : (sealAll p).length ≤ (sealAll ws).length := by rw [hs, List.length_append]; omega
    have ho := open_f (l := sealAll ws) (by omega) hbytes ((sealAll p).length : Int) (k := k) (by omega)
    rw [openI_at hple, hdrop, open_seal b (sealAll r) (by omega)] at ho
    have ho : block_Open.f k (sealAll ws) ((sealAll p).length : Int) = some (b, ((sealAll p).length : Int) + ((b.length + 12 : Nat) : Int), 0) := ho
    have hpe : sealAll (p ++ [b]) = sealAll p ++ sealL b := by rw [sealAll_append]; simp [sealAll]
    have hI := ih (p ++ [b]) k (by rw [hp]; simp) (by omega)
    rw [hpe, List.length_append, List.length_append, List.length_singleton, sealL_len] at hI
    have hrd : rd_L2 ws (p.length : Int) = b := by rw [hp]; exact rdL_mid p r b
    rw [columbariumlaw6_BlockJoins.l0, if_pos (by omega), ho, Option.bind_some]
    show (if (0 : Int) = 0 then if 0 ≤ (p.length : Int) then if (strOfNums b).toList = (strOfNums (rd_L2 ws (p.length : Int))).toList then if ((sealAll p).length : Int) + ((b.length + 12 : Nat) : Int) ≤ ((sealAll p).length : Int) then _ else columbariumlaw6_BlockJoins.l0 k (sealAll ws) ws (((sealAll p).length : Int) + ((b.length + 12 : Nat) : Int)) (wrap64 ((p.length : Int) + 1)) else _ else _ else _) = _
    rw [if_pos rfl, if_pos (by omega), hrd, if_pos rfl, if_neg (by omega), w64_id (by omega) (by omega)]
    have e1 : ((sealAll p).length : Int) + ((b.length + 12 : Nat) : Int) = (((sealAll p).length + (b.length + 12) : Nat) : Int) := by push_cast; rfl
    have e2 : (p.length : Int) + 1 = ((p.length + 1 : Nat) : Int) := by push_cast; rfl
    rw [e1, e2]
    exact hI
theorem BlockJoinsUpto : columbariumlaw6_BlockJoins.PureU := by
  intro l m b hl _ hm _ _ _ hb hbb
  have hbb : ∀ x ∈ b, 0 ≤ x ∧ x ≤ 255 := fun x hx => u8wf (hbb x hx)
  obtain ⟨K, hK⟩ : ∃ K, K = 1000000000 := ⟨_, rfl⟩
  refine ⟨K, ?_⟩
  have hfs := firsts_short l
  have hfl := firsts_len l
  have hwl := sealAll_len (ws := firsts l) (fun b hb => (hfs b hb).1)
  have hwb := sealAll_byte (ws := firsts l) (fun b hb => ⟨by have := (hfs b hb).1; omega, (hfs b hb).2⟩)
  have hgs := firsts_short m
  have hgl := firsts_len m
  have hvl := sealAll_len (ws := firsts m) (fun b hb => (hgs b hb).1)
  have hvb := sealAll_byte (ws := firsts m) (fun b hb => ⟨by have := (hgs b hb).1; omega, (hgs b hb).2⟩)
  unfold columbariumlaw6_BlockJoins.f
  rw [written_f (by omega) (by omega), Option.bind_some, written_f (by omega) (by omega), Option.bind_some]
  generalize firsts l = ws at *
  generalize sealAll (firsts m) = v at *
  obtain ⟨y, hy⟩ : ∃ y, y = v ++ b := ⟨_, rfl⟩
  have hyl : y.length ≤ 1060000 := by rw [hy, List.length_append]; omega
  have hyb : ∀ x ∈ y, 0 ≤ x ∧ x ≤ 255 := fun x hx => by
    rw [hy] at hx
    rcases List.mem_append.1 hx with h | h
    · exact hvb x h
    · exact hbb x h
  have hxyl : (sealAll ws ++ y).length ≤ 1070000 := by rw [List.length_append]; omega
  have hxyb : ∀ x ∈ sealAll ws ++ y, 0 ≤ x ∧ x ≤ 255 := fun x hx => by
    rcases List.mem_append.1 hx with h | h
    · exact hwb x h
    · exact hyb x h
  have hws20 : ∀ b ∈ ws, b.length ≤ 1048576 := fun b hb => by have := (hfs b hb).1; omega
  -- all of what stands behind, all of both, all of what stands ahead
  have a1 := (all_any_f (l := y) (by omega) hyb (f := 1070000) (k := K) (by omega) (by omega) (by omega)).1
  have a2 := (all_any_f (l := sealAll ws ++ y) (by omega) hxyb (f := ws.length + 1070000) (k := K) (by omega) (by omega) (by omega)).1
  have a3 := (all_any_f (l := sealAll ws) (by omega) hwb (f := ws.length + 3000) (k := K) (by omega) (by omega) (by omega)).1
  have s2 := allP_seals y (1070000 + 1) ws hws20
  have s3 := allP_seals [] (3000 + 1) ws hws20
  rw [List.append_nil] at s3
  have e3 : allP (3000 + 1) [] = ([], 0, 0) := by rw [allP, if_pos List.length_nil]
  rw [e3] at s3
  rw [show ws.length + 1070000 + 1 = ws.length + (1070000 + 1) from by omega, s2] at a2
  rw [show ws.length + 3000 + 1 = ws.length + (3000 + 1) from by omega, s3] at a3
  have hplen := allP_len (1070000 + 1) y
  obtain ⟨t, ht⟩ : ∃ t, t = allP (1070000 + 1) y := ⟨_, rfl⟩
  rw [← ht] at a1 a2 hplen
  have a3 : block_All.f K (sealAll ws) = some (ws, ((sealAll ws).length : Int), 0) := by rw [a3]; simp
  have hn : 0 ≤ t.2.1 ∧ t.2.1 ≤ 1070000 := by
    have key : ∀ (f : Nat) (z : List Int), (∀ x ∈ z, 0 ≤ x ∧ x ≤ 255) → 0 ≤ (allP f z).2.1 ∧ (allP f z).2.1 ≤ z.length := by
      intro f
      induction f with
      | zero => intro z _; exact ⟨Int.le_refl _, by show (0 : Int) ≤ _; omega⟩
      | succ f ih =>
        intro z hz
        unfold allP
        split
        · exact ⟨Int.le_refl _, by show (0 : Int) ≤ _; omega⟩
        · split
          · rename_i h2
            obtain ⟨n, hn, hn1, hn2⟩ := openL_step hz h2
            have := ih (z.drop (openL z).2.1.toNat) (fun x hx => hz x (List.mem_of_mem_drop hx))
            rw [List.length_drop] at this
            show 0 ≤ (openL z).2.1 + (allP f (z.drop (openL z).2.1.toNat)).2.1 ∧ (openL z).2.1 + (allP f (z.drop (openL z).2.1.toNat)).2.1 ≤ z.length
            rw [hn] at this ⊢
            rw [Int.toNat_natCast] at this ⊢
            omega
          · exact ⟨Int.le_refl _, by show (0 : Int) ≤ _; omega⟩
    have := key (1070000 + 1) y hyb
    rw [← ht] at this
    omega
  rw [if_pos (show v.length + b.length < 140737488355328 by omega), ← hy, Option.bind_some, a1, Option.bind_some, Option.bind_some, if_pos (show ([] : List Int).length + (sealAll ws).length < 140737488355328 by rw [List.length_nil]; omega), List.nil_append, Option.bind_some,
    if_pos (show (sealAll ws).length + y.length < 140737488355328 by omega), a2, Option.bind_some, a3, Option.bind_some]
  rw [if_pos (show (0 : Int) = 0 from rfl), if_pos (show ((sealAll ws).length : Int) = ((sealAll ws).length : Int) from rfl), if_pos (show t.2.2 = t.2.2 from rfl)]
  rw [if_pos (show ((sealAll ws).length : Int) + t.2.1 = wrap64 (((sealAll ws).length : Int) + t.2.1) by rw [w64_id (by omega) (by omega)]), Option.bind_some, if_pos (show ([] : List (List Int)).length + ws.length < 5864062014805 by rw [List.length_nil]; omega), List.nil_append, Option.bind_some,
    if_pos (show ws.length + t.1.length < 5864062014805 by omega)]
  have halike := alike_f (l := ws ++ t.1) (by rw [List.length_append]; omega) (k := K) (by rw [List.length_append]; omega)
  rw [halike, Option.bind_some, if_pos rfl]
  exact joins_loop hfs (by omega) (k0 := 30000000) (by omega) ws [] K rfl (by omega)
end Go.Proofs.Ytfgceanepgjfiaa.Pure
