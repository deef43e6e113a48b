/- An index is written and read as itself, behind anything; what is read is Right, and its bytes those that are written; for any steps and bytes. -/
import Derived.Test.YtjpeojohakhmdaaPScolumbariumlaw10TicksBack
import Derived.Test.YtjpeojohakhmdaaAllTicksBack
namespace Go.Proofs.Ytjpeojohakhmdaa.Pure
open Go.RowKit Go.Proofs.Ytjpeojohakhmdaa.PS Go.Proofs.YtjpeojohakhmdaaW.PrintWords Go.Proofs.YtjpeojohakhmdaaW.PrintLast Go.Proofs.Ytjpeojohakhmdaa.Base Go.Proofs.Ytjpeojohakhmdaa.TBase Go.Proofs.Ytjpeojohakhmdaa.TRising Go.Proofs.Ytjpeojohakhmdaa.TKnown Go.Proofs.Ytjpeojohakhmdaa.Within Go.Proofs.Ytjpeojohakhmdaa.VPlain Go.Proofs.Ytjpeojohakhmdaa.Zigs Go.Proofs.Ytjpeojohakhmdaa.DPlain Go.Proofs.Ytjpeojohakhmdaa.TBack Go.Proofs.Ytjpeojohakhmdaa.Same64
theorem four_mem {l : List Int} {n : Nat} (h : ∀ i, i < n → 4 * i < l.length) {x : Int} (hx : x ∈ four l n) : x ∈ l := by
  unfold four at hx
  obtain ⟨i, hi, rfl⟩ := List.mem_map.1 hx
  exact rd_mem (h i (List.mem_range.1 hi))
theorem TicksBack : columbariumlaw10_TicksBack.Pure := by
  intro a s p b _ hs1 hs _ hp1 hp hpb hb1 hb hbb
  obtain ⟨K, hK⟩ : ∃ K, K = p.length + b.length + 3000000000 := ⟨_, rfl⟩
  refine ⟨K, ?_⟩
  obtain ⟨l, hl, hlen, hr, hx⟩ := rising_f a (s := s) (by omega) (k := K) (by omega)
  have hbase := base_range a
  have hpb : ∀ x ∈ p, 0 ≤ x ∧ x ≤ 255 := fun x hx => u8wf (hpb x hx)
  have hbb : ∀ x ∈ b, 0 ≤ x ∧ x ≤ 255 := fun x hx => u8wf (hbb x hx)
  have hlI : ∀ x ∈ l, I64 x := fun x hxm => by have := hx x hxm; unfold I64; omega
  obtain ⟨at', hat⟩ : ∃ z, z = four l ((l.length + 3) / 4) := ⟨_, rfl⟩
  obtain ⟨last, hlast⟩ : ∃ z, z = lastTo l l.length := ⟨_, rfl⟩
  have hatl : at'.length = (l.length + 3) / 4 := by rw [hat, four_len]
  have hatI : ∀ x ∈ at', I64 x := fun x hxm => hlI x (four_mem (n := (l.length + 3) / 4) (fun i hi => by omega) (by rw [← hat]; exact hxm))
  have hlastI : I64 last := by
    rw [hlast]
    unfold lastTo
    split
    · unfold I64; omega
    · exact hlI _ (rd_mem (by omega))
  have hright : ∀ k : Nat, at'.length + 60 < k → ticks_Right.f k (l.length : Int) last at' = some true := fun k hk => by
    rw [hat, hlast]
    exact right_f (by omega) hr (by omega)
  have v1 := vput_len (l.length : Int)
  have v2 := vput_len (zigI last)
  have v3 := encD_len at'
  have hcl : (encX (l.length : Int) last at').length ≤ 300 := by
    unfold encX
    simp only [List.length_append]
    omega
  have hcb : ∀ x ∈ encX (l.length : Int) last at', 0 ≤ x ∧ x ≤ 255 := by
    intro x hxm
    unfold encX at hxm
    have hz := zig_range hlastI.1 hlastI.2
    rcases List.mem_append.1 hxm with hxm | hxm
    · rcases List.mem_append.1 hxm with hxm | hxm
      · exact vput_byte (by omega) x hxm
      · exact vput_byte hz.2 x hxm
    · exact encD_byte (by omega) hatI x hxm
  obtain ⟨c, hc⟩ : ∃ c, c = encX (l.length : Int) last at' := ⟨_, rfl⟩
  unfold columbariumlaw10_TicksBack.f
  rw [hl, Option.bind_some, build_f (by omega) hr (by omega), Option.bind_some]
  rw [← hat, ← hlast]
  rw [encX_f (by omega) (by omega) (by omega) hatI hlastI (hright K (by omega)) (by omega), Option.bind_some, Option.bind_some, ← hc]
  rw [← hc] at hcl hcb
  rw [if_pos (show ([] : List Int).length + p.length < 140737488355328 by rw [List.length_nil]; omega), Option.bind_some, List.nil_append]
  rw [if_pos (show p.length + c.length < 140737488355328 by omega), Option.bind_some]
  have hdl : (p ++ c).length = p.length + c.length := List.length_append
  have hdb : ∀ x ∈ p ++ c, 0 ≤ x ∧ x ≤ 255 := fun x hxm => by
    rcases List.mem_append.1 hxm with h | h
    · exact hpb x h
    · exact hcb x h
  have hdec := decX_back (p := p) (rows := (l.length : Int)) (last := last) (at' := at') (by omega) (by omega) (by omega) hatI hlastI (by rw [← hc, hdl]; omega) (by rw [← hc]; exact hdb) (k := K) (fun k hk => by
    have h2 := hright (k + 60) (by omega)
    obtain ⟨b2, hb2, _⟩ := right_any (l.length : Int) last (at' := at') (by omega) (k := k) (by omega)
    have h3 := at_rounds (ticks_Right.mono _ _ _) (show k ≤ k + 60 by omega) hb2
    rw [h2] at h3
    rw [hb2, ← Option.some.inj h3]) (by rw [← hc, hdl]; omega)
  rw [← hc] at hdec
  rw [hdec, Option.bind_some, if_pos rfl]
  rw [if_pos (show (0 : Int) = 0 from rfl), if_pos (show (0 : Int) = 0 from rfl), if_pos (show ((p ++ c).length : Int) = ((p ++ c).length : Int) from rfl)]
  have hin : columbariumlaw10_in.f (l.length : Int) last at' = some ((l.length : Int), last, at') := rfl
  have hsame : columbariumlaw10_same.f K (l.length : Int) last at' (l.length : Int) last at' = some true := by
    unfold columbariumlaw10_same.f
    rw [if_pos rfl, if_pos rfl, same64_f (by omega) (by omega)]
    rfl
  rw [hin, Option.bind_some, hsame, Option.bind_some, if_pos rfl]
  obtain ⟨rows2, last2, at2, e2, why2, h2, hok⟩ := decX_any (l := b) (by omega) hbb 0 (k := K) (by omega)
  rw [h2, Option.bind_some]
  show (if why2 = 0 then _ else _) = _
  by_cases hw : why2 = 0
  · obtain ⟨g1, g2, g3, g4, g5, g6, g7, g8, g9, g10⟩ := hok hw
    rw [if_pos hw, encX_f g1 g2 (by omega) g5 g3 (g6 K (by omega)) (by omega), Option.bind_some]
    show (if (0 : Int) = 0 then if e2 > (b.length : Int) then some false else if 0 ≤ e2 then if e2 ≤ (b.length : Int) then if (strOfNums (encX rows2 last2 at2)).toList = (strOfNums (b.take e2.toNat)).toList then _ else _ else _ else _ else _) = _
    have htake : b.take e2.toNat = encX rows2 last2 at2 := by
      have h3 : b = encX rows2 last2 at2 ++ b.drop e2.toNat := g10
      have h4 : e2.toNat = (encX rows2 last2 at2).length := by omega
      have h5 := congrArg (List.take e2.toNat) h3
      rw [h5, h4, List.take_left']
      rfl
    rw [if_pos rfl, if_neg (by omega), if_pos (by omega), if_pos g9, if_pos (by rw [htake]), known_f (by omega)]
    rfl
  · rw [if_neg hw, known_f (by omega)]
    rfl
end Go.Proofs.Ytjpeojohakhmdaa.Pure
