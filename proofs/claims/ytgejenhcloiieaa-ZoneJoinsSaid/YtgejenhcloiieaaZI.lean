/- ZoneOrder answers true. Printed by gen_zonei.py. -/
import Derived.Test.YtgejenhcloiieaaZF
import Derived.Test.YtgejenhcloiieaaZG
import Derived.Test.YtgejenhcloiieaaZH
namespace Go.Proofs.Ytgejenhcloiieaa.Z8
open Go Go.RowKit Go.Proofs Go.Proofs.Ytgejenhcloiieaa.Eng
set_option linter.unusedVariables false
set_option linter.unusedSimpArgs false

theorem nulls_build (K : Int) (L : List Cl) : (buildZ K L).nulls = ((L.filter fun x => decide (x.kind ≠ K)).length : Int) := by
  rw [show (buildZ K L).nulls = _ from nulls_fold K L _]
  show (0 : Int) + _ = _
  omega
theorem zn_ext {a b : Zn} (h1 : a.kind = b.kind) (h2 : a.rows = b.rows) (h3 : a.nulls = b.nulls) (h4 : a.minN = b.minN ∧ a.maxN = b.maxN ∧ a.minS = b.minS ∧ a.maxS = b.maxS) : a = b := by
  cases a; cases b
  obtain ⟨h4, h5, h6, h7⟩ := h4
  simp only at h1 h2 h3 h4 h5 h6 h7
  subst h1 h2 h3 h4 h5 h6 h7
  rfl
/-- A row turned. -/
abbrev turnL (F : List Cl) (k : Nat) : List Cl := (F.drop k).take (F.length - k) ++ F.take k
theorem turn_mem (F : List Cl) (k : Nat) (x : Cl) : x ∈ F ↔ x ∈ turnL F k := by
  rw [turnL, List.take_of_length_le (by rw [List.length_drop]; omega), List.mem_append, or_comm, ← List.mem_append, List.take_append_drop]
theorem turn_len (F : List Cl) (k : Nat) (h : k ≤ F.length) : (turnL F k).length = F.length := by
  rw [turnL, List.length_append, List.length_take, List.length_take, List.length_drop]; omega
theorem turn_filter (F : List Cl) (k : Nat) (p : Cl → Bool) : ((turnL F k).filter p).length = (F.filter p).length := by
  have : (F.filter p).length = ((F.take k ++ F.drop k).filter p).length := by rw [List.take_append_drop]
  rw [this, turnL, List.take_of_length_le (by rw [List.length_drop]; omega), List.filter_append, List.filter_append, List.length_append, List.length_append]
  omega
theorem order_eq (K : Int) (hK : K = 1 ∨ K = 2) (F M : List Cl) (h : ∀ x, x ∈ F ↔ x ∈ M) (hl : M.length = F.length) (hf : (M.filter fun x => decide (x.kind ≠ K)).length = (F.filter fun x => decide (x.kind ≠ K)).length) :
    buildZ K M = buildZ K F ∧ (buildZ K (F ++ M)).rows = 2 * (buildZ K F).rows ∧ (buildZ K (F ++ M)).nulls = 2 * (buildZ K F).nulls ∧ (buildZ K (F ++ M)).minN = (buildZ K F).minN ∧ (buildZ K (F ++ M)).maxN = (buildZ K F).maxN ∧ (buildZ K (F ++ M)).minS = (buildZ K F).minS ∧ (buildZ K (F ++ M)).maxS = (buildZ K F).maxS := by
  refine ⟨zn_ext ((inv_build K M).kind.trans (inv_build K F).kind.symm) ?_ ?_ (same_bounds K hK M F fun x => (h x).symm), ?_, ?_, same_bounds K hK (F ++ M) F fun x => ?_⟩
  · rw [rows_build, rows_build, hl]
  · rw [nulls_build, nulls_build, hf]
  · rw [rows_build, rows_build, List.length_append, hl]; omega
  · rw [nulls_build, nulls_build, List.filter_append, List.length_append, hf]; omega
  · rw [List.mem_append, ← h x, or_self]
abbrev OrderEnd (B : Nat) (s : St) : Prop := ∃ c', CodeDoes Try.prog B (Try.f4.body.getD .skip) s .ret ⟨⟨100, [(6, .s (.bool true))]⟩, [], c'⟩
theorem order_nil {B : Nat} (q tu : Int) : OrderEnd B ⟨⟨100, [(0, .s (.int .i64 q)), (1, .s .sl0), (2, .s (.int .i64 tu))]⟩, [], 1⟩ := by
  by_cases hq : q % 2 = 0
  · exact ⟨_, od_nil1 q tu hq none⟩
  · exact ⟨_, od_nil2 q tu hq none⟩
theorem order_emp {B : Nat} (q tu : Int) (cp : Option Nat) : OrderEnd B ⟨⟨100, [(0, .s (.int .i64 q)), (1, .s (.sl 0 0 0 cp 4)), (2, .s (.int .i64 tu))]⟩, [], 1⟩ := by
  by_cases hq : q % 2 = 0
  · exact ⟨_, od_emp1 q tu hq cp⟩
  · exact ⟨_, od_emp2 q tu hq cp⟩
theorem order_one {B : Nat} (q tu : Int) (L : List Cl) (cp : Option Nat) (o : Bool) (h0 : 0 < L.length) : OrderEnd B ⟨⟨100, [(0, .s (.int .i64 q)), (1, .s (.sl 0 0 L.length cp 4)), (2, .s (.int .i64 tu))]⟩, [(0, some ⟨flat Cl.cells L, o⟩)], 1⟩ := by
  have hpos := few_pos h0
  have hlen := few_len L
  have hw := within_range (x := tu) (hi := ((fewL L).length : Int) - 1) (by omega)
  obtain ⟨k, hk⟩ : ∃ k : Nat, within tu (((fewL L).length : Int) - 1) = (k : Int) := ⟨_, (Int.toNat_of_nonneg hw.1).symm⟩
  have hk1 : k < (fewL L).length := by omega
  by_cases hq : q % 2 = 0
  · have hr0 : 0 ≤ (buildZ 1 (fewL L)).rows ∧ (buildZ 1 (fewL L)).rows ≤ 100 := by rw [rows_build]; omega
    have hI := inv_build 1 (fewL L)
    have hn0 : 0 ≤ (buildZ 1 (fewL L)).nulls ∧ (buildZ 1 (fewL L)).nulls ≤ 100 := ⟨hI.n0, by have : (buildZ 1 (fewL L)).nulls ≤ ((fewL L).length : Int) := hI.n1; omega⟩
    by_cases hk0 : 0 < k
    · obtain ⟨e1, e2, e3, e4, e5, e6, e7⟩ := order_eq 1 (by simp) (fewL L) (turnL (fewL L) k) (turn_mem _ _) (turn_len _ _ (by omega)) (turn_filter _ _ _)
      exact ⟨_, od_one1p q tu hq L (fewL L) cp o _ _ h0 rfl hpos hlen k hk hk1 hk0 (bz_def _ _) ((bz_def _ _).trans e1) (bz_def _ _) hr0 hn0 e2 e3 e4 e5 (seq_eq e6) (seq_eq e7)⟩
    · obtain rfl : k = 0 := by omega
      obtain ⟨e1, e2, e3, e4, e5, e6, e7⟩ := order_eq 1 (by simp) (fewL L) (fewL L) (fun _ => Iff.rfl) rfl rfl
      exact ⟨_, od_one1z q tu hq L (fewL L) cp o _ _ h0 rfl hpos hlen hk (bz_def _ _) (bz_def _ _) (bz_def _ _) hr0 hn0 e2 e3 e4 e5 (seq_eq e6) (seq_eq e7)⟩
  · have hr0 : 0 ≤ (buildZ 2 (fewL L)).rows ∧ (buildZ 2 (fewL L)).rows ≤ 100 := by rw [rows_build]; omega
    have hI := inv_build 2 (fewL L)
    have hn0 : 0 ≤ (buildZ 2 (fewL L)).nulls ∧ (buildZ 2 (fewL L)).nulls ≤ 100 := ⟨hI.n0, by have : (buildZ 2 (fewL L)).nulls ≤ ((fewL L).length : Int) := hI.n1; omega⟩
    by_cases hk0 : 0 < k
    · obtain ⟨e1, e2, e3, e4, e5, e6, e7⟩ := order_eq 2 (by simp) (fewL L) (turnL (fewL L) k) (turn_mem _ _) (turn_len _ _ (by omega)) (turn_filter _ _ _)
      exact ⟨_, od_one2p q tu hq L (fewL L) cp o _ _ h0 rfl hpos hlen k hk hk1 hk0 (bz_def _ _) ((bz_def _ _).trans e1) (bz_def _ _) hr0 hn0 e2 e3 e4 e5 (seq_eq e6) (seq_eq e7)⟩
    · obtain rfl : k = 0 := by omega
      obtain ⟨e1, e2, e3, e4, e5, e6, e7⟩ := order_eq 2 (by simp) (fewL L) (fewL L) (fun _ => Iff.rfl) rfl rfl
      exact ⟨_, od_one2z q tu hq L (fewL L) cp o _ _ h0 rfl hpos hlen hk (bz_def _ _) (bz_def _ _) (bz_def _ _) hr0 hn0 e2 e3 e4 e5 (seq_eq e6) (seq_eq e7)⟩
theorem order_pure (q tu : Int) (A : AV) (m : Mem) (h : ∀ B, OrderEnd B ⟨⟨100, [(0, .s (.int .i64 q)), (1, A), (2, .s (.int .i64 tu))]⟩, m, 1⟩) : PureDoes Try.prog 4 [.s (.int .i64 q), A, .s (.int .i64 tu)] m 1 (.s (.bool true)) :=
  PureDoes.of_ends (fn := Try.f4) (body := Try.f4.body.getD .skip) Try.func4 (by kernel_rfl) (by kernel_rfl) (k := 100) (by kernel_rfl) fun B => by
    obtain ⟨c', hc⟩ := h B
    exact ⟨.ret, _, .inr rfl, hc, by kernel_rfl⟩
theorem OrderEnd.before {B n c : Nat} {l : List (Nat × AV)} {m : Mem} (h : OrderEnd B ⟨⟨n, l⟩, [], c⟩) : OrderEnd B ⟨⟨n, l⟩, m, c⟩ := by
  obtain ⟨c', hc⟩ := h
  exact ⟨c', hc.before Less.empty⟩
end Go.Proofs.Ytgejenhcloiieaa.Z8
