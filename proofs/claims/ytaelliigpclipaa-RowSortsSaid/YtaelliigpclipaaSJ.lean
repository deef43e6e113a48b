/- RowSorts: the join. Printed by gen_sj.py. -/
import Derived.Test.YtaelliigpclipaaSI
import Derived.Test.YtaelliigpclipaaProg
import Derived.KernelRfl
namespace Go.Proofs.Ytaelliigpclipaa.V
open Go Go.RowKit Go.Proofs Go.Proofs.Ytaelliigpclipaa.Eng Go.Proofs.Ytaelliigpclipaa.VPl
set_option maxRecDepth 100000
set_option linter.unusedVariables false
set_option linter.unusedSimpArgs false

theorem rowSorts_does (L : List Rw) : ValDoes Try.prog 3 [.s (.slv L.length none 3 (flat Rw.cv L))] (.s (.bool true)) := by
  by_cases h0 : L.length = 0
  · exact ValDoes.of_code Try.func3 (by kernel_rfl) (by kernel_rfl) (k := 143) (by kernel_rfl) (fun B => ⟨_, _, .inr rfl, rsN_1 L h0, by kernel_rfl⟩) (by kernel_rfl) (List.all_eq_true.1 (by kernel_rfl))
  · have hp : 0 < L.length := by omega
    obtain ⟨hok, hZZ⟩ := some_ok L hp
    have hl := someL_len L
    have hr := someL_room L
    have hperm := isort0_perm (someL L) (by rw [hl]; omega)
    have hrZ : Roomy (isort0 (someL L)) := fun x hx => hr x (hperm.mem_iff.1 hx)
    exact ValDoes.of_code Try.func3 (by kernel_rfl) (by kernel_rfl) (k := 143) (by kernel_rfl) (fun B => ⟨_, _, .inr rfl, rsA_1 L (someL L) (isort0 (someL L)) rfl rfl hZZ hp (by rw [hl]; omega) (by rw [hl]; omega) hperm.length_eq hr hrZ hok (fun x hx => by have := (hrZ x hx).2; omega), by kernel_rfl⟩) (by kernel_rfl) (List.all_eq_true.1 (by kernel_rfl))
end Go.Proofs.Ytaelliigpclipaa.V
