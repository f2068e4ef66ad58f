/- A row that lets others be leaving, at a call that starts none: from the contract in which all others have ended. -/
import Derived.Conc.Holds
import Derived.Handed
set_option linter.unusedSimpArgs false
set_option linter.unusedVariables false
namespace Go.Proofs.Ytbkgncikjhibiaa.Lvg
theorem onlyLeaving_of_quiet {P : Program} {m : Machine} (h : m.quiet) : m.OnlyLeaving P := by
  refine ⟨fun g hg => ⟨0, ?_⟩, h.2⟩
  have := List.all_eq_true.1 h.1 g hg
  exact eq_of_beq this
theorem leaving_of_handed {a : Assume} {C : Checked} {os : Os} {f : FuncId} {r : Reach} {Pre : World → Array Value → Prop} {Post : World → Array Value → Value → World → Prop}
    (h : ReturnsInHanded a C os f r Pre Post) : ReturnsInLeavingWide a C os f r Pre Post := fun enter => by
  obtain ⟨g0, g1, g2, g3, all⟩ := h enter
  refine ⟨g0, g1, g2, g3, fun w tape i hf => ?_⟩
  obtain ⟨n, v, w', hn, hc, hr, hp, ⟨j, last, hj, hs, hq, hh, he⟩, ha⟩ := all w tape i hf
  exact ⟨n, v, w', hn, hc, hr, hp, ⟨j, last, hj, hs, hh, onlyLeaving_of_quiet hq, he⟩, ha⟩
end Go.Proofs.Ytbkgncikjhibiaa.Lvg
