/- Small lemmas that all walks of this seat use: ends of calls, worlds that have only grown. -/
import Derived.WalkKit
import Derived.WalkSpells
import Derived.WalkLawsBesides
import Derived.Handy
import Derived.Lib.Hide
import Derived.Deep.RegionWith
import Derived.Deep.RegionHeld3
import Derived.Deep.QuietTactic
import Derived.BigQuiet
import Derived.StillTailTactics
namespace Go.Proofs.Ytfjbjbmbdadmhaa
open Go.RowKit
theorem ret_int {k : IntKind} {a b : Int} (h : a = b) : Ending.returned (.int k a) = .returned (.int k b) := by rw [h]
theorem cell_lt {w : World} {b off : Nat} {s : Option Nat} {v : Value} (h : w.cell? ⟨b, off, s⟩ = some v) : b < w.heap.size ∧ s = none := by
  unfold World.cell? at h
  refine ⟨?_, ?_⟩
  · refine Nat.not_le.1 fun hc => ?_
    rw [Array.getElem?_eq_none hc] at h
    exact absurd h (by simp)
  · split at h
    · split at h
      · exact absurd h (by simp)
      · cases s <;> simp_all
    · exact absurd h (by simp)
end Go.Proofs.Ytfjbjbmbdadmhaa
