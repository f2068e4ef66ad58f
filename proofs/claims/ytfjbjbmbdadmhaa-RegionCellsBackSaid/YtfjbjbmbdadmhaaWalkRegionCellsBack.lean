/- printworkskeep1.RegionCellsBack returns true for every list of runs, and leaves its argument as it was. -/
import Derived.Test.YtfjbjbmbdadmhaaRows
import Derived.Test.YtfjbjbmbdadmhaaFrame
import Derived.Test.YtfjbjbmbdadmhaaSlq
import Derived.Test.YtfjbjbmbdadmhaaRgk
namespace Go.Proofs.Ytfjbjbmbdadmhaa.regionCellsBack
open Go.ChangeShapes Go.WideShapes Go.ChangeAt Go.RowKit
set_option linter.unusedVariables false
open Sx Rga Rgk
set_option maxRecDepth 100000
theorem nO (f : Nat → Rn) (i j : Nat) : noOwn (lst (rnL (f i)) j) := noOwn_lst (l := rnL (f i)) ⟨trivial, trivial, trivial, trivial⟩ j

theorem walk (a0 : Value) (w : World) (L0 : Leaf Try.prog w 39 a0) :
    Calls Try.prog 4 #[a0] w fun e w' => e = .returned (.bool true) ∧ Below w.heap.size w w' := by
  obtain ⟨n0, f0, R0, _, h0⟩ := leaf_rows (k := .i64) (t := 3) 3 Try.underlying39 Try.underlying3 (by kernel_rfl) (by decide) (by kernel_rfl) L0
  exact law_ok Rgk.ok_cellsBack ⟨n0, fun i => ⟨f0 i 0, f0 i 1, f0 i 2⟩⟩ rfl ⟨nO _, trivial⟩ h0
    (vals := [a0]) ⟨R0 _ (fun i j hj => match j, hj with | 0, _ => rfl | 1, _ => rfl | 2, _ => rfl), trivial⟩
end Go.Proofs.Ytfjbjbmbdadmhaa.regionCellsBack
