/- printworkskeep1.ConicReversed returns true for every path, and leaves its argument as it was. -/
import Derived.Test.YtfjbjbmbdadmhaaRows
import Derived.Test.YtfjbjbmbdadmhaaFrame
import Derived.Test.YtfjbjbmbdadmhaaSlq
import Derived.Test.YtfjbjbmbdadmhaaCrv
namespace Go.Proofs.Ytfjbjbmbdadmhaa.conicReversed
open Go.ChangeShapes Go.WideShapes Go.ChangeAt Go.RowKit
set_option linter.unusedVariables false
open Sx Cop Coh Pth Crv
set_option maxRecDepth 100000
theorem nO (f : Nat → Seg) (i j : Nat) : noOwn (lst (segL (f i)) j) := noOwn_lst (l := segL (f i)) ⟨trivial, trivial, trivial, trivial, trivial, trivial, trivial⟩ j

theorem walk (a0 : Value) (w : World) (L0 : Leaf Try.prog w 22 a0) :
    Calls Try.prog 3 #[a0] w fun e w' => e = .returned (.bool true) ∧ Below w.heap.size w w' := by
  obtain ⟨n0, f0, R0, _, h0⟩ := leaf_rows (k := .i64) (t := 3) 6 Try.underlying22 Try.underlying3 (by kernel_rfl) (by decide) (by kernel_rfl) L0
  exact law_ok Crv.ok_cRev ⟨n0, fun i => ⟨f0 i 0, f0 i 1, f0 i 2, f0 i 3, f0 i 4, f0 i 5⟩⟩ rfl ⟨nO _, trivial⟩ h0
    (vals := [a0]) ⟨R0 _ (fun i j hj => match j, hj with | 0, _ => rfl | 1, _ => rfl | 2, _ => rfl | 3, _ => rfl | 4, _ => rfl | 5, _ => rfl), trivial⟩
end Go.Proofs.Ytfjbjbmbdadmhaa.conicReversed
