/- printworkskeep1.RegionAreas returns true for every two lists of runs, and leaves its arguments as they were. -/
import Derived.Test.YtbmgclpgompjmaaRows
import Derived.Test.YtbmgclpgompjmaaFrame
import Derived.Test.YtbmgclpgompjmaaSlq
import Derived.Test.YtbmgclpgompjmaaRgj
namespace Go.Proofs.Ytbmgclpgompjmaa.regionAreas
open Go.ChangeShapes Go.WideShapes Go.ChangeAt Go.RowKit
set_option linter.unusedVariables false
open Sx Rga Rgj
set_option maxRecDepth 100000
theorem nO (f : Nat → Rn) (i j : Nat) : noOwn (lst (rnL (f i)) j) := noOwn_lst (l := rnL (f i)) ⟨trivial, trivial, trivial, trivial⟩ j

theorem walk (a0 : Value) (a1 : Value) (w : World) (L0 : Leaf Try.prog w 86 a0) (L1 : Leaf Try.prog w 86 a1) :
    Calls Try.prog 12 #[a0, a1] w fun e w' => e = .returned (.bool true) ∧ Below w.heap.size w w' := by
  obtain ⟨n0, f0, R0, _, h0⟩ := leaf_rows (k := .i64) (t := 3) 3 Try.underlying86 Try.underlying3 (by kernel_rfl) (by decide) (by kernel_rfl) L0
  obtain ⟨n1, f1, R1, _, h1⟩ := leaf_rows (k := .i64) (t := 3) 3 Try.underlying86 Try.underlying3 (by kernel_rfl) (by decide) (by kernel_rfl) L1
  exact law_ok Rgj.ok_areas ⟨⟨n0, fun i => ⟨f0 i 0, f0 i 1, f0 i 2⟩⟩, ⟨n1, fun i => ⟨f1 i 0, f1 i 1, f1 i 2⟩⟩⟩ rfl ⟨nO _, nO _, trivial⟩ (show AsG.ok _ from ⟨h0, h1⟩)
    (vals := [a0, a1]) ⟨R0 _ (fun i j hj => match j, hj with | 0, _ => rfl | 1, _ => rfl | 2, _ => rfl), R1 _ (fun i j hj => match j, hj with | 0, _ => rfl | 1, _ => rfl | 2, _ => rfl), trivial⟩
end Go.Proofs.Ytbmgclpgompjmaa.regionAreas
