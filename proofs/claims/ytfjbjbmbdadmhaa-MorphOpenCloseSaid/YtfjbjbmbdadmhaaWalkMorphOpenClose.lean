/- printworkskeep1.MorphOpenClose returns true for every region and every size, and leaves its arguments as they were. -/
import Derived.Test.YtfjbjbmbdadmhaaRows
import Derived.Test.YtfjbjbmbdadmhaaFrame
import Derived.Test.YtfjbjbmbdadmhaaSlq
import Derived.Test.YtfjbjbmbdadmhaaMoq
namespace Go.Proofs.Ytfjbjbmbdadmhaa.morphOpenClose
open Go.ChangeShapes Go.WideShapes Go.ChangeAt Go.RowKit
set_option linter.unusedVariables false
open Sx Rga Moq
set_option maxRecDepth 100000
theorem nO (f : Nat → Rn) (i j : Nat) : noOwn (lst (rnL (f i)) j) := noOwn_lst (l := rnL (f i)) ⟨trivial, trivial, trivial, trivial⟩ j

theorem walk (a0 : Value) (a1 : Int) (w : World) (L0 : Leaf Try.prog w 39 a0) (w1 : (Lit.int .i64 a1).wf = true) :
    Calls Try.prog 7 #[a0, .int .i64 a1] w fun e w' => e = .returned (.bool true) ∧ Below w.heap.size w w' := by
  obtain ⟨n0, f0, R0, _, h0⟩ := leaf_rows (k := .i64) (t := 3) 3 Try.underlying39 Try.underlying3 (by kernel_rfl) (by decide) (by kernel_rfl) L0
  exact law_ok Moq.ok_openClose ⟨⟨n0, fun i => ⟨f0 i 0, f0 i 1, f0 i 2⟩⟩, a1⟩ rfl ⟨nO _, trivial, trivial⟩ (show OcG.ok _ from ⟨h0⟩)
    (vals := [a0, .int .i64 a1]) ⟨R0 _ (fun i j hj => match j, hj with | 0, _ => rfl | 1, _ => rfl | 2, _ => rfl), .int, trivial⟩
end Go.Proofs.Ytfjbjbmbdadmhaa.morphOpenClose
