/- printworkskeep1.PathMapMoves returns true for every path and every shift, and leaves its arguments as they were. -/
import Derived.Test.YtbmgclpgompjmaaDoorRows
import Derived.Test.YtbmgclpgompjmaaDoorFrame
import Derived.Test.YtbmgclpgompjmaaDoorSlq
import Derived.Test.YtbmgclpgompjmaaDoorPlw
namespace Go.Proofs.YtbmgclpgompjmaaDoor.pathMapMoves
open Go.ChangeShapes Go.WideShapes Go.ChangeAt Go.RowKit
set_option linter.unusedVariables false
open Sx Cop Coh Pth Plw
set_option maxRecDepth 100000
theorem nO (f : Nat → Seg) (i j : Nat) : noOwn (lst (segL (f i)) j) := noOwn_lst (l := segL (f i)) ⟨trivial, trivial, trivial, trivial, trivial, trivial, trivial⟩ j

theorem walk (a0 : Value) (a1 : Int) (a2 : Int) (w : World) (L0 : Leaf Tryd.prog w 22 a0) (w1 : (Lit.int .i64 a1).wf = true) (w2 : (Lit.int .i64 a2).wf = true) :
    Calls Tryd.prog 4 #[a0, .int .i64 a1, .int .i64 a2] w fun e w' => e = .returned (.bool true) ∧ Below w.heap.size w w' := by
  obtain ⟨n0, f0, R0, _, h0⟩ := leaf_rows (k := .i64) (t := 3) 6 Tryd.underlying22 Tryd.underlying3 (by kernel_rfl) (by decide) (by kernel_rfl) L0
  exact law_ok Plw.ok_moves ⟨⟨n0, fun i => ⟨f0 i 0, f0 i 1, f0 i 2, f0 i 3, f0 i 4, f0 i 5⟩⟩, a1, a2⟩ rfl ⟨nO _, trivial, trivial, trivial⟩ h0
    (vals := [a0, .int .i64 a1, .int .i64 a2]) ⟨R0 _ (fun i j hj => match j, hj with | 0, _ => rfl | 1, _ => rfl | 2, _ => rfl | 3, _ => rfl | 4, _ => rfl | 5, _ => rfl), .int, .int, trivial⟩
end Go.Proofs.YtbmgclpgompjmaaDoor.pathMapMoves
