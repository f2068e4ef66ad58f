/- printworkskeep1.ConicMoves returns true for every path and every shift, and leaves its arguments as they were. -/
import Derived.Test.YtbmgclpgompjmaaRows
import Derived.Test.YtbmgclpgompjmaaFrame
import Derived.Test.YtbmgclpgompjmaaSlq
import Derived.Test.YtbmgclpgompjmaaCmv
namespace Go.Proofs.Ytbmgclpgompjmaa.conicMoves
open Go.ChangeShapes Go.WideShapes Go.ChangeAt Go.RowKit
set_option linter.unusedVariables false
open Sx Cop Pth
set_option maxRecDepth 100000

theorem walk (a0 : Value) (a1 : Int) (a2 : Int) (w : World) (L0 : Leaf Try.prog w 73 a0) (w1 : (Lit.int .i64 a1).wf = true) (w2 : (Lit.int .i64 a2).wf = true) :
    Calls Try.prog 10 #[a0, .int .i64 a1, .int .i64 a2] w fun e w' => e = .returned (.bool true) ∧ Below w.heap.size w w' := by
  obtain ⟨len, f, hR, hw, hlen⟩ := leaf_rows (k := .i64) (t := 3) 6 Try.underlying73 Try.underlying3 (by kernel_rfl) (by decide) (by kernel_rfl) L0
  exact law_ok Cmv.ok_cm ⟨⟨len, fun i => ⟨f i 0, f i 1, f i 2, f i 3, f i 4, f i 5⟩⟩, a1, a2⟩ rfl
    ⟨fun i j => noOwn_lst (l := segL ⟨f i 0, f i 1, f i 2, f i 3, f i 4, f i 5⟩) ⟨trivial, trivial, trivial, trivial, trivial, trivial, trivial⟩ j, trivial, trivial, trivial⟩
    (show len ≤ 9223372036854775807 from hlen)
    (vals := [a0, .int .i64 a1, .int .i64 a2])
    ⟨hR _ (fun i j hj => match j, hj with | 0, _ => rfl | 1, _ => rfl | 2, _ => rfl | 3, _ => rfl | 4, _ => rfl | 5, _ => rfl), .int, .int, trivial⟩
end Go.Proofs.Ytbmgclpgompjmaa.conicMoves
