/- printworkskeep1.DashComplement returns true for all lines, every length and every phase, and leaves its arguments as they were. -/
import Derived.Test.YtbmgclpgompjmaaRows
import Derived.Test.YtbmgclpgompjmaaFrame
import Derived.Test.YtbmgclpgompjmaaSll
import Derived.Test.YtbmgclpgompjmaaDcm
namespace Go.Proofs.Ytbmgclpgompjmaa.dashComplement
open Go.ChangeShapes Go.WideShapes Go.ChangeAt Go.RowKit
set_option linter.unusedVariables false
open Sx Dsh Dsi Dcm
set_option maxRecDepth 100000

theorem walk (a0 : Value) (a1 : Int) (a2 : Int) (w : World) (L0 : Leaf Try.prog w 57 a0) (w1 : (Lit.int .i64 a1).wf = true) (w2 : (Lit.int .i64 a2).wf = true) :
    Calls Try.prog 7 #[a0, .int .i64 a1, .int .i64 a2] w fun e w' => e = .returned (.bool true) ∧ Below w.heap.size w w' := by
  obtain ⟨g, hR, hn, hi⟩ := leaf_lines L0
  exact law_ok Dcm.ok_dc ⟨g, a1, a2⟩ rfl ⟨fun i j => noOwn_li (g.f i) j, trivial, trivial, trivial⟩ (show DcG.ok _ from ⟨hn, hi⟩)
    (vals := [a0, .int .i64 a1, .int .i64 a2]) ⟨hR, .int, .int, trivial⟩
end Go.Proofs.Ytbmgclpgompjmaa.dashComplement
