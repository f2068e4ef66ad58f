/- printworkskeep1.DashPeriod returns true for all lines, every pattern and every phase, and leaves its arguments as they were. -/
import Derived.Test.YtbmgclpgompjmaaRows
import Derived.Test.YtbmgclpgompjmaaFrame
import Derived.Test.YtbmgclpgompjmaaSlp
import Derived.Test.YtbmgclpgompjmaaSll
import Derived.Test.YtbmgclpgompjmaaDsl
namespace Go.Proofs.Ytbmgclpgompjmaa.dashPeriod
open Go.ChangeShapes Go.WideShapes Go.ChangeAt Go.RowKit
set_option linter.unusedVariables false
open Sx Dsh Dsi Dsl
set_option maxRecDepth 100000

theorem walk (a0 : Value) (a1 : Value) (a2 : Int) (w : World) (L0 : Leaf Try.prog w 57 a0) (L1 : Leaf Try.prog w 45 a1) (w2 : (Lit.int .i64 a2).wf = true) :
    Calls Try.prog 8 #[a0, a1, .int .i64 a2] w fun e w' => e = .returned (.bool true) ∧ Below w.heap.size w w' := by
  obtain ⟨g, hR, hn, hi⟩ := leaf_lines L0
  obtain ⟨m, f, hR1, _, hlen1⟩ := leaf_rows (k := .i64) (t := 3) 1 Try.underlying45 Try.underlying3 (by kernel_rfl) (by decide) (by kernel_rfl) L1
  exact law_ok Dsl.ok_pe ⟨g, m, fun i => f i 0, a2⟩ rfl ⟨fun i j => noOwn_li (g.f i) j, fun i j => noOwn_lst (l := [.int .i64 (f i 0)]) ⟨trivial, trivial⟩ j, trivial, trivial⟩ (show PeG.ok _ from ⟨⟨hn, hi⟩, hlen1⟩)
    (vals := [a0, a1, .int .i64 a2]) ⟨hR, hR1 _ (fun i j hj => match j, hj with | 0, _ => rfl), .int, trivial⟩
end Go.Proofs.Ytbmgclpgompjmaa.dashPeriod
