/- printworkskeep1.FillReversed returns true for all lines, and leaves its arguments as they were. -/
import Derived.Test.YtppdojjhegiffaaRows
import Derived.Test.YtppdojjhegiffaaFrame
import Derived.Test.YtppdojjhegiffaaFll
import Derived.Test.YtppdojjhegiffaaFly
namespace Go.Proofs.Ytppdojjhegiffaa.fillReversed
open Go.ChangeShapes Go.WideShapes Go.ChangeAt Go.RowKit
set_option linter.unusedVariables false
open Sx Fla Fly
set_option maxRecDepth 100000

theorem walk (a0 : Value) (w : World) (L0 : Leaf Try.prog w 45 a0) :
    Calls Try.prog 7 #[a0] w fun e w' => e = .returned (.bool true) ∧ Below w.heap.size w w' := by
  obtain ⟨g, hR, hn, hi⟩ := leaf_lines L0
  exact law_ok Fly.ok_fRev g rfl ⟨fun i j => noOwn_li (g.f i) j, trivial⟩ (show lnok _ from ⟨hn, hi⟩) (vals := [a0]) ⟨hR, trivial⟩
end Go.Proofs.Ytppdojjhegiffaa.fillReversed
