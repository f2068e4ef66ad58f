/- printworkskeep1.FillEvenOddXor returns true for all lines, and leaves its arguments as they were. -/
import Derived.Test.YtppdojjhegiffaaRows
import Derived.Test.YtppdojjhegiffaaFrame
import Derived.Test.YtppdojjhegiffaaFll
import Derived.Test.YtppdojjhegiffaaFmx
namespace Go.Proofs.Ytppdojjhegiffaa.fillEvenOddXor
open Go.ChangeShapes Go.WideShapes Go.ChangeAt Go.RowKit
set_option linter.unusedVariables false
open Sx Fla Fly Fmx
set_option maxRecDepth 100000

theorem walk (a0 : Value) (a1 : Value) (w : World) (L0 : Leaf Try.prog w 45 a0) (L1 : Leaf Try.prog w 45 a1) :
    Calls Try.prog 10 #[a0, a1] w fun e w' => e = .returned (.bool true) ∧ Below w.heap.size w w' := by
  obtain ⟨g, hR, hn, hi⟩ := leaf_lines L0
  obtain ⟨h, hS, hm, hj⟩ := leaf_lines L1
  exact law_ok Fmx.ok_fXor ⟨g, h⟩ rfl ⟨fun i j => noOwn_li (g.f i) j, fun i j => noOwn_li (h.f i) j, trivial⟩ ⟨⟨hn, hi⟩, hm, hj⟩ (vals := [a0, a1]) ⟨hR, hS, trivial⟩
end Go.Proofs.Ytppdojjhegiffaa.fillEvenOddXor
