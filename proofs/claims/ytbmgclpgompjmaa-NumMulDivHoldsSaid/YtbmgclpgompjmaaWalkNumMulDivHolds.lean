/- printworkskeep1.NumMulDivHolds returns true for every three numbers. -/
import Derived.Test.YtbmgclpgompjmaaRows
import Derived.Test.YtbmgclpgompjmaaFrame
import Derived.Test.YtbmgclpgompjmaaMdv
namespace Go.Proofs.Ytbmgclpgompjmaa.numMulDivHolds
open Go.ChangeShapes Go.WideShapes Go.ChangeAt Go.RowKit
set_option linter.unusedVariables false
open Sx
set_option maxRecDepth 100000

theorem walk (a0 : Int) (a1 : Int) (a2 : Int) (w : World) (w0 : (Lit.int .i64 a0).wf = true) (w1 : (Lit.int .i64 a1).wf = true) (w2 : (Lit.int .i64 a2).wf = true) :
    Calls Try.prog 6 #[.int .i64 a0, .int .i64 a1, .int .i64 a2] w fun e w' => e = .returned (.bool true) ∧ Below w.heap.size w w' := by
  exact law_ok Mdv.ok_nm ⟨a0, a1, a2⟩ rfl ⟨trivial, trivial, trivial, trivial⟩ trivial (vals := [.int .i64 a0, .int .i64 a1, .int .i64 a2]) ⟨.int, .int, .int, trivial⟩
end Go.Proofs.Ytbmgclpgompjmaa.numMulDivHolds
