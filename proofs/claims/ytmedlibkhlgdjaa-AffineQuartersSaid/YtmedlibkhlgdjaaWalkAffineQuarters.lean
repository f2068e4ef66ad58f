/- printworkskeep1.AffineQuarters returns true for every four numbers, and leaves its arguments as they were. -/
import Derived.Test.YtmedlibkhlgdjaaRows
import Derived.Test.YtmedlibkhlgdjaaFrame
import Derived.Test.YtmedlibkhlgdjaaSxx
import Derived.Test.YtmedlibkhlgdjaaAff
namespace Go.Proofs.Ytmedlibkhlgdjaa.affineQuarters
open Go.ChangeShapes Go.WideShapes Go.ChangeAt Go.RowKit
set_option linter.unusedVariables false
open Sx

theorem walk (a0 : Int) (a1 : Int) (a2 : Int) (a3 : Int) (w : World) (w0 : (Lit.int .i64 a0).wf = true) (w1 : (Lit.int .i64 a1).wf = true) (w2 : (Lit.int .i64 a2).wf = true) (w3 : (Lit.int .i64 a3).wf = true) :
    Calls Try.prog 8 #[.int .i64 a0, .int .i64 a1, .int .i64 a2, .int .i64 a3] w fun e w' => e = .returned (.bool true) ∧ Below w.heap.size w w' := by
  exact law_ok Aff.ok_quarters (a0, a1, a2, a3) rfl ⟨trivial, trivial, trivial, trivial, trivial⟩ trivial (vals := [.int .i64 a0, .int .i64 a1, .int .i64 a2, .int .i64 a3]) ⟨.int, .int, .int, .int, trivial⟩
end Go.Proofs.Ytmedlibkhlgdjaa.affineQuarters
