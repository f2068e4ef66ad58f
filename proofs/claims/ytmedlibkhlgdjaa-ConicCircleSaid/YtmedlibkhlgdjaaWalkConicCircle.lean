/- printworkskeep1.ConicCircle returns true for every radius. -/
import Derived.Test.YtmedlibkhlgdjaaRows
import Derived.Test.YtmedlibkhlgdjaaFrame
import Derived.Test.YtmedlibkhlgdjaaCoc
namespace Go.Proofs.Ytmedlibkhlgdjaa.conicCircle
open Go.ChangeShapes Go.WideShapes Go.ChangeAt Go.RowKit
set_option linter.unusedVariables false
open Sx

theorem walk (a0 : Int) (w : World) (w0 : (Lit.int .i64 a0).wf = true) :
    Calls Try.prog 10 #[.int .i64 a0] w fun e w' => e = .returned (.bool true) ∧ Below w.heap.size w w' := by
  exact law_ok Coc.ok_circle a0 rfl ⟨trivial, trivial⟩ trivial (vals := [.int .i64 a0]) ⟨.int, trivial⟩
end Go.Proofs.Ytmedlibkhlgdjaa.conicCircle
