/- printworkskeep1.StrokeDot returns true for every point and every width, and leaves its arguments as they were. -/
import Derived.Test.YtfjbjbmbdadmhaaRows
import Derived.Test.YtfjbjbmbdadmhaaFrame
import Derived.Test.YtfjbjbmbdadmhaaStk
namespace Go.Proofs.Ytfjbjbmbdadmhaa.strokeDot
open Go.ChangeShapes Go.WideShapes Go.ChangeAt Go.RowKit
set_option linter.unusedVariables false
open Sx Stk
set_option maxRecDepth 100000

theorem walk (x0_0 : Int) (x0_1 : Int) (a1 : Int) (w : World) (w0_0 : (Lit.int .i64 x0_0).wf = true) (w0_1 : (Lit.int .i64 x0_1).wf = true) (w1 : (Lit.int .i64 a1).wf = true) :
    Calls Try.prog 10 #[.agg #[.int .i64 x0_0, .int .i64 x0_1], .int .i64 a1] w fun e w' => e = .returned (.bool true) ∧ Below w.heap.size w w' := by
  exact law_ok Stk.ok_sdot ⟨⟨x0_0, x0_1⟩, a1⟩ rfl ⟨noOwn_lst ⟨trivial, trivial, trivial⟩, trivial, trivial⟩ trivial
    (vals := [.agg #[.int .i64 x0_0, .int .i64 x0_1], .int .i64 a1])
    ⟨R_agg (r := [_, _]) ⟨.int, .int, trivial⟩ rfl (fun v hv => by simp at hv; rcases hv with rfl | rfl <;> rfl), .int, trivial⟩
end Go.Proofs.Ytfjbjbmbdadmhaa.strokeDot
