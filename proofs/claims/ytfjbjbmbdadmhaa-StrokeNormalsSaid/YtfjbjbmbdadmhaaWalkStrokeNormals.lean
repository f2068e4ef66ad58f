/- printworkskeep1.StrokeNormals returns true for all points and every width, and leaves its arguments as they were. -/
import Derived.Test.YtfjbjbmbdadmhaaRows
import Derived.Test.YtfjbjbmbdadmhaaFrame
import Derived.Test.YtfjbjbmbdadmhaaStn
namespace Go.Proofs.Ytfjbjbmbdadmhaa.strokeNormals
open Go.ChangeShapes Go.WideShapes Go.ChangeAt Go.RowKit
set_option linter.unusedVariables false
open Sx Stn
set_option maxRecDepth 100000

theorem walk (x0_0 : Int) (x0_1 : Int) (x1_0 : Int) (x1_1 : Int) (a2 : Int) (w : World) (w0_0 : (Lit.int .i64 x0_0).wf = true) (w0_1 : (Lit.int .i64 x0_1).wf = true) (w1_0 : (Lit.int .i64 x1_0).wf = true) (w1_1 : (Lit.int .i64 x1_1).wf = true) (w2 : (Lit.int .i64 a2).wf = true) :
    Calls Try.prog 8 #[.agg #[.int .i64 x0_0, .int .i64 x0_1], .agg #[.int .i64 x1_0, .int .i64 x1_1], .int .i64 a2] w fun e w' => e = .returned (.bool true) ∧ Below w.heap.size w w' := by
  exact law_ok Stn.ok_nrm ⟨⟨x0_0, x0_1⟩, ⟨x1_0, x1_1⟩, a2⟩ rfl ⟨noOwn_lst ⟨trivial, trivial, trivial⟩, noOwn_lst ⟨trivial, trivial, trivial⟩, trivial, trivial⟩ trivial
    (vals := [.agg #[.int .i64 x0_0, .int .i64 x0_1], .agg #[.int .i64 x1_0, .int .i64 x1_1], .int .i64 a2])
    ⟨R_agg (r := [_, _]) ⟨.int, .int, trivial⟩ rfl (fun v hv => by simp at hv; rcases hv with rfl | rfl <;> rfl), R_agg (r := [_, _]) ⟨.int, .int, trivial⟩ rfl (fun v hv => by simp at hv; rcases hv with rfl | rfl <;> rfl), .int, trivial⟩
end Go.Proofs.Ytfjbjbmbdadmhaa.strokeNormals
