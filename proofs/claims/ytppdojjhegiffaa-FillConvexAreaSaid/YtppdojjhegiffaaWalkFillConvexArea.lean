/- printworkskeep1.FillConvexArea returns true for every three points, and leaves its arguments as they were. -/
import Derived.Test.YtppdojjhegiffaaRows
import Derived.Test.YtppdojjhegiffaaFrame
import Derived.Test.YtppdojjhegiffaaFlv
namespace Go.Proofs.Ytppdojjhegiffaa.fillConvexArea
open Go.ChangeShapes Go.WideShapes Go.ChangeAt Go.RowKit
set_option linter.unusedVariables false
open Sx

theorem walk (x0_0 : Int) (x0_1 : Int) (x1_0 : Int) (x1_1 : Int) (x2_0 : Int) (x2_1 : Int) (w : World) (w0_0 : (Lit.int .i64 x0_0).wf = true) (w0_1 : (Lit.int .i64 x0_1).wf = true) (w1_0 : (Lit.int .i64 x1_0).wf = true) (w1_1 : (Lit.int .i64 x1_1).wf = true) (w2_0 : (Lit.int .i64 x2_0).wf = true) (w2_1 : (Lit.int .i64 x2_1).wf = true) :
    Calls Try.prog 9 #[.agg #[.int .i64 x0_0, .int .i64 x0_1], .agg #[.int .i64 x1_0, .int .i64 x1_1], .agg #[.int .i64 x2_0, .int .i64 x2_1]] w fun e w' => e = .returned (.bool true) ∧ Below w.heap.size w w' := by
  exact law_ok Flv.ok_conv ⟨⟨x0_0, x0_1⟩, ⟨x1_0, x1_1⟩, ⟨x2_0, x2_1⟩⟩ rfl ⟨noOwn_lst ⟨trivial, trivial, trivial⟩, noOwn_lst ⟨trivial, trivial, trivial⟩, noOwn_lst ⟨trivial, trivial, trivial⟩, trivial⟩ trivial (vals := [.agg #[.int .i64 x0_0, .int .i64 x0_1], .agg #[.int .i64 x1_0, .int .i64 x1_1], .agg #[.int .i64 x2_0, .int .i64 x2_1]])
    ⟨R_agg (r := [_, _]) ⟨.int, .int, trivial⟩ rfl (fun v hv => by simp at hv; rcases hv with rfl | rfl <;> exact rfl), R_agg (r := [_, _]) ⟨.int, .int, trivial⟩ rfl (fun v hv => by simp at hv; rcases hv with rfl | rfl <;> exact rfl), R_agg (r := [_, _]) ⟨.int, .int, trivial⟩ rfl (fun v hv => by simp at hv; rcases hv with rfl | rfl <;> exact rfl), trivial⟩
end Go.Proofs.Ytppdojjhegiffaa.fillConvexArea
