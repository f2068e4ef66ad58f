/- printworkskeep1.ConicWithinHull returns true for every point and every segment, and leaves its arguments as they were. -/
import Derived.Test.YtmedlibkhlgdjaaRows
import Derived.Test.YtmedlibkhlgdjaaFrame
import Derived.Test.YtmedlibkhlgdjaaCoh
namespace Go.Proofs.Ytmedlibkhlgdjaa.conicWithinHull
open Go.ChangeShapes Go.WideShapes Go.ChangeAt Go.RowKit
set_option linter.unusedVariables false
open Sx

theorem walk (x0_0 : Int) (x0_1 : Int) (x1_0 : Int) (x1_1 : Int) (x1_2 : Int) (x1_3 : Int) (x1_4 : Int) (x1_5 : Int) (w : World) (w0_0 : (Lit.int .i64 x0_0).wf = true) (w0_1 : (Lit.int .i64 x0_1).wf = true) (w1_0 : (Lit.int .i64 x1_0).wf = true) (w1_1 : (Lit.int .i64 x1_1).wf = true) (w1_2 : (Lit.int .i64 x1_2).wf = true) (w1_3 : (Lit.int .i64 x1_3).wf = true) (w1_4 : (Lit.int .i64 x1_4).wf = true) (w1_5 : (Lit.int .i64 x1_5).wf = true) :
    Calls Try.prog 9 #[.agg #[.int .i64 x0_0, .int .i64 x0_1], .agg #[.int .i64 x1_0, .int .i64 x1_1, .int .i64 x1_2, .int .i64 x1_3, .int .i64 x1_4, .int .i64 x1_5]] w fun e w' => e = .returned (.bool true) ∧ Below w.heap.size w w' := by
  exact law_ok Coh.ok_hull (⟨⟨x0_0, x0_1⟩, ⟨x1_0, x1_1, x1_2, x1_3, x1_4, x1_5⟩⟩) rfl
    ⟨noOwn_lst ⟨trivial, trivial, trivial⟩, noOwn_lst ⟨trivial, trivial, trivial, trivial, trivial, trivial, trivial⟩, trivial⟩ trivial
    (vals := [.agg #[.int .i64 x0_0, .int .i64 x0_1], .agg #[.int .i64 x1_0, .int .i64 x1_1, .int .i64 x1_2, .int .i64 x1_3, .int .i64 x1_4, .int .i64 x1_5]])
    ⟨R_agg (r := [_, _]) ⟨.int, .int, trivial⟩ rfl (fun v hv => by simp at hv; rcases hv with rfl | rfl <;> rfl),
     R_agg (r := [_, _, _, _, _, _]) ⟨.int, .int, .int, .int, .int, .int, trivial⟩ rfl (fun v hv => by simp at hv; rcases hv with rfl | rfl | rfl | rfl | rfl | rfl <;> rfl), trivial⟩
end Go.Proofs.Ytmedlibkhlgdjaa.conicWithinHull
