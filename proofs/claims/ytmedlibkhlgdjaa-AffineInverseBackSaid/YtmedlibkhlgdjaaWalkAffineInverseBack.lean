/- printworkskeep1.AffineInverseBack returns true for every matrix and every point, and leaves its arguments as they were. -/
import Derived.Test.YtmedlibkhlgdjaaRows
import Derived.Test.YtmedlibkhlgdjaaFrame
import Derived.Test.YtmedlibkhlgdjaaAfi
namespace Go.Proofs.Ytmedlibkhlgdjaa.affineInverseBack
open Go.ChangeShapes Go.WideShapes Go.ChangeAt Go.RowKit
set_option linter.unusedVariables false
open Sx

theorem walk (x0_0 : Int) (x0_1 : Int) (x0_2 : Int) (x0_3 : Int) (x0_4 : Int) (x0_5 : Int) (x1_0 : Int) (x1_1 : Int) (w : World) (w0_0 : (Lit.int .i64 x0_0).wf = true) (w0_1 : (Lit.int .i64 x0_1).wf = true) (w0_2 : (Lit.int .i64 x0_2).wf = true) (w0_3 : (Lit.int .i64 x0_3).wf = true) (w0_4 : (Lit.int .i64 x0_4).wf = true) (w0_5 : (Lit.int .i64 x0_5).wf = true) (w1_0 : (Lit.int .i64 x1_0).wf = true) (w1_1 : (Lit.int .i64 x1_1).wf = true) :
    Calls Try.prog 7 #[.agg #[.int .i64 x0_0, .int .i64 x0_1, .int .i64 x0_2, .int .i64 x0_3, .int .i64 x0_4, .int .i64 x0_5], .agg #[.int .i64 x1_0, .int .i64 x1_1]] w fun e w' => e = .returned (.bool true) ∧ Below w.heap.size w w' := by
  exact law_ok Afi.ok_inverseBack (⟨x0_0, x0_1, x0_2, x0_3, x0_4, x0_5⟩, x1_0, x1_1) rfl
    ⟨noOwn_lst ⟨trivial, trivial, trivial, trivial, trivial, trivial, trivial⟩, noOwn_lst ⟨trivial, trivial, trivial⟩, trivial⟩ trivial
    (vals := [.agg #[.int .i64 x0_0, .int .i64 x0_1, .int .i64 x0_2, .int .i64 x0_3, .int .i64 x0_4, .int .i64 x0_5], .agg #[.int .i64 x1_0, .int .i64 x1_1]])
    ⟨R_agg (r := [_, _, _, _, _, _]) ⟨.int, .int, .int, .int, .int, .int, trivial⟩ rfl (fun v hv => by simp at hv; rcases hv with rfl | rfl | rfl | rfl | rfl | rfl <;> rfl),
     R_agg (r := [_, _]) ⟨.int, .int, trivial⟩ rfl (fun v hv => by simp at hv; rcases hv with rfl | rfl <;> rfl), trivial⟩
end Go.Proofs.Ytmedlibkhlgdjaa.affineInverseBack
