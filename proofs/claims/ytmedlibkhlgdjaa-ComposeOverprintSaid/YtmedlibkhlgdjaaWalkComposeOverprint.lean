/- printworkskeep1.ComposeOverprint returns true for every state, every vector of inks, every opacity and every mode, and leaves its arguments as they were. -/
import Derived.Test.YtmedlibkhlgdjaaRows
import Derived.Test.YtmedlibkhlgdjaaFrame
import Derived.Test.YtmedlibkhlgdjaaCmr
namespace Go.Proofs.Ytmedlibkhlgdjaa.composeOverprint
open Go.ChangeShapes Go.WideShapes Go.ChangeAt Go.RowKit
set_option linter.unusedVariables false
open Sx

theorem walk (x0_0 : Int) (x0_1 : Int) (x0_2 : Int) (x0_3 : Int) (x0_4 : Int) (x0_5 : Int) (x0_6 : Int) (x0_7 : Int) (x0_8 : Int) (x1_0 : Int) (x1_1 : Int) (x1_2 : Int) (x1_3 : Int) (x1_4 : Int) (x1_5 : Int) (x1_6 : Int) (x1_7 : Int) (a2 : Int) (a3 : Int) (w : World) (w0_0 : (Lit.int .u8 x0_0).wf = true) (w0_1 : (Lit.int .u8 x0_1).wf = true) (w0_2 : (Lit.int .u8 x0_2).wf = true) (w0_3 : (Lit.int .u8 x0_3).wf = true) (w0_4 : (Lit.int .u8 x0_4).wf = true) (w0_5 : (Lit.int .u8 x0_5).wf = true) (w0_6 : (Lit.int .u8 x0_6).wf = true) (w0_7 : (Lit.int .u8 x0_7).wf = true) (w0_8 : (Lit.int .u8 x0_8).wf = true) (w1_0 : (Lit.int .u8 x1_0).wf = true) (w1_1 : (Lit.int .u8 x1_1).wf = true) (w1_2 : (Lit.int .u8 x1_2).wf = true) (w1_3 : (Lit.int .u8 x1_3).wf = true) (w1_4 : (Lit.int .u8 x1_4).wf = true) (w1_5 : (Lit.int .u8 x1_5).wf = true) (w1_6 : (Lit.int .u8 x1_6).wf = true) (w1_7 : (Lit.int .u8 x1_7).wf = true) (w2 : (Lit.int .u8 a2).wf = true) (w3 : (Lit.int .i64 a3).wf = true) :
    Calls Try.prog 12 #[.agg #[.int .u8 x0_0, .int .u8 x0_1, .int .u8 x0_2, .int .u8 x0_3, .int .u8 x0_4, .int .u8 x0_5, .int .u8 x0_6, .int .u8 x0_7, .int .u8 x0_8], .agg #[.int .u8 x1_0, .int .u8 x1_1, .int .u8 x1_2, .int .u8 x1_3, .int .u8 x1_4, .int .u8 x1_5, .int .u8 x1_6, .int .u8 x1_7], .int .u8 a2, .int .i64 a3] w fun e w' => e = .returned (.bool true) ∧ Below w.heap.size w w' := by
  exact law_ok Cmr.ok_overprint ⟨nums [x0_0, x0_1, x0_2, x0_3, x0_4, x0_5, x0_6, x0_7, x0_8], nums [x1_0, x1_1, x1_2, x1_3, x1_4, x1_5, x1_6, x1_7], a2, a3⟩ rfl ⟨fun _ => trivial, fun _ => trivial, trivial, trivial, trivial⟩
    ⟨⟨nums_range (by decide) (AllP.mem ⟨wf_u8 w0_0, wf_u8 w0_1, wf_u8 w0_2, wf_u8 w0_3, wf_u8 w0_4, wf_u8 w0_5, wf_u8 w0_6, wf_u8 w0_7, wf_u8 w0_8, trivial⟩), nums_range (by decide) (AllP.mem ⟨wf_u8 w1_0, wf_u8 w1_1, wf_u8 w1_2, wf_u8 w1_3, wf_u8 w1_4, wf_u8 w1_5, wf_u8 w1_6, wf_u8 w1_7, trivial⟩)⟩, wf_u8 w2⟩
    (vals := [.agg #[.int .u8 x0_0, .int .u8 x0_1, .int .u8 x0_2, .int .u8 x0_3, .int .u8 x0_4, .int .u8 x0_5, .int .u8 x0_6, .int .u8 x0_7, .int .u8 x0_8], .agg #[.int .u8 x1_0, .int .u8 x1_1, .int .u8 x1_2, .int .u8 x1_3, .int .u8 x1_4, .int .u8 x1_5, .int .u8 x1_6, .int .u8 x1_7], .int .u8 a2, .int .i64 a3])
    ⟨R_ints [x0_0, x0_1, x0_2, x0_3, x0_4, x0_5, x0_6, x0_7, x0_8], R_ints [x1_0, x1_1, x1_2, x1_3, x1_4, x1_5, x1_6, x1_7], .int, .int, trivial⟩
end Go.Proofs.Ytmedlibkhlgdjaa.composeOverprint
