/- printworkskeep1.ImageSmoothBetween returns true for every size, every vector, every size of a square and every cell, and leaves its arguments as they were. -/
import Derived.Test.YtbmgclpgompjmaaRows
import Derived.Test.YtbmgclpgompjmaaFrame
import Derived.Test.YtbmgclpgompjmaaIsm
namespace Go.Proofs.Ytbmgclpgompjmaa.imageSmoothBetween
open Go.ChangeShapes Go.WideShapes Go.ChangeAt Go.RowKit
set_option linter.unusedVariables false
open Sx Img Imp
set_option maxRecDepth 100000

theorem walk (a0 : Int) (a1 : Int) (x2_0 : Int) (x2_1 : Int) (x2_2 : Int) (x2_3 : Int) (x2_4 : Int) (x2_5 : Int) (x2_6 : Int) (x2_7 : Int) (a3 : Int) (a4 : Int) (a5 : Int) (w : World) (w0 : (Lit.int .i64 a0).wf = true) (w1 : (Lit.int .i64 a1).wf = true) (w2_0 : (Lit.int .u8 x2_0).wf = true) (w2_1 : (Lit.int .u8 x2_1).wf = true) (w2_2 : (Lit.int .u8 x2_2).wf = true) (w2_3 : (Lit.int .u8 x2_3).wf = true) (w2_4 : (Lit.int .u8 x2_4).wf = true) (w2_5 : (Lit.int .u8 x2_5).wf = true) (w2_6 : (Lit.int .u8 x2_6).wf = true) (w2_7 : (Lit.int .u8 x2_7).wf = true) (w3 : (Lit.int .i64 a3).wf = true) (w4 : (Lit.int .i64 a4).wf = true) (w5 : (Lit.int .i64 a5).wf = true) :
    Calls Try.prog 4 #[.int .i64 a0, .int .i64 a1, .agg #[.int .u8 x2_0, .int .u8 x2_1, .int .u8 x2_2, .int .u8 x2_3, .int .u8 x2_4, .int .u8 x2_5, .int .u8 x2_6, .int .u8 x2_7], .int .i64 a3, .int .i64 a4, .int .i64 a5] w fun e w' => e = .returned (.bool true) ∧ Below w.heap.size w w' := by
  exact law_ok Ism.ok_is ⟨a0, a1, ⟨x2_0, x2_1, x2_2, x2_3, x2_4, x2_5, x2_6, x2_7⟩, a3, a4, a5⟩ rfl
    ⟨trivial, trivial, noOwn_lst ⟨trivial, trivial, trivial, trivial, trivial, trivial, trivial, trivial, trivial⟩, trivial, trivial, trivial, trivial⟩
    ⟨⟨⟨wf_u8 w2_0, wf_u8 w2_1, wf_u8 w2_2, wf_u8 w2_3⟩, wf_u8 w2_4, wf_u8 w2_5, wf_u8 w2_6, wf_u8 w2_7⟩, wf_i64 w4, wf_i64 w5⟩
    (vals := [.int .i64 a0, .int .i64 a1, .agg #[.int .u8 x2_0, .int .u8 x2_1, .int .u8 x2_2, .int .u8 x2_3, .int .u8 x2_4, .int .u8 x2_5, .int .u8 x2_6, .int .u8 x2_7], .int .i64 a3, .int .i64 a4, .int .i64 a5])
    ⟨.int, .int, R_agg (r := [_, _, _, _, _, _, _, _]) ⟨.int, .int, .int, .int, .int, .int, .int, .int, trivial⟩ rfl (fun v hv => by simp at hv; rcases hv with rfl | rfl | rfl | rfl | rfl | rfl | rfl | rfl <;> rfl), .int, .int, .int, trivial⟩
end Go.Proofs.Ytbmgclpgompjmaa.imageSmoothBetween
