/- printworkskeep1.RasterCropPaste returns true for every size, every slice of bytes, every place and every byte, and leaves its arguments as they were. -/
import Derived.Test.YtmedlibkhlgdjaaRows
import Derived.Test.YtmedlibkhlgdjaaFrame
import Derived.Test.YtmedlibkhlgdjaaSlp
import Derived.Test.YtmedlibkhlgdjaaRcp
namespace Go.Proofs.Ytmedlibkhlgdjaa.rasterCropPaste
open Go.ChangeShapes Go.WideShapes Go.ChangeAt Go.RowKit
set_option linter.unusedVariables false
open Sx
set_option maxRecDepth 100000

theorem walk (a0 : Int) (a1 : Int) (a2 : Value) (a3 : Int) (a4 : Int) (a5 : Int) (a6 : Int) (a7 : Int) (w : World) (w0 : (Lit.int .i64 a0).wf = true) (w1 : (Lit.int .i64 a1).wf = true) (L2 : Leaf Try.prog w 22 a2) (w3 : (Lit.int .i64 a3).wf = true) (w4 : (Lit.int .i64 a4).wf = true) (w5 : (Lit.int .i64 a5).wf = true) (w6 : (Lit.int .i64 a6).wf = true) (w7 : (Lit.int .u8 a7).wf = true) :
    Calls Try.prog 5 #[.int .i64 a0, .int .i64 a1, a2, .int .i64 a3, .int .i64 a4, .int .i64 a5, .int .i64 a6, .int .u8 a7] w fun e w' => e = .returned (.bool true) ∧ Below w.heap.size w w' := by
  obtain ⟨xs, hR, hw, hlen⟩ := leaf_ints (k := .u8) Try.underlying22 Try.underlying5 (by kernel_rfl) (by kernel_rfl) L2
  exact law_ok Rcp.ok_cropPaste ⟨⟨a0, a1, xs.length, nums xs⟩, a3, a4, a5, a6, a7⟩ rfl ⟨trivial, trivial, fun _ _ => trivial, trivial, trivial, trivial, trivial, trivial, trivial⟩ (show xs.length ≤ 9223372036854775807 from hlen)
    (vals := [.int .i64 a0, .int .i64 a1, a2, .int .i64 a3, .int .i64 a4, .int .i64 a5, .int .i64 a6, .int .u8 a7]) ⟨.int, .int, hR, .int, .int, .int, .int, .int, trivial⟩
end Go.Proofs.Ytmedlibkhlgdjaa.rasterCropPaste
