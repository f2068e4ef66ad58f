/- printworkskeep1.ImageBoxSamples returns true for every size, every slice of vectors, every place, every size of a square and every cell, and leaves its arguments as they were. -/
import Derived.Test.YtbmgclpgompjmaaRows
import Derived.Test.YtbmgclpgompjmaaFrame
import Derived.Test.YtbmgclpgompjmaaSlq
import Derived.Test.YtbmgclpgompjmaaIbs
namespace Go.Proofs.Ytbmgclpgompjmaa.imageBoxSamples
open Go.ChangeShapes Go.WideShapes Go.ChangeAt Go.RowKit
set_option linter.unusedVariables false
open Sx Img Imp
set_option maxRecDepth 100000

theorem walk (a0 : Int) (a1 : Int) (a2 : Value) (a3 : Int) (a4 : Int) (a5 : Int) (a6 : Int) (a7 : Int) (w : World) (w0 : (Lit.int .i64 a0).wf = true) (w1 : (Lit.int .i64 a1).wf = true) (L2 : Leaf Try.prog w 22 a2) (w3 : (Lit.int .i64 a3).wf = true) (w4 : (Lit.int .i64 a4).wf = true) (w5 : (Lit.int .i64 a5).wf = true) (w6 : (Lit.int .i64 a6).wf = true) (w7 : (Lit.int .i64 a7).wf = true) :
    Calls Try.prog 3 #[.int .i64 a0, .int .i64 a1, a2, .int .i64 a3, .int .i64 a4, .int .i64 a5, .int .i64 a6, .int .i64 a7] w fun e w' => e = .returned (.bool true) ∧ Below w.heap.size w w' := by
  obtain ⟨len, f, hR, hw, hlen⟩ := leaf_rows (k := .u8) (t := 5) 8 Try.underlying22 Try.underlying5 (by kernel_rfl) (by decide) (by kernel_rfl) L2
  have wu : ∀ i j, i < len → j < 8 → 0 ≤ f i j ∧ f i j ≤ 255 := fun i j hi hj => wf_u8 (hw i j hi hj)
  exact law_ok Ibs.ok_ib ⟨a0, a1, len, fun i => ⟨f i 0, f i 1, f i 2, f i 3, f i 4, f i 5, f i 6, f i 7⟩, a3, a4, a5, a6, a7⟩ rfl
    ⟨trivial, trivial, fun i j => noOwn_lst (l := inkL ⟨f i 0, f i 1, f i 2, f i 3, f i 4, f i 5, f i 6, f i 7⟩) ⟨trivial, trivial, trivial, trivial, trivial, trivial, trivial, trivial, trivial⟩ j, trivial, trivial, trivial, trivial, trivial, trivial⟩
    ⟨(show len ≤ 9223372036854775807 from hlen), fun i hi => ⟨⟨wu i 0 hi (by decide), wu i 1 hi (by decide), wu i 2 hi (by decide), wu i 3 hi (by decide)⟩, wu i 4 hi (by decide), wu i 5 hi (by decide), wu i 6 hi (by decide), wu i 7 hi (by decide)⟩⟩
    (vals := [.int .i64 a0, .int .i64 a1, a2, .int .i64 a3, .int .i64 a4, .int .i64 a5, .int .i64 a6, .int .i64 a7])
    ⟨.int, .int, hR _ (fun i j hj => match j, hj with | 0, _ => rfl | 1, _ => rfl | 2, _ => rfl | 3, _ => rfl | 4, _ => rfl | 5, _ => rfl | 6, _ => rfl | 7, _ => rfl), .int, .int, .int, .int, .int, trivial⟩
end Go.Proofs.Ytbmgclpgompjmaa.imageBoxSamples
