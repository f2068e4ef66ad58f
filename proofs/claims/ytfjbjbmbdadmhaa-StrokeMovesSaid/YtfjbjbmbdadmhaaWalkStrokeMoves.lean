/- printworkskeep1.StrokeMoves returns true for all lines, every style and every shift, and leaves its arguments as they were. -/
import Derived.Test.YtfjbjbmbdadmhaaRows
import Derived.Test.YtfjbjbmbdadmhaaFrame
import Derived.Test.YtfjbjbmbdadmhaaFll
import Derived.Test.YtfjbjbmbdadmhaaStt
namespace Go.Proofs.Ytfjbjbmbdadmhaa.strokeMoves
open Go.ChangeShapes Go.WideShapes Go.ChangeAt Go.RowKit
set_option linter.unusedVariables false
open Sx Fla Stt
set_option maxRecDepth 100000

theorem walk (a0 : Value) (x1_0 : Int) (x1_1 : Int) (x1_2 : Int) (x1_3 : Int) (a2 : Int) (a3 : Int) (w : World) (L0 : Leaf Try.prog w 24 a0) (w1_0 : (Lit.int .i64 x1_0).wf = true) (w1_1 : (Lit.int .i64 x1_1).wf = true) (w1_2 : (Lit.int .i64 x1_2).wf = true) (w1_3 : (Lit.int .i64 x1_3).wf = true) (w2 : (Lit.int .i64 a2).wf = true) (w3 : (Lit.int .i64 a3).wf = true) :
    Calls Try.prog 9 #[a0, .agg #[.int .i64 x1_0, .int .i64 x1_1, .int .i64 x1_2, .int .i64 x1_3], .int .i64 a2, .int .i64 a3] w fun e w' => e = .returned (.bool true) ∧ Below w.heap.size w w' := by
  obtain ⟨g, hR, hn, hi⟩ := leaf_lines L0
  exact law_ok Stt.ok_moves ⟨g, ⟨x1_0, x1_1, x1_2, x1_3⟩, a2, a3⟩ rfl ⟨fun i j => noOwn_li (g.f i) j, noOwn_lst ⟨trivial, trivial, trivial, trivial, trivial⟩, trivial, trivial, trivial⟩ ⟨hn, hi⟩
    (vals := [a0, .agg #[.int .i64 x1_0, .int .i64 x1_1, .int .i64 x1_2, .int .i64 x1_3], .int .i64 a2, .int .i64 a3])
    ⟨hR, R_agg (r := [_, _, _, _]) ⟨.int, .int, .int, .int, trivial⟩ rfl (fun v hv => by simp at hv; rcases hv with rfl | rfl | rfl | rfl <;> rfl), .int, .int, trivial⟩
end Go.Proofs.Ytfjbjbmbdadmhaa.strokeMoves
