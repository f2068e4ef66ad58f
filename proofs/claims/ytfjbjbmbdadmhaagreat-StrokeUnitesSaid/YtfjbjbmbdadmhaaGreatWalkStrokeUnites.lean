/- printworkskeep1.StrokeUnites returns true for all lines and every style, and leaves its arguments as they were. -/
import Derived.Test.YtfjbjbmbdadmhaaGreatRows
import Derived.Test.YtfjbjbmbdadmhaaGreatFrame
import Derived.Test.YtfjbjbmbdadmhaaGreatFll
import Derived.Test.YtfjbjbmbdadmhaaGreatSth
namespace Go.Proofs.YtfjbjbmbdadmhaaGreat.strokeUnites
open Go.ChangeShapes Go.WideShapes Go.ChangeAt Go.RowKit
set_option linter.unusedVariables false
open Sx Fla Sth
set_option maxRecDepth 100000

theorem walk (a0 : Value) (a1 : Value) (x2_0 : Int) (x2_1 : Int) (x2_2 : Int) (x2_3 : Int) (w : World) (L0 : Leaf Tryz.prog w 22 a0) (L1 : Leaf Tryz.prog w 22 a1) (w2_0 : (Lit.int .i64 x2_0).wf = true) (w2_1 : (Lit.int .i64 x2_1).wf = true) (w2_2 : (Lit.int .i64 x2_2).wf = true) (w2_3 : (Lit.int .i64 x2_3).wf = true) :
    Calls Tryz.prog 3 #[a0, a1, .agg #[.int .i64 x2_0, .int .i64 x2_1, .int .i64 x2_2, .int .i64 x2_3]] w fun e w' => e = .returned (.bool true) ∧ Below w.heap.size w w' := by
  obtain ⟨g, hR, hn, hi⟩ := leaf_lines L0
  obtain ⟨h, hS, hm, hj⟩ := leaf_lines L1
  exact law_ok Sth.ok_unites ⟨g, h, ⟨x2_0, x2_1, x2_2, x2_3⟩⟩ rfl ⟨fun i j => noOwn_li (g.f i) j, fun i j => noOwn_li (h.f i) j, noOwn_lst ⟨trivial, trivial, trivial, trivial, trivial⟩, trivial⟩ ⟨⟨hn, hi⟩, hm, hj⟩
    (vals := [a0, a1, .agg #[.int .i64 x2_0, .int .i64 x2_1, .int .i64 x2_2, .int .i64 x2_3]])
    ⟨hR, hS, R_agg (r := [_, _, _, _]) ⟨.int, .int, .int, .int, trivial⟩ rfl (fun v hv => by simp at hv; rcases hv with rfl | rfl | rfl | rfl <;> rfl), trivial⟩
end Go.Proofs.YtfjbjbmbdadmhaaGreat.strokeUnites
