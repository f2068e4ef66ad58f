/- printworkstop.TopDashes returns true for all lines, every pattern, every phase and every width, and leaves its arguments as they were. -/
import Derived.Test.YtmhofgchidojoaaGreatM10
import Derived.Test.YtmhofgchidojoaaGreatRows
namespace Go.Proofs.YtmhofgchidojoaaGreat.topDashes
open Go.ChangeShapes Go.WideShapes Go.ChangeAt Go.RowKit
set_option linter.unusedVariables false
open Sx Fla Tdw
set_option maxRecDepth 100000

theorem walk (a0 : Value) (a1 : Value) (a2 : Int) (a3 : Int) (w : World) (L0 : Leaf Tryz.prog w 22 a0) (L1 : Leaf Tryz.prog w 23 a1) (w2 : (Lit.int .i64 a2).wf = true) (w3 : (Lit.int .i64 a3).wf = true) :
    Calls Tryz.prog 3 #[a0, a1, .int .i64 a2, .int .i64 a3] w fun e w' => e = .returned (.bool true) ∧ Below w.heap.size w w' := by
  obtain ⟨g, hR, hn, hi⟩ := leaf_lines L0
  obtain ⟨m, f, hR1, _, hlen1⟩ := leaf_rows (k := .i64) (t := 3) 1 Tryz.underlying23 Tryz.underlying3 (by kernel_rfl) (by decide) (by kernel_rfl) L1
  exact law_ok Tdw.ok_td ⟨g, m, fun i => f i 0, a2, a3⟩ rfl ⟨fun i j => noOwn_li (g.f i) j, fun i j => noOwn_lst (l := [.int .i64 (f i 0)]) ⟨trivial, trivial⟩ j, trivial, trivial, trivial⟩ (show TdG.ok _ from ⟨⟨hn, hi⟩, hlen1⟩)
    (vals := [a0, a1, .int .i64 a2, .int .i64 a3]) ⟨hR, hR1 _ (fun i j hj => match j, hj with | 0, _ => rfl), .int, .int, trivial⟩
end Go.Proofs.YtmhofgchidojoaaGreat.topDashes
