/- printworkskeep1.ListUncovered returns true for every display list and every cell, and leaves its arguments as they were. -/
import Derived.Test.YthappngbapbkfaaM11
import Derived.Test.YthappngbapbkfaaRows
namespace Go.Proofs.Ythappngbapbkfaa.listUncovered
open Go.ChangeShapes Go.WideShapes Go.ChangeAt Go.RowKit
set_option linter.unusedVariables false
open Sx Lcs Lli Lat Lul
set_option maxRecDepth 100000

theorem walk (x0_0 : Int) (x0_1 : Int) (x0_2 : Value) (x0_3 : Value) (a1 : Int) (a2 : Int) (w : World) (w0_0 : (Lit.int .i64 x0_0).wf = true) (w0_1 : (Lit.int .i64 x0_1).wf = true) (L0_2 : Leaf Try.prog w 22 x0_2) (L0_3 : Leaf Try.prog w 23 x0_3) (w1 : (Lit.int .i64 a1).wf = true) (w2 : (Lit.int .i64 a2).wf = true) :
    Calls Try.prog 3 #[.agg #[.int .i64 x0_0, .int .i64 x0_1, x0_2, x0_3], .int .i64 a1, .int .i64 a2] w fun e w' => e = .returned (.bool true) ∧ Below w.heap.size w w' := by
  obtain ⟨n2, nm, R2, _⟩ := leaf_names L0_2
  obtain ⟨n3, it, R3, hn, h8⟩ := leaf_items L0_3
  exact law_ok Lul.ok_unc ⟨⟨x0_0, x0_1, n2, nm, n3, it⟩, a1, a2⟩ rfl ⟨lsS_own _, trivial, trivial, trivial⟩ (show AtL.ok _ from ⟨hn, h8⟩)
    (vals := [.agg #[.int .i64 x0_0, .int .i64 x0_1, x0_2, x0_3], .int .i64 a1, .int .i64 a2])
    ⟨R_agg (r := [_, _, _, _]) ⟨.int, .int, R2, R3, trivial⟩ rfl (fun v hv => by
      simp at hv
      rcases hv with rfl | rfl | rfl | rfl
      · exact rfl
      · exact rfl
      · exact one_slice (e := 9) (by kernel_rfl) L0_2
      · exact one_slice (e := 46) (by kernel_rfl) L0_3), .int, .int, trivial⟩
end Go.Proofs.Ythappngbapbkfaa.listUncovered
