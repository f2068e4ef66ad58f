/- printworkskeep1.FlatAgain returns true for every display list, and leaves its argument as it was. -/
import Derived.Test.YthappngbapbkfaaGreatM11
import Derived.Test.YthappngbapbkfaaGreatRows
namespace Go.Proofs.YthappngbapbkfaaGreat.flatAgain
open Go.ChangeShapes Go.WideShapes Go.ChangeAt Go.RowKit
set_option linter.unusedVariables false
open Sx Rga Lcs Lli Lat Ftw
set_option maxRecDepth 100000

theorem walk (x0_0 : Int) (x0_1 : Int) (x0_2 : Value) (x0_3 : Value) (w : World) (w0_0 : (Lit.int .i64 x0_0).wf = true) (w0_1 : (Lit.int .i64 x0_1).wf = true) (L0_2 : Leaf Tryz.prog w 22 x0_2) (L0_3 : Leaf Tryz.prog w 23 x0_3) :
    Calls Tryz.prog 4 #[.agg #[.int .i64 x0_0, .int .i64 x0_1, x0_2, x0_3]] w fun e w' => e = .returned (.bool true) ∧ Below w.heap.size w w' := by
  obtain ⟨n2, nm, R2, _⟩ := bn3 L0_2;obtain ⟨n3, it, R3, hn, h8⟩ := bn4 L0_3;exact b56 Ftw.ok_ft ⟨x0_0, x0_1, n2, nm, n3, it⟩ rfl
    ⟨bU8 _, trivial⟩
    (show _ ∧ _ from ⟨hn, h8⟩)
    (vals := [.agg #[.int .i64 x0_0, .int .i64 x0_1, x0_2, x0_3]])
    ⟨R_agg (r := [_, _, _, _]) ⟨.int, .int, R2, R3, trivial⟩ rfl (fun v hv => by
      simp at hv;rcases hv with rfl | rfl | rfl | rfl
      · exact rfl
      · exact rfl
      · exact an8 (e := 9) (by kernel_rfl) L0_2
      · exact an8 (e := 50) (by kernel_rfl) L0_3), trivial⟩
end Go.Proofs.YthappngbapbkfaaGreat.flatAgain
