/- printworkskeep1.PathTextBack returns true for every path, and leaves its argument as it was. -/
import Derived.Test.YthappngbapbkfaaDoorRows
import Derived.Test.YthappngbapbkfaaDoorFrame
import Derived.Test.YthappngbapbkfaaDoorSlq
import Derived.Test.YthappngbapbkfaaDoorTxl
import Derived.Test.YthappngbapbkfaaDoorTxw
namespace Go.Proofs.YthappngbapbkfaaDoor.pathTextBack
open Go.ChangeShapes Go.WideShapes Go.ChangeAt Go.RowKit
set_option linter.unusedVariables false
open Sx Cop Coh Pth
set_option maxRecDepth 100000
theorem nO (f : Nat → Seg) (i j : Nat) : noOwn (lst (segL (f i)) j) := noOwn_lst (l := segL (f i)) ⟨trivial, trivial, trivial, trivial, trivial, trivial, trivial⟩ j

theorem walk (a0 : Value) (w : World) (L0 : Leaf Tryd.prog w 22 a0) (hK : ∀ w', Below w.heap.size w w' → Txa.Kw w') :
    Calls Tryd.prog 3 #[a0] w fun e w' => e = .returned (.bool true) ∧ Below w.heap.size w w' := by
  obtain ⟨n0, f0, R0, _, h0⟩ := leaf_rows (k := .i64) (t := 3) 6 Tryd.underlying22 Tryd.underlying3 (by kernel_rfl) (by decide) (by kernel_rfl) L0
  exact law_okG (Txl.ok_lawT ⟨n0, fun i => ⟨f0 i 0, f0 i 1, f0 i 2, f0 i 3, f0 i 4, f0 i 5⟩⟩) () rfl ⟨nO _, trivial⟩ h0
    (vals := [a0]) ⟨R0 _ (fun i j hj => match j, hj with | 0, _ => rfl | 1, _ => rfl | 2, _ => rfl | 3, _ => rfl | 4, _ => rfl | 5, _ => rfl), trivial⟩ (sure_of hK)
end Go.Proofs.YthappngbapbkfaaDoor.pathTextBack
