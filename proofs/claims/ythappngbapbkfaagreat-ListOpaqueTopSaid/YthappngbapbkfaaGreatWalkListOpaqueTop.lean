/- printworkskeep1.ListOpaqueTop returns true for every display list, every region, every vector and every cell, and leaves its arguments as they were. -/
import Derived.Test.YthappngbapbkfaaGreatM11
import Derived.Test.YthappngbapbkfaaGreatRows
namespace Go.Proofs.YthappngbapbkfaaGreat.listOpaqueTop
open Go.ChangeShapes Go.WideShapes Go.ChangeAt Go.RowKit
set_option linter.unusedVariables false
open Sx Rga Lcs Lli Lat Lot
set_option maxRecDepth 100000
theorem nO (f : Nat → Rn) (i j : Nat) : ae7 (lst (rnL (f i)) j) := as5 (l := rnL (f i)) ⟨trivial, trivial, trivial, trivial⟩ j

theorem walk (x0_0 : Int) (x0_1 : Int) (x0_2 : Value) (x0_3 : Value) (a1 : Value) (x2_0 : Int) (x2_1 : Int) (x2_2 : Int) (x2_3 : Int) (x2_4 : Int) (x2_5 : Int) (x2_6 : Int) (x2_7 : Int) (a3 : Int) (a4 : Int) (w : World) (w0_0 : (Lit.int .i64 x0_0).wf = true) (w0_1 : (Lit.int .i64 x0_1).wf = true) (L0_2 : Leaf Tryz.prog w 22 x0_2) (L0_3 : Leaf Tryz.prog w 23 x0_3) (L1 : Leaf Tryz.prog w 26 a1) (w2_0 : (Lit.int .u8 x2_0).wf = true) (w2_1 : (Lit.int .u8 x2_1).wf = true) (w2_2 : (Lit.int .u8 x2_2).wf = true) (w2_3 : (Lit.int .u8 x2_3).wf = true) (w2_4 : (Lit.int .u8 x2_4).wf = true) (w2_5 : (Lit.int .u8 x2_5).wf = true) (w2_6 : (Lit.int .u8 x2_6).wf = true) (w2_7 : (Lit.int .u8 x2_7).wf = true) (w3 : (Lit.int .i64 a3).wf = true) (w4 : (Lit.int .i64 a4).wf = true) :
    Calls Tryz.prog 3 #[.agg #[.int .i64 x0_0, .int .i64 x0_1, x0_2, x0_3], a1, .agg #[.int .u8 x2_0, .int .u8 x2_1, .int .u8 x2_2, .int .u8 x2_3, .int .u8 x2_4, .int .u8 x2_5, .int .u8 x2_6, .int .u8 x2_7], .int .i64 a3, .int .i64 a4] w fun e w' => e = .returned (.bool true) ∧ Below w.heap.size w w' := by
  obtain ⟨n2, nm, R2, _⟩ := leaf_names L0_2
  obtain ⟨n3, it, R3, hn, h8⟩ := leaf_items L0_3
  obtain ⟨n1, f1, R1, _, h1⟩ := ax3 (k := .i64) (t := 3) 3 Tryz.underlying26 Tryz.underlying3 (by kernel_rfl) (by decide) (by kernel_rfl) L1
  exact law_ok Lot.ok_ot ⟨⟨x0_0, x0_1, n2, nm, n3, it⟩, ⟨n1, fun i => ⟨f1 i 0, f1 i 1, f1 i 2⟩⟩, ⟨x2_0, x2_1, x2_2, x2_3, x2_4, x2_5, x2_6, x2_7⟩, a3, a4⟩ rfl
    ⟨lsS_own _, nO _, as5 (l := [_, _, _, _, _, _, _, _]) ⟨trivial, trivial, trivial, trivial, trivial, trivial, trivial, trivial, trivial⟩, trivial, trivial, trivial⟩
    (show OtG.ok _ from ⟨⟨hn, h8⟩, h1, ⟨wf_u8 w2_0, wf_u8 w2_1, wf_u8 w2_2, wf_u8 w2_3⟩, wf_u8 w2_4, wf_u8 w2_5, wf_u8 w2_6, wf_u8 w2_7⟩)
    (vals := [.agg #[.int .i64 x0_0, .int .i64 x0_1, x0_2, x0_3], a1, .agg #[.int .u8 x2_0, .int .u8 x2_1, .int .u8 x2_2, .int .u8 x2_3, .int .u8 x2_4, .int .u8 x2_5, .int .u8 x2_6, .int .u8 x2_7], .int .i64 a3, .int .i64 a4])
    ⟨R_agg (r := [_, _, _, _]) ⟨.int, .int, R2, R3, trivial⟩ rfl (fun v hv => by
      simp at hv
      rcases hv with rfl | rfl | rfl | rfl
      · exact rfl
      · exact rfl
      · exact ao4 (e := 9) (by kernel_rfl) L0_2
      · exact ao4 (e := 50) (by kernel_rfl) L0_3),
     R1 _ (fun i j hj => match j, hj with | 0, _ => rfl | 1, _ => rfl | 2, _ => rfl),
     R_agg (r := [_, _, _, _, _, _, _, _]) ⟨.int, .int, .int, .int, .int, .int, .int, .int, trivial⟩ rfl (fun v hv => by simp at hv; rcases hv with rfl | rfl | rfl | rfl | rfl | rfl | rfl | rfl <;> exact rfl), .int, .int, trivial⟩
end Go.Proofs.YthappngbapbkfaaGreat.listOpaqueTop
