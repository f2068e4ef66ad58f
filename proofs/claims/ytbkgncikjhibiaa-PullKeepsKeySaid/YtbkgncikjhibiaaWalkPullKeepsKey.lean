/- printworkskeep1.PullKeepsKey returns true for every width, every list of vectors, every step, every radius and every shift, and leaves its arguments as they were. -/
import Derived.Test.YtbkgncikjhibiaaRows
import Derived.Test.YtbkgncikjhibiaaFrame
import Derived.Test.YtbkgncikjhibiaaSlq
import Derived.Test.YtbkgncikjhibiaaSzd
import Derived.Test.YtbkgncikjhibiaaLvg
import Derived.Test.YtbkgncikjhibiaaPkw
namespace Go.Proofs.Ytbkgncikjhibiaa.pullKeepsKey
open Go.ChangeShapes Go.WideShapes Go.ChangeAt Go.RowKit
set_option linter.unusedVariables false
open Sx Pkw
set_option maxRecDepth 100000

theorem walk (a0 : Int) (a1 : Value) (a2 : Int) (a3 : Int) (x4_0 : Int) (x4_1 : Int) (w : World) (w0 : (Lit.int .i64 a0).wf = true) (L1 : Leaf Try.prog w 22 a1) (w2 : (Lit.int .i64 a2).wf = true) (w3 : (Lit.int .i64 a3).wf = true) (w4_0 : (Lit.int .i64 x4_0).wf = true) (w4_1 : (Lit.int .i64 x4_1).wf = true) (S1 : Szd.Szd Try.prog 33 a1) :
    Calls Try.prog 3 #[.int .i64 a0, a1, .int .i64 a2, .int .i64 a3, .agg #[.int .i64 x4_0, .int .i64 x4_1]] w fun e w' => e = .returned (.bool true) ∧ Below w.heap.size w w' := by
  obtain ⟨len, f, hR, hw, hlen⟩ := leaf_rows (k := .u8) (t := 5) 8 Try.underlying22 Try.underlying5 (by kernel_rfl) (by decide) (by kernel_rfl) L1
  have hR1 := hR (fun i j => .int .u8 (f i j)) (fun i j hj => match j, hj with | 0, _ => rfl | 1, _ => rfl | 2, _ => rfl | 3, _ => rfl | 4, _ => rfl | 5, _ => rfl | 6, _ => rfl | 7, _ => rfl)
  have hb := Szd.szd_len S1 hR1
  have e8 : Try.prog.bytesOf 33 = 8 := by kernel_rfl
  have eR : reachBytes = 140737488351232 := by kernel_rfl
  rw [e8, eR] at hb
  have wu : ∀ i j, i < len → j < 8 → 0 ≤ f i j ∧ f i j ≤ 255 := fun i j hi hj => wf_u8 (hw i j hi hj)
  exact law_ok Pkw.ok_law ⟨a0, len, f, a2, a3, x4_0, x4_1⟩ rfl
    ⟨trivial, fun i j => trivial, trivial, trivial, noOwn_lst ⟨trivial, trivial, trivial⟩, trivial⟩
    ⟨(show len ≤ 17592186044416 by omega), wu⟩
    (vals := [.int .i64 a0, a1, .int .i64 a2, .int .i64 a3, .agg #[.int .i64 x4_0, .int .i64 x4_1]])
    ⟨.int, hR1, .int, .int, R_agg (r := [_, _]) ⟨.int, .int, trivial⟩ rfl (fun v hv => by simp at hv; rcases hv with rfl | rfl <;> rfl), trivial⟩
end Go.Proofs.Ytbkgncikjhibiaa.pullKeepsKey
