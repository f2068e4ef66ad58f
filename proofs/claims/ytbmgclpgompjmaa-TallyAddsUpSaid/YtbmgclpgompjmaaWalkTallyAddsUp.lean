/- printworkskeep1.TallyAddsUp returns true for every plate, every number of zones, every size of a tile and every number, and leaves its arguments as they were. -/
import Derived.Test.YtbmgclpgompjmaaRows
import Derived.Test.YtbmgclpgompjmaaFrame
import Derived.Test.YtbmgclpgompjmaaSlp
import Derived.Test.YtbmgclpgompjmaaTam
namespace Go.Proofs.Ytbmgclpgompjmaa.tallyAddsUp
open Go.ChangeShapes Go.WideShapes Go.ChangeAt Go.RowKit
set_option linter.unusedVariables false
open Sx
set_option maxRecDepth 100000
theorem one_sl {w : World} {X : Nat → Prop} {E : Env} {n k : Nat} {g : Nat → Nat → SV} {v : Value} (h : R w X E (.sl n k g) v) : oneCell v := by cases h <;> rfl

theorem walk (x0_0 : Int) (x0_1 : Int) (x0_2 : Value) (a1 : Int) (a2 : Int) (a3 : Int) (a4 : Int) (w : World) (w0_0 : (Lit.int .i64 x0_0).wf = true) (w0_1 : (Lit.int .i64 x0_1).wf = true) (L0_2 : Leaf Try.prog w 26 x0_2) (w1 : (Lit.int .i64 a1).wf = true) (w2 : (Lit.int .i64 a2).wf = true) (w3 : (Lit.int .i64 a3).wf = true) (w4 : (Lit.int .i64 a4).wf = true) :
    Calls Try.prog 5 #[.agg #[.int .i64 x0_0, .int .i64 x0_1, x0_2], .int .i64 a1, .int .i64 a2, .int .i64 a3, .int .i64 a4] w fun e w' => e = .returned (.bool true) ∧ Below w.heap.size w w' := by
  obtain ⟨xs, hR, hw, hlen⟩ := leaf_ints (k := .u8) Try.underlying26 Try.underlying5 (by kernel_rfl) (by kernel_rfl) L0_2
  have hb : Tal.Pl.bytes ⟨x0_0, x0_1, xs.length, nums xs⟩ := fun i hi => by
    have e : nums xs i = xs[i]'hi := by unfold nums; rw [List.getD_eq_getElem?_getD, List.getElem?_eq_getElem hi]; rfl
    show 0 ≤ nums xs i ∧ nums xs i ≤ 255
    rw [e]
    exact wf_u8 (hw _ (List.getElem_mem hi))
  have ho : oneCell x0_2 := one_sl hR
  exact law_ok Tam.ok_ta ⟨⟨x0_0, x0_1, xs.length, nums xs⟩, a1, a2, a3, a4⟩ rfl
    ⟨noOwn_lst ⟨trivial, trivial, fun _ _ => trivial, trivial⟩, trivial, trivial, trivial, trivial, trivial⟩ ⟨hb, (show xs.length ≤ 9223372036854775807 from hlen)⟩
    (vals := [.agg #[.int .i64 x0_0, .int .i64 x0_1, x0_2], .int .i64 a1, .int .i64 a2, .int .i64 a3, .int .i64 a4])
    ⟨R_agg (r := [_, _, _]) ⟨.int, .int, hR, trivial⟩ rfl (fun v hv => by simp at hv; rcases hv with rfl | rfl | rfl; exact rfl; exact rfl; exact ho), .int, .int, .int, .int, trivial⟩
end Go.Proofs.Ytbmgclpgompjmaa.tallyAddsUp
