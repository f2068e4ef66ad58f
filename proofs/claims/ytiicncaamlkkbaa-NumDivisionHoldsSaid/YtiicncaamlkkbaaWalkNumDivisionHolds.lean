/- printworkskeep1.NumDivisionHolds returns true for every two numbers, and leaves its arguments as they were. -/
import Derived.Test.YtiicncaamlkkbaaRows
import Derived.WalkKit
import Derived.ProofKit
import Derived.OpenShut
import Derived.Test.YtiicncaamlkkbaaNum
namespace Go.Proofs.Ytiicncaamlkkbaa.numDivisionHolds
open Go.ChangeShapes Go.WideShapes Go.ChangeAt Go.RowKit
set_option linter.unusedVariables false      -- a walk need not use every 'w<i>' (that an integer argument fits its kind)
open Num
theorem m7 : nr (-7) 2 = -3 := by decide

theorem walk (a0 : Int) (a1 : Int) (w0 : (Lit.int .i64 a0).wf = true) (w1 : (Lit.int .i64 a1).wf = true) (w : World) :
    Calls Try.prog 5 #[.int .i64 a0, .int .i64 a1] w fun e w' => e = .returned (.bool true) ∧ Grown w w' := by
  obtain ⟨h1, h2⟩ := bounds_i64 w0
  obtain ⟨h3, h4⟩ := bounds_i64 w1
  clear w0 w1
  go_enter Try.func5, Try.ntmps5
  go_wp2_with fail
  refine (floor (-7) 2 _ (by omega) (by omega) (by omega) (by omega)).mono ?_
  rintro e w1 ⟨rfl, hg1⟩
  go_wp2_with fail
  refine (cut a0 (-1099511627776) 1099511627776 _ h1 h2 (by omega) (by omega) (by omega) (by omega)).mono ?_
  rintro e w' ⟨rfl, rfl⟩
  go_wp2_with fail
  refine (cut a1 1 1099511627776 _ h3 h4 (by omega) (by omega) (by omega) (by omega)).mono ?_
  rintro e w' ⟨rfl, rfl⟩
  obtain ⟨c1, c2⟩ := cutI_range a0 (-1099511627776) 1099511627776 (by omega)
  obtain ⟨c3, c4⟩ := cutI_range a1 1 1099511627776 (by omega)
  generalize cutI a0 (-1099511627776) 1099511627776 = a at *
  generalize cutI a1 1 1099511627776 = b at *
  obtain ⟨q1, q2⟩ := quo_spec a b (by omega)
  obtain ⟨n1, n2⟩ := nr_spec a b (by omega)
  go_wp2_with fail
  refine (floor a b _ (by omega) (by omega) (by omega) (by omega)).mono ?_
  rintro e w2 ⟨rfl, hg2⟩
  go_wp2_with fail
  refine (round a b _ (by omega) (by omega) (by omega) (by omega)).mono ?_
  rintro e w3 ⟨rfl, hg3⟩
  generalize nr a b = n at *
  generalize a / b = q at *
  go_wp2
  go_ret
  exact ⟨ret_bool (decide_eq_true (by omega)), gtrans (gtrans hg1 hg2) hg3⟩
end Go.Proofs.Ytiicncaamlkkbaa.numDivisionHolds
