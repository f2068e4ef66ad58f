/- printworkskeep1.NumRootHolds returns true for every number, and leaves its argument as it was. -/
import Derived.Test.YtiicncaamlkkbaaRows
import Derived.WalkKit
import Derived.ProofKit
import Derived.OpenShut
import Derived.Test.YtiicncaamlkkbaaSqrt
namespace Go.Proofs.Ytiicncaamlkkbaa.numRootHolds
open Go.ChangeShapes Go.WideShapes Go.ChangeAt Go.RowKit
set_option linter.unusedVariables false      -- a walk need not use every 'w<i>' (that an integer argument fits its kind)
open Num
theorem r99 : isq 99 = 9 := isq_unique (by decide) (by decide)
theorem spec (n : Nat) (h : n ≤ 4611686018427387903) : isq n ≤ 2147483648 ∧ isq n * isq n ≤ n ∧ n - isq n * isq n ≤ 2 * isq n := by
  obtain ⟨h1, h2⟩ := isq_spec n
  have h3 := sq_succ (isq n)
  refine ⟨?_, h1, by omega⟩
  refine Nat.not_lt.1 fun hc => ?_
  have := sq_mono (show 2147483649 ≤ isq n by omega)
  omega

theorem walk (a0 : Int) (w0 : (Lit.int .i64 a0).wf = true) (w : World) :
    Calls Try.prog 6 #[.int .i64 a0] w fun e w' => e = .returned (.bool true) ∧ Grown w w' := by
  obtain ⟨h1, h2⟩ := bounds_i64 w0
  clear w0
  go_enter Try.func6, Try.ntmps6
  go_wp2_with fail
  refine (root 99 _ (by omega)).mono ?_
  rintro e w' ⟨rfl, rfl⟩
  rw [r99]
  go_wp2_with fail
  refine (cut a0 0 4611686018427387903 _ h1 h2 (by omega) (by omega) (by omega) (by omega)).mono ?_
  rintro e w' ⟨rfl, rfl⟩
  obtain ⟨c1, c2⟩ := cutI_range a0 0 4611686018427387903 (by omega)
  generalize cutI a0 0 4611686018427387903 = n at *
  obtain ⟨n, rfl⟩ := Int.eq_ofNat_of_zero_le c1
  go_wp2_with fail
  refine (root n _ (by omega)).mono ?_
  rintro e w' ⟨rfl, rfl⟩
  obtain ⟨s1, s2, s3⟩ := spec n (by omega)
  generalize isq n = r at *
  have k1 : (r : Int) * r ≤ n := by exact_mod_cast s2
  have k2 : (n : Int) - r * r ≤ 2 * r := by
    have e : ((r * r : Nat) : Int) = (r : Int) * r := Int.natCast_mul r r
    omega
  have k3 : 0 ≤ (r : Int) * r := Int.mul_nonneg (by omega) (by omega)
  clear s2 s3
  go_wp2
  go_ret
  exact ⟨rfl, Grown.refl _⟩
end Go.Proofs.Ytiicncaamlkkbaa.numRootHolds
