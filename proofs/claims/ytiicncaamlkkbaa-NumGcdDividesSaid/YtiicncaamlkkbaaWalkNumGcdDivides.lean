/- printworkskeep1.NumGcdDivides returns true for every two numbers, and leaves its arguments as they were. -/
import Derived.Test.YtiicncaamlkkbaaRows
import Derived.WalkKit
import Derived.ProofKit
import Derived.OpenShut
import Derived.Test.YtiicncaamlkkbaaNum
namespace Go.Proofs.Ytiicncaamlkkbaa.numGcdDivides
open Go.ChangeShapes Go.WideShapes Go.ChangeAt Go.RowKit
set_option linter.unusedVariables false      -- a walk need not use every 'w<i>' (that an integer argument fits its kind)
open Num
theorem natAbs_tdiv (a : Int) (g : Nat) : (a.tdiv g).natAbs = a.natAbs / g := by rw [Int.natAbs_tdiv]; rfl
theorem gcd_div (a b : Int) (h : 0 < Nat.gcd a.natAbs b.natAbs) : Nat.gcd (a.tdiv (Nat.gcd a.natAbs b.natAbs : Nat)).natAbs (b.tdiv (Nat.gcd a.natAbs b.natAbs : Nat)).natAbs = 1 := by
  rw [natAbs_tdiv, natAbs_tdiv]
  exact Nat.coprime_div_gcd_div_gcd h
theorem tmod_zero (a : Int) (g : Nat) (h : g ∣ a.natAbs) : a.tmod g = 0 := Int.tmod_eq_zero_of_dvd (Int.ofNat_dvd_left.2 h)
theorem gcd_small (a b : Int) : Nat.gcd a.natAbs b.natAbs = 0 ↔ a = 0 ∧ b = 0 := by
  rw [Nat.gcd_eq_zero_iff]; omega
theorem g1218 : Nat.gcd (Int.natAbs (-12)) (Int.natAbs 18) = 6 := by decide

theorem walk (a0 : Int) (a1 : Int) (w0 : (Lit.int .i64 a0).wf = true) (w1 : (Lit.int .i64 a1).wf = true) (w : World) :
    Calls Try.prog 4 #[.int .i64 a0, .int .i64 a1] w fun e w' => e = .returned (.bool true) ∧ Grown w w' := by
  obtain ⟨h1, h2⟩ := bounds_i64 w0
  obtain ⟨h3, h4⟩ := bounds_i64 w1
  clear w0 w1
  go_enter Try.func4, Try.ntmps4
  go_wp2_with fail
  refine (gcd (-12) 18 _ (by omega) (by omega) (by omega) (by omega)).mono ?_
  rintro e w1 ⟨rfl, hg1⟩
  rw [g1218]
  go_wp2_with fail
  refine (cut a0 (-1099511627776) 1099511627776 _ h1 h2 (by omega) (by omega) (by omega) (by omega)).mono ?_
  rintro e w' ⟨rfl, rfl⟩
  go_wp2_with fail
  refine (cut a1 (-1099511627776) 1099511627776 _ h3 h4 (by omega) (by omega) (by omega) (by omega)).mono ?_
  rintro e w' ⟨rfl, rfl⟩
  obtain ⟨c1, c2⟩ := cutI_range a0 (-1099511627776) 1099511627776 (by omega)
  obtain ⟨c3, c4⟩ := cutI_range a1 (-1099511627776) 1099511627776 (by omega)
  generalize cutI a0 (-1099511627776) 1099511627776 = a at *
  generalize cutI a1 (-1099511627776) 1099511627776 = b at *
  clear h1 h2 h3 h4
  go_wp2_with fail
  refine (gcd a b _ (by omega) (by omega) (by omega) (by omega)).mono ?_
  rintro e w2 ⟨rfl, hg2⟩
  by_cases hz : a = 0 ∧ b = 0
  · obtain ⟨rfl, rfl⟩ := hz
    go_wp2
    go_ret
    exact ⟨rfl, gtrans hg1 hg2⟩
  · have hp : 0 < Nat.gcd a.natAbs b.natAbs := Nat.pos_of_ne_zero fun h => hz ((gcd_small a b).1 h)
    have t1 := tmod_zero a _ (Nat.gcd_dvd_left a.natAbs b.natAbs)
    have t2 := tmod_zero b _ (Nat.gcd_dvd_right a.natAbs b.natAbs)
    have hgd := Lib.hid (gcd_div a b hp)
    obtain ⟨g, hg⟩ : ∃ g : Nat, g = Nat.gcd a.natAbs b.natAbs := ⟨_, rfl⟩
    rw [← hg] at hp t1 t2 hgd ⊢
    have ub : g ≤ 1099511627776 := by
      by_cases ha : a = 0
      · have l2 := Nat.le_of_dvd (by omega) (Nat.gcd_dvd_right a.natAbs b.natAbs)
        omega
      · have l1 := Nat.le_of_dvd (by omega) (Nat.gcd_dvd_left a.natAbs b.natAbs)
        omega
    clear hg
    obtain ⟨d1, d2⟩ := tdiv_bounds a g (by omega)
    obtain ⟨d3, d4⟩ := tdiv_bounds b g (by omega)
    obtain ⟨k1, k2⟩ : -1099511627776 ≤ a.tdiv g ∧ a.tdiv g ≤ 1099511627776 := by omega
    obtain ⟨k3, k4⟩ : -1099511627776 ≤ b.tdiv g ∧ b.tdiv g ≤ 1099511627776 := by omega
    clear d1 d2 d3 d4
    have kg : (1 : Int) ≤ g := by omega
    have kg2 : (g : Int) ≤ 1099511627776 := by omega
    have hab : (a == 0 && b == 0) = false := by
      rw [Bool.and_eq_false_iff]; simp; omega
    have T1 := Lib.hid t1
    have T2 := Lib.hid t2
    have e5 : IntKind.i64.wrap (a.tdiv g) = a.tdiv g := IntWalk.i64_in _ (by omega)
    have e6 : IntKind.i64.wrap (b.tdiv g) = b.tdiv g := IntWalk.i64_in _ (by omega)
    by_cases ha : a = 0
    · have ea : (a == 0) = true := by simp [ha]
      have eb : (b == 0) = false := by simp; omega
      clear hz hab hp ub ha
      go_wp2_with fail
      go_region_with (go_at_call 16; refine (gcd _ _ _ (by omega) (by omega) (by omega) (by omega)).mono ?_; rintro e w3 ⟨he, hg3⟩; rw [hgd.out] at he; subst he)
      go_wp2
      go_ret
      exact ⟨rfl, gtrans (gtrans hg1 hg2) hg3⟩
    · have ea : (a == 0) = false := by simp [ha]
      clear hz hab hp ub ha
      go_wp2_with fail
      go_region_with (go_at_call 16; refine (gcd _ _ _ (by omega) (by omega) (by omega) (by omega)).mono ?_; rintro e w3 ⟨he, hg3⟩; rw [hgd.out] at he; subst he)
      go_wp2
      go_ret
      exact ⟨rfl, gtrans (gtrans hg1 hg2) hg3⟩
end Go.Proofs.Ytiicncaamlkkbaa.numGcdDivides
