/- printworkskeep1.NumMixBetween returns true for every three amounts, and leaves its arguments as they were. -/
import Derived.Test.YtiicncaamlkkbaaRows
import Derived.WalkKit
import Derived.ProofKit
import Derived.OpenShut
import Derived.Test.YtiicncaamlkkbaaNum
namespace Go.Proofs.Ytiicncaamlkkbaa.numMixBetween
open Go.ChangeShapes Go.WideShapes Go.ChangeAt Go.RowKit
set_option linter.unusedVariables false      -- a walk need not use every 'w<i>' (that an integer argument fits its kind)
open Num
theorem mix_up {a b t : Int} (h : a ≤ b) (h5 : 0 ≤ t) (h6 : t ≤ 255) : a ≤ mix255 a b t ∧ mix255 a b t ≤ b := by
  have hs := nr_spec ((255 - t) * a + t * b) 255 (by omega)
  unfold mix255
  generalize nr ((255 - t) * a + t * b) 255 = m at *
  have e : (255 - t) * a = 255 * a - t * a := by rw [Int.sub_mul]
  have p1 : t * a ≤ t * b := Int.mul_le_mul_of_nonneg_left h h5
  have p2 : (255 - t) * a ≤ (255 - t) * b := Int.mul_le_mul_of_nonneg_left h (by omega)
  have e2 : (255 - t) * b = 255 * b - t * b := by rw [Int.sub_mul]
  omega
theorem mix_down {a b t : Int} (h : b ≤ a) (h5 : 0 ≤ t) (h6 : t ≤ 255) : b ≤ mix255 a b t ∧ mix255 a b t ≤ a := by
  have hs := nr_spec ((255 - t) * a + t * b) 255 (by omega)
  unfold mix255
  generalize nr ((255 - t) * a + t * b) 255 = m at *
  have e : (255 - t) * a = 255 * a - t * a := by rw [Int.sub_mul]
  have p1 : t * b ≤ t * a := Int.mul_le_mul_of_nonneg_left h h5
  have p2 : (255 - t) * b ≤ (255 - t) * a := Int.mul_le_mul_of_nonneg_left h (by omega)
  have e2 : (255 - t) * b = 255 * b - t * b := by rw [Int.sub_mul]
  omega
theorem mix_0 (a b : Int) : mix255 a b 0 = a := by
  have hs := nr_spec ((255 - 0) * a + 0 * b) 255 (by omega)
  unfold mix255; omega
theorem mix_255 (a b : Int) : mix255 a b 255 = b := by
  have hs := nr_spec ((255 - 255) * a + 255 * b) 255 (by omega)
  unfold mix255; omega
theorem mix_mul (a t : Int) : mix255 0 a t = mul255 a t := by
  unfold mix255 mul255; rw [Int.mul_zero, Int.zero_add, Int.mul_comm]
theorem mix_100 : mix255 0 255 100 = 100 := by decide

set_option maxHeartbeats 1000000 in

theorem walk (a0 : Int) (a1 : Int) (a2 : Int) (w0 : (Lit.int .u8 a0).wf = true) (w1 : (Lit.int .u8 a1).wf = true) (w2 : (Lit.int .u8 a2).wf = true) (w : World) :
    Calls Try.prog 3 #[.int .u8 a0, .int .u8 a1, .int .u8 a2] w fun e w' => e = .returned (.bool true) ∧ Grown w w' := by
  obtain ⟨h1, h2⟩ := bounds_u8 w0
  obtain ⟨h3, h4⟩ := bounds_u8 w1
  obtain ⟨h5, h6⟩ := bounds_u8 w2
  clear w0 w1 w2
  rcases Int.lt_trichotomy a0 a1 with h | h | h
  · obtain ⟨r3, r4⟩ := mix_up (Int.le_of_lt h) h5 h6
    go_enter Try.func3, Try.ntmps3
    go_wp2_with fail
    refine (mix255_any 0 255 100 _ (by omega) (by omega) (by omega) (by omega) (by omega) (by omega)).mono ?_
    rintro e w' ⟨rfl, rfl⟩
    rw [mix_100]
    go_wp2_with fail
    refine (mix255_any a0 a1 a2 _ h1 h2 h3 h4 h5 h6).mono ?_
    rintro e w' ⟨rfl, rfl⟩
    go_wp2_with fail
    refine (mix255_any a0 a1 0 _ h1 h2 h3 h4 (by omega) (by omega)).mono ?_
    rintro e w' ⟨rfl, rfl⟩
    rw [mix_0]
    go_wp2_with fail
    refine (mix255_any a0 a1 255 _ h1 h2 h3 h4 (by omega) (by omega)).mono ?_
    rintro e w' ⟨rfl, rfl⟩
    rw [mix_255]
    go_wp2_with fail
    refine (mix255_any 0 a0 a2 _ (by omega) (by omega) h1 h2 h5 h6).mono ?_
    rintro e w' ⟨rfl, rfl⟩
    rw [mix_mul]
    go_wp2_with fail
    refine (mul255_any a0 a2 _ h1 h2 h5 h6).mono ?_
    rintro e w' ⟨rfl, rfl⟩
    go_wp2
    go_ret
    exact ⟨rfl, Grown.refl _⟩
  · have g1 : a0 ≤ a1 := by omega
    have g2 : a1 ≤ a0 := by omega
    clear h
    obtain ⟨r3, r4⟩ := mix_up g1 h5 h6
    go_enter Try.func3, Try.ntmps3
    go_wp2_with fail
    refine (mix255_any 0 255 100 _ (by omega) (by omega) (by omega) (by omega) (by omega) (by omega)).mono ?_
    rintro e w' ⟨rfl, rfl⟩
    rw [mix_100]
    go_wp2_with fail
    refine (mix255_any a0 a1 a2 _ h1 h2 h3 h4 h5 h6).mono ?_
    rintro e w' ⟨rfl, rfl⟩
    go_wp2_with fail
    refine (mix255_any a0 a1 0 _ h1 h2 h3 h4 (by omega) (by omega)).mono ?_
    rintro e w' ⟨rfl, rfl⟩
    rw [mix_0]
    go_wp2_with fail
    refine (mix255_any a0 a1 255 _ h1 h2 h3 h4 (by omega) (by omega)).mono ?_
    rintro e w' ⟨rfl, rfl⟩
    rw [mix_255]
    go_wp2_with fail
    refine (mix255_any 0 a0 a2 _ (by omega) (by omega) h1 h2 h5 h6).mono ?_
    rintro e w' ⟨rfl, rfl⟩
    rw [mix_mul]
    go_wp2_with fail
    refine (mul255_any a0 a2 _ h1 h2 h5 h6).mono ?_
    rintro e w' ⟨rfl, rfl⟩
    go_wp2
    go_ret
    exact ⟨rfl, Grown.refl _⟩
  · obtain ⟨r3, r4⟩ := mix_down (Int.le_of_lt h) h5 h6
    go_enter Try.func3, Try.ntmps3
    go_wp2_with fail
    refine (mix255_any 0 255 100 _ (by omega) (by omega) (by omega) (by omega) (by omega) (by omega)).mono ?_
    rintro e w' ⟨rfl, rfl⟩
    rw [mix_100]
    go_wp2_with fail
    refine (mix255_any a0 a1 a2 _ h1 h2 h3 h4 h5 h6).mono ?_
    rintro e w' ⟨rfl, rfl⟩
    go_wp2_with fail
    refine (mix255_any a0 a1 0 _ h1 h2 h3 h4 (by omega) (by omega)).mono ?_
    rintro e w' ⟨rfl, rfl⟩
    rw [mix_0]
    go_wp2_with fail
    refine (mix255_any a0 a1 255 _ h1 h2 h3 h4 (by omega) (by omega)).mono ?_
    rintro e w' ⟨rfl, rfl⟩
    rw [mix_255]
    go_wp2_with fail
    refine (mix255_any 0 a0 a2 _ (by omega) (by omega) h1 h2 h5 h6).mono ?_
    rintro e w' ⟨rfl, rfl⟩
    rw [mix_mul]
    go_wp2_with fail
    refine (mul255_any a0 a2 _ h1 h2 h5 h6).mono ?_
    rintro e w' ⟨rfl, rfl⟩
    go_wp2
    go_ret
    exact ⟨rfl, Grown.refl _⟩
end Go.Proofs.Ytiicncaamlkkbaa.numMixBetween
