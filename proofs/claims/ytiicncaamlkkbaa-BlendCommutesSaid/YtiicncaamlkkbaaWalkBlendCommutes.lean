/- printworkskeep1.BlendCommutes returns true for every mode number and every two amounts, and leaves its arguments as they were. -/
import Derived.Test.YtiicncaamlkkbaaRows
import Derived.WalkKit
import Derived.ProofKit
import Derived.OpenShut
import Derived.Test.YtiicncaamlkkbaaBlend
namespace Go.Proofs.Ytiicncaamlkkbaa.blendCommutes
open Go.ChangeShapes Go.WideShapes Go.ChangeAt Go.RowKit
set_option linter.unusedVariables false      -- a walk need not use every 'w<i>' (that an integer argument fits its kind)
open Num Blend
theorem m128 : modeI 1 128 128 = 64 := by decide
theorem comm : ∀ k : Nat, (k = 1 ∨ k = 2 ∨ k = 4 ∨ k = 5 ∨ k = 10 ∨ k = 11) → ∀ b s : Int, modeI k b s = modeI k s b := by
  rintro k (rfl | rfl | rfl | rfl | rfl | rfl) b s
  · show mul255 b s = mul255 s b
    unfold mul255; rw [Int.mul_comm]
  · show 255 - mul255 (255 - b) (255 - s) = 255 - mul255 (255 - s) (255 - b)
    unfold mul255; rw [Int.mul_comm]
  · show (if b ≤ s then b else s) = if s ≤ b then s else b
    split <;> split <;> omega
  · show (if b ≤ s then s else b) = if s ≤ b then b else s
    split <;> split <;> omega
  · show (if b ≤ s then s - b else b - s) = if s ≤ b then b - s else s - b
    split <;> split <;> omega
  · show b + s - nr (2 * b * s) 255 = s + b - nr (2 * s * b) 255
    rw [show 2 * b * s = 2 * s * b by rw [Int.mul_assoc, Int.mul_comm b s, ← Int.mul_assoc], Int.add_comm]
set_option maxRecDepth 100000 in
set_option maxHeartbeats 1000000 in

theorem walk (a0 : Int) (a1 : Int) (a2 : Int) (w0 : (Lit.int .i64 a0).wf = true) (w1 : (Lit.int .u8 a1).wf = true) (w2 : (Lit.int .u8 a2).wf = true) (w : World) :
    Calls Try.prog 10 #[.int .i64 a0, .int .u8 a1, .int .u8 a2] w fun e w' => e = .returned (.bool true) ∧ Grown w w' := by
  obtain ⟨h1, h2⟩ := bounds_i64 w0
  obtain ⟨h3, h4⟩ := bounds_u8 w1
  obtain ⟨h5, h6⟩ := bounds_u8 w2
  clear w0 w1 w2
  go_enter Try.func10, Try.ntmps10
  go_wp2_with fail
  refine (cut a0 0 5 _ h1 h2 (by omega) (by omega) (by omega) (by omega)).mono ?_
  rintro e w' ⟨rfl, rfl⟩
  obtain ⟨c1, c2⟩ := cutI_range a0 0 5 (by omega)
  generalize cutI a0 0 5 = c at *
  have hc6 : c = 0 ∨ c = 1 ∨ c = 2 ∨ c = 3 ∨ c = 4 ∨ c = 5 := by omega
  clear h1 h2 c1 c2
  rcases hc6 with rfl | rfl | rfl | rfl | rfl | rfl
  ·
    go_wp2_with fail
    refine (keep_mode 1 _ (by omega)).mono ?_
    rintro e w1 ⟨p, rfl, hc1, hg1⟩
    go_wp2_with fail
    refine (keep_mode 1 _ (by omega)).mono ?_
    rintro e w2 ⟨p2, rfl, hc2, hg2⟩
    have hc1' := gcell hg2 hc1
    clear hc1
    go_wp2_with fail
    refine (closure_any 1 128 128 p2 _ (by omega) (by omega) (by omega) (by omega) (by omega) hc2).mono ?_
    rintro e w' ⟨rfl, rfl⟩
    rw [m128]
    go_wp2_with fail
    refine (closure_any 1 a1 a2 p _ (by omega) h3 h4 h5 h6 hc1').mono ?_
    rintro e w' ⟨rfl, rfl⟩
    go_wp2_with fail
    refine (closure_any 1 a2 a1 p _ (by omega) h5 h6 h3 h4 hc1').mono ?_
    rintro e w' ⟨rfl, rfl⟩
    rw [comm 1 (by decide) a2 a1]
    go_wp2
    go_ret
    exact ⟨rfl, gtrans (by go_grown) (gtrans hg1 hg2)⟩
  ·
    go_wp2_with fail
    refine (keep_mode 2 _ (by omega)).mono ?_
    rintro e w1 ⟨p, rfl, hc1, hg1⟩
    go_wp2_with fail
    refine (keep_mode 1 _ (by omega)).mono ?_
    rintro e w2 ⟨p2, rfl, hc2, hg2⟩
    have hc1' := gcell hg2 hc1
    clear hc1
    go_wp2_with fail
    refine (closure_any 1 128 128 p2 _ (by omega) (by omega) (by omega) (by omega) (by omega) hc2).mono ?_
    rintro e w' ⟨rfl, rfl⟩
    rw [m128]
    go_wp2_with fail
    refine (closure_any 2 a1 a2 p _ (by omega) h3 h4 h5 h6 hc1').mono ?_
    rintro e w' ⟨rfl, rfl⟩
    go_wp2_with fail
    refine (closure_any 2 a2 a1 p _ (by omega) h5 h6 h3 h4 hc1').mono ?_
    rintro e w' ⟨rfl, rfl⟩
    rw [comm 2 (by decide) a2 a1]
    go_wp2
    go_ret
    exact ⟨rfl, gtrans (by go_grown) (gtrans hg1 hg2)⟩
  ·
    go_wp2_with fail
    refine (keep_mode 4 _ (by omega)).mono ?_
    rintro e w1 ⟨p, rfl, hc1, hg1⟩
    go_wp2_with fail
    refine (keep_mode 1 _ (by omega)).mono ?_
    rintro e w2 ⟨p2, rfl, hc2, hg2⟩
    have hc1' := gcell hg2 hc1
    clear hc1
    go_wp2_with fail
    refine (closure_any 1 128 128 p2 _ (by omega) (by omega) (by omega) (by omega) (by omega) hc2).mono ?_
    rintro e w' ⟨rfl, rfl⟩
    rw [m128]
    go_wp2_with fail
    refine (closure_any 4 a1 a2 p _ (by omega) h3 h4 h5 h6 hc1').mono ?_
    rintro e w' ⟨rfl, rfl⟩
    go_wp2_with fail
    refine (closure_any 4 a2 a1 p _ (by omega) h5 h6 h3 h4 hc1').mono ?_
    rintro e w' ⟨rfl, rfl⟩
    rw [comm 4 (by decide) a2 a1]
    go_wp2
    go_ret
    exact ⟨rfl, gtrans (by go_grown) (gtrans hg1 hg2)⟩
  ·
    go_wp2_with fail
    refine (keep_mode 5 _ (by omega)).mono ?_
    rintro e w1 ⟨p, rfl, hc1, hg1⟩
    go_wp2_with fail
    refine (keep_mode 1 _ (by omega)).mono ?_
    rintro e w2 ⟨p2, rfl, hc2, hg2⟩
    have hc1' := gcell hg2 hc1
    clear hc1
    go_wp2_with fail
    refine (closure_any 1 128 128 p2 _ (by omega) (by omega) (by omega) (by omega) (by omega) hc2).mono ?_
    rintro e w' ⟨rfl, rfl⟩
    rw [m128]
    go_wp2_with fail
    refine (closure_any 5 a1 a2 p _ (by omega) h3 h4 h5 h6 hc1').mono ?_
    rintro e w' ⟨rfl, rfl⟩
    go_wp2_with fail
    refine (closure_any 5 a2 a1 p _ (by omega) h5 h6 h3 h4 hc1').mono ?_
    rintro e w' ⟨rfl, rfl⟩
    rw [comm 5 (by decide) a2 a1]
    go_wp2
    go_ret
    exact ⟨rfl, gtrans (by go_grown) (gtrans hg1 hg2)⟩
  ·
    go_wp2_with fail
    refine (keep_mode 10 _ (by omega)).mono ?_
    rintro e w1 ⟨p, rfl, hc1, hg1⟩
    go_wp2_with fail
    refine (keep_mode 1 _ (by omega)).mono ?_
    rintro e w2 ⟨p2, rfl, hc2, hg2⟩
    have hc1' := gcell hg2 hc1
    clear hc1
    go_wp2_with fail
    refine (closure_any 1 128 128 p2 _ (by omega) (by omega) (by omega) (by omega) (by omega) hc2).mono ?_
    rintro e w' ⟨rfl, rfl⟩
    rw [m128]
    go_wp2_with fail
    refine (closure_any 10 a1 a2 p _ (by omega) h3 h4 h5 h6 hc1').mono ?_
    rintro e w' ⟨rfl, rfl⟩
    go_wp2_with fail
    refine (closure_any 10 a2 a1 p _ (by omega) h5 h6 h3 h4 hc1').mono ?_
    rintro e w' ⟨rfl, rfl⟩
    rw [comm 10 (by decide) a2 a1]
    go_wp2
    go_ret
    exact ⟨rfl, gtrans (by go_grown) (gtrans hg1 hg2)⟩
  ·
    go_wp2_with fail
    refine (keep_mode 11 _ (by omega)).mono ?_
    rintro e w1 ⟨p, rfl, hc1, hg1⟩
    go_wp2_with fail
    refine (keep_mode 1 _ (by omega)).mono ?_
    rintro e w2 ⟨p2, rfl, hc2, hg2⟩
    have hc1' := gcell hg2 hc1
    clear hc1
    go_wp2_with fail
    refine (closure_any 1 128 128 p2 _ (by omega) (by omega) (by omega) (by omega) (by omega) hc2).mono ?_
    rintro e w' ⟨rfl, rfl⟩
    rw [m128]
    go_wp2_with fail
    refine (closure_any 11 a1 a2 p _ (by omega) h3 h4 h5 h6 hc1').mono ?_
    rintro e w' ⟨rfl, rfl⟩
    go_wp2_with fail
    refine (closure_any 11 a2 a1 p _ (by omega) h5 h6 h3 h4 hc1').mono ?_
    rintro e w' ⟨rfl, rfl⟩
    rw [comm 11 (by decide) a2 a1]
    go_wp2
    go_ret
    exact ⟨rfl, gtrans (by go_grown) (gtrans hg1 hg2)⟩
end Go.Proofs.Ytiicncaamlkkbaa.blendCommutes
