/- The plain law behind ImageBoxSamples: the inverse of a box's matrix, and the sample of a cell. -/
import Derived.Test.YtbmgclpgompjmaaImr
set_option linter.unusedSimpArgs false
set_option linter.unusedVariables false
namespace Go.Proofs.Ytbmgclpgompjmaa.Ibl
open Go.RowKit Sx Num Aff Afi Img Imh Imp Imq Imr
set_option maxRecDepth 100000
def pow2 (k j : Int) : Prop := (k = 1 ∧ j = 4096) ∨ (k = 2 ∧ j = 2048) ∨ (k = 4 ∧ j = 1024) ∨ (k = 8 ∧ j = 512) ∨ (k = 16 ∧ j = 256) ∨ (k = 32 ∧ j = 128)
theorem nr_exact {z D q : Int} (h0 : 0 < D) (hz : z = q * D) : nr z D = q := by
  have h := nr_spec z D h0
  generalize nr z D = n at h ⊢
  rcases Int.lt_trichotomy n q with h1 | h1 | h1
  · have := Int.mul_le_mul_of_nonneg_right (show n + 1 ≤ q from h1) (Int.le_of_lt h0)
    rw [Int.add_mul] at this
    omega
  · exact h1
  · have := Int.mul_le_mul_of_nonneg_right (show q + 1 ≤ n from h1) (Int.le_of_lt h0)
    rw [Int.add_mul] at this
    omega
theorem box_inv {x y k j : Int} (hk : pow2 k j) (hx : -8192 ≤ x ∧ x ≤ 8192) (hy : -8192 ≤ y ∧ y ≤ 8192) :
    invE ⟨4096 * k, 0, 0, 4096 * k, 4096 * x, 4096 * y⟩ = 0 ∧ invM ⟨4096 * k, 0, 0, 4096 * k, 4096 * x, 4096 * y⟩ = ⟨j, 0, 0, j, -(j * x), -(j * y)⟩ := by
  have main : ∀ (hout : invOut ⟨4096 * k, 0, 0, 4096 * k, 4096 * x, 4096 * y⟩ = ⟨j, 0, 0, j, -(j * x), -(j * y)⟩) (_ : 1 ≤ k ∧ k ≤ 32) (_ : 1 ≤ j ∧ j ≤ 4096), invE ⟨4096 * k, 0, 0, 4096 * k, 4096 * x, 4096 * y⟩ = 0 ∧ invM ⟨4096 * k, 0, 0, 4096 * k, 4096 * x, 4096 * y⟩ = ⟨j, 0, 0, j, -(j * x), -(j * y)⟩ := fun hout hk1 hj1 => by
    have h1 : Mat.ok ⟨4096 * k, 0, 0, 4096 * k, 4096 * x, 4096 * y⟩ = true := by
      unfold Mat.ok
      simp only [Bool.and_eq_true]
      exact ⟨inR_true.2 (by omega), inR_true.2 (by omega), inR_true.2 (by omega), inR_true.2 (by omega), inR_true.2 (by omega), inR_true.2 (by omega)⟩
    have jx : small ((4096 * 8192 : Nat) : Int) (j * x) := mul_small ⟨by omega, by omega⟩ ⟨by omega, by omega⟩
    have jy : small ((4096 * 8192 : Nat) : Int) (j * y) := mul_small ⟨by omega, by omega⟩ ⟨by omega, by omega⟩
    obtain ⟨jx1, jx2⟩ := jx
    obtain ⟨jy1, jy2⟩ := jy
    have h2 : Mat.ok ⟨j, 0, 0, j, -(j * x), -(j * y)⟩ = true := by
      unfold Mat.ok
      simp only [Bool.and_eq_true]
      exact ⟨inR_true.2 (by omega), inR_true.2 (by omega), inR_true.2 (by omega), inR_true.2 (by omega), inR_true.2 (by omega), inR_true.2 (by omega)⟩
    have h3 : det ⟨4096 * k, 0, 0, 4096 * k, 4096 * x, 4096 * y⟩ ≠ 0 := by
      have := Int.mul_pos (show 0 < 4096 * k by omega) (show 0 < 4096 * k by omega)
      show 4096 * k * (4096 * k) - 0 * 0 ≠ 0
      omega
    have h4 : invE ⟨4096 * k, 0, 0, 4096 * k, 4096 * x, 4096 * y⟩ = 0 := by
      unfold invE
      rw [hout, h1, h2, if_neg (by decide), if_neg h3, if_neg (by decide)]
    exact ⟨h4, by unfold invM; rw [if_pos h4]; exact hout⟩
  refine main ?_ (by unfold pow2 at hk; omega) (by unfold pow2 at hk; omega)
  clear main
  have ov : ∀ D : Int, 0 < D → det ⟨4096 * k, 0, 0, 4096 * k, 4096 * x, 4096 * y⟩ = D → ∀ z, over ⟨4096 * k, 0, 0, 4096 * k, 4096 * x, 4096 * y⟩ z = nr z D := fun D h0 hD z => by
    unfold over
    rw [hD]
    unfold sg ab
    rw [if_neg (by omega), if_neg (by omega), Int.one_mul]
  have hD : det ⟨4096 * k, 0, 0, 4096 * k, 4096 * x, 4096 * y⟩ = 16777216 * (k * k) := by
    show 4096 * k * (4096 * k) - 0 * 0 = 16777216 * (k * k)
    grind
  have h0 : 0 < 16777216 * (k * k) := by
    have := Int.mul_pos (show 0 < k by unfold pow2 at hk; omega) (show 0 < k by unfold pow2 at hk; omega)
    omega
  unfold invOut
  simp only [ov _ h0 hD]
  clear ov hD
  rcases hk with h | h | h | h | h | h <;> obtain ⟨rfl, rfl⟩ := h
  all_goals
    congr 1 <;> refine nr_exact (by decide) ?_ <;> omega
/-- The sample of a cell. -/
theorem cell_of {x x0 k j : Int} (Y : Int) (hk : pow2 k j) : (j * (2 * x + 1) + 0 * Y + 2 * -(j * x0)) / 8192 = (x - x0) / k := by
  rcases hk with h | h | h | h | h | h <;> obtain ⟨rfl, rfl⟩ := h <;> omega
theorem cell_of' {x x0 k j : Int} (Y : Int) (hk : pow2 k j) : (0 * Y + j * (2 * x + 1) + 2 * -(j * x0)) / 8192 = (x - x0) / k := by
  rw [Int.add_comm (0 * Y)]
  exact cell_of Y hk
theorem div_lt {a k w j : Int} (hk : pow2 k j) : (0 ≤ a ↔ 0 ≤ a / k) ∧ (a < k * w ↔ a / k < w) := by
  rcases hk with h | h | h | h | h | h <;> obtain ⟨rfl, rfl⟩ := h <;> omega
theorem div_per {a k w j : Int} (hk : pow2 k j) : (a + k * w) / k = a / k + w ∧ (a - k * w) / k = a / k - w := by
  rcases hk with h | h | h | h | h | h <;> obtain ⟨rfl, rfl⟩ := h <;> omega
theorem pow2_of {z : Int} (h : 0 ≤ z ∧ z ≤ 5) : ∃ j, pow2 (1 * 2 ^ Int.toNat z) j := by
  obtain rfl | rfl | rfl | rfl | rfl | rfl : z = 0 ∨ z = 1 ∨ z = 2 ∨ z = 3 ∨ z = 4 ∨ z = 5 := by omega
  · exact ⟨4096, by unfold pow2; decide⟩
  · exact ⟨2048, by unfold pow2; decide⟩
  · exact ⟨1024, by unfold pow2; decide⟩
  · exact ⟨512, by unfold pow2; decide⟩
  · exact ⟨256, by unfold pow2; decide⟩
  · exact ⟨128, by unfold pow2; decide⟩
theorem pow2_bits {k j : Int} (h : pow2 k j) : bits .and .i64 k (k - 1) = 0 := by
  rcases h with h | h | h | h | h | h <;> obtain ⟨rfl, rfl⟩ := h <;> exact of_decide_eq_true (by kernel_rfl)
end Go.Proofs.Ytbmgclpgompjmaa.Ibl
