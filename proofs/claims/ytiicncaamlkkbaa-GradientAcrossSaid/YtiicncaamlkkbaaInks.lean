/- Equality of two vectors of eight amounts. -/
import Derived.Test.YtiicncaamlkkbaaGrad
import Derived.ChangeKeysEq
namespace Go.Proofs.Ytiicncaamlkkbaa.Grad
open Go.RowKit Num
/-- The first n amounts are alike. -/
def inksEqFrom (f g : Nat → Int) : Nat → Nat → Bool
  | 0, _ => true
  | n + 1, i => f i == g i && inksEqFrom f g n (i + 1)
def inksEq (f g : Nat → Int) : Bool := inksEqFrom f g 8 0
theorem cell_inks (f : Nat → Int) : ∀ i, i < 8 → (#[.int .u8 (f 0), .int .u8 (f 1), .int .u8 (f 2), .int .u8 (f 3), .int .u8 (f 4), .int .u8 (f 5), .int .u8 (f 6), .int .u8 (f 7)] : Array Value)[i]? = some (.int .u8 (f i)) := by
  intro i hi
  rcases (show i = 0 ∨ i = 1 ∨ i = 2 ∨ i = 3 ∨ i = 4 ∨ i = 5 ∨ i = 6 ∨ i = 7 by omega) with rfl | rfl | rfl | rfl | rfl | rfl | rfl | rfl <;> rfl
theorem items (f g : Nat → Int) (xs ys : Array Value) (d : Nat) (w : World) (hx : ∀ i, i < 8 → xs[i]? = some (.int .u8 (f i))) (hy : ∀ i, i < 8 → ys[i]? = some (.int .u8 (g i))) : ∀ n i, i + n ≤ 8 →
    (Op.eqItems (d + 1) 5 (Try.prog.cellsOf 5) xs ys (List.range' i n)).run Try.prog w = .ok (inksEqFrom f g n i) w
  | 0, i, _ => by simp [Op.eqItems, inksEqFrom]
  | n + 1, i, h => by
    have hc : Try.prog.cellsOf 5 = 1 := by kernel_rfl
    have h1 := run_part_plain (P := Try.prog) w (e := 5) (by kernel_rfl) (hx i (by omega))
    have h2 := run_part_plain (P := Try.prog) w (e := 5) (by kernel_rfl) (hy i (by omega))
    have h3 := run_equalIn_int (P := Try.prog) w d 5 .u8 .u8 (f i) (g i) Try.underlying5
    have ih := items f g xs ys d w hx hy n (i + 1) (by omega)
    rw [List.range'_succ]
    simp only [Op.eqItems, inksEqFrom]
    rw [hc] at ih ⊢
    simp only [Nat.mul_one, Sem.run_bind, h1, h2, h3, Result.andThen_ok]
    cases hfg : f i == g i
    · simp
    · simpa using ih
theorem equalIn_inks (f g : Nat → Int) (w : World) (d : Nat) : (Op.equalIn (d + 2) 37 (inksV f) (inksV g)).run Try.prog w = .ok (inksEq f g) w := by
  have hi : ∃ i, Try.prog.info? 5 = some i := by
    cases h : Try.prog.info? 5 with
    | some i => exact ⟨i, rfl⟩
    | none =>
      have := (by kernel_rfl : Try.prog.cellsOf 5 = 1)
      unfold Program.cellsOf at this; rw [h] at this; exact absurd this (by simp)
  obtain ⟨i, hi⟩ := hi
  rw [run_equalIn_array w (d + 1) _ _ Try.underlying37 hi, List.range_eq_range']
  exact items f g _ _ d w (cell_inks f) (cell_inks g) 8 0 (by omega)
theorem eql_inks (f g : Nat → Int) (w : World) : (binOp .eql 37 (inksV f) (inksV g)).run Try.prog w = .ok (.bool (inksEq f g)) w := by
  rw [run_eql_struct, equalIn_inks f g w 9998]; rfl
theorem neq_inks (f g : Nat → Int) (w : World) : (binOp .neq 37 (inksV f) (inksV g)).run Try.prog w = .ok (.bool (!inksEq f g)) w := by
  rw [run_neq_struct, equalIn_inks f g w 9998]; rfl
theorem inksEq_iff (f g : Nat → Int) : inksEq f g = true ↔ ∀ i, i < 8 → f i = g i := by
  simp only [inksEq, inksEqFrom, Bool.and_eq_true, beq_iff_eq, and_true]
  constructor
  · rintro ⟨h0, h1, h2, h3, h4, h5, h6, h7⟩ i hi
    rcases (show i = 0 ∨ i = 1 ∨ i = 2 ∨ i = 3 ∨ i = 4 ∨ i = 5 ∨ i = 6 ∨ i = 7 by omega) with rfl | rfl | rfl | rfl | rfl | rfl | rfl | rfl <;> assumption
  · intro h
    exact ⟨h 0 (by omega), h 1 (by omega), h 2 (by omega), h 3 (by omega), h 4 (by omega), h 5 (by omega), h 6 (by omega), h 7 (by omega)⟩
end Go.Proofs.Ytiicncaamlkkbaa.Grad
