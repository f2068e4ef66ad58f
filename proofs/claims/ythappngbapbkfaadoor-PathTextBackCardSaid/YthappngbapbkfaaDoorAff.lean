/- Package affine, by the evaluation: Check, Identity, Shift, Quarter, Apply, Then, Invert. -/
import Derived.Test.YthappngbapbkfaaDoorSxx
import Derived.Test.YthappngbapbkfaaDoorNum
set_option linter.unusedSimpArgs false
set_option linter.unusedVariables false
namespace Go.Proofs.YthappngbapbkfaaDoor.Aff
open Go.RowKit Sx Num
set_option maxRecDepth 100000
theorem mixed : Tryd.prog.follows .mixedOrders = true := by kernel_rfl
structure Mat where
  a : Int
  b : Int
  c : Int
  d : Int
  e : Int
  f : Int
def matL (m : Mat) : List SV := [.int .i64 m.a, .int .i64 m.b, .int .i64 m.c, .int .i64 m.d, .int .i64 m.e, .int .i64 m.f]
def matS (m : Mat) : SV := .agg 6 (lst (matL m))
def matD (g : Nat → SV) : Mat := ⟨intOf (g 0), intOf (g 1), intOf (g 2), intOf (g 3), intOf (g 4), intOf (g 5)⟩
def inR (x m : Int) : Bool := decide (-m ≤ x) && decide (x ≤ m)
theorem inR_true {x m : Int} : inR x m = true ↔ -m ≤ x ∧ x ≤ m := by simp [inR]
theorem inR_false {x m : Int} : inR x m = false ↔ x < -m ∨ m < x := by simp [inR]; omega
def Mat.ok (m : Mat) : Bool := inR m.a 1048576 && (inR m.b 1048576 && (inR m.c 1048576 && (inR m.d 1048576 && (inR m.e 268435456 && inR m.f 268435456))))
def Mat.chk (m : Mat) : Int := if m.ok then 0 else 3
def qt4 (b : Int) : Mat := if b = 1 then ⟨0, 4096, -4096, 0, 0, 0⟩ else if b = 2 then ⟨-4096, 0, 0, -4096, 0, 0⟩ else if b = 3 then ⟨0, -4096, 4096, 0, 0, 0⟩ else ⟨4096, 0, 0, 4096, 0, 0⟩
def qt (k : Int) : Mat := qt4 (bits .and .i64 k 3)
def Mat.imgX (m : Mat) (x y : Int) : Int := nr (m.a * x + m.c * y + m.e) 4096
def Mat.imgY (m : Mat) (x y : Int) : Int := nr (m.b * x + m.d * y + m.f) 4096
/-- What Apply answers: the error, and the point (zero with an error). -/
def Mat.appE (m : Mat) (x y : Int) : Int :=
  if m.ok = false then 3 else if (inR x 32767 && inR y 32767) = false then 3 else if (inR (m.imgX x y) 32767 && inR (m.imgY x y) 32767) = false then 10 else 0
def Mat.appX (m : Mat) (x y : Int) : Int := if m.appE x y = 0 then m.imgX x y else 0
def Mat.appY (m : Mat) (x y : Int) : Int := if m.appE x y = 0 then m.imgY x y else 0
theorem mul_in {a x A X : Int} (h : -A ≤ a ∧ a ≤ A) (k : -X ≤ x ∧ x ≤ X) : -(A * X) ≤ a * x ∧ a * x ≤ A * X := by
  have hA : 0 ≤ A := by omega
  have hX : 0 ≤ X := by omega
  have e : (a * x).natAbs ≤ (A * X).natAbs := by
    rw [Int.natAbs_mul, Int.natAbs_mul]
    exact Nat.mul_le_mul (by omega) (by omega)
  have p : 0 ≤ A * X := Int.mul_nonneg hA hX
  omega
theorem nr_abs {x M : Int} (h : -M ≤ x ∧ x ≤ M) : -M - 1 ≤ nr x 4096 ∧ nr x 4096 ≤ M + 1 := by
  have := nr_spec x 4096 (by omega)
  omega
theorem mat_eq (m : Mat) : (matD fun (j : Nat) => (matL m).getD ((0 : Nat) + j) SV.any) = m := rfl
theorem chk_eq (m : Mat) (h : m.ok = false) : m.chk = 3 := by simp [Mat.chk, h]
theorem chk_eq0 (m : Mat) (h : m.ok = true) : m.chk = 0 := by simp [Mat.chk, h]
theorem Mat.ok_in {m : Mat} (h : m.ok = true) : (-1048576 ≤ m.a ∧ m.a ≤ 1048576) ∧ (-1048576 ≤ m.b ∧ m.b ≤ 1048576) ∧ (-1048576 ≤ m.c ∧ m.c ≤ 1048576) ∧ (-1048576 ≤ m.d ∧ m.d ≤ 1048576) ∧ (-268435456 ≤ m.e ∧ m.e ≤ 268435456) ∧ (-268435456 ≤ m.f ∧ m.f ≤ 268435456) := by
  simpa [Mat.ok, inR] using h
def Mat.out (m n : Mat) : Mat := ⟨nr (n.a * m.a + n.c * m.b) 4096, nr (n.b * m.a + n.d * m.b) 4096, nr (n.a * m.c + n.c * m.d) 4096, nr (n.b * m.c + n.d * m.d) 4096, nr (n.a * m.e + n.c * m.f) 4096 + n.e, nr (n.b * m.e + n.d * m.f) 4096 + n.f⟩
def Mat.thenE (m n : Mat) : Int := if m.ok = false then 3 else if n.ok = false then 3 else if (m.out n).ok = false then 10 else 0
def Mat.thenM (m n : Mat) : Mat := if m.thenE n = 0 then m.out n else ⟨0, 0, 0, 0, 0, 0⟩
def sizeI (x : Int) : Int := if x < 0 - x then 0 - x else x
theorem bits3 (k : Int) (h : -20 ≤ k ∧ k ≤ 20) : bits .and .i64 k 3 = k % 4 := by
  have : ∀ i : Fin 41, bits .and .i64 ((i.val : Int) - 20) 3 = ((i.val : Int) - 20) % 4 := by decide
  have := this ⟨(k + 20).toNat, by omega⟩
  have e : (((k + 20).toNat : Int)) - 20 = k := by omega
  simp only [e] at this
  exact this
theorem nr_mul (y : Int) : nr (4096 * y) 4096 = y := by
  have := nr_spec (4096 * y) 4096 (by omega)
  omega
/-- Quarter turns add up. -/
theorem quarters_add (j k : Int) (hj : -9 ≤ j ∧ j ≤ 9) (hk : -9 ≤ k ∧ k ≤ 9) : (qt j).thenE (qt k) = 0 ∧ (qt j).thenM (qt k) = qt (j + k) := by
  unfold qt
  rw [bits3 j (by omega), bits3 k (by omega), bits3 (j + k) (by omega)]
  rw [Int.add_emod]
  have h1 : j % 4 = 0 ∨ j % 4 = 1 ∨ j % 4 = 2 ∨ j % 4 = 3 := by omega
  have h2 : k % 4 = 0 ∨ k % 4 = 1 ∨ k % 4 = 2 ∨ k % 4 = 3 := by omega
  rcases h1 with h1 | h1 | h1 | h1 <;> rcases h2 with h2 | h2 | h2 | h2 <;> rw [h1, h2] <;> exact ⟨by decide, rfl⟩
/-- Shifts add up. -/
theorem shifts_add (x y : Int) (hx : -9000 ≤ x ∧ x ≤ 9000) (hy : -9000 ≤ y ∧ y ≤ 9000) :
    Mat.thenE ⟨4096, 0, 0, 4096, 4096 * x, 4096 * y⟩ ⟨4096, 0, 0, 4096, 4096 * y, 4096 * x⟩ = 0 ∧ Mat.thenM ⟨4096, 0, 0, 4096, 4096 * x, 4096 * y⟩ ⟨4096, 0, 0, 4096, 4096 * y, 4096 * x⟩ = ⟨4096, 0, 0, 4096, 4096 * (x + y), 4096 * (x + y)⟩ := by
  have e1 : Mat.ok ⟨4096, 0, 0, 4096, 4096 * x, 4096 * y⟩ = true := by simp [Mat.ok, inR]; omega
  have e2 : Mat.ok ⟨4096, 0, 0, 4096, 4096 * y, 4096 * x⟩ = true := by simp [Mat.ok, inR]; omega
  have o : Mat.out ⟨4096, 0, 0, 4096, 4096 * x, 4096 * y⟩ ⟨4096, 0, 0, 4096, 4096 * y, 4096 * x⟩ = ⟨4096, 0, 0, 4096, 4096 * (x + y), 4096 * (x + y)⟩ := by
    have a1 : nr (4096 * 4096 + 0 * 0) 4096 = 4096 := by decide
    have a2 : nr (0 * 4096 + 4096 * 0) 4096 = 0 := by decide
    have a3 : nr (4096 * 0 + 0 * 4096) 4096 = 0 := by decide
    have a4 : nr (0 * 0 + 4096 * 4096) 4096 = 4096 := by decide
    have a5 : nr (4096 * (4096 * x) + 0 * (4096 * y)) 4096 = 4096 * x := by rw [Int.zero_mul, Int.add_zero]; exact nr_mul _
    have a6 : nr (0 * (4096 * x) + 4096 * (4096 * y)) 4096 = 4096 * y := by rw [Int.zero_mul, Int.zero_add]; exact nr_mul _
    simp only [Mat.out, a1, a2, a3, a4, a5, a6]
    rw [show 4096 * x + 4096 * y = 4096 * (x + y) by omega, show 4096 * y + 4096 * x = 4096 * (x + y) by omega]
  have e3 : Mat.ok ⟨4096, 0, 0, 4096, 4096 * (x + y), 4096 * (x + y)⟩ = true := by simp [Mat.ok, inR]; omega
  have e : Mat.thenE ⟨4096, 0, 0, 4096, 4096 * x, 4096 * y⟩ ⟨4096, 0, 0, 4096, 4096 * y, 4096 * x⟩ = 0 := by simp [Mat.thenE, e1, e2, o, e3]
  exact ⟨e, by simp [Mat.thenM, e, o]⟩
end Go.Proofs.YthappngbapbkfaaDoor.Aff
