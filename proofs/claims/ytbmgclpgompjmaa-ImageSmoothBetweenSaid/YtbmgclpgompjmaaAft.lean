/- affine.Then against one map after the other: the law's function. -/
import Derived.Test.YtbmgclpgompjmaaSxx
import Derived.Test.YtbmgclpgompjmaaAff
set_option linter.unusedSimpArgs false
set_option linter.unusedVariables false
namespace Go.Proofs.Ytbmgclpgompjmaa.Aft
open Go.RowKit Sx Num Aff
set_option maxRecDepth 100000
theorem sizeI_abs (x : Int) : sizeI x = x.natAbs := by unfold sizeI; split <;> omega
theorem near4096 (z : Int) : -2048 ≤ 4096 * nr z 4096 - z ∧ 4096 * nr z 4096 - z ≤ 2048 := by
  have := nr_spec z 4096 (by omega)
  omega
theorem mul_abs {e x E : Int} (h : -E ≤ e ∧ e ≤ E) : -(E * sizeI x) ≤ e * x ∧ e * x ≤ E * sizeI x := by
  have := mul_in (a := e) (x := x) (A := E) (X := sizeI x) h (by rw [sizeI_abs]; omega)
  exact this
theorem mul_abs' {e x E : Int} (h : -E ≤ e ∧ e ≤ E) : -(E * sizeI x) ≤ x * e ∧ x * e ≤ E * sizeI x := by
  rw [Int.mul_comm x e]
  exact mul_abs h
theorem size_b {z B : Int} (h : -B ≤ z ∧ z ≤ B) : 0 ≤ sizeI z ∧ sizeI z ≤ B := by rw [sizeI_abs]; omega
theorem then_bound {nA nC nE mA mB mC mD mE mF x y qX qY oA oC oE aX bX : Int} (h1 : oA = nr (nA * mA + nC * mB) 4096) (h3 : oC = nr (nA * mC + nC * mD) 4096) (h5 : oE = nr (nA * mE + nC * mF) 4096 + nE)
    (ha : aX = nr (oA * x + oC * y + oE) 4096) (hq : qX = nr (mA * x + mC * y + mE) 4096) (hr : qY = nr (mB * x + mD * y + mF) 4096) (hb : bX = nr (nA * qX + nC * qY + nE) 4096) :
    8192 * sizeI (aX - bX) ≤ 8193 + sizeI x + sizeI y + (sizeI nA + sizeI nC) := by
  have e1 := near4096 (nA * mA + nC * mB)
  have e3 := near4096 (nA * mC + nC * mD)
  have e5 := near4096 (nA * mE + nC * mF)
  have ea := near4096 (oA * x + oC * y + oE)
  have eq := near4096 (mA * x + mC * y + mE)
  have er := near4096 (mB * x + mD * y + mF)
  have eb := near4096 (nA * qX + nC * qY + nE)
  rw [← h1] at e1
  rw [← h3] at e3
  rw [← ha] at ea
  rw [← hq] at eq
  rw [← hr] at er
  rw [← hb] at eb
  have f5 : nr (nA * mE + nC * mF) 4096 = oE - nE := by omega
  rw [f5] at e5
  have p1 := mul_abs (x := x) e1
  have p3 := mul_abs (x := y) e3
  have p4 := mul_abs' (x := nA) eq
  have p5 := mul_abs' (x := nC) er
  simp only [Int.sub_mul, Int.add_mul, Int.mul_sub, Int.mul_add, Int.mul_assoc] at p1 p3 p4 p5
  rw [Int.mul_left_comm nA 4096 qX] at p4
  rw [Int.mul_left_comm nC 4096 qY] at p5
  have s := sizeI_abs (aX - bX)
  have sx := sizeI_abs x
  have sy := sizeI_abs y
  have sa := sizeI_abs nA
  have sc := sizeI_abs nC
  generalize oA * x = t1 at *
  generalize oC * y = t2 at *
  generalize nA * qX = t3 at *
  generalize nC * qY = t4 at *
  generalize nA * (mA * x) = t5 at *
  generalize nC * (mB * x) = t6 at *
  generalize nA * (mC * y) = t7 at *
  generalize nC * (mD * y) = t8 at *
  generalize nA * mE = t9 at *
  generalize nC * mF = t10 at *
  generalize sizeI (aX - bX) = u at *
  generalize sizeI x = ux at *
  generalize sizeI y = uy at *
  generalize sizeI nA = ua at *
  generalize sizeI nC = uc at *
  omega
theorem app_ok {m : Mat} {x y : Int} (h : m.appE x y = 0) : m.ok = true ∧ inR x 32767 = true ∧ inR y 32767 = true ∧ inR (m.imgX x y) 32767 = true ∧ inR (m.imgY x y) 32767 = true ∧ m.appX x y = m.imgX x y ∧ m.appY x y = m.imgY x y := by
  have hx : m.appX x y = m.imgX x y := by unfold Mat.appX; rw [if_pos h]
  have hy : m.appY x y = m.imgY x y := by unfold Mat.appY; rw [if_pos h]
  unfold Mat.appE at h
  rcases h1 : m.ok with _ | _ <;> rcases h2 : inR x 32767 with _ | _ <;> rcases h3 : inR y 32767 with _ | _ <;> rcases h4 : inR (m.imgX x y) 32767 with _ | _ <;> rcases h5 : inR (m.imgY x y) 32767 with _ | _ <;> simp [h1, h2, h3, h4, h5] at h ⊢
  exact ⟨hx, hy⟩
theorem then_ok {m n : Mat} (h : m.thenE n = 0) : m.ok = true ∧ n.ok = true ∧ (m.out n).ok = true ∧ m.thenM n = m.out n := by
  have hx : m.thenM n = m.out n := by unfold Mat.thenM; rw [if_pos h]
  unfold Mat.thenE at h
  rcases h1 : m.ok with _ | _ <;> rcases h2 : n.ok with _ | _ <;> rcases h3 : (m.out n).ok with _ | _ <;> simp [h1, h2, h3] at h ⊢
  exact hx
end Go.Proofs.Ytbmgclpgompjmaa.Aft
