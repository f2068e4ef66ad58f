/- affine.Then against one map after the other: the law's function. -/
import Derived.Test.YtmedlibkhlgdjaaSxx
import Derived.Test.YtmedlibkhlgdjaaAff
namespace Go.Proofs.Ytmedlibkhlgdjaa.Aft
open Go.RowKit Sx Num Aff
set_option maxRecDepth 100000
theorem sizeI_abs (x : Int) : sizeI x = x.natAbs := by unfold sizeI; split <;> omega
theorem near4096 (z : Int) : -2048 ≤ 4096 * nr z 4096 - z ∧ 4096 * nr z 4096 - z ≤ 2048 := by
  have := nr_spec z 4096 (by omega)
  omega
theorem mul_abs {e x E : Int} (h : -E ≤ e ∧ e ≤ E) : -(E * sizeI x) ≤ e * x ∧ e * x ≤ E * sizeI x := by
  have := mul_in (a := e) (x := x) (A := E) (X := sizeI x) h (by rw [sizeI_abs]; omega)
  exact this
theorem mul_abs' {e x E : Int} (h : -E ≤ e ∧ e ≤ E) : -(E * sizeI x) ≤ x * e ∧ x * e ≤ E * sizeI x := by
  rw [Int.mul_comm x e]
  exact mul_abs h
theorem size_b {z B : Int} (h : -B ≤ z ∧ z ≤ B) : 0 ≤ sizeI z ∧ sizeI z ≤ B := by rw [sizeI_abs]; omega
theorem then_bound {nA nC nE mA mB mC mD mE mF x y qX qY oA oC oE aX bX : Int} (h1 : oA = nr (nA * mA + nC * mB) 4096) (h3 : oC = nr (nA * mC + nC * mD) 4096) (h5 : oE = nr (nA * mE + nC * mF) 4096 + nE)
    (ha : aX = nr (oA * x + oC * y + oE) 4096) (hq : qX = nr (mA * x + mC * y + mE) 4096) (hr : qY = nr (mB * x + mD * y + mF) 4096) (hb : bX = nr (nA * qX + nC * qY + nE) 4096) :
    8192 * sizeI (aX - bX) ≤ 8193 + sizeI x + sizeI y + (sizeI nA + sizeI nC) := by
  have e1 := near4096 (nA * mA + nC * mB)
  have e3 := near4096 (nA * mC + nC * mD)
  have e5 := near4096 (nA * mE + nC * mF)
  have ea := near4096 (oA * x + oC * y + oE)
  have eq := near4096 (mA * x + mC * y + mE)
  have er := near4096 (mB * x + mD * y + mF)
  have eb := near4096 (nA * qX + nC * qY + nE)
  rw [← h1] at e1
  rw [← h3] at e3
  rw [← ha] at ea
  rw [← hq] at eq
  rw [← hr] at er
  rw [← hb] at eb
  have f5 : nr (nA * mE + nC * mF) 4096 = oE - nE := by omega
  rw [f5] at e5
  have p1 := mul_abs (x := x) e1
  have p3 := mul_abs (x := y) e3
  have p4 := mul_abs' (x := nA) eq
  have p5 := mul_abs' (x := nC) er
  simp only [Int.sub_mul, Int.add_mul, Int.mul_sub, Int.mul_add, Int.mul_assoc] at p1 p3 p4 p5
  rw [Int.mul_left_comm nA 4096 qX] at p4
  rw [Int.mul_left_comm nC 4096 qY] at p5
  have s := sizeI_abs (aX - bX)
  have sx := sizeI_abs x
  have sy := sizeI_abs y
  have sa := sizeI_abs nA
  have sc := sizeI_abs nC
  generalize oA * x = t1 at *
  generalize oC * y = t2 at *
  generalize nA * qX = t3 at *
  generalize nC * qY = t4 at *
  generalize nA * (mA * x) = t5 at *
  generalize nC * (mB * x) = t6 at *
  generalize nA * (mC * y) = t7 at *
  generalize nC * (mD * y) = t8 at *
  generalize nA * mE = t9 at *
  generalize nC * mF = t10 at *
  generalize sizeI (aX - bX) = u at *
  generalize sizeI x = ux at *
  generalize sizeI y = uy at *
  generalize sizeI nA = ua at *
  generalize sizeI nC = uc at *
  omega
theorem app_ok {m : Mat} {x y : Int} (h : m.appE x y = 0) : m.ok = true ∧ inR x 32767 = true ∧ inR y 32767 = true ∧ inR (m.imgX x y) 32767 = true ∧ inR (m.imgY x y) 32767 = true ∧ m.appX x y = m.imgX x y ∧ m.appY x y = m.imgY x y := by
  have hx : m.appX x y = m.imgX x y := by unfold Mat.appX; rw [if_pos h]
  have hy : m.appY x y = m.imgY x y := by unfold Mat.appY; rw [if_pos h]
  unfold Mat.appE at h
  rcases h1 : m.ok with _ | _ <;> rcases h2 : inR x 32767 with _ | _ <;> rcases h3 : inR y 32767 with _ | _ <;> rcases h4 : inR (m.imgX x y) 32767 with _ | _ <;> rcases h5 : inR (m.imgY x y) 32767 with _ | _ <;> simp [h1, h2, h3, h4, h5] at h ⊢
  exact ⟨hx, hy⟩
theorem then_ok {m n : Mat} (h : m.thenE n = 0) : m.ok = true ∧ n.ok = true ∧ (m.out n).ok = true ∧ m.thenM n = m.out n := by
  have hx : m.thenM n = m.out n := by unfold Mat.thenM; rw [if_pos h]
  unfold Mat.thenE at h
  rcases h1 : m.ok with _ | _ <;> rcases h2 : n.ok with _ | _ <;> rcases h3 : (m.out n).ok with _ | _ <;> simp [h1, h2, h3] at h ⊢
  exact hx
def spThenBound : FSpec := mkSpec 6 (γ := Mat × Mat × Int × Int) (fun | [.agg _ g, .agg _ h, .agg _ p] => some (matD g, matD h, intOf (p 0), intOf (p 1)) | _ => none) (fun g => [matS g.1, matS g.2.1, .agg 2 (lst [.int .i64 g.2.2.1, .int .i64 g.2.2.2])]) (fun _ => True) (fun _ => .bool true)
theorem ok_thenBound : SpecOK Try.prog spThenBound := by
  refine spec_sound (specs := [spMaps, spThen, spApply, spSize]) (all_ok (⟨ok_maps, ok_then, ok_apply, ok_size, trivial⟩)) (eqs := eqP) (all_eq eqP_ok) mixed Try.func6 rfl (by kernel_rfl) (fun _ _ => by kernel_rfl) (fun _ => A0) (fun g => Nat.le_of_ble_eq_true (by kernel_rfl)) ?_
  rintro ⟨m, n, x, y⟩ _
  refine vc_of (B := True ∧ True ∧ True ∧ True ∧ (True ∧ Sx.Ask True) ∧ True ∧ True ∧ True ∧ ((((((((True ∧ Sx.Ask (IntKind.i64 = IntKind.i64) ∧ Sx.Ask (m.a = m.a)) ∧ Sx.Ask (IntKind.i64 = IntKind.i64) ∧ Sx.Ask (m.b = m.b)) ∧ Sx.Ask (IntKind.i64 = IntKind.i64) ∧ Sx.Ask (m.c = m.c)) ∧ Sx.Ask (IntKind.i64 = IntKind.i64) ∧ Sx.Ask (m.d = m.d)) ∧ Sx.Ask (IntKind.i64 = IntKind.i64) ∧ Sx.Ask (m.e = m.e)) ∧ Sx.Ask (IntKind.i64 = IntKind.i64) ∧ Sx.Ask (m.f = m.f)) ∧ ((((((True ∧ Sx.Ask (IntKind.i64 = IntKind.i64) ∧ Sx.Ask (n.a = n.a)) ∧ Sx.Ask (IntKind.i64 = IntKind.i64) ∧ Sx.Ask (n.b = n.b)) ∧ Sx.Ask (IntKind.i64 = IntKind.i64) ∧ Sx.Ask (n.c = n.c)) ∧ Sx.Ask (IntKind.i64 = IntKind.i64) ∧ Sx.Ask (n.d = n.d)) ∧ Sx.Ask (IntKind.i64 = IntKind.i64) ∧ Sx.Ask (n.e = n.e)) ∧ Sx.Ask (IntKind.i64 = IntKind.i64) ∧ Sx.Ask (n.f = n.f)) ∧ True) ∧ Sx.Ask True) ∧ True ∧ True ∧ True ∧ True ∧ True ∧ True ∧ True ∧ True ∧ ((((((((True ∧ Sx.Ask (IntKind.i64 = IntKind.i64) ∧ Sx.Ask ((m.thenM n).a = (m.thenM n).a)) ∧ Sx.Ask (IntKind.i64 = IntKind.i64) ∧ Sx.Ask ((m.thenM n).b = (m.thenM n).b)) ∧ Sx.Ask (IntKind.i64 = IntKind.i64) ∧ Sx.Ask ((m.thenM n).c = (m.thenM n).c)) ∧ Sx.Ask (IntKind.i64 = IntKind.i64) ∧ Sx.Ask ((m.thenM n).d = (m.thenM n).d)) ∧ Sx.Ask (IntKind.i64 = IntKind.i64) ∧ Sx.Ask ((m.thenM n).e = (m.thenM n).e)) ∧ Sx.Ask (IntKind.i64 = IntKind.i64) ∧ Sx.Ask ((m.thenM n).f = (m.thenM n).f)) ∧ ((True ∧ Sx.Ask (IntKind.i64 = IntKind.i64) ∧ Sx.Ask (x = x)) ∧ Sx.Ask (IntKind.i64 = IntKind.i64) ∧ Sx.Ask (y = y)) ∧ True) ∧ Sx.Ask True) ∧ True ∧ True ∧ True ∧ True ∧ True ∧ True ∧ True ∧ True ∧ ((((((((True ∧ Sx.Ask (IntKind.i64 = IntKind.i64) ∧ Sx.Ask (m.a = m.a)) ∧ Sx.Ask (IntKind.i64 = IntKind.i64) ∧ Sx.Ask (m.b = m.b)) ∧ Sx.Ask (IntKind.i64 = IntKind.i64) ∧ Sx.Ask (m.c = m.c)) ∧ Sx.Ask (IntKind.i64 = IntKind.i64) ∧ Sx.Ask (m.d = m.d)) ∧ Sx.Ask (IntKind.i64 = IntKind.i64) ∧ Sx.Ask (m.e = m.e)) ∧ Sx.Ask (IntKind.i64 = IntKind.i64) ∧ Sx.Ask (m.f = m.f)) ∧ ((True ∧ Sx.Ask (IntKind.i64 = IntKind.i64) ∧ Sx.Ask (x = x)) ∧ Sx.Ask (IntKind.i64 = IntKind.i64) ∧ Sx.Ask (y = y)) ∧ True) ∧ Sx.Ask True) ∧ True ∧ True ∧ True ∧ True ∧ True ∧ True ∧ True ∧ True ∧ ((((((((True ∧ Sx.Ask (IntKind.i64 = IntKind.i64) ∧ Sx.Ask (n.a = n.a)) ∧ Sx.Ask (IntKind.i64 = IntKind.i64) ∧ Sx.Ask (n.b = n.b)) ∧ Sx.Ask (IntKind.i64 = IntKind.i64) ∧ Sx.Ask (n.c = n.c)) ∧ Sx.Ask (IntKind.i64 = IntKind.i64) ∧ Sx.Ask (n.d = n.d)) ∧ Sx.Ask (IntKind.i64 = IntKind.i64) ∧ Sx.Ask (n.e = n.e)) ∧ Sx.Ask (IntKind.i64 = IntKind.i64) ∧ Sx.Ask (n.f = n.f)) ∧ ((True ∧ Sx.Ask (IntKind.i64 = IntKind.i64) ∧ Sx.Ask (m.appX x y = m.appX x y)) ∧ Sx.Ask (IntKind.i64 = IntKind.i64) ∧ Sx.Ask (m.appY x y = m.appY x y)) ∧ True) ∧ Sx.Ask True) ∧ True ∧ True ∧ True ∧ True ∧ True ∧ True ∧ True ∧ True ∧ True ∧ Sx.Br (decide (m.thenE n ≠ (0 : Int))) (True ∧ True ∧ True ∧ True ∧ True ∧ True ∧ True ∧ Sx.Ask (true = true)) (True ∧ True ∧ True ∧ True ∧ Sx.Br (decide ((m.thenM n).appE x y ≠ (0 : Int))) (True ∧ True ∧ True ∧ True ∧ True ∧ Sx.Ask (true = true)) (True ∧ True ∧ True ∧ True ∧ Sx.Br (decide (m.appE x y ≠ (0 : Int))) (True ∧ True ∧ True ∧ Sx.Ask (true = true)) (True ∧ True ∧ True ∧ Sx.Br (decide (n.appE (m.appX x y) (m.appY x y) ≠ (0 : Int))) (True ∧ True ∧ Sx.Ask (true = true)) (True ∧ True ∧ (((Sx.Ask (IntKind.i64 = IntKind.i64) ∧ Sx.Ask (x = x)) ∧ True) ∧ Sx.Ask ((-4611686018427387904 : Int) ≤ x ∧ x ≤ (4611686018427387904 : Int))) ∧ Sx.Ask ((-9223372036854775808 : Int) ≤ (8193 : Int) + Go.Proofs.Ytmedlibkhlgdjaa.Aff.sizeI x ∧ (8193 : Int) + Go.Proofs.Ytmedlibkhlgdjaa.Aff.sizeI x ≤ (9223372036854775807 : Int)) ∧ True ∧ True ∧ (((Sx.Ask (IntKind.i64 = IntKind.i64) ∧ Sx.Ask (y = y)) ∧ True) ∧ Sx.Ask ((-4611686018427387904 : Int) ≤ y ∧ y ≤ (4611686018427387904 : Int))) ∧ Sx.Ask ((-9223372036854775808 : Int) ≤ (8193 : Int) + Go.Proofs.Ytmedlibkhlgdjaa.Aff.sizeI x + Go.Proofs.Ytmedlibkhlgdjaa.Aff.sizeI y ∧ (8193 : Int) + Go.Proofs.Ytmedlibkhlgdjaa.Aff.sizeI x + Go.Proofs.Ytmedlibkhlgdjaa.Aff.sizeI y ≤ (9223372036854775807 : Int)) ∧ True ∧ True ∧ True ∧ True ∧ True ∧ Sx.Ask ((-9223372036854775808 : Int) ≤ (m.thenM n).appX x y - n.appX (m.appX x y) (m.appY x y) ∧ (m.thenM n).appX x y - n.appX (m.appX x y) (m.appY x y) ≤ (9223372036854775807 : Int)) ∧ (((Sx.Ask (IntKind.i64 = IntKind.i64) ∧ Sx.Ask ((m.thenM n).appX x y - n.appX (m.appX x y) (m.appY x y) = (m.thenM n).appX x y - n.appX (m.appX x y) (m.appY x y))) ∧ True) ∧ Sx.Ask ((-4611686018427387904 : Int) ≤ (m.thenM n).appX x y - n.appX (m.appX x y) (m.appY x y) ∧ (m.thenM n).appX x y - n.appX (m.appX x y) (m.appY x y) ≤ (4611686018427387904 : Int))) ∧ Sx.Ask ((-9223372036854775808 : Int) ≤ (8192 : Int) * Go.Proofs.Ytmedlibkhlgdjaa.Aff.sizeI ((m.thenM n).appX x y - n.appX (m.appX x y) (m.appY x y)) ∧ (8192 : Int) * Go.Proofs.Ytmedlibkhlgdjaa.Aff.sizeI ((m.thenM n).appX x y - n.appX (m.appX x y) (m.appY x y)) ≤ (9223372036854775807 : Int)) ∧ True ∧ True ∧ True ∧ (((Sx.Ask (IntKind.i64 = IntKind.i64) ∧ Sx.Ask (n.a = n.a)) ∧ True) ∧ Sx.Ask ((-4611686018427387904 : Int) ≤ n.a ∧ n.a ≤ (4611686018427387904 : Int))) ∧ Sx.Ask ((-9223372036854775808 : Int) ≤ (8193 : Int) + Go.Proofs.Ytmedlibkhlgdjaa.Aff.sizeI x + Go.Proofs.Ytmedlibkhlgdjaa.Aff.sizeI y + Go.Proofs.Ytmedlibkhlgdjaa.Aff.sizeI n.a ∧ (8193 : Int) + Go.Proofs.Ytmedlibkhlgdjaa.Aff.sizeI x + Go.Proofs.Ytmedlibkhlgdjaa.Aff.sizeI y + Go.Proofs.Ytmedlibkhlgdjaa.Aff.sizeI n.a ≤ (9223372036854775807 : Int)) ∧ True ∧ True ∧ (((Sx.Ask (IntKind.i64 = IntKind.i64) ∧ Sx.Ask (n.c = n.c)) ∧ True) ∧ Sx.Ask ((-4611686018427387904 : Int) ≤ n.c ∧ n.c ≤ (4611686018427387904 : Int))) ∧ Sx.Ask ((-9223372036854775808 : Int) ≤ (8193 : Int) + Go.Proofs.Ytmedlibkhlgdjaa.Aff.sizeI x + Go.Proofs.Ytmedlibkhlgdjaa.Aff.sizeI y + Go.Proofs.Ytmedlibkhlgdjaa.Aff.sizeI n.a + Go.Proofs.Ytmedlibkhlgdjaa.Aff.sizeI n.c ∧ (8193 : Int) + Go.Proofs.Ytmedlibkhlgdjaa.Aff.sizeI x + Go.Proofs.Ytmedlibkhlgdjaa.Aff.sizeI y + Go.Proofs.Ytmedlibkhlgdjaa.Aff.sizeI n.a + Go.Proofs.Ytmedlibkhlgdjaa.Aff.sizeI n.c ≤ (9223372036854775807 : Int)) ∧ True ∧ True ∧ Sx.Br (decide ((8192 : Int) * Go.Proofs.Ytmedlibkhlgdjaa.Aff.sizeI ((m.thenM n).appX x y - n.appX (m.appX x y) (m.appY x y)) ≤ (8193 : Int) + Go.Proofs.Ytmedlibkhlgdjaa.Aff.sizeI x + Go.Proofs.Ytmedlibkhlgdjaa.Aff.sizeI y + Go.Proofs.Ytmedlibkhlgdjaa.Aff.sizeI n.a + Go.Proofs.Ytmedlibkhlgdjaa.Aff.sizeI n.c)) (True ∧ True ∧ True ∧ True ∧ Sx.Ask ((-9223372036854775808 : Int) ≤ (m.thenM n).appY x y - n.appY (m.appX x y) (m.appY x y) ∧ (m.thenM n).appY x y - n.appY (m.appX x y) (m.appY x y) ≤ (9223372036854775807 : Int)) ∧ (((Sx.Ask (IntKind.i64 = IntKind.i64) ∧ Sx.Ask ((m.thenM n).appY x y - n.appY (m.appX x y) (m.appY x y) = (m.thenM n).appY x y - n.appY (m.appX x y) (m.appY x y))) ∧ True) ∧ Sx.Ask ((-4611686018427387904 : Int) ≤ (m.thenM n).appY x y - n.appY (m.appX x y) (m.appY x y) ∧ (m.thenM n).appY x y - n.appY (m.appX x y) (m.appY x y) ≤ (4611686018427387904 : Int))) ∧ Sx.Ask ((-9223372036854775808 : Int) ≤ (8192 : Int) * Go.Proofs.Ytmedlibkhlgdjaa.Aff.sizeI ((m.thenM n).appY x y - n.appY (m.appX x y) (m.appY x y)) ∧ (8192 : Int) * Go.Proofs.Ytmedlibkhlgdjaa.Aff.sizeI ((m.thenM n).appY x y - n.appY (m.appX x y) (m.appY x y)) ≤ (9223372036854775807 : Int)) ∧ True ∧ True ∧ True ∧ (((Sx.Ask (IntKind.i64 = IntKind.i64) ∧ Sx.Ask (n.b = n.b)) ∧ True) ∧ Sx.Ask ((-4611686018427387904 : Int) ≤ n.b ∧ n.b ≤ (4611686018427387904 : Int))) ∧ Sx.Ask ((-9223372036854775808 : Int) ≤ (8193 : Int) + Go.Proofs.Ytmedlibkhlgdjaa.Aff.sizeI x + Go.Proofs.Ytmedlibkhlgdjaa.Aff.sizeI y + Go.Proofs.Ytmedlibkhlgdjaa.Aff.sizeI n.b ∧ (8193 : Int) + Go.Proofs.Ytmedlibkhlgdjaa.Aff.sizeI x + Go.Proofs.Ytmedlibkhlgdjaa.Aff.sizeI y + Go.Proofs.Ytmedlibkhlgdjaa.Aff.sizeI n.b ≤ (9223372036854775807 : Int)) ∧ True ∧ True ∧ (((Sx.Ask (IntKind.i64 = IntKind.i64) ∧ Sx.Ask (n.d = n.d)) ∧ True) ∧ Sx.Ask ((-4611686018427387904 : Int) ≤ n.d ∧ n.d ≤ (4611686018427387904 : Int))) ∧ Sx.Ask ((-9223372036854775808 : Int) ≤ (8193 : Int) + Go.Proofs.Ytmedlibkhlgdjaa.Aff.sizeI x + Go.Proofs.Ytmedlibkhlgdjaa.Aff.sizeI y + Go.Proofs.Ytmedlibkhlgdjaa.Aff.sizeI n.b + Go.Proofs.Ytmedlibkhlgdjaa.Aff.sizeI n.d ∧ (8193 : Int) + Go.Proofs.Ytmedlibkhlgdjaa.Aff.sizeI x + Go.Proofs.Ytmedlibkhlgdjaa.Aff.sizeI y + Go.Proofs.Ytmedlibkhlgdjaa.Aff.sizeI n.b + Go.Proofs.Ytmedlibkhlgdjaa.Aff.sizeI n.d ≤ (9223372036854775807 : Int)) ∧ True ∧ True ∧ True ∧ True ∧ Sx.Ask (decide ((8192 : Int) * Go.Proofs.Ytmedlibkhlgdjaa.Aff.sizeI ((m.thenM n).appY x y - n.appY (m.appX x y) (m.appY x y)) ≤ (8193 : Int) + Go.Proofs.Ytmedlibkhlgdjaa.Aff.sizeI x + Go.Proofs.Ytmedlibkhlgdjaa.Aff.sizeI y + Go.Proofs.Ytmedlibkhlgdjaa.Aff.sizeI n.b + Go.Proofs.Ytmedlibkhlgdjaa.Aff.sizeI n.d) = true)) (True ∧ True ∧ True ∧ Sx.Ask (false = true))))))) (by kernel_rfl) ?_
  by_cases h1 : m.thenE n = 0
  case neg => simp [ask_iff, br_iff, h1]
  by_cases h2 : (m.thenM n).appE x y = 0
  case neg => simp [ask_iff, br_iff, h1, h2]
  by_cases h3 : m.appE x y = 0
  case neg => simp [ask_iff, br_iff, h1, h2, h3]
  obtain ⟨_, _, _, _, _, qx, qy⟩ := app_ok h3
  rw [qx, qy]
  by_cases h4 : n.appE (m.imgX x y) (m.imgY x y) = 0
  case neg => simp [ask_iff, br_iff, h1, h2, h3, h4]
  obtain ⟨o1, o2, o3, o4⟩ := then_ok h1
  obtain ⟨_, x1, y1, a1, a2, ax, ay⟩ := app_ok h2
  obtain ⟨_, _, _, b1, b2, bx, byy⟩ := app_ok h4
  rw [ax, ay, bx, byy]
  rw [o4] at a1 a2
  have c1 := then_bound (nA := n.a) (nC := n.c) (nE := n.e) (mA := m.a) (mB := m.b) (mC := m.c) (mD := m.d) (mE := m.e) (mF := m.f) (x := x) (y := y) (qX := m.imgX x y) (qY := m.imgY x y) (oA := (m.out n).a) (oC := (m.out n).c) (oE := (m.out n).e) (aX := (m.out n).imgX x y) (bX := n.imgX (m.imgX x y) (m.imgY x y)) rfl rfl rfl rfl rfl rfl rfl
  have c2 := then_bound (nA := n.b) (nC := n.d) (nE := n.f) (mA := m.a) (mB := m.b) (mC := m.c) (mD := m.d) (mE := m.e) (mF := m.f) (x := x) (y := y) (qX := m.imgX x y) (qY := m.imgY x y) (oA := (m.out n).b) (oC := (m.out n).d) (oE := (m.out n).f) (aX := (m.out n).imgY x y) (bX := n.imgY (m.imgX x y) (m.imgY x y)) rfl rfl rfl rfl rfl rfl rfl
  have r1 := inR_true.1 x1
  have r2 := inR_true.1 y1
  have r3 := inR_true.1 a1
  have r4 := inR_true.1 a2
  have r5 := inR_true.1 b1
  have r6 := inR_true.1 b2
  obtain ⟨na, nb, nc, nd, ne, nf⟩ := n.ok_in o2
  have s1 := size_b r1
  have s2 := size_b r2
  have s3 := size_b (z := (m.out n).imgX x y - n.imgX (m.imgX x y) (m.imgY x y)) (B := 65534) (by omega)
  have s4 := size_b (z := (m.out n).imgY x y - n.imgY (m.imgX x y) (m.imgY x y)) (B := 65534) (by omega)
  have s5 := size_b na
  have s6 := size_b nb
  have s7 := size_b nc
  have s8 := size_b nd
  rw [o4] at h2 ⊢
  simp [ask_iff, br_iff, h1, h2, h3, h4]
  repeat' (first | apply And.intro | intro _)
  all_goals omega
end Go.Proofs.Ytmedlibkhlgdjaa.Aft
