/- affine.Invert: the map's inverse; and back by it: the law's function. -/
import Derived.Test.YtbmgclpgompjmaaSxx
import Derived.Test.YtbmgclpgompjmaaAft
set_option linter.unusedSimpArgs false
set_option linter.unusedVariables false
namespace Go.Proofs.Ytbmgclpgompjmaa.Afi
open Go.RowKit Sx Num Aff Aft
set_option maxRecDepth 100000
def det (m : Mat) : Int := m.a * m.d - m.b * m.c
def sg (d : Int) : Int := if d < 0 then -1 else 1
def ab (d : Int) : Int := if d < 0 then 0 - d else d
def over (m : Mat) (x : Int) : Int := nr (sg (det m) * x) (ab (det m))
def invOut (m : Mat) : Mat := ⟨over m (16777216 * m.d), over m (-16777216 * m.b), over m (-16777216 * m.c), over m (16777216 * m.a), over m (4096 * (m.c * m.f - m.d * m.e)), over m (4096 * (m.b * m.e - m.a * m.f))⟩
def invE (m : Mat) : Int := if m.ok = false then 3 else if det m = 0 then 8 else if (invOut m).ok = false then 10 else 0
def invM (m : Mat) : Mat := if invE m = 0 then invOut m else ⟨0, 0, 0, 0, 0, 0⟩
theorem lo4 (a b : Int) : a * (4096 * b) = 4096 * (a * b) := Int.mul_left_comm a 4096 b
theorem sizeI_mul {T : Int} (a : Int) (h : 1 ≤ T) : sizeI (T * a) = T * sizeI a := by
  rw [sizeI_abs, sizeI_abs, Int.natAbs_mul, Int.natCast_mul]
  congr 1
  omega
theorem nr_err (a : Int) {T : Int} (h : 1 ≤ T) : -T ≤ 2 * (nr a T * T - a) ∧ 2 * (nr a T * T - a) ≤ T := by
  have := nr_spec a T h
  omega
theorem inv_bound {T u v t oU oV oW P Q qX qY z bZ : Int} (hT : 1 ≤ T) (hU : oU = nr (16777216 * u) T) (hV : oV = nr (16777216 * v) T) (hW : oW = nr (4096 * t) T)
    (hP : qX = nr P 4096) (hQ : qY = nr Q 4096) (hb : bZ = nr (oU * qX + oV * qY + oW) 4096) (hz : u * P + v * Q + t = T * z) :
    8192 * sizeI (bZ - z) ≤ 4098 + sizeI qX + sizeI qY + (sizeI oU + sizeI oV) := by
  have eu := nr_err (16777216 * u) hT
  have ev := nr_err (16777216 * v) hT
  have ew := nr_err (4096 * t) hT
  have eq := near4096 P
  have er := near4096 Q
  have eb := near4096 (oU * qX + oV * qY + oW)
  rw [← hU] at eu
  rw [← hV] at ev
  rw [← hW] at ew
  rw [← hP] at eq
  rw [← hQ] at er
  rw [← hb] at eb
  have p1 := mul_abs (x := qX) eu
  have p2 := mul_abs (x := qY) ev
  have p3 := mul_in eu eq
  have p4 := mul_in ev er
  have p5 := mul_abs' (x := T * oU) eq
  have p6 := mul_abs' (x := T * oV) er
  have p7 := mul_abs' (x := T) eb
  rw [sizeI_mul _ hT] at p5 p6
  have sT : sizeI T = T := by unfold sizeI; split <;> omega
  rw [sT] at p7
  simp only [Int.mul_comm oU T, Int.mul_comm oV T, Int.sub_mul, Int.add_mul, Int.mul_sub, Int.mul_add, Int.mul_assoc, lo4 T, lo4 oU, lo4 oV, lo4 u, lo4 v] at p1 p2 p3 p4 p5 p6 p7
  rw [Int.mul_comm oW T] at ew
  have g1 := sizeI_mul (bZ - z) hT
  have g2 := sizeI_abs (T * (bZ - z))
  rw [g1, Int.mul_sub] at g2
  refine Int.le_of_mul_le_mul_left (a := T) ?_ (by omega)
  rw [Int.mul_left_comm T 8192]
  simp only [Int.mul_add]
  generalize T * sizeI (bZ - z) = k at *
  generalize T * sizeI qX = k1 at *
  generalize T * sizeI qY = k2 at *
  generalize T * sizeI oU = k3 at *
  generalize T * sizeI oV = k4 at *
  generalize T * bZ = j1 at *
  generalize T * z = j2 at *
  generalize T * oW = j3 at *
  generalize T * (oU * qX) = j4 at *
  generalize T * (oV * qY) = j5 at *
  generalize T * (oU * P) = j6 at *
  generalize T * (oV * Q) = j7 at *
  generalize u * qX = j8 at *
  generalize v * qY = j9 at *
  generalize u * P = j10 at *
  generalize v * Q = j11 at *
  omega
def spInvert : FSpec := mkSpec 92 (γ := Mat) (fun | [.agg _ g] => some (matD g) | _ => none) (fun g => [matS g]) (fun _ => True)
  (fun g => .tup 2 (lst [matS (invM g), .int .i64 (invE g)]))
theorem ok_invert : SpecOK Try.prog spInvert := by
  refine spec_sound (specs := [spCheck, spOver]) (all_ok (⟨ok_check, ok_over, trivial⟩)) (eqs := []) (fun _ _ h => (List.not_mem_nil h).elim) mixed Try.func92 rfl (by kernel_rfl) (fun _ _ => by kernel_rfl) (fun _ => ⟨[], [(10, [.tmp 7])]⟩) (fun g => Nat.le_of_ble_eq_true (by kernel_rfl)) ?_
  intro m _
  refine vc_of (B := True ∧ True ∧ True ∧ True ∧ ((((((((True ∧ Sx.Ask (IntKind.i64 = IntKind.i64) ∧ Sx.Ask (m.a = m.a)) ∧ Sx.Ask (IntKind.i64 = IntKind.i64) ∧ Sx.Ask (m.b = m.b)) ∧ Sx.Ask (IntKind.i64 = IntKind.i64) ∧ Sx.Ask (m.c = m.c)) ∧ Sx.Ask (IntKind.i64 = IntKind.i64) ∧ Sx.Ask (m.d = m.d)) ∧ Sx.Ask (IntKind.i64 = IntKind.i64) ∧ Sx.Ask (m.e = m.e)) ∧ Sx.Ask (IntKind.i64 = IntKind.i64) ∧ Sx.Ask (m.f = m.f)) ∧ True) ∧ Sx.Ask True) ∧ True ∧ True ∧ True ∧ Sx.Br (decide (m.chk ≠ (0 : Int))) (True ∧ True ∧ True ∧ True ∧ (True ∧ True) ∧ (True ∧ (((((True ∧ Sx.Ask (IntKind.i64 = IntKind.i64) ∧ Sx.Ask ((0 : Int) = (invM m).a)) ∧ Sx.Ask (IntKind.i64 = IntKind.i64) ∧ Sx.Ask ((0 : Int) = (invM m).b)) ∧ Sx.Ask (IntKind.i64 = IntKind.i64) ∧ Sx.Ask ((0 : Int) = (invM m).c)) ∧ Sx.Ask (IntKind.i64 = IntKind.i64) ∧ Sx.Ask ((0 : Int) = (invM m).d)) ∧ Sx.Ask (IntKind.i64 = IntKind.i64) ∧ Sx.Ask ((0 : Int) = (invM m).e)) ∧ Sx.Ask (IntKind.i64 = IntKind.i64) ∧ Sx.Ask ((0 : Int) = (invM m).f)) ∧ Sx.Ask (IntKind.i64 = IntKind.i64) ∧ Sx.Ask (m.chk = invE m)) (True ∧ True ∧ True ∧ True ∧ Sx.Ask ((-9223372036854775808 : Int) ≤ m.a * m.d ∧ m.a * m.d ≤ (9223372036854775807 : Int)) ∧ True ∧ True ∧ True ∧ True ∧ Sx.Ask ((-9223372036854775808 : Int) ≤ m.b * m.c ∧ m.b * m.c ≤ (9223372036854775807 : Int)) ∧ Sx.Ask ((-9223372036854775808 : Int) ≤ m.a * m.d - m.b * m.c ∧ m.a * m.d - m.b * m.c ≤ (9223372036854775807 : Int)) ∧ True ∧ True ∧ True ∧ True ∧ True ∧ True ∧ Sx.Br (decide (m.a * m.d - m.b * m.c = (0 : Int))) (True ∧ True ∧ True ∧ (True ∧ True) ∧ (True ∧ (((((True ∧ Sx.Ask (IntKind.i64 = IntKind.i64) ∧ Sx.Ask ((0 : Int) = (invM m).a)) ∧ Sx.Ask (IntKind.i64 = IntKind.i64) ∧ Sx.Ask ((0 : Int) = (invM m).b)) ∧ Sx.Ask (IntKind.i64 = IntKind.i64) ∧ Sx.Ask ((0 : Int) = (invM m).c)) ∧ Sx.Ask (IntKind.i64 = IntKind.i64) ∧ Sx.Ask ((0 : Int) = (invM m).d)) ∧ Sx.Ask (IntKind.i64 = IntKind.i64) ∧ Sx.Ask ((0 : Int) = (invM m).e)) ∧ Sx.Ask (IntKind.i64 = IntKind.i64) ∧ Sx.Ask ((0 : Int) = (invM m).f)) ∧ Sx.Ask (IntKind.i64 = IntKind.i64) ∧ Sx.Ask ((8 : Int) = invE m)) (True ∧ True ∧ Sx.Br (decide (m.a * m.d - m.b * m.c < (0 : Int))) (True ∧ Sx.Ask ((-9223372036854775808 : Int) ≤ (0 : Int) - (m.a * m.d - m.b * m.c) ∧ (0 : Int) - (m.a * m.d - m.b * m.c) ≤ (9223372036854775807 : Int)) ∧ True ∧ True ∧ True ∧ True ∧ True ∧ True ∧ True ∧ Sx.Ask ((-9223372036854775808 : Int) ≤ (16777216 : Int) * m.d ∧ (16777216 : Int) * m.d ≤ (9223372036854775807 : Int)) ∧ (((Sx.Ask (IntKind.i64 = IntKind.i64) ∧ Sx.Ask ((16777216 : Int) * m.d = (16777216 : Int) * m.d)) ∧ (True ∧ Sx.Ask (IntKind.i64 = IntKind.i64) ∧ Sx.Ask ((-1 : Int) = (-1 : Int))) ∧ (True ∧ Sx.Ask (IntKind.i64 = IntKind.i64) ∧ Sx.Ask ((0 : Int) - (m.a * m.d - m.b * m.c) = (0 : Int) - (m.a * m.d - m.b * m.c))) ∧ True) ∧ Sx.Ask (((-4611686018427387904 : Int) ≤ (-1 : Int) * ((16777216 : Int) * m.d) ∧ (-1 : Int) * ((16777216 : Int) * m.d) ≤ (4611686018427387904 : Int)) ∧ (1 : Int) ≤ (0 : Int) - (m.a * m.d - m.b * m.c) ∧ (0 : Int) - (m.a * m.d - m.b * m.c) ≤ (4611686018427387904 : Int))) ∧ True ∧ True ∧ True ∧ Sx.Ask ((-9223372036854775808 : Int) ≤ (-16777216 : Int) * m.b ∧ (-16777216 : Int) * m.b ≤ (9223372036854775807 : Int)) ∧ (((Sx.Ask (IntKind.i64 = IntKind.i64) ∧ Sx.Ask ((-16777216 : Int) * m.b = (-16777216 : Int) * m.b)) ∧ (True ∧ Sx.Ask (IntKind.i64 = IntKind.i64) ∧ Sx.Ask ((-1 : Int) = (-1 : Int))) ∧ (True ∧ Sx.Ask (IntKind.i64 = IntKind.i64) ∧ Sx.Ask ((0 : Int) - (m.a * m.d - m.b * m.c) = (0 : Int) - (m.a * m.d - m.b * m.c))) ∧ True) ∧ Sx.Ask (((-4611686018427387904 : Int) ≤ (-1 : Int) * ((-16777216 : Int) * m.b) ∧ (-1 : Int) * ((-16777216 : Int) * m.b) ≤ (4611686018427387904 : Int)) ∧ (1 : Int) ≤ (0 : Int) - (m.a * m.d - m.b * m.c) ∧ (0 : Int) - (m.a * m.d - m.b * m.c) ≤ (4611686018427387904 : Int))) ∧ True ∧ True ∧ True ∧ Sx.Ask ((-9223372036854775808 : Int) ≤ (-16777216 : Int) * m.c ∧ (-16777216 : Int) * m.c ≤ (9223372036854775807 : Int)) ∧ (((Sx.Ask (IntKind.i64 = IntKind.i64) ∧ Sx.Ask ((-16777216 : Int) * m.c = (-16777216 : Int) * m.c)) ∧ (True ∧ Sx.Ask (IntKind.i64 = IntKind.i64) ∧ Sx.Ask ((-1 : Int) = (-1 : Int))) ∧ (True ∧ Sx.Ask (IntKind.i64 = IntKind.i64) ∧ Sx.Ask ((0 : Int) - (m.a * m.d - m.b * m.c) = (0 : Int) - (m.a * m.d - m.b * m.c))) ∧ True) ∧ Sx.Ask (((-4611686018427387904 : Int) ≤ (-1 : Int) * ((-16777216 : Int) * m.c) ∧ (-1 : Int) * ((-16777216 : Int) * m.c) ≤ (4611686018427387904 : Int)) ∧ (1 : Int) ≤ (0 : Int) - (m.a * m.d - m.b * m.c) ∧ (0 : Int) - (m.a * m.d - m.b * m.c) ≤ (4611686018427387904 : Int))) ∧ True ∧ True ∧ True ∧ Sx.Ask ((-9223372036854775808 : Int) ≤ (16777216 : Int) * m.a ∧ (16777216 : Int) * m.a ≤ (9223372036854775807 : Int)) ∧ (((Sx.Ask (IntKind.i64 = IntKind.i64) ∧ Sx.Ask ((16777216 : Int) * m.a = (16777216 : Int) * m.a)) ∧ (True ∧ Sx.Ask (IntKind.i64 = IntKind.i64) ∧ Sx.Ask ((-1 : Int) = (-1 : Int))) ∧ (True ∧ Sx.Ask (IntKind.i64 = IntKind.i64) ∧ Sx.Ask ((0 : Int) - (m.a * m.d - m.b * m.c) = (0 : Int) - (m.a * m.d - m.b * m.c))) ∧ True) ∧ Sx.Ask (((-4611686018427387904 : Int) ≤ (-1 : Int) * ((16777216 : Int) * m.a) ∧ (-1 : Int) * ((16777216 : Int) * m.a) ≤ (4611686018427387904 : Int)) ∧ (1 : Int) ≤ (0 : Int) - (m.a * m.d - m.b * m.c) ∧ (0 : Int) - (m.a * m.d - m.b * m.c) ≤ (4611686018427387904 : Int))) ∧ True ∧ True ∧ True ∧ True ∧ True ∧ Sx.Ask ((-9223372036854775808 : Int) ≤ m.c * m.f ∧ m.c * m.f ≤ (9223372036854775807 : Int)) ∧ True ∧ True ∧ True ∧ True ∧ Sx.Ask ((-9223372036854775808 : Int) ≤ m.d * m.e ∧ m.d * m.e ≤ (9223372036854775807 : Int)) ∧ Sx.Ask ((-9223372036854775808 : Int) ≤ m.c * m.f - m.d * m.e ∧ m.c * m.f - m.d * m.e ≤ (9223372036854775807 : Int)) ∧ Sx.Ask ((-9223372036854775808 : Int) ≤ (4096 : Int) * (m.c * m.f - m.d * m.e) ∧ (4096 : Int) * (m.c * m.f - m.d * m.e) ≤ (9223372036854775807 : Int)) ∧ (((Sx.Ask (IntKind.i64 = IntKind.i64) ∧ Sx.Ask ((4096 : Int) * (m.c * m.f - m.d * m.e) = (4096 : Int) * (m.c * m.f - m.d * m.e))) ∧ (True ∧ Sx.Ask (IntKind.i64 = IntKind.i64) ∧ Sx.Ask ((-1 : Int) = (-1 : Int))) ∧ (True ∧ Sx.Ask (IntKind.i64 = IntKind.i64) ∧ Sx.Ask ((0 : Int) - (m.a * m.d - m.b * m.c) = (0 : Int) - (m.a * m.d - m.b * m.c))) ∧ True) ∧ Sx.Ask (((-4611686018427387904 : Int) ≤ (-1 : Int) * ((4096 : Int) * (m.c * m.f - m.d * m.e)) ∧ (-1 : Int) * ((4096 : Int) * (m.c * m.f - m.d * m.e)) ≤ (4611686018427387904 : Int)) ∧ (1 : Int) ≤ (0 : Int) - (m.a * m.d - m.b * m.c) ∧ (0 : Int) - (m.a * m.d - m.b * m.c) ≤ (4611686018427387904 : Int))) ∧ True ∧ True ∧ True ∧ True ∧ True ∧ Sx.Ask ((-9223372036854775808 : Int) ≤ m.b * m.e ∧ m.b * m.e ≤ (9223372036854775807 : Int)) ∧ True ∧ True ∧ True ∧ True ∧ Sx.Ask ((-9223372036854775808 : Int) ≤ m.a * m.f ∧ m.a * m.f ≤ (9223372036854775807 : Int)) ∧ Sx.Ask ((-9223372036854775808 : Int) ≤ m.b * m.e - m.a * m.f ∧ m.b * m.e - m.a * m.f ≤ (9223372036854775807 : Int)) ∧ Sx.Ask ((-9223372036854775808 : Int) ≤ (4096 : Int) * (m.b * m.e - m.a * m.f) ∧ (4096 : Int) * (m.b * m.e - m.a * m.f) ≤ (9223372036854775807 : Int)) ∧ (((Sx.Ask (IntKind.i64 = IntKind.i64) ∧ Sx.Ask ((4096 : Int) * (m.b * m.e - m.a * m.f) = (4096 : Int) * (m.b * m.e - m.a * m.f))) ∧ (True ∧ Sx.Ask (IntKind.i64 = IntKind.i64) ∧ Sx.Ask ((-1 : Int) = (-1 : Int))) ∧ (True ∧ Sx.Ask (IntKind.i64 = IntKind.i64) ∧ Sx.Ask ((0 : Int) - (m.a * m.d - m.b * m.c) = (0 : Int) - (m.a * m.d - m.b * m.c))) ∧ True) ∧ Sx.Ask (((-4611686018427387904 : Int) ≤ (-1 : Int) * ((4096 : Int) * (m.b * m.e - m.a * m.f)) ∧ (-1 : Int) * ((4096 : Int) * (m.b * m.e - m.a * m.f)) ≤ (4611686018427387904 : Int)) ∧ (1 : Int) ≤ (0 : Int) - (m.a * m.d - m.b * m.c) ∧ (0 : Int) - (m.a * m.d - m.b * m.c) ≤ (4611686018427387904 : Int))) ∧ True ∧ True ∧ True ∧ True ∧ ((((((((True ∧ Sx.Ask (IntKind.i64 = IntKind.i64) ∧ Sx.Ask (nr ((-1 : Int) * ((16777216 : Int) * m.d)) ((0 : Int) - (m.a * m.d - m.b * m.c)) = nr ((-1 : Int) * ((16777216 : Int) * m.d)) ((0 : Int) - (m.a * m.d - m.b * m.c)))) ∧ Sx.Ask (IntKind.i64 = IntKind.i64) ∧ Sx.Ask (nr ((-1 : Int) * ((-16777216 : Int) * m.b)) ((0 : Int) - (m.a * m.d - m.b * m.c)) = nr ((-1 : Int) * ((-16777216 : Int) * m.b)) ((0 : Int) - (m.a * m.d - m.b * m.c)))) ∧ Sx.Ask (IntKind.i64 = IntKind.i64) ∧ Sx.Ask (nr ((-1 : Int) * ((-16777216 : Int) * m.c)) ((0 : Int) - (m.a * m.d - m.b * m.c)) = nr ((-1 : Int) * ((-16777216 : Int) * m.c)) ((0 : Int) - (m.a * m.d - m.b * m.c)))) ∧ Sx.Ask (IntKind.i64 = IntKind.i64) ∧ Sx.Ask (nr ((-1 : Int) * ((16777216 : Int) * m.a)) ((0 : Int) - (m.a * m.d - m.b * m.c)) = nr ((-1 : Int) * ((16777216 : Int) * m.a)) ((0 : Int) - (m.a * m.d - m.b * m.c)))) ∧ Sx.Ask (IntKind.i64 = IntKind.i64) ∧ Sx.Ask (nr ((-1 : Int) * ((4096 : Int) * (m.c * m.f - m.d * m.e))) ((0 : Int) - (m.a * m.d - m.b * m.c)) = nr ((-1 : Int) * ((4096 : Int) * (m.c * m.f - m.d * m.e))) ((0 : Int) - (m.a * m.d - m.b * m.c)))) ∧ Sx.Ask (IntKind.i64 = IntKind.i64) ∧ Sx.Ask (nr ((-1 : Int) * ((4096 : Int) * (m.b * m.e - m.a * m.f))) ((0 : Int) - (m.a * m.d - m.b * m.c)) = nr ((-1 : Int) * ((4096 : Int) * (m.b * m.e - m.a * m.f))) ((0 : Int) - (m.a * m.d - m.b * m.c)))) ∧ True) ∧ Sx.Ask True) ∧ True ∧ Sx.Br (decide ((Go.Proofs.Ytbmgclpgompjmaa.Aff.Mat.mk (nr ((-1 : Int) * ((16777216 : Int) * m.d)) ((0 : Int) - (m.a * m.d - m.b * m.c))) (nr ((-1 : Int) * ((-16777216 : Int) * m.b)) ((0 : Int) - (m.a * m.d - m.b * m.c))) (nr ((-1 : Int) * ((-16777216 : Int) * m.c)) ((0 : Int) - (m.a * m.d - m.b * m.c))) (nr ((-1 : Int) * ((16777216 : Int) * m.a)) ((0 : Int) - (m.a * m.d - m.b * m.c))) (nr ((-1 : Int) * ((4096 : Int) * (m.c * m.f - m.d * m.e))) ((0 : Int) - (m.a * m.d - m.b * m.c))) (nr ((-1 : Int) * ((4096 : Int) * (m.b * m.e - m.a * m.f))) ((0 : Int) - (m.a * m.d - m.b * m.c)))).chk ≠ (0 : Int))) (True ∧ True ∧ True ∧ (True ∧ True) ∧ (True ∧ (((((True ∧ Sx.Ask (IntKind.i64 = IntKind.i64) ∧ Sx.Ask ((0 : Int) = (invM m).a)) ∧ Sx.Ask (IntKind.i64 = IntKind.i64) ∧ Sx.Ask ((0 : Int) = (invM m).b)) ∧ Sx.Ask (IntKind.i64 = IntKind.i64) ∧ Sx.Ask ((0 : Int) = (invM m).c)) ∧ Sx.Ask (IntKind.i64 = IntKind.i64) ∧ Sx.Ask ((0 : Int) = (invM m).d)) ∧ Sx.Ask (IntKind.i64 = IntKind.i64) ∧ Sx.Ask ((0 : Int) = (invM m).e)) ∧ Sx.Ask (IntKind.i64 = IntKind.i64) ∧ Sx.Ask ((0 : Int) = (invM m).f)) ∧ Sx.Ask (IntKind.i64 = IntKind.i64) ∧ Sx.Ask ((10 : Int) = invE m)) (True ∧ True ∧ True ∧ (True ∧ True) ∧ (True ∧ (((((True ∧ Sx.Ask (IntKind.i64 = IntKind.i64) ∧ Sx.Ask (nr ((-1 : Int) * ((16777216 : Int) * m.d)) ((0 : Int) - (m.a * m.d - m.b * m.c)) = (invM m).a)) ∧ Sx.Ask (IntKind.i64 = IntKind.i64) ∧ Sx.Ask (nr ((-1 : Int) * ((-16777216 : Int) * m.b)) ((0 : Int) - (m.a * m.d - m.b * m.c)) = (invM m).b)) ∧ Sx.Ask (IntKind.i64 = IntKind.i64) ∧ Sx.Ask (nr ((-1 : Int) * ((-16777216 : Int) * m.c)) ((0 : Int) - (m.a * m.d - m.b * m.c)) = (invM m).c)) ∧ Sx.Ask (IntKind.i64 = IntKind.i64) ∧ Sx.Ask (nr ((-1 : Int) * ((16777216 : Int) * m.a)) ((0 : Int) - (m.a * m.d - m.b * m.c)) = (invM m).d)) ∧ Sx.Ask (IntKind.i64 = IntKind.i64) ∧ Sx.Ask (nr ((-1 : Int) * ((4096 : Int) * (m.c * m.f - m.d * m.e))) ((0 : Int) - (m.a * m.d - m.b * m.c)) = (invM m).e)) ∧ Sx.Ask (IntKind.i64 = IntKind.i64) ∧ Sx.Ask (nr ((-1 : Int) * ((4096 : Int) * (m.b * m.e - m.a * m.f))) ((0 : Int) - (m.a * m.d - m.b * m.c)) = (invM m).f)) ∧ Sx.Ask (IntKind.i64 = IntKind.i64) ∧ Sx.Ask ((0 : Int) = invE m))) (True ∧ True ∧ True ∧ True ∧ True ∧ Sx.Ask ((-9223372036854775808 : Int) ≤ (16777216 : Int) * m.d ∧ (16777216 : Int) * m.d ≤ (9223372036854775807 : Int)) ∧ (((Sx.Ask (IntKind.i64 = IntKind.i64) ∧ Sx.Ask ((16777216 : Int) * m.d = (16777216 : Int) * m.d)) ∧ (True ∧ Sx.Ask (IntKind.i64 = IntKind.i64) ∧ Sx.Ask ((1 : Int) = (1 : Int))) ∧ (True ∧ Sx.Ask (IntKind.i64 = IntKind.i64) ∧ Sx.Ask (m.a * m.d - m.b * m.c = m.a * m.d - m.b * m.c)) ∧ True) ∧ Sx.Ask (((-4611686018427387904 : Int) ≤ (1 : Int) * ((16777216 : Int) * m.d) ∧ (1 : Int) * ((16777216 : Int) * m.d) ≤ (4611686018427387904 : Int)) ∧ (1 : Int) ≤ m.a * m.d - m.b * m.c ∧ m.a * m.d - m.b * m.c ≤ (4611686018427387904 : Int))) ∧ True ∧ True ∧ True ∧ Sx.Ask ((-9223372036854775808 : Int) ≤ (-16777216 : Int) * m.b ∧ (-16777216 : Int) * m.b ≤ (9223372036854775807 : Int)) ∧ (((Sx.Ask (IntKind.i64 = IntKind.i64) ∧ Sx.Ask ((-16777216 : Int) * m.b = (-16777216 : Int) * m.b)) ∧ (True ∧ Sx.Ask (IntKind.i64 = IntKind.i64) ∧ Sx.Ask ((1 : Int) = (1 : Int))) ∧ (True ∧ Sx.Ask (IntKind.i64 = IntKind.i64) ∧ Sx.Ask (m.a * m.d - m.b * m.c = m.a * m.d - m.b * m.c)) ∧ True) ∧ Sx.Ask (((-4611686018427387904 : Int) ≤ (1 : Int) * ((-16777216 : Int) * m.b) ∧ (1 : Int) * ((-16777216 : Int) * m.b) ≤ (4611686018427387904 : Int)) ∧ (1 : Int) ≤ m.a * m.d - m.b * m.c ∧ m.a * m.d - m.b * m.c ≤ (4611686018427387904 : Int))) ∧ True ∧ True ∧ True ∧ Sx.Ask ((-9223372036854775808 : Int) ≤ (-16777216 : Int) * m.c ∧ (-16777216 : Int) * m.c ≤ (9223372036854775807 : Int)) ∧ (((Sx.Ask (IntKind.i64 = IntKind.i64) ∧ Sx.Ask ((-16777216 : Int) * m.c = (-16777216 : Int) * m.c)) ∧ (True ∧ Sx.Ask (IntKind.i64 = IntKind.i64) ∧ Sx.Ask ((1 : Int) = (1 : Int))) ∧ (True ∧ Sx.Ask (IntKind.i64 = IntKind.i64) ∧ Sx.Ask (m.a * m.d - m.b * m.c = m.a * m.d - m.b * m.c)) ∧ True) ∧ Sx.Ask (((-4611686018427387904 : Int) ≤ (1 : Int) * ((-16777216 : Int) * m.c) ∧ (1 : Int) * ((-16777216 : Int) * m.c) ≤ (4611686018427387904 : Int)) ∧ (1 : Int) ≤ m.a * m.d - m.b * m.c ∧ m.a * m.d - m.b * m.c ≤ (4611686018427387904 : Int))) ∧ True ∧ True ∧ True ∧ Sx.Ask ((-9223372036854775808 : Int) ≤ (16777216 : Int) * m.a ∧ (16777216 : Int) * m.a ≤ (9223372036854775807 : Int)) ∧ (((Sx.Ask (IntKind.i64 = IntKind.i64) ∧ Sx.Ask ((16777216 : Int) * m.a = (16777216 : Int) * m.a)) ∧ (True ∧ Sx.Ask (IntKind.i64 = IntKind.i64) ∧ Sx.Ask ((1 : Int) = (1 : Int))) ∧ (True ∧ Sx.Ask (IntKind.i64 = IntKind.i64) ∧ Sx.Ask (m.a * m.d - m.b * m.c = m.a * m.d - m.b * m.c)) ∧ True) ∧ Sx.Ask (((-4611686018427387904 : Int) ≤ (1 : Int) * ((16777216 : Int) * m.a) ∧ (1 : Int) * ((16777216 : Int) * m.a) ≤ (4611686018427387904 : Int)) ∧ (1 : Int) ≤ m.a * m.d - m.b * m.c ∧ m.a * m.d - m.b * m.c ≤ (4611686018427387904 : Int))) ∧ True ∧ True ∧ True ∧ True ∧ True ∧ Sx.Ask ((-9223372036854775808 : Int) ≤ m.c * m.f ∧ m.c * m.f ≤ (9223372036854775807 : Int)) ∧ True ∧ True ∧ True ∧ True ∧ Sx.Ask ((-9223372036854775808 : Int) ≤ m.d * m.e ∧ m.d * m.e ≤ (9223372036854775807 : Int)) ∧ Sx.Ask ((-9223372036854775808 : Int) ≤ m.c * m.f - m.d * m.e ∧ m.c * m.f - m.d * m.e ≤ (9223372036854775807 : Int)) ∧ Sx.Ask ((-9223372036854775808 : Int) ≤ (4096 : Int) * (m.c * m.f - m.d * m.e) ∧ (4096 : Int) * (m.c * m.f - m.d * m.e) ≤ (9223372036854775807 : Int)) ∧ (((Sx.Ask (IntKind.i64 = IntKind.i64) ∧ Sx.Ask ((4096 : Int) * (m.c * m.f - m.d * m.e) = (4096 : Int) * (m.c * m.f - m.d * m.e))) ∧ (True ∧ Sx.Ask (IntKind.i64 = IntKind.i64) ∧ Sx.Ask ((1 : Int) = (1 : Int))) ∧ (True ∧ Sx.Ask (IntKind.i64 = IntKind.i64) ∧ Sx.Ask (m.a * m.d - m.b * m.c = m.a * m.d - m.b * m.c)) ∧ True) ∧ Sx.Ask (((-4611686018427387904 : Int) ≤ (1 : Int) * ((4096 : Int) * (m.c * m.f - m.d * m.e)) ∧ (1 : Int) * ((4096 : Int) * (m.c * m.f - m.d * m.e)) ≤ (4611686018427387904 : Int)) ∧ (1 : Int) ≤ m.a * m.d - m.b * m.c ∧ m.a * m.d - m.b * m.c ≤ (4611686018427387904 : Int))) ∧ True ∧ True ∧ True ∧ True ∧ True ∧ Sx.Ask ((-9223372036854775808 : Int) ≤ m.b * m.e ∧ m.b * m.e ≤ (9223372036854775807 : Int)) ∧ True ∧ True ∧ True ∧ True ∧ Sx.Ask ((-9223372036854775808 : Int) ≤ m.a * m.f ∧ m.a * m.f ≤ (9223372036854775807 : Int)) ∧ Sx.Ask ((-9223372036854775808 : Int) ≤ m.b * m.e - m.a * m.f ∧ m.b * m.e - m.a * m.f ≤ (9223372036854775807 : Int)) ∧ Sx.Ask ((-9223372036854775808 : Int) ≤ (4096 : Int) * (m.b * m.e - m.a * m.f) ∧ (4096 : Int) * (m.b * m.e - m.a * m.f) ≤ (9223372036854775807 : Int)) ∧ (((Sx.Ask (IntKind.i64 = IntKind.i64) ∧ Sx.Ask ((4096 : Int) * (m.b * m.e - m.a * m.f) = (4096 : Int) * (m.b * m.e - m.a * m.f))) ∧ (True ∧ Sx.Ask (IntKind.i64 = IntKind.i64) ∧ Sx.Ask ((1 : Int) = (1 : Int))) ∧ (True ∧ Sx.Ask (IntKind.i64 = IntKind.i64) ∧ Sx.Ask (m.a * m.d - m.b * m.c = m.a * m.d - m.b * m.c)) ∧ True) ∧ Sx.Ask (((-4611686018427387904 : Int) ≤ (1 : Int) * ((4096 : Int) * (m.b * m.e - m.a * m.f)) ∧ (1 : Int) * ((4096 : Int) * (m.b * m.e - m.a * m.f)) ≤ (4611686018427387904 : Int)) ∧ (1 : Int) ≤ m.a * m.d - m.b * m.c ∧ m.a * m.d - m.b * m.c ≤ (4611686018427387904 : Int))) ∧ True ∧ True ∧ True ∧ True ∧ ((((((((True ∧ Sx.Ask (IntKind.i64 = IntKind.i64) ∧ Sx.Ask (nr ((1 : Int) * ((16777216 : Int) * m.d)) (m.a * m.d - m.b * m.c) = nr ((1 : Int) * ((16777216 : Int) * m.d)) (m.a * m.d - m.b * m.c))) ∧ Sx.Ask (IntKind.i64 = IntKind.i64) ∧ Sx.Ask (nr ((1 : Int) * ((-16777216 : Int) * m.b)) (m.a * m.d - m.b * m.c) = nr ((1 : Int) * ((-16777216 : Int) * m.b)) (m.a * m.d - m.b * m.c))) ∧ Sx.Ask (IntKind.i64 = IntKind.i64) ∧ Sx.Ask (nr ((1 : Int) * ((-16777216 : Int) * m.c)) (m.a * m.d - m.b * m.c) = nr ((1 : Int) * ((-16777216 : Int) * m.c)) (m.a * m.d - m.b * m.c))) ∧ Sx.Ask (IntKind.i64 = IntKind.i64) ∧ Sx.Ask (nr ((1 : Int) * ((16777216 : Int) * m.a)) (m.a * m.d - m.b * m.c) = nr ((1 : Int) * ((16777216 : Int) * m.a)) (m.a * m.d - m.b * m.c))) ∧ Sx.Ask (IntKind.i64 = IntKind.i64) ∧ Sx.Ask (nr ((1 : Int) * ((4096 : Int) * (m.c * m.f - m.d * m.e))) (m.a * m.d - m.b * m.c) = nr ((1 : Int) * ((4096 : Int) * (m.c * m.f - m.d * m.e))) (m.a * m.d - m.b * m.c))) ∧ Sx.Ask (IntKind.i64 = IntKind.i64) ∧ Sx.Ask (nr ((1 : Int) * ((4096 : Int) * (m.b * m.e - m.a * m.f))) (m.a * m.d - m.b * m.c) = nr ((1 : Int) * ((4096 : Int) * (m.b * m.e - m.a * m.f))) (m.a * m.d - m.b * m.c))) ∧ True) ∧ Sx.Ask True) ∧ True ∧ Sx.Br (decide ((Go.Proofs.Ytbmgclpgompjmaa.Aff.Mat.mk (nr ((1 : Int) * ((16777216 : Int) * m.d)) (m.a * m.d - m.b * m.c)) (nr ((1 : Int) * ((-16777216 : Int) * m.b)) (m.a * m.d - m.b * m.c)) (nr ((1 : Int) * ((-16777216 : Int) * m.c)) (m.a * m.d - m.b * m.c)) (nr ((1 : Int) * ((16777216 : Int) * m.a)) (m.a * m.d - m.b * m.c)) (nr ((1 : Int) * ((4096 : Int) * (m.c * m.f - m.d * m.e))) (m.a * m.d - m.b * m.c)) (nr ((1 : Int) * ((4096 : Int) * (m.b * m.e - m.a * m.f))) (m.a * m.d - m.b * m.c))).chk ≠ (0 : Int))) (True ∧ True ∧ True ∧ (True ∧ True) ∧ (True ∧ (((((True ∧ Sx.Ask (IntKind.i64 = IntKind.i64) ∧ Sx.Ask ((0 : Int) = (invM m).a)) ∧ Sx.Ask (IntKind.i64 = IntKind.i64) ∧ Sx.Ask ((0 : Int) = (invM m).b)) ∧ Sx.Ask (IntKind.i64 = IntKind.i64) ∧ Sx.Ask ((0 : Int) = (invM m).c)) ∧ Sx.Ask (IntKind.i64 = IntKind.i64) ∧ Sx.Ask ((0 : Int) = (invM m).d)) ∧ Sx.Ask (IntKind.i64 = IntKind.i64) ∧ Sx.Ask ((0 : Int) = (invM m).e)) ∧ Sx.Ask (IntKind.i64 = IntKind.i64) ∧ Sx.Ask ((0 : Int) = (invM m).f)) ∧ Sx.Ask (IntKind.i64 = IntKind.i64) ∧ Sx.Ask ((10 : Int) = invE m)) (True ∧ True ∧ True ∧ (True ∧ True) ∧ (True ∧ (((((True ∧ Sx.Ask (IntKind.i64 = IntKind.i64) ∧ Sx.Ask (nr ((1 : Int) * ((16777216 : Int) * m.d)) (m.a * m.d - m.b * m.c) = (invM m).a)) ∧ Sx.Ask (IntKind.i64 = IntKind.i64) ∧ Sx.Ask (nr ((1 : Int) * ((-16777216 : Int) * m.b)) (m.a * m.d - m.b * m.c) = (invM m).b)) ∧ Sx.Ask (IntKind.i64 = IntKind.i64) ∧ Sx.Ask (nr ((1 : Int) * ((-16777216 : Int) * m.c)) (m.a * m.d - m.b * m.c) = (invM m).c)) ∧ Sx.Ask (IntKind.i64 = IntKind.i64) ∧ Sx.Ask (nr ((1 : Int) * ((16777216 : Int) * m.a)) (m.a * m.d - m.b * m.c) = (invM m).d)) ∧ Sx.Ask (IntKind.i64 = IntKind.i64) ∧ Sx.Ask (nr ((1 : Int) * ((4096 : Int) * (m.c * m.f - m.d * m.e))) (m.a * m.d - m.b * m.c) = (invM m).e)) ∧ Sx.Ask (IntKind.i64 = IntKind.i64) ∧ Sx.Ask (nr ((1 : Int) * ((4096 : Int) * (m.b * m.e - m.a * m.f))) (m.a * m.d - m.b * m.c) = (invM m).f)) ∧ Sx.Ask (IntKind.i64 = IntKind.i64) ∧ Sx.Ask ((0 : Int) = invE m)))))) (by kernel_rfl) ?_
  rcases hm : m.ok with _ | _
  · simp [ask_iff, br_iff, hm, invM, invE, chk_eq m hm]
  have cm := chk_eq0 m hm
  obtain ⟨ma, mb, mc, md, me, mf⟩ := m.ok_in hm
  have p1 := mul_in ma md
  have p2 := mul_in mb mc
  have p3 := mul_in mc mf
  have p4 := mul_in md me
  have p5 := mul_in mb me
  have p6 := mul_in ma mf
  have eo : Mat.mk (over m (16777216 * m.d)) (over m (-16777216 * m.b)) (over m (-16777216 * m.c)) (over m (16777216 * m.a)) (over m (4096 * (m.c * m.f - m.d * m.e))) (over m (4096 * (m.b * m.e - m.a * m.f))) = invOut m := rfl
  by_cases h0 : m.a * m.d - m.b * m.c = 0
  · have h0' : det m = 0 := h0
    have hE : invE m = 8 := by unfold invE; rw [hm]; simp [h0']
    simp [ask_iff, br_iff, cm, h0, invM, hE]
    omega
  have h0' : det m ≠ 0 := h0
  by_cases hn : m.a * m.d - m.b * m.c < 0
  · have hs : sg (det m) = -1 := if_pos hn
    have ha : ab (det m) = 0 - (m.a * m.d - m.b * m.c) := if_pos hn
    have ov : ∀ z, nr (-1 * z) (0 - (m.a * m.d - m.b * m.c)) = over m z := fun z => by unfold over; rw [hs, ha]
    simp only [ov, eo]
    rcases ho : (invOut m).ok with _ | _
    · have hE : invE m = 10 := by unfold invE; rw [hm, ho]; simp [h0']
      simp [ask_iff, br_iff, cm, h0, hn, invM, hE, chk_eq _ ho]
      repeat' (first | apply And.intro | intro _)
      all_goals omega
    · have hE : invE m = 0 := by unfold invE; rw [hm, ho]; simp [h0']
      simp [ask_iff, br_iff, cm, h0, hn, invM, hE, chk_eq0 _ ho]
      repeat' (first | apply And.intro | intro _)
      all_goals first | omega | rfl
  · have hs : sg (det m) = 1 := if_neg hn
    have ha : ab (det m) = m.a * m.d - m.b * m.c := if_neg hn
    have ov : ∀ z, nr (1 * z) (m.a * m.d - m.b * m.c) = over m z := fun z => by unfold over; rw [hs, ha]
    simp only [ov, eo]
    rcases ho : (invOut m).ok with _ | _
    · have hE : invE m = 10 := by unfold invE; rw [hm, ho]; simp [h0']
      simp [ask_iff, br_iff, cm, h0, hn, invM, hE, chk_eq _ ho]
      repeat' (first | apply And.intro | intro _)
      all_goals omega
    · have hE : invE m = 0 := by unfold invE; rw [hm, ho]; simp [h0']
      simp [ask_iff, br_iff, cm, h0, hn, invM, hE, chk_eq0 _ ho]
      repeat' (first | apply And.intro | intro _)
      all_goals first | omega | rfl
theorem inv_ok {m : Mat} (h : invE m = 0) : m.ok = true ∧ det m ≠ 0 ∧ (invOut m).ok = true ∧ invM m = invOut m := by
  have hx : invM m = invOut m := by unfold invM; rw [if_pos h]
  unfold invE at h
  by_cases h2 : det m = 0 <;> rcases h1 : m.ok with _ | _ <;> rcases h3 : (invOut m).ok with _ | _ <;> simp [h1, h2, h3] at h ⊢
  exact hx
theorem sg_ab (d : Int) : sg d * d = ab d := by
  unfold sg ab; split <;> omega
theorem back (m : Mat) (x y : Int) (h : det m ≠ 0) :
    8192 * sizeI ((invOut m).imgX (m.imgX x y) (m.imgY x y) - x) ≤ 4098 + sizeI (m.imgX x y) + sizeI (m.imgY x y) + (sizeI (invOut m).a + sizeI (invOut m).c) ∧
    8192 * sizeI ((invOut m).imgY (m.imgX x y) (m.imgY x y) - y) ≤ 4098 + sizeI (m.imgX x y) + sizeI (m.imgY x y) + (sizeI (invOut m).b + sizeI (invOut m).d) := by
  have hT : 1 ≤ ab (det m) := by unfold ab; split <;> omega
  have k : ∀ z, sg (det m) * (16777216 * z) = 16777216 * (sg (det m) * z) := fun z => Int.mul_left_comm _ _ _
  have k' : ∀ z, sg (det m) * (-16777216 * z) = 16777216 * (sg (det m) * -z) := fun z => by
    rw [show -16777216 * z = 16777216 * -z by omega]; exact Int.mul_left_comm _ _ _
  have k4 : ∀ z, sg (det m) * (4096 * z) = 4096 * (sg (det m) * z) := fun z => Int.mul_left_comm _ _ _
  have ident1 : m.d * (m.a * x + m.c * y + m.e) + -m.c * (m.b * x + m.d * y + m.f) + (m.c * m.f - m.d * m.e) = det m * x := by
    simp only [det, Int.mul_add, Int.add_mul, Int.sub_mul, Int.mul_sub, Int.neg_mul, Int.mul_neg, Int.mul_assoc]
    simp only [Int.mul_comm, Int.mul_left_comm]
    omega
  have ident2 : -m.b * (m.a * x + m.c * y + m.e) + m.a * (m.b * x + m.d * y + m.f) + (m.b * m.e - m.a * m.f) = det m * y := by
    simp only [det, Int.mul_add, Int.add_mul, Int.sub_mul, Int.mul_sub, Int.neg_mul, Int.mul_neg, Int.mul_assoc]
    simp only [Int.mul_comm, Int.mul_left_comm]
    omega
  have z : ∀ u v t P Q r : Int, u * P + v * Q + t = det m * r → sg (det m) * u * P + sg (det m) * v * Q + sg (det m) * t = ab (det m) * r := fun u v t P Q r e => by
    rw [Int.mul_assoc, Int.mul_assoc, ← Int.mul_add, ← Int.mul_add, e, ← Int.mul_assoc, sg_ab]
  constructor
  · exact inv_bound hT (u := sg (det m) * m.d) (v := sg (det m) * -m.c) (t := sg (det m) * (m.c * m.f - m.d * m.e)) (oW := (invOut m).e) (by rw [← k]; rfl) (by rw [← k']; rfl) (by rw [← k4]; rfl) rfl rfl rfl (z _ _ _ _ _ _ ident1)
  · exact inv_bound hT (u := sg (det m) * -m.b) (v := sg (det m) * m.a) (t := sg (det m) * (m.b * m.e - m.a * m.f)) (oW := (invOut m).f) (by rw [← k']; rfl) (by rw [← k]; rfl) (by rw [← k4]; rfl) rfl rfl rfl (z _ _ _ _ _ _ ident2)
end Go.Proofs.Ytbmgclpgompjmaa.Afi
