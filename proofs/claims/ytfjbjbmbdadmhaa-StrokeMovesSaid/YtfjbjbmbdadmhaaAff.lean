/- Package affine, by the evaluation: Check, Identity, Shift, Quarter, Apply, Then, Invert. -/
import Derived.Test.YtfjbjbmbdadmhaaSxx
import Derived.Test.YtfjbjbmbdadmhaaNum
set_option linter.unusedSimpArgs false
set_option linter.unusedVariables false
namespace Go.Proofs.Ytfjbjbmbdadmhaa.Aff
open Go.RowKit Sx Num
set_option maxRecDepth 100000
theorem mixed : Try.prog.follows .mixedOrders = true := by kernel_rfl
structure Mat where
  a : Int
  b : Int
  c : Int
  d : Int
  e : Int
  f : Int
def inR (x m : Int) : Bool := decide (-m ≤ x) && decide (x ≤ m)
def Mat.ok (m : Mat) : Bool := inR m.a 1048576 && (inR m.b 1048576 && (inR m.c 1048576 && (inR m.d 1048576 && (inR m.e 268435456 && inR m.f 268435456))))
def Mat.imgX (m : Mat) (x y : Int) : Int := nr (m.a * x + m.c * y + m.e) 4096
def Mat.imgY (m : Mat) (x y : Int) : Int := nr (m.b * x + m.d * y + m.f) 4096
/-- What Apply answers: the error, and the point (zero with an error). -/
def Mat.appE (m : Mat) (x y : Int) : Int :=
  if m.ok = false then 3 else if (inR x 32767 && inR y 32767) = false then 3 else if (inR (m.imgX x y) 32767 && inR (m.imgY x y) 32767) = false then 10 else 0
def spQuo : FSpec := mkSpec 108 (γ := Int × Int) (fun | [.int _ x, .int _ m] => some (x, m) | _ => none) (fun g => [.int .i64 g.1, .int .i64 g.2]) (fun g => (-4611686018427387904 ≤ g.1 ∧ g.1 ≤ 4611686018427387904) ∧ 1 ≤ g.2 ∧ g.2 ≤ 9223372036854775807) (fun g => .int .i64 (g.1 / g.2))
theorem ok_quo : SpecOK Try.prog spQuo := by
  refine spec_sound (specs := []) (all_ok trivial) (eqs := []) (fun _ _ h => (List.not_mem_nil h).elim) mixed Try.func108 rfl (by kernel_rfl) (fun _ _ => by kernel_rfl) (fun _ => A0) (fun g => Nat.le_of_ble_eq_true (by kernel_rfl)) ?_
  rintro ⟨a, b⟩ ⟨⟨h1, h2⟩, h3, h4⟩
  simp only at h1 h2 h3 h4
  have t1 := tdiv_bounds a b h3
  have t2 := tmod_neg_of a b h3
  have t3 := tmod_nonneg_of a b h3
  have t4 := quo_bounds a b h3
  refine vc_of (B := True ∧ True ∧ True ∧ Sx.Ask (b ≠ (0 : Int) ∧ (-9223372036854775808 : Int) ≤ a.tdiv b ∧ a.tdiv b ≤ (9223372036854775807 : Int)) ∧ True ∧ True ∧ True ∧ Sx.Ask (b ≠ (0 : Int)) ∧ True ∧ Sx.Br (decide (a.tmod b < (0 : Int))) (True ∧ Sx.Ask ((-9223372036854775808 : Int) ≤ a.tdiv b - (1 : Int) ∧ a.tdiv b - (1 : Int) ≤ (9223372036854775807 : Int)) ∧ True ∧ True ∧ True ∧ True ∧ Sx.Ask (IntKind.i64 = IntKind.i64) ∧ Sx.Ask (a.tdiv b - (1 : Int) = a / b)) (True ∧ True ∧ True ∧ Sx.Ask (IntKind.i64 = IntKind.i64) ∧ Sx.Ask (a.tdiv b = a / b))) (by kernel_rfl) ?_
  simp only [ask_iff, br_iff, true_and, and_true, decide_eq_true_eq, decide_eq_false_iff_not]
  refine ⟨by omega, by omega, fun h => ⟨by omega, (t2 h).1⟩, fun h => t3 (by omega)⟩
def spNear : FSpec := mkSpec 85 (γ := Int × Int) (fun | [.int _ x, .int _ m] => some (x, m) | _ => none) (fun g => [.int .i64 g.1, .int .i64 g.2]) (fun g => (-4611686018427387904 ≤ g.1 ∧ g.1 ≤ 4611686018427387904) ∧ 1 ≤ g.2 ∧ g.2 ≤ 4611686018427387904) (fun g => .int .i64 (nr g.1 g.2))
theorem ok_near : SpecOK Try.prog spNear := by
  refine spec_sound (specs := [spQuo]) (all_ok (⟨ok_quo, trivial⟩)) (eqs := []) (fun _ _ h => (List.not_mem_nil h).elim) mixed Try.func85 rfl (by kernel_rfl) (fun _ _ => by kernel_rfl) (fun _ => A0) (fun g => Nat.le_of_ble_eq_true (by kernel_rfl)) ?_
  rintro ⟨a, b⟩ ⟨⟨h1, h2⟩, h3, h4⟩
  simp only at h1 h2 h3 h4
  have q1 := quo_spec a b h3
  have q2 := quo_bounds a b h3
  refine vc_of (B := let z2 := (IntKind.i64 = IntKind.i64);let z1 := (-9223372036854775808 : Int);let z0 := (9223372036854775807 : Int);True ∧ True ∧ True ∧ (((Sx.Ask z2 ∧ Sx.Ask (a = a)) ∧ (Sx.Ask z2 ∧ Sx.Ask (b = b)) ∧ True) ∧ Sx.Ask (((-4611686018427387904 : Int) ≤ a ∧ a ≤ (4611686018427387904 : Int)) ∧ (1 : Int) ≤ b ∧ b ≤ z0)) ∧ True ∧ True ∧ True ∧ True ∧ Sx.Ask (z1 ≤ a / b * b ∧ a / b * b ≤ z0) ∧ Sx.Ask (z1 ≤ a - a / b * b ∧ a - a / b * b ≤ z0) ∧ True ∧ True ∧ True ∧ True ∧ Sx.Ask (z1 ≤ b - (a - a / b * b) ∧ b - (a - a / b * b) ≤ z0) ∧ True ∧ Sx.Br (decide (b - (a - a / b * b) ≤ a - a / b * b)) (True ∧ Sx.Ask (z1 ≤ a / b + (1 : Int) ∧ a / b + (1 : Int) ≤ z0) ∧ True ∧ True ∧ True ∧ True ∧ Sx.Ask z2 ∧ Sx.Ask (a / b + (1 : Int) = nr a b)) (True ∧ True ∧ True ∧ Sx.Ask z2 ∧ Sx.Ask (a / b = nr a b))) (by kernel_rfl) ?_
  simp only [ask_iff, br_iff, true_and, and_true, decide_eq_true_eq, decide_eq_false_iff_not]
  generalize hq : a / b = q at *
  generalize hp : q * b = p at *
  refine ⟨by omega, by omega, by omega, by omega, fun h => ⟨by omega, ?_⟩, fun h => ?_⟩
  · subst hq; subst hp; first | exact nr_of_ge (of_decide_eq_true h) | exact nr_of_ge (by simpa using h)
  · subst hq; subst hp; first | exact nr_of_lt (of_decide_eq_false h) | exact nr_of_lt (by simpa using h)
theorem mul_in {a x A X : Int} (h : -A ≤ a ∧ a ≤ A) (k : -X ≤ x ∧ x ≤ X) : -(A * X) ≤ a * x ∧ a * x ≤ A * X := by
  have hA : 0 ≤ A := by omega
  have hX : 0 ≤ X := by omega
  have e : (a * x).natAbs ≤ (A * X).natAbs := by
    rw [Int.natAbs_mul, Int.natAbs_mul]
    exact Nat.mul_le_mul (by omega) (by omega)
  have p : 0 ≤ A * X := Int.mul_nonneg hA hX
  omega
def Mat.out (m n : Mat) : Mat := ⟨nr (n.a * m.a + n.c * m.b) 4096, nr (n.b * m.a + n.d * m.b) 4096, nr (n.a * m.c + n.c * m.d) 4096, nr (n.b * m.c + n.d * m.d) 4096, nr (n.a * m.e + n.c * m.f) 4096 + n.e, nr (n.b * m.e + n.d * m.f) 4096 + n.f⟩
def spCut : FSpec := mkSpec 24 (γ := Int × Int × Int) (fun | [.int _ x, .int _ l, .int _ h] => some (x, l, h) | _ => none) (fun g => [.int .i64 g.1, .int .i64 g.2.1, .int .i64 g.2.2])
  (fun g => (-2305843009213693952 ≤ g.2.1 ∧ g.2.1 ≤ g.2.2) ∧ g.2.2 ≤ 4611686018427387903 ∧ g.2.2 - g.2.1 ≤ 4611686018427387903) (fun g => .int .i64 (cutI g.1 g.2.1 g.2.2))
theorem ok_cut : SpecOK Try.prog spCut := by
  refine spec_sound (specs := []) (all_ok trivial) (eqs := []) (fun _ _ h => (List.not_mem_nil h).elim) mixed Try.func24 rfl (by kernel_rfl) (fun _ _ => by kernel_rfl) (fun _ => A0) (fun g => Nat.le_of_ble_eq_true (by kernel_rfl)) ?_
  rintro ⟨x, low, high⟩ ⟨⟨h1, h2⟩, h3, h4⟩
  simp only at h1 h2 h3 h4
  obtain ⟨e1, e2, e3⟩ := cut_plain x (high - low + 1) (by omega)
  have h5 := Int.emod_nonneg (x.tmod (high - low + 1)) (b := high - low + 1) (by omega)
  have h6 := Int.emod_lt_of_pos (x.tmod (high - low + 1)) (b := high - low + 1) (by omega)
  have e4 : (x.tmod (high - low + 1) + (high - low + 1)).tmod (high - low + 1) = x % (high - low + 1) := by
    rw [Int.tmod_eq_emod_of_nonneg (by omega), Int.add_emod_right, e1]
  refine vc_of (B := let z3 := (high - low + (1 : Int) ≠ (0 : Int));let z2 := (9223372036854775807 : Int);let z1 := (-9223372036854775808 : Int);let z0 := (high - low + (1 : Int));True ∧ True ∧ True ∧ Sx.Ask (z1 ≤ high - low ∧ high - low ≤ z2) ∧ Sx.Ask (z1 ≤ high - low + (1 : Int) ∧ high - low + (1 : Int) ≤ z2) ∧ True ∧ True ∧ True ∧ True ∧ Sx.Ask z3 ∧ True ∧ Sx.Ask (z1 ≤ x.tmod z0 + z0 ∧ x.tmod z0 + z0 ≤ z2) ∧ True ∧ Sx.Ask z3 ∧ Sx.Ask (z1 ≤ low + (x.tmod z0 + z0).tmod z0 ∧ low + (x.tmod z0 + z0).tmod z0 ≤ z2) ∧ True ∧ True ∧ Sx.Ask (IntKind.i64 = IntKind.i64) ∧ Sx.Ask (low + (x.tmod z0 + z0).tmod z0 = cutI x low high)) (by kernel_rfl) ?_
  simp only [e4]
  rw [e1] at h5 h6
  simp [ask_iff, br_iff, cutI]
  omega
def sizeI (x : Int) : Int := if x < 0 - x then 0 - x else x
end Go.Proofs.Ytfjbjbmbdadmhaa.Aff
