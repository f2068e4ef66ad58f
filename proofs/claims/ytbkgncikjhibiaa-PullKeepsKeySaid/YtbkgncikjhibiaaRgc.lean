/- Package region: both, Union, Intersect, Minus, Xor, Area; slices.Equal of alike runs: by the evaluation. -/
import Derived.Test.YtbkgncikjhibiaaRgb
import Derived.Test.YtbkgncikjhibiaaRgn
set_option linter.unusedSimpArgs false
set_option linter.unusedVariables false
namespace Go.Proofs.Ytbkgncikjhibiaa.Rgc
open Go.RowKit Sx Num Aff Con Rga Rgl Rgm Rgn Rgb
set_option maxRecDepth 100000
def okP (s : SV) : SV := .tup 2 (lst [s, .int .i64 0])
theorem bnd {L : List Rn} (h : vld L) : L.length ≤ 4294967296 := Nat.le_trans (vld_len h) (by decide)
theorem bndg {g : Rg} (h : vld g.L) : g.n ≤ 4294967296 := Rg.len g ▸ bnd h
/-! Union. -/
/-! Intersect. -/
noncomputable def spBoI : FSpec := mkSpec 45 (γ := CbG) (fun | [s, t, .fn _ _ _] => some ⟨⟨slLen s, rgD s⟩, ⟨slLen t, rgD t⟩⟩ | _ => none) (fun g => [rgS g.a, rgS g.b, .fn 46 0 (lst [])]) (fun g => vld g.a.L ∧ vld g.b.L) (fun g => okP (runsS (cbOut and g)))
theorem ok_boI : SpecOK Try.prog spBoI := by
  refine spec_sound (specs := [spCheckR, spCbI]) (all_ok (⟨ok_checkR, ok_cbI, trivial⟩)) (eqs := []) (fun _ _ h => (List.not_mem_nil h).elim) Aff.mixed Try.func45 rfl (by kernel_rfl) (fun _ _ => by kernel_rfl) (fun g => (⟨[(2, .rounds 3)], []⟩ : Ann)) (fun g => Nat.le_of_ble_eq_true (by kernel_rfl)) ?_
  rintro g ⟨va, vb⟩
  refine vc_of (B := let z6 := (1 : Int);let z5 := (Rgb.cbOut Bool.and g);let z4 := (0 : Int);let z0 := (IntKind.i64 = IntKind.i64); let z2 := (Sx.Ask (g.b.n = g.b.n) ∧ ∀ (i : Nat), i < g.b.n → ((True ∧ Sx.Ask z0 ∧ Sx.Ask ((g.b.f i).y = (g.b.f i).y)) ∧ Sx.Ask z0 ∧ Sx.Ask ((g.b.f i).x0 = (g.b.f i).x0)) ∧ Sx.Ask z0 ∧ Sx.Ask ((g.b.f i).x1 = (g.b.f i).x1)); let z1 := (Sx.Ask (g.a.n = g.a.n) ∧ ∀ (i : Nat), i < g.a.n → ((True ∧ Sx.Ask z0 ∧ Sx.Ask ((g.a.f i).y = (g.a.f i).y)) ∧ Sx.Ask z0 ∧ Sx.Ask ((g.a.f i).x0 = (g.a.f i).x0)) ∧ Sx.Ask z0 ∧ Sx.Ask ((g.a.f i).x1 = (g.a.f i).x1));True ∧ True ∧ True ∧ True ∧ True ∧ True ∧ True ∧ Sx.Ask (z4 ≤ z4 ∧ z4 < (↑(2 : Nat) : Int)) ∧ True ∧ True ∧ ((z1 ∧ True) ∧ Sx.Ask (Rga.vld g.a.L ∧ g.a.n ≤ (4294967296 : Nat))) ∧ True ∧ True ∧ True ∧ Sx.Ask ((-9223372036854775808 : Int) ≤ z4 + z6 ∧ z4 + z6 ≤ (9223372036854775807 : Int)) ∧ True ∧ True ∧ Sx.Ask (z4 ≤ z4 + z6 ∧ z4 + z6 < (↑(2 : Nat) : Int)) ∧ True ∧ True ∧ ((z2 ∧ True) ∧ Sx.Ask (Rga.vld g.b.L ∧ g.b.n ≤ (4294967296 : Nat))) ∧ True ∧ True ∧ True ∧ Sx.Ask ((-9223372036854775808 : Int) ≤ z4 + z6 + z6 ∧ z4 + z6 + z6 ≤ (9223372036854775807 : Int)) ∧ True ∧ True ∧ True ∧ True ∧ True ∧ ((z1 ∧ z2 ∧ (Sx.Ask ((46 : Go.FuncId) = (46 : Go.FuncId)) ∧ True) ∧ True) ∧ Sx.Ask (Rga.vld g.a.L ∧ Rga.vld g.b.L)) ∧ True ∧ True ∧ True ∧ (True ∧ Sx.Ask (z5.length = z5.length) ∧ ∀ (i : Nat), let z3 := (Rga.rI z5 i); i < z5.length → ((True ∧ Sx.Ask z0 ∧ Sx.Ask (z3.y = z3.y)) ∧ Sx.Ask z0 ∧ Sx.Ask (z3.x0 = z3.x0)) ∧ Sx.Ask z0 ∧ Sx.Ask (z3.x1 = z3.x1)) ∧ Sx.Ask z0 ∧ Sx.Ask (z4 = z4)) (by kernel_rfl) ?_
  simp only [ask_iff, br_iff, eq_self, true_and, and_true, implies_true, forall_const, decide_eq_true_eq, decide_eq_false_iff_not, ne_eq, Nat.mul_one, Nat.add_zero, Nat.zero_add]
  have na := bndg va
  have nb := bndg vb
  repeat' (first | exact va | exact vb | apply And.intro)
  all_goals (first | decide | omega)
noncomputable def spIntersect : FSpec := mkSpec 30 (γ := CbG) (fun | [s, t] => some ⟨⟨slLen s, rgD s⟩, ⟨slLen t, rgD t⟩⟩ | _ => none) (fun g => [rgS g.a, rgS g.b]) (fun g => vld g.a.L ∧ vld g.b.L) (fun g => okP (runsS (cbOut and g)))
theorem ok_Intersect : SpecOK Try.prog spIntersect := by
  refine spec_sound (specs := [spBoI]) (all_ok (⟨ok_boI, trivial⟩)) (eqs := []) (fun _ _ h => (List.not_mem_nil h).elim) Aff.mixed Try.func30 rfl (by kernel_rfl) (fun _ _ => by kernel_rfl) (fun g => A0) (fun g => Nat.le_of_ble_eq_true (by kernel_rfl)) ?_
  rintro g ⟨va, vb⟩
  refine vc_of (B := let z2 := (Rgb.cbOut Bool.and g);let z0 := (IntKind.i64 = IntKind.i64);True ∧ True ∧ True ∧ True ∧ (((Sx.Ask (g.a.n = g.a.n) ∧ ∀ (i : Nat), i < g.a.n → ((True ∧ Sx.Ask z0 ∧ Sx.Ask ((g.a.f i).y = (g.a.f i).y)) ∧ Sx.Ask z0 ∧ Sx.Ask ((g.a.f i).x0 = (g.a.f i).x0)) ∧ Sx.Ask z0 ∧ Sx.Ask ((g.a.f i).x1 = (g.a.f i).x1)) ∧ (Sx.Ask (g.b.n = g.b.n) ∧ ∀ (i : Nat), i < g.b.n → ((True ∧ Sx.Ask z0 ∧ Sx.Ask ((g.b.f i).y = (g.b.f i).y)) ∧ Sx.Ask z0 ∧ Sx.Ask ((g.b.f i).x0 = (g.b.f i).x0)) ∧ Sx.Ask z0 ∧ Sx.Ask ((g.b.f i).x1 = (g.b.f i).x1)) ∧ (Sx.Ask ((46 : Nat) = (46 : Go.FuncId)) ∧ True) ∧ True) ∧ Sx.Ask (Rga.vld g.a.L ∧ Rga.vld g.b.L)) ∧ True ∧ True ∧ True ∧ True ∧ True ∧ (True ∧ Sx.Ask (z2.length = z2.length) ∧ ∀ (i : Nat), let z1 := (Rga.rI z2 i); i < z2.length → ((True ∧ Sx.Ask z0 ∧ Sx.Ask (z1.y = z1.y)) ∧ Sx.Ask z0 ∧ Sx.Ask (z1.x0 = z1.x0)) ∧ Sx.Ask z0 ∧ Sx.Ask (z1.x1 = z1.x1)) ∧ Sx.Ask z0 ∧ Sx.Ask ((0 : Int) = (0 : Int))) (by kernel_rfl) ?_
  simp only [ask_iff, br_iff, eq_self, true_and, and_true, implies_true, forall_const, decide_eq_true_eq, decide_eq_false_iff_not, ne_eq, Nat.mul_one, Nat.add_zero, Nat.zero_add]
  exact ⟨va, vb⟩
/-! Minus. -/
noncomputable def spBoM : FSpec := mkSpec 45 (γ := CbG) (fun | [s, t, .fn _ _ _] => some ⟨⟨slLen s, rgD s⟩, ⟨slLen t, rgD t⟩⟩ | _ => none) (fun g => [rgS g.a, rgS g.b, .fn 54 0 (lst [])]) (fun g => vld g.a.L ∧ vld g.b.L) (fun g => okP (runsS (cbOut mn g)))
theorem ok_boM : SpecOK Try.prog spBoM := by
  refine spec_sound (specs := [spCheckR, spCbM]) (all_ok (⟨ok_checkR, ok_cbM, trivial⟩)) (eqs := []) (fun _ _ h => (List.not_mem_nil h).elim) Aff.mixed Try.func45 rfl (by kernel_rfl) (fun _ _ => by kernel_rfl) (fun g => (⟨[(2, .rounds 3)], []⟩ : Ann)) (fun g => Nat.le_of_ble_eq_true (by kernel_rfl)) ?_
  rintro g ⟨va, vb⟩
  refine vc_of (B := let z6 := (1 : Int);let z5 := (Rgb.cbOut Rgb.mn g);let z4 := (0 : Int);let z0 := (IntKind.i64 = IntKind.i64); let z2 := (Sx.Ask (g.b.n = g.b.n) ∧ ∀ (i : Nat), i < g.b.n → ((True ∧ Sx.Ask z0 ∧ Sx.Ask ((g.b.f i).y = (g.b.f i).y)) ∧ Sx.Ask z0 ∧ Sx.Ask ((g.b.f i).x0 = (g.b.f i).x0)) ∧ Sx.Ask z0 ∧ Sx.Ask ((g.b.f i).x1 = (g.b.f i).x1)); let z1 := (Sx.Ask (g.a.n = g.a.n) ∧ ∀ (i : Nat), i < g.a.n → ((True ∧ Sx.Ask z0 ∧ Sx.Ask ((g.a.f i).y = (g.a.f i).y)) ∧ Sx.Ask z0 ∧ Sx.Ask ((g.a.f i).x0 = (g.a.f i).x0)) ∧ Sx.Ask z0 ∧ Sx.Ask ((g.a.f i).x1 = (g.a.f i).x1));True ∧ True ∧ True ∧ True ∧ True ∧ True ∧ True ∧ Sx.Ask (z4 ≤ z4 ∧ z4 < (↑(2 : Nat) : Int)) ∧ True ∧ True ∧ ((z1 ∧ True) ∧ Sx.Ask (Rga.vld g.a.L ∧ g.a.n ≤ (4294967296 : Nat))) ∧ True ∧ True ∧ True ∧ Sx.Ask ((-9223372036854775808 : Int) ≤ z4 + z6 ∧ z4 + z6 ≤ (9223372036854775807 : Int)) ∧ True ∧ True ∧ Sx.Ask (z4 ≤ z4 + z6 ∧ z4 + z6 < (↑(2 : Nat) : Int)) ∧ True ∧ True ∧ ((z2 ∧ True) ∧ Sx.Ask (Rga.vld g.b.L ∧ g.b.n ≤ (4294967296 : Nat))) ∧ True ∧ True ∧ True ∧ Sx.Ask ((-9223372036854775808 : Int) ≤ z4 + z6 + z6 ∧ z4 + z6 + z6 ≤ (9223372036854775807 : Int)) ∧ True ∧ True ∧ True ∧ True ∧ True ∧ ((z1 ∧ z2 ∧ (Sx.Ask ((54 : Go.FuncId) = (54 : Go.FuncId)) ∧ True) ∧ True) ∧ Sx.Ask (Rga.vld g.a.L ∧ Rga.vld g.b.L)) ∧ True ∧ True ∧ True ∧ (True ∧ Sx.Ask (z5.length = z5.length) ∧ ∀ (i : Nat), let z3 := (Rga.rI z5 i); i < z5.length → ((True ∧ Sx.Ask z0 ∧ Sx.Ask (z3.y = z3.y)) ∧ Sx.Ask z0 ∧ Sx.Ask (z3.x0 = z3.x0)) ∧ Sx.Ask z0 ∧ Sx.Ask (z3.x1 = z3.x1)) ∧ Sx.Ask z0 ∧ Sx.Ask (z4 = z4)) (by kernel_rfl) ?_
  simp only [ask_iff, br_iff, eq_self, true_and, and_true, implies_true, forall_const, decide_eq_true_eq, decide_eq_false_iff_not, ne_eq, Nat.mul_one, Nat.add_zero, Nat.zero_add]
  have na := bndg va
  have nb := bndg vb
  repeat' (first | exact va | exact vb | apply And.intro)
  all_goals (first | decide | omega)
noncomputable def spMinus : FSpec := mkSpec 37 (γ := CbG) (fun | [s, t] => some ⟨⟨slLen s, rgD s⟩, ⟨slLen t, rgD t⟩⟩ | _ => none) (fun g => [rgS g.a, rgS g.b]) (fun g => vld g.a.L ∧ vld g.b.L) (fun g => okP (runsS (cbOut mn g)))
theorem ok_Minus : SpecOK Try.prog spMinus := by
  refine spec_sound (specs := [spBoM]) (all_ok (⟨ok_boM, trivial⟩)) (eqs := []) (fun _ _ h => (List.not_mem_nil h).elim) Aff.mixed Try.func37 rfl (by kernel_rfl) (fun _ _ => by kernel_rfl) (fun g => A0) (fun g => Nat.le_of_ble_eq_true (by kernel_rfl)) ?_
  rintro g ⟨va, vb⟩
  refine vc_of (B := let z2 := (Rgb.cbOut Rgb.mn g);let z0 := (IntKind.i64 = IntKind.i64);True ∧ True ∧ True ∧ True ∧ (((Sx.Ask (g.a.n = g.a.n) ∧ ∀ (i : Nat), i < g.a.n → ((True ∧ Sx.Ask z0 ∧ Sx.Ask ((g.a.f i).y = (g.a.f i).y)) ∧ Sx.Ask z0 ∧ Sx.Ask ((g.a.f i).x0 = (g.a.f i).x0)) ∧ Sx.Ask z0 ∧ Sx.Ask ((g.a.f i).x1 = (g.a.f i).x1)) ∧ (Sx.Ask (g.b.n = g.b.n) ∧ ∀ (i : Nat), i < g.b.n → ((True ∧ Sx.Ask z0 ∧ Sx.Ask ((g.b.f i).y = (g.b.f i).y)) ∧ Sx.Ask z0 ∧ Sx.Ask ((g.b.f i).x0 = (g.b.f i).x0)) ∧ Sx.Ask z0 ∧ Sx.Ask ((g.b.f i).x1 = (g.b.f i).x1)) ∧ (Sx.Ask ((54 : Nat) = (54 : Go.FuncId)) ∧ True) ∧ True) ∧ Sx.Ask (Rga.vld g.a.L ∧ Rga.vld g.b.L)) ∧ True ∧ True ∧ True ∧ True ∧ True ∧ (True ∧ Sx.Ask (z2.length = z2.length) ∧ ∀ (i : Nat), let z1 := (Rga.rI z2 i); i < z2.length → ((True ∧ Sx.Ask z0 ∧ Sx.Ask (z1.y = z1.y)) ∧ Sx.Ask z0 ∧ Sx.Ask (z1.x0 = z1.x0)) ∧ Sx.Ask z0 ∧ Sx.Ask (z1.x1 = z1.x1)) ∧ Sx.Ask z0 ∧ Sx.Ask ((0 : Int) = (0 : Int))) (by kernel_rfl) ?_
  simp only [ask_iff, br_iff, eq_self, true_and, and_true, implies_true, forall_const, decide_eq_true_eq, decide_eq_false_iff_not, ne_eq, Nat.mul_one, Nat.add_zero, Nat.zero_add]
  exact ⟨va, vb⟩
/-! Xor. -/
/-! Area. -/
def arN (f : Nat → Rn) : Nat → Int
  | 0 => 0
  | n + 1 => arN f n + ((f n).x1 - (f n).x0)
theorem ar_area (f : Nat → Rn) : ∀ n : Nat, arN f n = areaL (Lf f n)
  | 0 => rfl
  | n + 1 => by
    rw [Lf_succ, areaL_app, ← ar_area f n]
    show arN f n + _ = arN f n + (((f n).x1 - (f n).x0) + 0)
    rw [Int.add_zero]
theorem ar_bound {g : Rg} (h : vld g.L) {i : Nat} (hi : i ≤ g.n) : 0 ≤ arN g.f i ∧ arN g.f i ≤ 16384 * i := by
  rw [ar_area]
  have := area_nonneg (Lf g.f i) (fun r hr => by
    obtain ⟨k, hk, rfl⟩ := List.mem_map.1 hr
    have := List.mem_range.1 hk
    exact ok_of h (by omega))
  rw [Lf_len] at this
  exact this
def arInv (g : Rg) : Inv := ⟨Nat, fun i => i ≤ g.n, fun i => ⟨[(5, .int .i64 (arN g.f i)), (13, rgS g), (14, .int .i64 g.n), (15, .int .i64 i)], []⟩, fun i => g.n - i⟩
/-! slices.Equal of the same runs. -/
abbrev eqR : List (TypeId × List CK) := [(43, [.int, .int, .int])]
theorem eqR_ok : AllEq Try.prog eqR := ⟨eqOK_of (m := 3) (by kernel_rfl) (by kernel_rfl) rfl (by decide) (by kernel_rfl), trivial⟩
structure EqG where
  a : Rg
  b : Rg
def EqG.ok (g : EqG) : Prop := vld g.a.L ∧ g.a.L = g.b.L
def eqInv (g : EqG) : Inv := ⟨Nat, fun i => i ≤ g.a.n, fun i => ⟨[(0, rgS g.a), (1, rgS g.b), (12, .int .i64 g.a.n), (13, .int .i64 i)], []⟩, fun i => g.a.n - i⟩
def spEqR : FSpec := mkSpec 12 (γ := EqG) (fun | [s, t] => some ⟨⟨slLen s, rgD s⟩, ⟨slLen t, rgD t⟩⟩ | _ => none) (fun g => [rgS g.a, rgS g.b]) EqG.ok (fun _ => .lit true)
theorem ok_eqR : SpecOK Try.prog spEqR := by
  refine spec_sound (specs := []) (all_ok trivial) (eqs := eqR) (all_eq eqR_ok) Aff.mixed Try.func12 rfl (by kernel_rfl) (fun _ _ => by kernel_rfl) (fun g => (⟨[(4, .inv (eqInv g))], []⟩ : Ann)) (fun g => Nat.le_of_ble_eq_true (by kernel_rfl)) ?_
  rintro g hg
  refine vc_of (B := let z5 := (True ∧ True ∧ Sx.Ask (false = true));let z4 := (↑g.a.n : Int);let z0 := (IntKind.i64 = IntKind.i64); let z2 := (Sx.Ask (g.b.n = g.b.n) ∧ ∀ (i : Nat), i < g.b.n → ((True ∧ Sx.Ask z0 ∧ Sx.Ask ((g.b.f i).y = (g.b.f i).y)) ∧ Sx.Ask z0 ∧ Sx.Ask ((g.b.f i).x0 = (g.b.f i).x0)) ∧ Sx.Ask z0 ∧ Sx.Ask ((g.b.f i).x1 = (g.b.f i).x1)); let z1 := (Sx.Ask (g.a.n = g.a.n) ∧ ∀ (i : Nat), i < g.a.n → ((True ∧ Sx.Ask z0 ∧ Sx.Ask ((g.a.f i).y = (g.a.f i).y)) ∧ Sx.Ask z0 ∧ Sx.Ask ((g.a.f i).x0 = (g.a.f i).x0)) ∧ Sx.Ask z0 ∧ Sx.Ask ((g.a.f i).x1 = (g.a.f i).x1));True ∧ True ∧ True ∧ True ∧ True ∧ True ∧ Sx.Br (decide (z4 ≠ (↑g.b.n : Int))) z5 (True ∧ True ∧ True ∧ (∃ (g_1 : Nat), Sx.Ask ((eqInv g).pre g_1) ∧ (z1 ∧ z2 ∧ (Sx.Ask z0 ∧ Sx.Ask (z4 = z4)) ∧ (Sx.Ask z0 ∧ Sx.Ask ((0 : Int) = (↑g_1 : Int))) ∧ True) ∧ True) ∧ ∀ (g_1 : Nat), let z3 := (↑g_1 : Int); (eqInv g).pre g_1 → True ∧ Sx.Br (decide (z3 < z4)) (True ∧ True ∧ True ∧ True ∧ Sx.Ask ((0 : Int) ≤ z3 ∧ z3 < z4) ∧ True ∧ True ∧ True ∧ Sx.Ask ((0 : Int) ≤ z3 ∧ z3 < (↑g.b.n : Int)) ∧ True ∧ True ∧ Sx.Br (!(decide ((g.a.f z3.toNat).y = (g.b.f z3.toNat).y) && (decide ((g.a.f z3.toNat).x0 = (g.b.f z3.toNat).x0) && (decide ((g.a.f z3.toNat).x1 = (g.b.f z3.toNat).x1) && true)))) z5 (Sx.Ask ((-9223372036854775808 : Int) ≤ z3 + (1 : Int) ∧ z3 + (1 : Int) ≤ (9223372036854775807 : Int)) ∧ True ∧ ∃ (g' : Nat), Sx.Ask ((eqInv g).pre g') ∧ ((z1 ∧ z2 ∧ (Sx.Ask z0 ∧ Sx.Ask (z4 = z4)) ∧ (Sx.Ask z0 ∧ Sx.Ask (z3 + (1 : Int) = (↑g' : Int))) ∧ True) ∧ True) ∧ Sx.Ask ((eqInv g).meas g' < (eqInv g).meas g_1))) (True ∧ True ∧ Sx.Ask (true = true)))) (by kernel_rfl) ?_
  simp only [ask_iff, br_iff, eq_self, true_and, and_true, implies_true, forall_const, decide_eq_true_eq, decide_eq_false_iff_not, ne_eq, Nat.mul_one, Nat.add_zero, Nat.zero_add]
  obtain ⟨va, he⟩ := hg
  have hn : g.a.n = g.b.n := by rw [← Rg.len g.a, ← Rg.len g.b, he]
  have hf : ∀ i, i < g.a.n → g.a.f i = g.b.f i := fun i hi => by rw [← Rg.rI hi, he, Rg.rI (g := g.b) (i := i) (by omega)]
  have hb := bndg va
  refine ⟨fun h => absurd (congrArg Int.ofNat hn) h, fun _ => ⟨⟨0, Nat.zero_le _, rfl⟩, fun i hi hlt => ?_⟩⟩
  have hi : i ≤ g.a.n := hi
  have z : ((i : Int)).toNat = i := rfl
  rw [z, hf i (by omega), decide_eq_true rfl, decide_eq_true rfl, decide_eq_true rfl]
  refine ⟨by omega, by omega, fun h => absurd h (by decide), fun _ => ⟨by omega, i + 1, (by omega : i + 1 ≤ g.a.n), rfl, ?_⟩⟩
  show g.a.n - (i + 1) < g.a.n - i
  omega
end Go.Proofs.Ytbkgncikjhibiaa.Rgc
