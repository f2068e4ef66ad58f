/- Package region: both, Union, Intersect, Minus, Xor, Area; slices.Equal of alike runs: by the evaluation. -/
import Derived.Test.YtfjbjbmbdadmhaaRgb
import Derived.Test.YtfjbjbmbdadmhaaRgn
set_option linter.unusedSimpArgs false
set_option linter.unusedVariables false
namespace Go.Proofs.Ytfjbjbmbdadmhaa.Rgc
open Go.RowKit Sx Num Aff Con Rga Rgl Rgm Rgn Rgb
set_option maxRecDepth 100000
def okP (s : SV) : SV := .tup 2 (lst [s, .int .i64 0])
theorem bnd {L : List Rn} (h : vld L) : L.length ≤ 4294967296 := Nat.le_trans (vld_len h) (by decide)
theorem bndg {g : Rg} (h : vld g.L) : g.n ≤ 4294967296 := Rg.len g ▸ bnd h
/-! Minus. -/
noncomputable def spMinus : FSpec := mkSpec 39 (γ := CbG) (fun | [s, t] => some ⟨⟨slLen s, rgD s⟩, ⟨slLen t, rgD t⟩⟩ | _ => none) (fun g => [rgS g.a, rgS g.b]) (fun g => vld g.a.L ∧ vld g.b.L) (fun g => okP (runsS (cbOut mn g)))
/-! slices.Equal of the same runs. -/
abbrev eqR : List (TypeId × List CK) := [(48, [.int, .int, .int])]
theorem eqR_ok : AllEq Try.prog eqR := ⟨eqOK_of (m := 3) (by kernel_rfl) (by kernel_rfl) rfl (by decide) (by kernel_rfl), trivial⟩
structure EqG where
  a : Rg
  b : Rg
def EqG.ok (g : EqG) : Prop := vld g.a.L ∧ g.a.L = g.b.L
def eqInv (g : EqG) : Inv := ⟨Nat, fun i => i ≤ g.a.n, fun i => ⟨[(0, rgS g.a), (1, rgS g.b), (12, .int .i64 g.a.n), (13, .int .i64 i)], []⟩, fun i => g.a.n - i⟩
def spEqR : FSpec := mkSpec 21 (γ := EqG) (fun | [s, t] => some ⟨⟨slLen s, rgD s⟩, ⟨slLen t, rgD t⟩⟩ | _ => none) (fun g => [rgS g.a, rgS g.b]) EqG.ok (fun _ => .lit true)
theorem ok_eqR : SpecOK Try.prog spEqR := by
  refine spec_sound (specs := []) (all_ok trivial) (eqs := eqR) (all_eq eqR_ok) Aff.mixed Try.func21 rfl (by kernel_rfl) (fun _ _ => by kernel_rfl) (fun g => (⟨[(4, .inv (eqInv g))], []⟩ : Ann)) (fun g => Nat.le_of_ble_eq_true (by kernel_rfl)) ?_
  rintro g hg
  refine vc_of (B := let z5 := (True ∧ True ∧ Sx.Ask (false = true));let z4 := (↑g.a.n : Int);let z0 := (IntKind.i64 = IntKind.i64); let z2 := (Sx.Ask (g.b.n = g.b.n) ∧ ∀ (i : Nat), i < g.b.n → ((True ∧ Sx.Ask z0 ∧ Sx.Ask ((g.b.f i).y = (g.b.f i).y)) ∧ Sx.Ask z0 ∧ Sx.Ask ((g.b.f i).x0 = (g.b.f i).x0)) ∧ Sx.Ask z0 ∧ Sx.Ask ((g.b.f i).x1 = (g.b.f i).x1)); let z1 := (Sx.Ask (g.a.n = g.a.n) ∧ ∀ (i : Nat), i < g.a.n → ((True ∧ Sx.Ask z0 ∧ Sx.Ask ((g.a.f i).y = (g.a.f i).y)) ∧ Sx.Ask z0 ∧ Sx.Ask ((g.a.f i).x0 = (g.a.f i).x0)) ∧ Sx.Ask z0 ∧ Sx.Ask ((g.a.f i).x1 = (g.a.f i).x1));True ∧ True ∧ True ∧ True ∧ True ∧ True ∧ Sx.Br (decide (z4 ≠ (↑g.b.n : Int))) z5 (True ∧ True ∧ True ∧ (∃ (g_1 : Nat), Sx.Ask ((eqInv g).pre g_1) ∧ (z1 ∧ z2 ∧ (Sx.Ask z0 ∧ Sx.Ask (z4 = z4)) ∧ (Sx.Ask z0 ∧ Sx.Ask ((0 : Int) = (↑g_1 : Int))) ∧ True) ∧ True) ∧ ∀ (g_1 : Nat), let z3 := (↑g_1 : Int); (eqInv g).pre g_1 → True ∧ Sx.Br (decide (z3 < z4)) (True ∧ True ∧ True ∧ True ∧ Sx.Ask ((0 : Int) ≤ z3 ∧ z3 < z4) ∧ True ∧ True ∧ True ∧ Sx.Ask ((0 : Int) ≤ z3 ∧ z3 < (↑g.b.n : Int)) ∧ True ∧ True ∧ Sx.Br (!(decide ((g.a.f z3.toNat).y = (g.b.f z3.toNat).y) && (decide ((g.a.f z3.toNat).x0 = (g.b.f z3.toNat).x0) && (decide ((g.a.f z3.toNat).x1 = (g.b.f z3.toNat).x1) && true)))) z5 (Sx.Ask ((-9223372036854775808 : Int) ≤ z3 + (1 : Int) ∧ z3 + (1 : Int) ≤ (9223372036854775807 : Int)) ∧ True ∧ ∃ (g' : Nat), Sx.Ask ((eqInv g).pre g') ∧ ((z1 ∧ z2 ∧ (Sx.Ask z0 ∧ Sx.Ask (z4 = z4)) ∧ (Sx.Ask z0 ∧ Sx.Ask (z3 + (1 : Int) = (↑g' : Int))) ∧ True) ∧ True) ∧ Sx.Ask ((eqInv g).meas g' < (eqInv g).meas g_1))) (True ∧ True ∧ Sx.Ask (true = true)))) (by kernel_rfl) ?_
  simp only [ask_iff, br_iff, eq_self, true_and, and_true, implies_true, forall_const, decide_eq_true_eq, decide_eq_false_iff_not, ne_eq, Nat.mul_one, Nat.add_zero, Nat.zero_add]
  obtain ⟨va, he⟩ := hg
  have hn : g.a.n = g.b.n := by rw [← Rg.len g.a, ← Rg.len g.b, he]
  have hf : ∀ i, i < g.a.n → g.a.f i = g.b.f i := fun i hi => by rw [← Rg.rI hi, he, Rg.rI (g := g.b) (i := i) (by omega)]
  have hb := bndg va
  refine ⟨fun h => absurd (congrArg Int.ofNat hn) h, fun _ => ⟨⟨0, Nat.zero_le _, rfl⟩, fun i hi hlt => ?_⟩⟩
  have hi : i ≤ g.a.n := hi
  have z : ((i : Int)).toNat = i := rfl
  rw [z, hf i (by omega), decide_eq_true rfl, decide_eq_true rfl, decide_eq_true rfl]
  refine ⟨by omega, by omega, fun h => absurd h (by decide), fun _ => ⟨by omega, i + 1, (by omega : i + 1 ≤ g.a.n), rfl, ?_⟩⟩
  show g.a.n - (i + 1) < g.a.n - i
  omega
end Go.Proofs.Ytfjbjbmbdadmhaa.Rgc
