/- printworkskeep1.FlatAgain returns true for every display list, and leaves its argument as it was. -/
import Derived.Test.YthappngbapbkfaaGreatM11
import Derived.Test.YthappngbapbkfaaGreatRows
import Derived.Test.YthappngbapbkfaaGreatWalkFlatAgain
namespace Go.Proofs.YthappngbapbkfaaGreat.flatAgain
open Go.ChangeShapes Go.WideShapes Go.ChangeAt Go.RowKit
set_option linter.unusedVariables false
theorem own : ownKnob Tryz.prog.godebug = none := by kernel_rfl
theorem laidOut : laidOutB Tryz.prog = true := by kernel_rfl
set_option maxRecDepth 100000 in
theorem lifted (os : Os) (started : os.Started) (H : Type) (enc : TypeId × Value → H) :
    ReturnsInHanded {} Tryz.checked os 4 .any (Rows.flatAgainSpec.pre6 enc Tryz.prog Tryz.f4 Rows.flatAgainRow.domain false) (Rows.flatAgainSpec.post enc Tryz.prog Tryz.f4 false true false false) := by
  refine returnsInHanded_of_change (C := Tryz.checked) own started (by kernel_rfl) Tryz.func4
    (ChangeSpec.witness6 (enc := enc) (C := Tryz.checked) false ⟨#[], #[.agg #[.int .i64 0, .int .i64 0, .slice none 0 0, .slice none 0 0]], []⟩ 8 (by kernel_rfl) (by kernel_rfl) (by kernel_rfl) (by kernel_rfl)) ?_
  intro W base args ds gs before hval0 hW hcnd _;have hval : ∀ (j : Nat) t v, Tryz.f4.params[j]? = some t → args[j]? = some v → Value.okWide Tryz.prog W .any base t v := hval0;have hW' := hW;obtain ⟨p, q, hA0, hV, rfl, hfz, hnd⟩ := hW;have hA : DataW.TrodAll enc Tryz.prog W 0 (fun _ => true) true Tryz.f4.params.toList args.toList ds p := hA0;rw [Tryz.params4] at hA hval;obtain ⟨v0, vs0, d0, ds0, p0, q0, hargs, rfl, rfl, h0, r0⟩ := trodAll_cons hA;obtain ⟨rfl, rfl, rfl⟩ := trodAll_nil r0;obtain rfl : args = #[v0] := by cases args; simp_all
  obtain ⟨rfl, rfl⟩ := trodVars_none hV;obtain ⟨c0, rfl, l0_0⟩ := aZ0 (n := 20) (P := Tryz.prog) Tryz.underlying25 (by kernel_rfl : leaves Tryz.prog 20 25 = some [3, 3, 22, 23]) (hval 0 25 v0 rfl rfl) h0;obtain ⟨y0_0, m0_0, rfl, e0_0, l0_1⟩ := All2.cons_inv l0_0;obtain ⟨x0_0, rfl, w0_0⟩ := aG0 Tryz.underlying3 e0_0;obtain ⟨y0_1, m0_1, rfl, e0_1, l0_2⟩ := All2.cons_inv l0_1;obtain ⟨x0_1, rfl, w0_1⟩ := aG0 Tryz.underlying3 e0_1;obtain ⟨y0_2, m0_2, rfl, e0_2, l0_3⟩ := All2.cons_inv l0_2;have L0_2 := e0_2;obtain ⟨y0_3, m0_3, rfl, e0_3, l0_4⟩ := All2.cons_inv l0_3;have L0_3 := e0_3;obtain rfl := All2.a97 l0_4
  clear hA0 hval0;refine (walk x0_0 x0_1 y0_2 y0_3 W w0_0 w0_1 L0_2 L0_3).mono fun e W' ⟨he, hg⟩ => ?_
  subst he;exact ⟨_, rfl, bH5 laidOut (by kernel_rfl) (by kernel_rfl) Tryz.underlying4 rfl hW' rfl hg⟩

theorem over : Rows.flatAgainRow.holds Tryz.pinned (OpenSpec.ofChange Rows.flatAgainSpec) :=
  OpenClaim.holds_of_wide 4 Tryz.f4 rfl rfl rfl rfl rfl rfl rfl ⟨rfl, rfl, rfl, rfl, rfl⟩ rfl rfl rfl rfl rfl (by kernel_rfl) Tryz.func4 (by kernel_rfl)
    (of_decide_eq_true (by kernel_rfl)) (by unfold Func.isWrapper; first | (rw [if_pos (by decide +kernel)]; kernel_rfl) | (rw [if_neg (by decide +kernel)]; exact ⟨rfl, rfl⟩))
    (fun os started H enc _ => lifted os started H enc)
theorem proved : Rows.FlatAgainSaid :=
  over
end Go.Proofs.YthappngbapbkfaaGreat.flatAgain
