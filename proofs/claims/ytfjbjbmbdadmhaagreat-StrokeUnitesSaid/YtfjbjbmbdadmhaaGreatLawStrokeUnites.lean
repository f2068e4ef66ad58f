/- printworkskeep1.StrokeUnites returns true for all lines and every style, and leaves its arguments as they were. -/
import Derived.Test.YtfjbjbmbdadmhaaGreatRows
import Derived.Test.YtfjbjbmbdadmhaaGreatFrame
import Derived.Test.YtfjbjbmbdadmhaaGreatWalkStrokeUnites
namespace Go.Proofs.YtfjbjbmbdadmhaaGreat.strokeUnites
open Go.ChangeShapes Go.WideShapes Go.ChangeAt Go.RowKit
set_option linter.unusedVariables false
theorem own : ownKnob Tryz.prog.godebug = none := by kernel_rfl
theorem laidOut : laidOutB Tryz.prog = true := by kernel_rfl
set_option maxRecDepth 100000 in
theorem lifted (os : Os) (started : os.Started) (H : Type) (enc : TypeId × Value → H) :
    ReturnsInHanded {} Tryz.checked os 3 .any (Rows.strokeUnitesSpec.pre6 enc Tryz.prog Tryz.f3 Rows.strokeUnitesRow.domain false) (Rows.strokeUnitesSpec.post enc Tryz.prog Tryz.f3 false true false false) := by
  refine returnsInHanded_of_change (C := Tryz.checked) own started (by kernel_rfl) Tryz.func3
    (ChangeSpec.witness6 (enc := enc) (C := Tryz.checked) false ⟨#[], #[.slice none 0 0, .slice none 0 0, .agg #[.int .i64 0, .int .i64 0, .int .i64 0, .int .i64 0]], []⟩ 8 (by kernel_rfl) (by kernel_rfl) (by kernel_rfl) (by kernel_rfl)) ?_
  intro W base args ds gs before hval0 hW hcnd _
  have hval : ∀ (j : Nat) t v, Tryz.f3.params[j]? = some t → args[j]? = some v → Value.okWide Tryz.prog W .any base t v := hval0
  have hW' := hW
  obtain ⟨p, q, hA0, hV, rfl, hfz, hnd⟩ := hW
  have hA : DataW.TrodAll enc Tryz.prog W 0 (fun _ => true) true Tryz.f3.params.toList args.toList ds p := hA0
  rw [Tryz.params3] at hA hval
  obtain ⟨v0, vs0, d0, ds0, p0, q0, hargs, rfl, rfl, h0, r0⟩ := trodAll_cons hA
  obtain ⟨v1, vs1, d1, ds1, p1, q1, rfl, rfl, rfl, h1, r1⟩ := trodAll_cons r0
  obtain ⟨v2, vs2, d2, ds2, p2, q2, rfl, rfl, rfl, h2, r2⟩ := trodAll_cons r1
  obtain ⟨rfl, rfl, rfl⟩ := trodAll_nil r2
  obtain rfl : args = #[v0, v1, v2] := by cases args; simp_all
  obtain ⟨rfl, rfl⟩ := trodVars_none hV
  have L0 : Leaf Tryz.prog W 22 v0 := param_slice Tryz.underlying22 (hval 0 22 v0 rfl rfl) h0
  have L1 : Leaf Tryz.prog W 22 v1 := param_slice Tryz.underlying22 (hval 1 22 v1 rfl rfl) h1
  obtain ⟨c2, rfl, l2_0⟩ := param_struct (n := 20) (P := Tryz.prog) Tryz.underlying24 (by kernel_rfl : leaves Tryz.prog 20 24 = some [3, 3, 3, 3]) (hval 2 24 v2 rfl rfl) h2
  obtain ⟨y2_0, m2_0, rfl, e2_0, l2_1⟩ := All2.cons_inv l2_0
  obtain ⟨x2_0, rfl, w2_0⟩ := leaf_int Tryz.underlying3 e2_0
  obtain ⟨y2_1, m2_1, rfl, e2_1, l2_2⟩ := All2.cons_inv l2_1
  obtain ⟨x2_1, rfl, w2_1⟩ := leaf_int Tryz.underlying3 e2_1
  obtain ⟨y2_2, m2_2, rfl, e2_2, l2_3⟩ := All2.cons_inv l2_2
  obtain ⟨x2_2, rfl, w2_2⟩ := leaf_int Tryz.underlying3 e2_2
  obtain ⟨y2_3, m2_3, rfl, e2_3, l2_4⟩ := All2.cons_inv l2_3
  obtain ⟨x2_3, rfl, w2_3⟩ := leaf_int Tryz.underlying3 e2_3
  obtain rfl := All2.nil_inv l2_4
  clear hA0 hval0
  refine (walk v0 v1 x2_0 x2_1 x2_2 x2_3 W L0 L1 w2_0 w2_1 w2_2 w2_3).mono fun e W' ⟨he, hg⟩ => ?_
  subst he
  exact ⟨_, rfl, law_post laidOut (by kernel_rfl) (by kernel_rfl) Tryz.underlying4 rfl hW' rfl hg⟩

theorem over : Rows.strokeUnitesRow.holds Tryz.pinned (OpenSpec.ofChange Rows.strokeUnitesSpec) :=
  OpenClaim.holds_of_wide 3 Tryz.f3 rfl rfl rfl rfl rfl rfl rfl ⟨rfl, rfl, rfl, rfl, rfl⟩ rfl rfl rfl rfl rfl (by kernel_rfl) Tryz.func3 (by kernel_rfl)
    (of_decide_eq_true (by kernel_rfl)) (by unfold Func.isWrapper; first | (rw [if_pos (by decide +kernel)]; kernel_rfl) | (rw [if_neg (by decide +kernel)]; exact ⟨rfl, rfl⟩))
    (fun os started H enc _ => lifted os started H enc)
theorem proved : Rows.StrokeUnitesSaid :=
  over
end Go.Proofs.YtfjbjbmbdadmhaaGreat.strokeUnites
