/- printworkskeep1.GradientAcross returns true for every two points and five numbers, and leaves its arguments as they were. -/
import Derived.Test.YtiicncaamlkkbaaRows
import Derived.Test.YtiicncaamlkkbaaFrame
import Derived.Test.YtiicncaamlkkbaaWalkGradientAcross
namespace Go.Proofs.Ytiicncaamlkkbaa.gradientAcross
open Go.ChangeShapes Go.WideShapes Go.ChangeAt Go.RowKit
set_option linter.unusedVariables false
theorem own : ownKnob Try.prog.godebug = none := by kernel_rfl
theorem laidOut : laidOutB Try.prog = true := by kernel_rfl
set_option maxRecDepth 100000 in
theorem lifted (os : Os) (started : os.Started) (H : Type) (enc : TypeId × Value → H) :
    ReturnsInHanded {} Try.checked os 9 .any (Rows.gradientAcrossSpec.pre6 enc Try.prog Try.f9 Rows.gradientAcrossRow.domain false) (Rows.gradientAcrossSpec.post enc Try.prog Try.f9 false true false false) := by
  refine returnsInHanded_of_change (C := Try.checked) own started (by kernel_rfl) Try.func9
    (ChangeSpec.witness6 (enc := enc) (C := Try.checked) false ⟨#[], #[.agg #[.int .i64 0, .int .i64 0], .agg #[.int .i64 0, .int .i64 0], .int .i64 0, .int .i64 0, .int .i64 0, .int .i64 0, .int .i64 0], []⟩ 8 (by kernel_rfl) (by kernel_rfl) (by kernel_rfl) (by kernel_rfl)) ?_
  intro W base args ds gs before hval0 hW hcnd _
  have hval : ∀ (j : Nat) t v, Try.f9.params[j]? = some t → args[j]? = some v → Value.okWide Try.prog W .any base t v := hval0
  have hW' := hW
  obtain ⟨p, q, hA0, hV, rfl, hfz, hnd⟩ := hW
  have hA : DataW.TrodAll enc Try.prog W 0 (fun _ => true) true Try.f9.params.toList args.toList ds p := hA0
  rw [Try.params9] at hA hval
  obtain ⟨v0, vs0, d0, ds0, p0, q0, hargs, rfl, rfl, h0, r0⟩ := trodAll_cons hA
  obtain ⟨v1, vs1, d1, ds1, p1, q1, rfl, rfl, rfl, h1, r1⟩ := trodAll_cons r0
  obtain ⟨v2, vs2, d2, ds2, p2, q2, rfl, rfl, rfl, h2, r2⟩ := trodAll_cons r1
  obtain ⟨v3, vs3, d3, ds3, p3, q3, rfl, rfl, rfl, h3, r3⟩ := trodAll_cons r2
  obtain ⟨v4, vs4, d4, ds4, p4, q4, rfl, rfl, rfl, h4, r4⟩ := trodAll_cons r3
  obtain ⟨v5, vs5, d5, ds5, p5, q5, rfl, rfl, rfl, h5, r5⟩ := trodAll_cons r4
  obtain ⟨v6, vs6, d6, ds6, p6, q6, rfl, rfl, rfl, h6, r6⟩ := trodAll_cons r5
  obtain ⟨rfl, rfl, rfl⟩ := trodAll_nil r6
  obtain rfl : args = #[v0, v1, v2, v3, v4, v5, v6] := by cases args; simp_all
  obtain ⟨rfl, rfl⟩ := trodVars_none hV
  obtain ⟨c0, rfl, l0_0⟩ := param_struct (n := 20) (P := Try.prog) Try.underlying46 (by kernel_rfl : leaves Try.prog 20 46 = some [3, 3]) (hval 0 46 v0 rfl rfl) h0
  obtain ⟨y0_0, m0_0, rfl, e0_0, l0_1⟩ := All2.cons_inv l0_0
  obtain ⟨x0_0, rfl, w0_0⟩ := leaf_int Try.underlying3 e0_0
  obtain ⟨y0_1, m0_1, rfl, e0_1, l0_2⟩ := All2.cons_inv l0_1
  obtain ⟨x0_1, rfl, w0_1⟩ := leaf_int Try.underlying3 e0_1
  obtain rfl := All2.nil_inv l0_2
  obtain ⟨c1, rfl, l1_0⟩ := param_struct (n := 20) (P := Try.prog) Try.underlying46 (by kernel_rfl : leaves Try.prog 20 46 = some [3, 3]) (hval 1 46 v1 rfl rfl) h1
  obtain ⟨y1_0, m1_0, rfl, e1_0, l1_1⟩ := All2.cons_inv l1_0
  obtain ⟨x1_0, rfl, w1_0⟩ := leaf_int Try.underlying3 e1_0
  obtain ⟨y1_1, m1_1, rfl, e1_1, l1_2⟩ := All2.cons_inv l1_1
  obtain ⟨x1_1, rfl, w1_1⟩ := leaf_int Try.underlying3 e1_1
  obtain rfl := All2.nil_inv l1_2
  obtain ⟨a2, rfl, rfl, rfl, w2⟩ := open_int Try.underlying3 (hval 2 3 v2 rfl rfl) h2
  obtain ⟨a3, rfl, rfl, rfl, w3⟩ := open_int Try.underlying3 (hval 3 3 v3 rfl rfl) h3
  obtain ⟨a4, rfl, rfl, rfl, w4⟩ := open_int Try.underlying3 (hval 4 3 v4 rfl rfl) h4
  obtain ⟨a5, rfl, rfl, rfl, w5⟩ := open_int Try.underlying3 (hval 5 3 v5 rfl rfl) h5
  obtain ⟨a6, rfl, rfl, rfl, w6⟩ := open_int Try.underlying3 (hval 6 3 v6 rfl rfl) h6
  clear hA0 hval0
  refine (walk x0_0 x0_1 x1_0 x1_1 a2 a3 a4 a5 a6 W w0_0 w0_1 w1_0 w1_1 w2 w3 w4 w5 w6).mono fun e W' ⟨he, hg⟩ => ?_
  subst he
  exact ⟨_, rfl, law_post laidOut (by kernel_rfl) (by kernel_rfl) Try.underlying4 rfl hW' rfl hg⟩

theorem over : Rows.gradientAcrossRow.holds Try.pinned (OpenSpec.ofChange Rows.gradientAcrossSpec) :=
  OpenClaim.holds_of_wide 9 Try.f9 rfl rfl rfl rfl rfl rfl rfl ⟨rfl, rfl, rfl, rfl, rfl⟩ rfl rfl rfl rfl rfl (by kernel_rfl) Try.func9 (by kernel_rfl)
    (of_decide_eq_true (by kernel_rfl)) (by unfold Func.isWrapper; first | (rw [if_pos (by decide +kernel)]; kernel_rfl) | (rw [if_neg (by decide +kernel)]; exact ⟨rfl, rfl⟩))
    (fun os started H enc _ => lifted os started H enc)
theorem proved : Rows.GradientAcrossSaid :=
  over
end Go.Proofs.Ytiicncaamlkkbaa.gradientAcross
