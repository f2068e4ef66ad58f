/- printworkskeep1.ConicWithinHull returns true for every point and every segment, and leaves its arguments as they were. -/
import Derived.Test.YtmedlibkhlgdjaaRows
import Derived.Test.YtmedlibkhlgdjaaFrame
import Derived.Test.YtmedlibkhlgdjaaWalkConicWithinHull
namespace Go.Proofs.Ytmedlibkhlgdjaa.conicWithinHull
open Go.ChangeShapes Go.WideShapes Go.ChangeAt Go.RowKit
set_option linter.unusedVariables false
theorem own : ownKnob Try.prog.godebug = none := by kernel_rfl
theorem laidOut : laidOutB Try.prog = true := by kernel_rfl
set_option maxRecDepth 100000 in
theorem lifted (os : Os) (started : os.Started) (H : Type) (enc : TypeId × Value → H) :
    ReturnsInHanded {} Try.checked os 9 .any (Rows.conicWithinHullSpec.pre6 enc Try.prog Try.f9 Rows.conicWithinHullRow.domain false) (Rows.conicWithinHullSpec.post enc Try.prog Try.f9 false true false false) := by
  refine returnsInHanded_of_change (C := Try.checked) own started (by kernel_rfl) Try.func9
    (ChangeSpec.witness6 (enc := enc) (C := Try.checked) false ⟨#[], #[.agg #[.int .i64 0, .int .i64 0], .agg #[.int .i64 0, .int .i64 0, .int .i64 0, .int .i64 0, .int .i64 0, .int .i64 0]], []⟩ 8 (by kernel_rfl) (by kernel_rfl) (by kernel_rfl) (by kernel_rfl)) ?_
  intro W base args ds gs before hval0 hW hcnd _
  have hval : ∀ (j : Nat) t v, Try.f9.params[j]? = some t → args[j]? = some v → Value.okWide Try.prog W .any base t v := hval0
  have hW' := hW
  obtain ⟨p, q, hA0, hV, rfl, hfz, hnd⟩ := hW
  have hA : DataW.TrodAll enc Try.prog W 0 (fun _ => true) true Try.f9.params.toList args.toList ds p := hA0
  rw [Try.params9] at hA hval
  obtain ⟨v0, vs0, d0, ds0, p0, q0, hargs, rfl, rfl, h0, r0⟩ := trodAll_cons hA
  obtain ⟨v1, vs1, d1, ds1, p1, q1, rfl, rfl, rfl, h1, r1⟩ := trodAll_cons r0
  obtain ⟨rfl, rfl, rfl⟩ := trodAll_nil r1
  obtain rfl : args = #[v0, v1] := by cases args; simp_all
  obtain ⟨rfl, rfl⟩ := trodVars_none hV
  obtain ⟨c0, rfl, l0_0⟩ := param_struct (n := 20) (P := Try.prog) Try.underlying44 (by kernel_rfl : leaves Try.prog 20 44 = some [3, 3]) (hval 0 44 v0 rfl rfl) h0
  obtain ⟨y0_0, m0_0, rfl, e0_0, l0_1⟩ := All2.cons_inv l0_0
  obtain ⟨x0_0, rfl, w0_0⟩ := leaf_int Try.underlying3 e0_0
  obtain ⟨y0_1, m0_1, rfl, e0_1, l0_2⟩ := All2.cons_inv l0_1
  obtain ⟨x0_1, rfl, w0_1⟩ := leaf_int Try.underlying3 e0_1
  obtain rfl := All2.nil_inv l0_2
  obtain ⟨c1, rfl, l1_0⟩ := param_struct (n := 20) (P := Try.prog) Try.underlying57 (by kernel_rfl : leaves Try.prog 20 57 = some [3, 3, 3, 3, 3, 3]) (hval 1 57 v1 rfl rfl) h1
  obtain ⟨y1_0, m1_0, rfl, e1_0, l1_1⟩ := All2.cons_inv l1_0
  obtain ⟨x1_0, rfl, w1_0⟩ := leaf_int Try.underlying3 e1_0
  obtain ⟨y1_1, m1_1, rfl, e1_1, l1_2⟩ := All2.cons_inv l1_1
  obtain ⟨x1_1, rfl, w1_1⟩ := leaf_int Try.underlying3 e1_1
  obtain ⟨y1_2, m1_2, rfl, e1_2, l1_3⟩ := All2.cons_inv l1_2
  obtain ⟨x1_2, rfl, w1_2⟩ := leaf_int Try.underlying3 e1_2
  obtain ⟨y1_3, m1_3, rfl, e1_3, l1_4⟩ := All2.cons_inv l1_3
  obtain ⟨x1_3, rfl, w1_3⟩ := leaf_int Try.underlying3 e1_3
  obtain ⟨y1_4, m1_4, rfl, e1_4, l1_5⟩ := All2.cons_inv l1_4
  obtain ⟨x1_4, rfl, w1_4⟩ := leaf_int Try.underlying3 e1_4
  obtain ⟨y1_5, m1_5, rfl, e1_5, l1_6⟩ := All2.cons_inv l1_5
  obtain ⟨x1_5, rfl, w1_5⟩ := leaf_int Try.underlying3 e1_5
  obtain rfl := All2.nil_inv l1_6
  clear hA0 hval0
  refine (walk x0_0 x0_1 x1_0 x1_1 x1_2 x1_3 x1_4 x1_5 W w0_0 w0_1 w1_0 w1_1 w1_2 w1_3 w1_4 w1_5).mono fun e W' ⟨he, hg⟩ => ?_
  subst he
  exact ⟨_, rfl, law_post laidOut (by kernel_rfl) (by kernel_rfl) Try.underlying4 rfl hW' rfl hg⟩

theorem over : Rows.conicWithinHullRow.holds Try.pinned (OpenSpec.ofChange Rows.conicWithinHullSpec) :=
  OpenClaim.holds_of_wide 9 Try.f9 rfl rfl rfl rfl rfl rfl rfl ⟨rfl, rfl, rfl, rfl, rfl⟩ rfl rfl rfl rfl rfl (by kernel_rfl) Try.func9 (by kernel_rfl)
    (of_decide_eq_true (by kernel_rfl)) (by unfold Func.isWrapper; first | (rw [if_pos (by decide +kernel)]; kernel_rfl) | (rw [if_neg (by decide +kernel)]; exact ⟨rfl, rfl⟩))
    (fun os started H enc _ => lifted os started H enc)
theorem proved : Rows.ConicWithinHullSaid :=
  over
end Go.Proofs.Ytmedlibkhlgdjaa.conicWithinHull
