/- printworkskeep1.ImageSmoothBetween returns true for every size, every vector, every size of a square and every cell, and leaves its arguments as they were. -/
import Derived.Test.YtbmgclpgompjmaaRows
import Derived.Test.YtbmgclpgompjmaaFrame
import Derived.Test.YtbmgclpgompjmaaWalkImageSmoothBetween
namespace Go.Proofs.Ytbmgclpgompjmaa.imageSmoothBetween
open Go.ChangeShapes Go.WideShapes Go.ChangeAt Go.RowKit
set_option linter.unusedVariables false
theorem own : ownKnob Try.prog.godebug = none := by kernel_rfl
theorem laidOut : laidOutB Try.prog = true := by kernel_rfl
set_option maxRecDepth 100000 in
theorem lifted (os : Os) (started : os.Started) (H : Type) (enc : TypeId × Value → H) :
    ReturnsInHanded {} Try.checked os 4 .any (Rows.imageSmoothBetweenSpec.pre6 enc Try.prog Try.f4 Rows.imageSmoothBetweenRow.domain false) (Rows.imageSmoothBetweenSpec.post enc Try.prog Try.f4 false true false false) := by
  refine returnsInHanded_of_change (C := Try.checked) own started (by kernel_rfl) Try.func4
    (ChangeSpec.witness6 (enc := enc) (C := Try.checked) false ⟨#[], #[.int .i64 0, .int .i64 0, .agg #[.int .u8 0, .int .u8 0, .int .u8 0, .int .u8 0, .int .u8 0, .int .u8 0, .int .u8 0, .int .u8 0], .int .i64 0, .int .i64 0, .int .i64 0], []⟩ 8 (by kernel_rfl) (by kernel_rfl) (by kernel_rfl) (by kernel_rfl)) ?_
  intro W base args ds gs before hval0 hW hcnd _
  have hval : ∀ (j : Nat) t v, Try.f4.params[j]? = some t → args[j]? = some v → Value.okWide Try.prog W .any base t v := hval0
  have hW' := hW
  obtain ⟨p, q, hA0, hV, rfl, hfz, hnd⟩ := hW
  have hA : DataW.TrodAll enc Try.prog W 0 (fun _ => true) true Try.f4.params.toList args.toList ds p := hA0
  rw [Try.params4] at hA hval
  obtain ⟨v0, vs0, d0, ds0, p0, q0, hargs, rfl, rfl, h0, r0⟩ := trodAll_cons hA
  obtain ⟨v1, vs1, d1, ds1, p1, q1, rfl, rfl, rfl, h1, r1⟩ := trodAll_cons r0
  obtain ⟨v2, vs2, d2, ds2, p2, q2, rfl, rfl, rfl, h2, r2⟩ := trodAll_cons r1
  obtain ⟨v3, vs3, d3, ds3, p3, q3, rfl, rfl, rfl, h3, r3⟩ := trodAll_cons r2
  obtain ⟨v4, vs4, d4, ds4, p4, q4, rfl, rfl, rfl, h4, r4⟩ := trodAll_cons r3
  obtain ⟨v5, vs5, d5, ds5, p5, q5, rfl, rfl, rfl, h5, r5⟩ := trodAll_cons r4
  obtain ⟨rfl, rfl, rfl⟩ := trodAll_nil r5
  obtain rfl : args = #[v0, v1, v2, v3, v4, v5] := by cases args; simp_all
  obtain ⟨rfl, rfl⟩ := trodVars_none hV
  obtain ⟨a0, rfl, rfl, rfl, w0⟩ := open_int Try.underlying3 (hval 0 3 v0 rfl rfl) h0
  obtain ⟨a1, rfl, rfl, rfl, w1⟩ := open_int Try.underlying3 (hval 1 3 v1 rfl rfl) h1
  obtain ⟨c2, rfl, l2_0⟩ := param_array (n := 20) (P := Try.prog) Try.underlying35 (by kernel_rfl : leaves Try.prog 20 35 = some [5, 5, 5, 5, 5, 5, 5, 5]) (hval 2 35 v2 rfl rfl) h2
  obtain ⟨y2_0, m2_0, rfl, e2_0, l2_1⟩ := All2.cons_inv l2_0
  obtain ⟨x2_0, rfl, w2_0⟩ := leaf_int Try.underlying5 e2_0
  obtain ⟨y2_1, m2_1, rfl, e2_1, l2_2⟩ := All2.cons_inv l2_1
  obtain ⟨x2_1, rfl, w2_1⟩ := leaf_int Try.underlying5 e2_1
  obtain ⟨y2_2, m2_2, rfl, e2_2, l2_3⟩ := All2.cons_inv l2_2
  obtain ⟨x2_2, rfl, w2_2⟩ := leaf_int Try.underlying5 e2_2
  obtain ⟨y2_3, m2_3, rfl, e2_3, l2_4⟩ := All2.cons_inv l2_3
  obtain ⟨x2_3, rfl, w2_3⟩ := leaf_int Try.underlying5 e2_3
  obtain ⟨y2_4, m2_4, rfl, e2_4, l2_5⟩ := All2.cons_inv l2_4
  obtain ⟨x2_4, rfl, w2_4⟩ := leaf_int Try.underlying5 e2_4
  obtain ⟨y2_5, m2_5, rfl, e2_5, l2_6⟩ := All2.cons_inv l2_5
  obtain ⟨x2_5, rfl, w2_5⟩ := leaf_int Try.underlying5 e2_5
  obtain ⟨y2_6, m2_6, rfl, e2_6, l2_7⟩ := All2.cons_inv l2_6
  obtain ⟨x2_6, rfl, w2_6⟩ := leaf_int Try.underlying5 e2_6
  obtain ⟨y2_7, m2_7, rfl, e2_7, l2_8⟩ := All2.cons_inv l2_7
  obtain ⟨x2_7, rfl, w2_7⟩ := leaf_int Try.underlying5 e2_7
  obtain rfl := All2.nil_inv l2_8
  obtain ⟨a3, rfl, rfl, rfl, w3⟩ := open_int Try.underlying3 (hval 3 3 v3 rfl rfl) h3
  obtain ⟨a4, rfl, rfl, rfl, w4⟩ := open_int Try.underlying3 (hval 4 3 v4 rfl rfl) h4
  obtain ⟨a5, rfl, rfl, rfl, w5⟩ := open_int Try.underlying3 (hval 5 3 v5 rfl rfl) h5
  clear hA0 hval0
  refine (walk a0 a1 x2_0 x2_1 x2_2 x2_3 x2_4 x2_5 x2_6 x2_7 a3 a4 a5 W w0 w1 w2_0 w2_1 w2_2 w2_3 w2_4 w2_5 w2_6 w2_7 w3 w4 w5).mono fun e W' ⟨he, hg⟩ => ?_
  subst he
  exact ⟨_, rfl, law_post laidOut (by kernel_rfl) (by kernel_rfl) Try.underlying4 rfl hW' rfl hg⟩

theorem over : Rows.imageSmoothBetweenRow.holds Try.pinned (OpenSpec.ofChange Rows.imageSmoothBetweenSpec) :=
  OpenClaim.holds_of_wide 4 Try.f4 rfl rfl rfl rfl rfl rfl rfl ⟨rfl, rfl, rfl, rfl, rfl⟩ rfl rfl rfl rfl rfl (by kernel_rfl) Try.func4 (by kernel_rfl)
    (of_decide_eq_true (by kernel_rfl)) (by unfold Func.isWrapper; first | (rw [if_pos (by decide +kernel)]; kernel_rfl) | (rw [if_neg (by decide +kernel)]; exact ⟨rfl, rfl⟩))
    (fun os started H enc _ => lifted os started H enc)
theorem proved : Rows.ImageSmoothBetweenSaid :=
  over
end Go.Proofs.Ytbmgclpgompjmaa.imageSmoothBetween
