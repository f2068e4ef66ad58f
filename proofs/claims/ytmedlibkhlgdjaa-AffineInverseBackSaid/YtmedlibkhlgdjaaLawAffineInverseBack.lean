/- printworkskeep1.AffineInverseBack returns true for every matrix and every point, and leaves its arguments as they were. -/
import Derived.Test.YtmedlibkhlgdjaaRows
import Derived.Test.YtmedlibkhlgdjaaFrame
import Derived.Test.YtmedlibkhlgdjaaWalkAffineInverseBack
namespace Go.Proofs.Ytmedlibkhlgdjaa.affineInverseBack
open Go.ChangeShapes Go.WideShapes Go.ChangeAt Go.RowKit
set_option linter.unusedVariables false
theorem own : ownKnob Try.prog.godebug = none := by kernel_rfl
theorem laidOut : laidOutB Try.prog = true := by kernel_rfl
set_option maxRecDepth 100000 in
theorem lifted (os : Os) (started : os.Started) (H : Type) (enc : TypeId × Value → H) :
    ReturnsInHanded {} Try.checked os 7 .any (Rows.affineInverseBackSpec.pre6 enc Try.prog Try.f7 Rows.affineInverseBackRow.domain false) (Rows.affineInverseBackSpec.post enc Try.prog Try.f7 false true false false) := by
  refine returnsInHanded_of_change (C := Try.checked) own started (by kernel_rfl) Try.func7
    (ChangeSpec.witness6 (enc := enc) (C := Try.checked) false ⟨#[], #[.agg #[.int .i64 0, .int .i64 0, .int .i64 0, .int .i64 0, .int .i64 0, .int .i64 0], .agg #[.int .i64 0, .int .i64 0]], []⟩ 8 (by kernel_rfl) (by kernel_rfl) (by kernel_rfl) (by kernel_rfl)) ?_
  intro W base args ds gs before hval0 hW hcnd _
  have hval : ∀ (j : Nat) t v, Try.f7.params[j]? = some t → args[j]? = some v → Value.okWide Try.prog W .any base t v := hval0
  have hW' := hW
  obtain ⟨p, q, hA0, hV, rfl, hfz, hnd⟩ := hW
  have hA : DataW.TrodAll enc Try.prog W 0 (fun _ => true) true Try.f7.params.toList args.toList ds p := hA0
  rw [Try.params7] at hA hval
  obtain ⟨v0, vs0, d0, ds0, p0, q0, hargs, rfl, rfl, h0, r0⟩ := trodAll_cons hA
  obtain ⟨v1, vs1, d1, ds1, p1, q1, rfl, rfl, rfl, h1, r1⟩ := trodAll_cons r0
  obtain ⟨rfl, rfl, rfl⟩ := trodAll_nil r1
  obtain rfl : args = #[v0, v1] := by cases args; simp_all
  obtain ⟨rfl, rfl⟩ := trodVars_none hV
  obtain ⟨c0, rfl, l0_0⟩ := param_struct (n := 20) (P := Try.prog) Try.underlying42 (by kernel_rfl : leaves Try.prog 20 42 = some [3, 3, 3, 3, 3, 3]) (hval 0 42 v0 rfl rfl) h0
  obtain ⟨y0_0, m0_0, rfl, e0_0, l0_1⟩ := All2.cons_inv l0_0
  obtain ⟨x0_0, rfl, w0_0⟩ := leaf_int Try.underlying3 e0_0
  obtain ⟨y0_1, m0_1, rfl, e0_1, l0_2⟩ := All2.cons_inv l0_1
  obtain ⟨x0_1, rfl, w0_1⟩ := leaf_int Try.underlying3 e0_1
  obtain ⟨y0_2, m0_2, rfl, e0_2, l0_3⟩ := All2.cons_inv l0_2
  obtain ⟨x0_2, rfl, w0_2⟩ := leaf_int Try.underlying3 e0_2
  obtain ⟨y0_3, m0_3, rfl, e0_3, l0_4⟩ := All2.cons_inv l0_3
  obtain ⟨x0_3, rfl, w0_3⟩ := leaf_int Try.underlying3 e0_3
  obtain ⟨y0_4, m0_4, rfl, e0_4, l0_5⟩ := All2.cons_inv l0_4
  obtain ⟨x0_4, rfl, w0_4⟩ := leaf_int Try.underlying3 e0_4
  obtain ⟨y0_5, m0_5, rfl, e0_5, l0_6⟩ := All2.cons_inv l0_5
  obtain ⟨x0_5, rfl, w0_5⟩ := leaf_int Try.underlying3 e0_5
  obtain rfl := All2.nil_inv l0_6
  obtain ⟨c1, rfl, l1_0⟩ := param_struct (n := 20) (P := Try.prog) Try.underlying44 (by kernel_rfl : leaves Try.prog 20 44 = some [3, 3]) (hval 1 44 v1 rfl rfl) h1
  obtain ⟨y1_0, m1_0, rfl, e1_0, l1_1⟩ := All2.cons_inv l1_0
  obtain ⟨x1_0, rfl, w1_0⟩ := leaf_int Try.underlying3 e1_0
  obtain ⟨y1_1, m1_1, rfl, e1_1, l1_2⟩ := All2.cons_inv l1_1
  obtain ⟨x1_1, rfl, w1_1⟩ := leaf_int Try.underlying3 e1_1
  obtain rfl := All2.nil_inv l1_2
  clear hA0 hval0
  refine (walk x0_0 x0_1 x0_2 x0_3 x0_4 x0_5 x1_0 x1_1 W w0_0 w0_1 w0_2 w0_3 w0_4 w0_5 w1_0 w1_1).mono fun e W' ⟨he, hg⟩ => ?_
  subst he
  exact ⟨_, rfl, law_post laidOut (by kernel_rfl) (by kernel_rfl) Try.underlying4 rfl hW' rfl hg⟩

theorem over : Rows.affineInverseBackRow.holds Try.pinned (OpenSpec.ofChange Rows.affineInverseBackSpec) :=
  OpenClaim.holds_of_wide 7 Try.f7 rfl rfl rfl rfl rfl rfl rfl ⟨rfl, rfl, rfl, rfl, rfl⟩ rfl rfl rfl rfl rfl (by kernel_rfl) Try.func7 (by kernel_rfl)
    (of_decide_eq_true (by kernel_rfl)) (by unfold Func.isWrapper; first | (rw [if_pos (by decide +kernel)]; kernel_rfl) | (rw [if_neg (by decide +kernel)]; exact ⟨rfl, rfl⟩))
    (fun os started H enc _ => lifted os started H enc)
theorem proved : Rows.AffineInverseBackSaid :=
  over
end Go.Proofs.Ytmedlibkhlgdjaa.affineInverseBack
