/- printworkskeep1.StrokeDot returns true for every point and every width, and leaves its arguments as they were. -/
import Derived.Test.YtfjbjbmbdadmhaaRows
import Derived.Test.YtfjbjbmbdadmhaaFrame
import Derived.Test.YtfjbjbmbdadmhaaWalkStrokeDot
namespace Go.Proofs.Ytfjbjbmbdadmhaa.strokeDot
open Go.ChangeShapes Go.WideShapes Go.ChangeAt Go.RowKit
set_option linter.unusedVariables false
theorem own : ownKnob Try.prog.godebug = none := by kernel_rfl
theorem laidOut : laidOutB Try.prog = true := by kernel_rfl
set_option maxRecDepth 100000 in
theorem lifted (os : Os) (started : os.Started) (H : Type) (enc : TypeId × Value → H) :
    ReturnsInHanded {} Try.checked os 10 .any (Rows.strokeDotSpec.pre6 enc Try.prog Try.f10 Rows.strokeDotRow.domain false) (Rows.strokeDotSpec.post enc Try.prog Try.f10 false true false false) := by
  refine returnsInHanded_of_change (C := Try.checked) own started (by kernel_rfl) Try.func10
    (ChangeSpec.witness6 (enc := enc) (C := Try.checked) false ⟨#[], #[.agg #[.int .i64 0, .int .i64 0], .int .i64 0], []⟩ 8 (by kernel_rfl) (by kernel_rfl) (by kernel_rfl) (by kernel_rfl)) ?_
  intro W base args ds gs before hval0 hW hcnd _
  have hval : ∀ (j : Nat) t v, Try.f10.params[j]? = some t → args[j]? = some v → Value.okWide Try.prog W .any base t v := hval0
  have hW' := hW
  obtain ⟨p, q, hA0, hV, rfl, hfz, hnd⟩ := hW
  have hA : DataW.TrodAll enc Try.prog W 0 (fun _ => true) true Try.f10.params.toList args.toList ds p := hA0
  rw [Try.params10] at hA hval
  obtain ⟨v0, vs0, d0, ds0, p0, q0, hargs, rfl, rfl, h0, r0⟩ := trodAll_cons hA
  obtain ⟨v1, vs1, d1, ds1, p1, q1, rfl, rfl, rfl, h1, r1⟩ := trodAll_cons r0
  obtain ⟨rfl, rfl, rfl⟩ := trodAll_nil r1
  obtain rfl : args = #[v0, v1] := by cases args; simp_all
  obtain ⟨rfl, rfl⟩ := trodVars_none hV
  obtain ⟨c0, rfl, l0_0⟩ := param_struct (n := 20) (P := Try.prog) Try.underlying34 (by kernel_rfl : leaves Try.prog 20 34 = some [3, 3]) (hval 0 34 v0 rfl rfl) h0
  obtain ⟨y0_0, m0_0, rfl, e0_0, l0_1⟩ := All2.cons_inv l0_0
  obtain ⟨x0_0, rfl, w0_0⟩ := leaf_int Try.underlying3 e0_0
  obtain ⟨y0_1, m0_1, rfl, e0_1, l0_2⟩ := All2.cons_inv l0_1
  obtain ⟨x0_1, rfl, w0_1⟩ := leaf_int Try.underlying3 e0_1
  obtain rfl := All2.nil_inv l0_2
  obtain ⟨a1, rfl, rfl, rfl, w1⟩ := open_int Try.underlying3 (hval 1 3 v1 rfl rfl) h1
  clear hA0 hval0
  refine (walk x0_0 x0_1 a1 W w0_0 w0_1 w1).mono fun e W' ⟨he, hg⟩ => ?_
  subst he
  exact ⟨_, rfl, law_post laidOut (by kernel_rfl) (by kernel_rfl) Try.underlying4 rfl hW' rfl hg⟩

theorem over : Rows.strokeDotRow.holds Try.pinned (OpenSpec.ofChange Rows.strokeDotSpec) :=
  OpenClaim.holds_of_wide 10 Try.f10 rfl rfl rfl rfl rfl rfl rfl ⟨rfl, rfl, rfl, rfl, rfl⟩ rfl rfl rfl rfl rfl (by kernel_rfl) Try.func10 (by kernel_rfl)
    (of_decide_eq_true (by kernel_rfl)) (by unfold Func.isWrapper; first | (rw [if_pos (by decide +kernel)]; kernel_rfl) | (rw [if_neg (by decide +kernel)]; exact ⟨rfl, rfl⟩))
    (fun os started H enc _ => lifted os started H enc)
theorem proved : Rows.StrokeDotSaid :=
  over
end Go.Proofs.Ytfjbjbmbdadmhaa.strokeDot
