/- printworkskeep1.ListOpaqueTop returns true for every display list, every region, every vector and every cell, and leaves its arguments as they were. -/
import Derived.Test.YthappngbapbkfaaGreatM11
import Derived.Test.YthappngbapbkfaaGreatRows
import Derived.Test.YthappngbapbkfaaGreatWalkListOpaqueTop
namespace Go.Proofs.YthappngbapbkfaaGreat.listOpaqueTop
open Go.ChangeShapes Go.WideShapes Go.ChangeAt Go.RowKit
set_option linter.unusedVariables false
theorem own : ownKnob Tryz.prog.godebug = none := by kernel_rfl
theorem laidOut : laidOutB Tryz.prog = true := by kernel_rfl
set_option maxRecDepth 100000 in
theorem lifted (os : Os) (started : os.Started) (H : Type) (enc : TypeId × Value → H) :
    ReturnsInHanded {} Tryz.checked os 3 .any (Rows.listOpaqueTopSpec.pre6 enc Tryz.prog Tryz.f3 Rows.listOpaqueTopRow.domain false) (Rows.listOpaqueTopSpec.post enc Tryz.prog Tryz.f3 false true false false) := by
  refine returnsInHanded_of_change (C := Tryz.checked) own started (by kernel_rfl) Tryz.func3
    (ChangeSpec.witness6 (enc := enc) (C := Tryz.checked) false ⟨#[], #[.agg #[.int .i64 0, .int .i64 0, .slice none 0 0, .slice none 0 0], .slice none 0 0, .agg #[.int .u8 0, .int .u8 0, .int .u8 0, .int .u8 0, .int .u8 0, .int .u8 0, .int .u8 0, .int .u8 0], .int .i64 0, .int .i64 0], []⟩ 8 (by kernel_rfl) (by kernel_rfl) (by kernel_rfl) (by kernel_rfl)) ?_
  intro W base args ds gs before hval0 hW hcnd _
  have hval : ∀ (j : Nat) t v, Tryz.f3.params[j]? = some t → args[j]? = some v → Value.okWide Tryz.prog W .any base t v := hval0
  have hW' := hW
  obtain ⟨p, q, hA0, hV, rfl, hfz, hnd⟩ := hW
  have hA : DataW.TrodAll enc Tryz.prog W 0 (fun _ => true) true Tryz.f3.params.toList args.toList ds p := hA0
  rw [Tryz.params3] at hA hval
  obtain ⟨v0, vs0, d0, ds0, p0, q0, hargs, rfl, rfl, h0, r0⟩ := trodAll_cons hA
  obtain ⟨v1, vs1, d1, ds1, p1, q1, rfl, rfl, rfl, h1, r1⟩ := trodAll_cons r0
  obtain ⟨v2, vs2, d2, ds2, p2, q2, rfl, rfl, rfl, h2, r2⟩ := trodAll_cons r1
  obtain ⟨v3, vs3, d3, ds3, p3, q3, rfl, rfl, rfl, h3, r3⟩ := trodAll_cons r2
  obtain ⟨v4, vs4, d4, ds4, p4, q4, rfl, rfl, rfl, h4, r4⟩ := trodAll_cons r3
  obtain ⟨rfl, rfl, rfl⟩ := trodAll_nil r4
  obtain rfl : args = #[v0, v1, v2, v3, v4] := by cases args; simp_all
  obtain ⟨rfl, rfl⟩ := trodVars_none hV
  obtain ⟨c0, rfl, l0_0⟩ := aW2 (n := 20) (P := Tryz.prog) Tryz.underlying25 (by kernel_rfl : leaves Tryz.prog 20 25 = some [3, 3, 22, 23]) (hval 0 25 v0 rfl rfl) h0
  obtain ⟨y0_0, m0_0, rfl, e0_0, l0_1⟩ := All2.cons_inv l0_0
  obtain ⟨x0_0, rfl, w0_0⟩ := ah5 Tryz.underlying3 e0_0
  obtain ⟨y0_1, m0_1, rfl, e0_1, l0_2⟩ := All2.cons_inv l0_1
  obtain ⟨x0_1, rfl, w0_1⟩ := ah5 Tryz.underlying3 e0_1
  obtain ⟨y0_2, m0_2, rfl, e0_2, l0_3⟩ := All2.cons_inv l0_2
  have L0_2 := e0_2
  obtain ⟨y0_3, m0_3, rfl, e0_3, l0_4⟩ := All2.cons_inv l0_3
  have L0_3 := e0_3
  obtain rfl := All2.aR1 l0_4
  have L1 : Leaf Tryz.prog W 26 v1 := a27 Tryz.underlying26 (hval 1 26 v1 rfl rfl) h1
  obtain ⟨c2, rfl, l2_0⟩ := a29 (n := 20) (P := Tryz.prog) Tryz.underlying28 (by kernel_rfl : leaves Tryz.prog 20 28 = some [5, 5, 5, 5, 5, 5, 5, 5]) (hval 2 28 v2 rfl rfl) h2
  obtain ⟨y2_0, m2_0, rfl, e2_0, l2_1⟩ := All2.cons_inv l2_0
  obtain ⟨x2_0, rfl, w2_0⟩ := ah5 Tryz.underlying5 e2_0
  obtain ⟨y2_1, m2_1, rfl, e2_1, l2_2⟩ := All2.cons_inv l2_1
  obtain ⟨x2_1, rfl, w2_1⟩ := ah5 Tryz.underlying5 e2_1
  obtain ⟨y2_2, m2_2, rfl, e2_2, l2_3⟩ := All2.cons_inv l2_2
  obtain ⟨x2_2, rfl, w2_2⟩ := ah5 Tryz.underlying5 e2_2
  obtain ⟨y2_3, m2_3, rfl, e2_3, l2_4⟩ := All2.cons_inv l2_3
  obtain ⟨x2_3, rfl, w2_3⟩ := ah5 Tryz.underlying5 e2_3
  obtain ⟨y2_4, m2_4, rfl, e2_4, l2_5⟩ := All2.cons_inv l2_4
  obtain ⟨x2_4, rfl, w2_4⟩ := ah5 Tryz.underlying5 e2_4
  obtain ⟨y2_5, m2_5, rfl, e2_5, l2_6⟩ := All2.cons_inv l2_5
  obtain ⟨x2_5, rfl, w2_5⟩ := ah5 Tryz.underlying5 e2_5
  obtain ⟨y2_6, m2_6, rfl, e2_6, l2_7⟩ := All2.cons_inv l2_6
  obtain ⟨x2_6, rfl, w2_6⟩ := ah5 Tryz.underlying5 e2_6
  obtain ⟨y2_7, m2_7, rfl, e2_7, l2_8⟩ := All2.cons_inv l2_7
  obtain ⟨x2_7, rfl, w2_7⟩ := ah5 Tryz.underlying5 e2_7
  obtain rfl := All2.aR1 l2_8
  obtain ⟨a3, rfl, rfl, rfl, w3⟩ := open_int Tryz.underlying3 (hval 3 3 v3 rfl rfl) h3
  obtain ⟨a4, rfl, rfl, rfl, w4⟩ := open_int Tryz.underlying3 (hval 4 3 v4 rfl rfl) h4
  clear hA0 hval0
  refine (walk x0_0 x0_1 y0_2 y0_3 v1 x2_0 x2_1 x2_2 x2_3 x2_4 x2_5 x2_6 x2_7 a3 a4 W w0_0 w0_1 L0_2 L0_3 L1 w2_0 w2_1 w2_2 w2_3 w2_4 w2_5 w2_6 w2_7 w3 w4).mono fun e W' ⟨he, hg⟩ => ?_
  subst he
  exact ⟨_, rfl, law_post laidOut (by kernel_rfl) (by kernel_rfl) Tryz.underlying4 rfl hW' rfl hg⟩

theorem over : Rows.listOpaqueTopRow.holds Tryz.pinned (OpenSpec.ofChange Rows.listOpaqueTopSpec) :=
  OpenClaim.holds_of_wide 3 Tryz.f3 rfl rfl rfl rfl rfl rfl rfl ⟨rfl, rfl, rfl, rfl, rfl⟩ rfl rfl rfl rfl rfl (by kernel_rfl) Tryz.func3 (by kernel_rfl)
    (of_decide_eq_true (by kernel_rfl)) (by unfold Func.isWrapper; first | (rw [if_pos (by decide +kernel)]; kernel_rfl) | (rw [if_neg (by decide +kernel)]; exact ⟨rfl, rfl⟩))
    (fun os started H enc _ => lifted os started H enc)
theorem proved : Rows.ListOpaqueTopSaid :=
  over
end Go.Proofs.YthappngbapbkfaaGreat.listOpaqueTop
