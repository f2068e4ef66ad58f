/- printworkskeep1.ComposeIdentities returns true for every two states, every vector of inks, every mode and with or without overprint, and leaves its arguments as they were. -/
import Derived.Test.YtmedlibkhlgdjaaRows
import Derived.Test.YtmedlibkhlgdjaaFrame
import Derived.Test.YtmedlibkhlgdjaaWalkComposeIdentities
namespace Go.Proofs.Ytmedlibkhlgdjaa.composeIdentities
open Go.ChangeShapes Go.WideShapes Go.ChangeAt Go.RowKit
set_option linter.unusedVariables false
theorem own : ownKnob Try.prog.godebug = none := by kernel_rfl
theorem laidOut : laidOutB Try.prog = true := by kernel_rfl
set_option maxRecDepth 100000 in
theorem lifted (os : Os) (started : os.Started) (H : Type) (enc : TypeId × Value → H) :
    ReturnsInHanded {} Try.checked os 13 .any (Rows.composeIdentitiesSpec.pre6 enc Try.prog Try.f13 Rows.composeIdentitiesRow.domain false) (Rows.composeIdentitiesSpec.post enc Try.prog Try.f13 false true false false) := by
  refine returnsInHanded_of_change (C := Try.checked) own started (by kernel_rfl) Try.func13
    (ChangeSpec.witness6 (enc := enc) (C := Try.checked) false ⟨#[], #[.agg #[.int .u8 0, .int .u8 0, .int .u8 0, .int .u8 0, .int .u8 0, .int .u8 0, .int .u8 0, .int .u8 0, .int .u8 0], .agg #[.int .u8 0, .int .u8 0, .int .u8 0, .int .u8 0, .int .u8 0, .int .u8 0, .int .u8 0, .int .u8 0, .int .u8 0], .agg #[.int .u8 0, .int .u8 0, .int .u8 0, .int .u8 0, .int .u8 0, .int .u8 0, .int .u8 0, .int .u8 0], .int .i64 0, .bool false], []⟩ 8 (by kernel_rfl) (by kernel_rfl) (by kernel_rfl) (by kernel_rfl)) ?_
  intro W base args ds gs before hval0 hW hcnd _
  have hval : ∀ (j : Nat) t v, Try.f13.params[j]? = some t → args[j]? = some v → Value.okWide Try.prog W .any base t v := hval0
  have hW' := hW
  obtain ⟨p, q, hA0, hV, rfl, hfz, hnd⟩ := hW
  have hA : DataW.TrodAll enc Try.prog W 0 (fun _ => true) true Try.f13.params.toList args.toList ds p := hA0
  rw [Try.params13] at hA hval
  obtain ⟨v0, vs0, d0, ds0, p0, q0, hargs, rfl, rfl, h0, r0⟩ := trodAll_cons hA
  obtain ⟨v1, vs1, d1, ds1, p1, q1, rfl, rfl, rfl, h1, r1⟩ := trodAll_cons r0
  obtain ⟨v2, vs2, d2, ds2, p2, q2, rfl, rfl, rfl, h2, r2⟩ := trodAll_cons r1
  obtain ⟨v3, vs3, d3, ds3, p3, q3, rfl, rfl, rfl, h3, r3⟩ := trodAll_cons r2
  obtain ⟨v4, vs4, d4, ds4, p4, q4, rfl, rfl, rfl, h4, r4⟩ := trodAll_cons r3
  obtain ⟨rfl, rfl, rfl⟩ := trodAll_nil r4
  obtain rfl : args = #[v0, v1, v2, v3, v4] := by cases args; simp_all
  obtain ⟨rfl, rfl⟩ := trodVars_none hV
  obtain ⟨c0, rfl, l0_0⟩ := param_struct (n := 20) (P := Try.prog) Try.underlying67 (by kernel_rfl : leaves Try.prog 20 67 = some [5, 5, 5, 5, 5, 5, 5, 5, 5]) (hval 0 67 v0 rfl rfl) h0
  obtain ⟨y0_0, m0_0, rfl, e0_0, l0_1⟩ := All2.cons_inv l0_0
  obtain ⟨x0_0, rfl, w0_0⟩ := leaf_int Try.underlying5 e0_0
  obtain ⟨y0_1, m0_1, rfl, e0_1, l0_2⟩ := All2.cons_inv l0_1
  obtain ⟨x0_1, rfl, w0_1⟩ := leaf_int Try.underlying5 e0_1
  obtain ⟨y0_2, m0_2, rfl, e0_2, l0_3⟩ := All2.cons_inv l0_2
  obtain ⟨x0_2, rfl, w0_2⟩ := leaf_int Try.underlying5 e0_2
  obtain ⟨y0_3, m0_3, rfl, e0_3, l0_4⟩ := All2.cons_inv l0_3
  obtain ⟨x0_3, rfl, w0_3⟩ := leaf_int Try.underlying5 e0_3
  obtain ⟨y0_4, m0_4, rfl, e0_4, l0_5⟩ := All2.cons_inv l0_4
  obtain ⟨x0_4, rfl, w0_4⟩ := leaf_int Try.underlying5 e0_4
  obtain ⟨y0_5, m0_5, rfl, e0_5, l0_6⟩ := All2.cons_inv l0_5
  obtain ⟨x0_5, rfl, w0_5⟩ := leaf_int Try.underlying5 e0_5
  obtain ⟨y0_6, m0_6, rfl, e0_6, l0_7⟩ := All2.cons_inv l0_6
  obtain ⟨x0_6, rfl, w0_6⟩ := leaf_int Try.underlying5 e0_6
  obtain ⟨y0_7, m0_7, rfl, e0_7, l0_8⟩ := All2.cons_inv l0_7
  obtain ⟨x0_7, rfl, w0_7⟩ := leaf_int Try.underlying5 e0_7
  obtain ⟨y0_8, m0_8, rfl, e0_8, l0_9⟩ := All2.cons_inv l0_8
  obtain ⟨x0_8, rfl, w0_8⟩ := leaf_int Try.underlying5 e0_8
  obtain rfl := All2.nil_inv l0_9
  obtain ⟨c1, rfl, l1_0⟩ := param_struct (n := 20) (P := Try.prog) Try.underlying67 (by kernel_rfl : leaves Try.prog 20 67 = some [5, 5, 5, 5, 5, 5, 5, 5, 5]) (hval 1 67 v1 rfl rfl) h1
  obtain ⟨y1_0, m1_0, rfl, e1_0, l1_1⟩ := All2.cons_inv l1_0
  obtain ⟨x1_0, rfl, w1_0⟩ := leaf_int Try.underlying5 e1_0
  obtain ⟨y1_1, m1_1, rfl, e1_1, l1_2⟩ := All2.cons_inv l1_1
  obtain ⟨x1_1, rfl, w1_1⟩ := leaf_int Try.underlying5 e1_1
  obtain ⟨y1_2, m1_2, rfl, e1_2, l1_3⟩ := All2.cons_inv l1_2
  obtain ⟨x1_2, rfl, w1_2⟩ := leaf_int Try.underlying5 e1_2
  obtain ⟨y1_3, m1_3, rfl, e1_3, l1_4⟩ := All2.cons_inv l1_3
  obtain ⟨x1_3, rfl, w1_3⟩ := leaf_int Try.underlying5 e1_3
  obtain ⟨y1_4, m1_4, rfl, e1_4, l1_5⟩ := All2.cons_inv l1_4
  obtain ⟨x1_4, rfl, w1_4⟩ := leaf_int Try.underlying5 e1_4
  obtain ⟨y1_5, m1_5, rfl, e1_5, l1_6⟩ := All2.cons_inv l1_5
  obtain ⟨x1_5, rfl, w1_5⟩ := leaf_int Try.underlying5 e1_5
  obtain ⟨y1_6, m1_6, rfl, e1_6, l1_7⟩ := All2.cons_inv l1_6
  obtain ⟨x1_6, rfl, w1_6⟩ := leaf_int Try.underlying5 e1_6
  obtain ⟨y1_7, m1_7, rfl, e1_7, l1_8⟩ := All2.cons_inv l1_7
  obtain ⟨x1_7, rfl, w1_7⟩ := leaf_int Try.underlying5 e1_7
  obtain ⟨y1_8, m1_8, rfl, e1_8, l1_9⟩ := All2.cons_inv l1_8
  obtain ⟨x1_8, rfl, w1_8⟩ := leaf_int Try.underlying5 e1_8
  obtain rfl := All2.nil_inv l1_9
  obtain ⟨c2, rfl, l2_0⟩ := param_array (n := 20) (P := Try.prog) Try.underlying65 (by kernel_rfl : leaves Try.prog 20 65 = some [5, 5, 5, 5, 5, 5, 5, 5]) (hval 2 65 v2 rfl rfl) h2
  obtain ⟨y2_0, m2_0, rfl, e2_0, l2_1⟩ := All2.cons_inv l2_0
  obtain ⟨x2_0, rfl, w2_0⟩ := leaf_int Try.underlying5 e2_0
  obtain ⟨y2_1, m2_1, rfl, e2_1, l2_2⟩ := All2.cons_inv l2_1
  obtain ⟨x2_1, rfl, w2_1⟩ := leaf_int Try.underlying5 e2_1
  obtain ⟨y2_2, m2_2, rfl, e2_2, l2_3⟩ := All2.cons_inv l2_2
  obtain ⟨x2_2, rfl, w2_2⟩ := leaf_int Try.underlying5 e2_2
  obtain ⟨y2_3, m2_3, rfl, e2_3, l2_4⟩ := All2.cons_inv l2_3
  obtain ⟨x2_3, rfl, w2_3⟩ := leaf_int Try.underlying5 e2_3
  obtain ⟨y2_4, m2_4, rfl, e2_4, l2_5⟩ := All2.cons_inv l2_4
  obtain ⟨x2_4, rfl, w2_4⟩ := leaf_int Try.underlying5 e2_4
  obtain ⟨y2_5, m2_5, rfl, e2_5, l2_6⟩ := All2.cons_inv l2_5
  obtain ⟨x2_5, rfl, w2_5⟩ := leaf_int Try.underlying5 e2_5
  obtain ⟨y2_6, m2_6, rfl, e2_6, l2_7⟩ := All2.cons_inv l2_6
  obtain ⟨x2_6, rfl, w2_6⟩ := leaf_int Try.underlying5 e2_6
  obtain ⟨y2_7, m2_7, rfl, e2_7, l2_8⟩ := All2.cons_inv l2_7
  obtain ⟨x2_7, rfl, w2_7⟩ := leaf_int Try.underlying5 e2_7
  obtain rfl := All2.nil_inv l2_8
  obtain ⟨a3, rfl, rfl, rfl, w3⟩ := open_int Try.underlying3 (hval 3 3 v3 rfl rfl) h3
  obtain ⟨a4, rfl, rfl, rfl⟩ := open_bool Try.underlying4 (hval 4 4 v4 rfl rfl) h4
  clear hA0 hval0
  refine (walk x0_0 x0_1 x0_2 x0_3 x0_4 x0_5 x0_6 x0_7 x0_8 x1_0 x1_1 x1_2 x1_3 x1_4 x1_5 x1_6 x1_7 x1_8 x2_0 x2_1 x2_2 x2_3 x2_4 x2_5 x2_6 x2_7 a3 a4 W w0_0 w0_1 w0_2 w0_3 w0_4 w0_5 w0_6 w0_7 w0_8 w1_0 w1_1 w1_2 w1_3 w1_4 w1_5 w1_6 w1_7 w1_8 w2_0 w2_1 w2_2 w2_3 w2_4 w2_5 w2_6 w2_7 w3).mono fun e W' ⟨he, hg⟩ => ?_
  subst he
  exact ⟨_, rfl, law_post laidOut (by kernel_rfl) (by kernel_rfl) Try.underlying4 rfl hW' rfl hg⟩

theorem over : Rows.composeIdentitiesRow.holds Try.pinned (OpenSpec.ofChange Rows.composeIdentitiesSpec) :=
  OpenClaim.holds_of_wide 13 Try.f13 rfl rfl rfl rfl rfl rfl rfl ⟨rfl, rfl, rfl, rfl, rfl⟩ rfl rfl rfl rfl rfl (by kernel_rfl) Try.func13 (by kernel_rfl)
    (of_decide_eq_true (by kernel_rfl)) (by unfold Func.isWrapper; first | (rw [if_pos (by decide +kernel)]; kernel_rfl) | (rw [if_neg (by decide +kernel)]; exact ⟨rfl, rfl⟩))
    (fun os started H enc _ => lifted os started H enc)
theorem proved : Rows.ComposeIdentitiesSaid :=
  over
end Go.Proofs.Ytmedlibkhlgdjaa.composeIdentities
