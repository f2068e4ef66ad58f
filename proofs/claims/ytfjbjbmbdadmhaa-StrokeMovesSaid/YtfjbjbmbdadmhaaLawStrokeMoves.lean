/- printworkskeep1.StrokeMoves returns true for all lines, every style and every shift, and leaves its arguments as they were. -/
import Derived.Test.YtfjbjbmbdadmhaaRows
import Derived.Test.YtfjbjbmbdadmhaaFrame
import Derived.Test.YtfjbjbmbdadmhaaWalkStrokeMoves
namespace Go.Proofs.Ytfjbjbmbdadmhaa.strokeMoves
open Go.ChangeShapes Go.WideShapes Go.ChangeAt Go.RowKit
set_option linter.unusedVariables false
theorem own : ownKnob Try.prog.godebug = none := by kernel_rfl
theorem laidOut : laidOutB Try.prog = true := by kernel_rfl
set_option maxRecDepth 100000 in
theorem lifted (os : Os) (started : os.Started) (H : Type) (enc : TypeId × Value → H) :
    ReturnsInHanded {} Try.checked os 9 .any (Rows.strokeMovesSpec.pre6 enc Try.prog Try.f9 Rows.strokeMovesRow.domain false) (Rows.strokeMovesSpec.post enc Try.prog Try.f9 false true false false) := by
  refine returnsInHanded_of_change (C := Try.checked) own started (by kernel_rfl) Try.func9
    (ChangeSpec.witness6 (enc := enc) (C := Try.checked) false ⟨#[], #[.slice none 0 0, .agg #[.int .i64 0, .int .i64 0, .int .i64 0, .int .i64 0], .int .i64 0, .int .i64 0], []⟩ 8 (by kernel_rfl) (by kernel_rfl) (by kernel_rfl) (by kernel_rfl)) ?_
  intro W base args ds gs before hval0 hW hcnd _
  have hval : ∀ (j : Nat) t v, Try.f9.params[j]? = some t → args[j]? = some v → Value.okWide Try.prog W .any base t v := hval0
  have hW' := hW
  obtain ⟨p, q, hA0, hV, rfl, hfz, hnd⟩ := hW
  have hA : DataW.TrodAll enc Try.prog W 0 (fun _ => true) true Try.f9.params.toList args.toList ds p := hA0
  rw [Try.params9] at hA hval
  obtain ⟨v0, vs0, d0, ds0, p0, q0, hargs, rfl, rfl, h0, r0⟩ := trodAll_cons hA
  obtain ⟨v1, vs1, d1, ds1, p1, q1, rfl, rfl, rfl, h1, r1⟩ := trodAll_cons r0
  obtain ⟨v2, vs2, d2, ds2, p2, q2, rfl, rfl, rfl, h2, r2⟩ := trodAll_cons r1
  obtain ⟨v3, vs3, d3, ds3, p3, q3, rfl, rfl, rfl, h3, r3⟩ := trodAll_cons r2
  obtain ⟨rfl, rfl, rfl⟩ := trodAll_nil r3
  obtain rfl : args = #[v0, v1, v2, v3] := by cases args; simp_all
  obtain ⟨rfl, rfl⟩ := trodVars_none hV
  have L0 : Leaf Try.prog W 24 v0 := param_slice Try.underlying24 (hval 0 24 v0 rfl rfl) h0
  obtain ⟨c1, rfl, l1_0⟩ := param_struct (n := 20) (P := Try.prog) Try.underlying60 (by kernel_rfl : leaves Try.prog 20 60 = some [3, 3, 3, 3]) (hval 1 60 v1 rfl rfl) h1
  obtain ⟨y1_0, m1_0, rfl, e1_0, l1_1⟩ := All2.cons_inv l1_0
  obtain ⟨x1_0, rfl, w1_0⟩ := leaf_int Try.underlying3 e1_0
  obtain ⟨y1_1, m1_1, rfl, e1_1, l1_2⟩ := All2.cons_inv l1_1
  obtain ⟨x1_1, rfl, w1_1⟩ := leaf_int Try.underlying3 e1_1
  obtain ⟨y1_2, m1_2, rfl, e1_2, l1_3⟩ := All2.cons_inv l1_2
  obtain ⟨x1_2, rfl, w1_2⟩ := leaf_int Try.underlying3 e1_2
  obtain ⟨y1_3, m1_3, rfl, e1_3, l1_4⟩ := All2.cons_inv l1_3
  obtain ⟨x1_3, rfl, w1_3⟩ := leaf_int Try.underlying3 e1_3
  obtain rfl := All2.nil_inv l1_4
  obtain ⟨a2, rfl, rfl, rfl, w2⟩ := open_int Try.underlying3 (hval 2 3 v2 rfl rfl) h2
  obtain ⟨a3, rfl, rfl, rfl, w3⟩ := open_int Try.underlying3 (hval 3 3 v3 rfl rfl) h3
  clear hA0 hval0
  refine (walk v0 x1_0 x1_1 x1_2 x1_3 a2 a3 W L0 w1_0 w1_1 w1_2 w1_3 w2 w3).mono fun e W' ⟨he, hg⟩ => ?_
  subst he
  exact ⟨_, rfl, law_post laidOut (by kernel_rfl) (by kernel_rfl) Try.underlying4 rfl hW' rfl hg⟩

theorem over : Rows.strokeMovesRow.holds Try.pinned (OpenSpec.ofChange Rows.strokeMovesSpec) :=
  OpenClaim.holds_of_wide 9 Try.f9 rfl rfl rfl rfl rfl rfl rfl ⟨rfl, rfl, rfl, rfl, rfl⟩ rfl rfl rfl rfl rfl (by kernel_rfl) Try.func9 (by kernel_rfl)
    (of_decide_eq_true (by kernel_rfl)) (by unfold Func.isWrapper; first | (rw [if_pos (by decide +kernel)]; kernel_rfl) | (rw [if_neg (by decide +kernel)]; exact ⟨rfl, rfl⟩))
    (fun os started H enc _ => lifted os started H enc)
theorem proved : Rows.StrokeMovesSaid :=
  over
end Go.Proofs.Ytfjbjbmbdadmhaa.strokeMoves
