/- printworkskeep1.PullKeepsKey returns true for every width, every list of vectors, every step, every radius and every shift, and leaves its arguments as they were. -/
import Derived.Test.YtbkgncikjhibiaaRows
import Derived.Test.YtbkgncikjhibiaaFrame
import Derived.Test.YtbkgncikjhibiaaWalkPullKeepsKey
namespace Go.Proofs.Ytbkgncikjhibiaa.pullKeepsKey
open Go.ChangeShapes Go.WideShapes Go.ChangeAt Go.RowKit
set_option linter.unusedVariables false
theorem own : ownKnob Try.prog.godebug = none := by kernel_rfl
theorem laidOut : laidOutB Try.prog = true := by kernel_rfl
set_option maxRecDepth 100000 in
theorem lifted (os : Os) (started : os.Started) (H : Type) (enc : TypeId × Value → H) :
    ReturnsInHanded {} Try.checked os 3 .any (Rows.pullKeepsKeySpec.pre6 enc Try.prog Try.f3 Rows.pullKeepsKeyRow.domain false) (Rows.pullKeepsKeySpec.post enc Try.prog Try.f3 false true false false) := by
  refine returnsInHanded_of_change_sized (C := Try.checked) own started (by kernel_rfl) Try.func3
    (ChangeSpec.witness6 (enc := enc) (C := Try.checked) false ⟨#[], #[.int .i64 0, .slice none 0 0, .int .i64 0, .int .i64 0, .agg #[.int .i64 0, .int .i64 0]], []⟩ 8 (by kernel_rfl) (by kernel_rfl) (by kernel_rfl) (by kernel_rfl)) ?_
  intro W base args ds gs before hval0 hW hcnd hsz _
  have hval : ∀ (j : Nat) t v, Try.f3.params[j]? = some t → args[j]? = some v → Value.okWide Try.prog W .any base t v := hval0
  have hW' := hW
  obtain ⟨p, q, hA0, hV, rfl, hfz, hnd⟩ := hW
  have hA : DataW.TrodAll enc Try.prog W 0 (fun _ => true) true Try.f3.params.toList args.toList ds p := hA0
  rw [Try.params3] at hA hval
  obtain ⟨v0, vs0, d0, ds0, p0, q0, hargs, rfl, rfl, h0, r0⟩ := trodAll_cons hA
  obtain ⟨v1, vs1, d1, ds1, p1, q1, rfl, rfl, rfl, h1, r1⟩ := trodAll_cons r0
  obtain ⟨v2, vs2, d2, ds2, p2, q2, rfl, rfl, rfl, h2, r2⟩ := trodAll_cons r1
  obtain ⟨v3, vs3, d3, ds3, p3, q3, rfl, rfl, rfl, h3, r3⟩ := trodAll_cons r2
  obtain ⟨v4, vs4, d4, ds4, p4, q4, rfl, rfl, rfl, h4, r4⟩ := trodAll_cons r3
  obtain ⟨rfl, rfl, rfl⟩ := trodAll_nil r4
  obtain rfl : args = #[v0, v1, v2, v3, v4] := by cases args; simp_all
  obtain ⟨rfl, rfl⟩ := trodVars_none hV
  obtain ⟨a0, rfl, rfl, rfl, w0⟩ := open_int Try.underlying3 (hval 0 3 v0 rfl rfl) h0
  have L1 : Leaf Try.prog W 22 v1 := param_slice Try.underlying22 (hval 1 22 v1 rfl rfl) h1
  obtain ⟨a2, rfl, rfl, rfl, w2⟩ := open_int Try.underlying3 (hval 2 3 v2 rfl rfl) h2
  obtain ⟨a3, rfl, rfl, rfl, w3⟩ := open_int Try.underlying3 (hval 3 3 v3 rfl rfl) h3
  obtain ⟨c4, rfl, l4_0⟩ := param_struct (n := 20) (P := Try.prog) Try.underlying24 (by kernel_rfl : leaves Try.prog 20 24 = some [3, 3]) (hval 4 24 v4 rfl rfl) h4
  obtain ⟨y4_0, m4_0, rfl, e4_0, l4_1⟩ := All2.cons_inv l4_0
  obtain ⟨x4_0, rfl, w4_0⟩ := leaf_int Try.underlying3 e4_0
  obtain ⟨y4_1, m4_1, rfl, e4_1, l4_2⟩ := All2.cons_inv l4_1
  obtain ⟨x4_1, rfl, w4_1⟩ := leaf_int Try.underlying3 e4_1
  obtain rfl := All2.nil_inv l4_2
  have S1 : Szd.Szd Try.prog 33 v1 := Szd.param_szd Try.underlying22 h1 (fun el sp he => sized_slice hsz (j := 1) (by kernel_rfl) (he ▸ rfl) Try.underlying22)
  clear hA0 hval0
  refine (walk a0 v1 a2 a3 x4_0 x4_1 W w0 L1 w2 w3 w4_0 w4_1 S1).mono fun e W' ⟨he, hg⟩ => ?_
  subst he
  exact ⟨_, rfl, law_post laidOut (by kernel_rfl) (by kernel_rfl) Try.underlying4 rfl hW' rfl hg⟩

theorem over : Rows.pullKeepsKeyRow.holds Try.pinned (OpenSpec.ofChange Rows.pullKeepsKeySpec) :=
  OpenClaim.holds_of_wide_leaving 3 Try.f3 rfl rfl rfl rfl rfl rfl rfl ⟨rfl, rfl, rfl, rfl, rfl⟩ rfl rfl rfl rfl rfl (by kernel_rfl) Try.func3 (by kernel_rfl)
    (of_decide_eq_true (by kernel_rfl)) (by unfold Func.isWrapper; first | (rw [if_pos (by decide +kernel)]; kernel_rfl) | (rw [if_neg (by decide +kernel)]; exact ⟨rfl, rfl⟩))
    (fun os started H enc _ => Lvg.leaving_of_handed (lifted os started H enc))
theorem proved : Rows.PullKeepsKeySaid :=
  over
end Go.Proofs.Ytbkgncikjhibiaa.pullKeepsKey
