/- printworkskeep1.TrapMeets returns true for every width, every list of vectors, every step and every radius, and leaves its arguments as they were. -/
import Derived.Test.YtbkgncikjhibiaaGreatM11
import Derived.Test.YtbkgncikjhibiaaGreatRows
set_option maxRecDepth 100000
set_option linter.unusedSimpArgs false
set_option linter.unusedVariables false
set_option linter.unusedSectionVars false
namespace Go.Proofs.YtbkgncikjhibiaaGreat.trapMeets
open Go.ChangeShapes Go.WideShapes Go.ChangeAt Go.RowKit
open Sx
theorem bx4 {P : Program} {t : TypeId} {v : Value} {w : World} {T : Tape} (h : Leaf P w t v) : Leaf P { Hid.clean w with tape := T } t v := by
  obtain ⟨H, enc, fuel, x, hx⟩ := h;exact ⟨H, enc, fuel, x, by rw [Hid.bu2 (V := { Hid.clean w with tape := T }) (W := w) (fun a => Hid.bz3 w a) (fun b es c => Hid.bM4 w b es c)]; exact hx⟩
theorem walk (a0 : Int) (a1 : Value) (a2 a3 : Int) (w : World) (T : Tape) (L : Leaf Tryz.prog w 22 a1) (S1 : Szd.Szd Tryz.prog 26 a1) :
    Calls Hid.twp 3 #[.int .i64 a0, a1, .int .i64 a2, .int .i64 a3] { Hid.clean w with tape := T } fun e w' => e = .returned (.bool true) ∧ Below w.heap.size { Hid.clean w with tape := T } w' := by
  have L1 := bx4 (T := T) L;obtain ⟨len, f, hR, hw, hlen⟩ := bJ7 (k := .u8) (t := 5) 8 Tryz.underlying22 Tryz.underlying5 (by kernel_rfl) (by decide) (by kernel_rfl) L1;have hR1 := hR (fun i j => .int .u8 (f i j)) (fun i j hj => match j, hj with | 0, _ => rfl | 1, _ => rfl | 2, _ => rfl | 3, _ => rfl | 4, _ => rfl | 5, _ => rfl | 6, _ => rfl | 7, _ => rfl);have hb := Szd.b63 S1 hR1;have e8 : Tryz.prog.bytesOf 26 = 8 := by kernel_rfl
  have eR : reachBytes = 140737488351232 := by kernel_rfl
  rw [e8, eR] at hb;have wu : ∀ i j, i < len → j < 8 → 0 ≤ f i j ∧ f i j ≤ 255 := fun i j hi hj => wf_u8 (hw i j hi hj)
  have key := cn6 Tmt.cl3 ⟨a0, len, f, a2, a3⟩ rfl
    ⟨trivial, fun i j => trivial, trivial, trivial, trivial⟩
    ⟨(show len ≤ 17592186044416 by omega), wu⟩
    (vals := [.int .i64 a0, a1, .int .i64 a2, .int .i64 a3]) (w := { Hid.clean w with tape := T })
    ⟨.int, hR1, .int, .int, trivial⟩
  have es : (Hid.clean w).heap.size = w.heap.size := by simp [Hid.clean]
  rw [show ({ Hid.clean w with tape := T } : World).heap.size = w.heap.size from es] at key;exact key
theorem own : ownKnob Tryz.prog.godebug = none := by kernel_rfl
theorem laidOut : laidOutB Tryz.prog = true := by kernel_rfl
theorem lifted (os : Os) (started : os.Started) (H : Type) (enc : TypeId × Value → H) :
    ReturnsInLeavingWide {} Tryz.checked os 3 .any (Rows.trapMeetsSpec.pre6 enc Tryz.prog Tryz.f3 Rows.trapMeetsRow.domain false) (Rows.trapMeetsSpec.post enc Tryz.prog Tryz.f3 false true false false) := by
  refine Hid.aO5 own started Tw.func3 Tryz.func3 (by kernel_rfl) (fun tmps => ⟨tmps.getD 8 undef, fun q w es => by simp [results, Tryz.results3]⟩)
    (ChangeSpec.witness6 (enc := enc) (C := Tryz.checked) false ⟨#[], #[.int .i64 0, .slice none 0 0, .int .i64 0, .int .i64 0], []⟩ 8 (by kernel_rfl) (by kernel_rfl) (by kernel_rfl) (by kernel_rfl)) ?_
  intro W base args ds gs before hval0 hW hcnd hsz;have hval : ∀ (j : Nat) t v, Tryz.f3.params[j]? = some t → args[j]? = some v → Value.okWide Tryz.prog W .any base t v := hval0;have hW' := hW;obtain ⟨p, q, hA0, hV, rfl, hfz, hnd⟩ := hW;have hA : DataW.TrodAll enc Tryz.prog W 0 (fun _ => true) true Tryz.f3.params.toList args.toList ds p := hA0;rw [Tryz.params3] at hA hval;obtain ⟨v0, vs0, d0, ds0, p0, q0, hargs, rfl, rfl, h0, r0⟩ := trodAll_cons hA;obtain ⟨v1, vs1, d1, ds1, p1, q1, rfl, rfl, rfl, h1, r1⟩ := trodAll_cons r0;obtain ⟨v2, vs2, d2, ds2, p2, q2, rfl, rfl, rfl, h2, r2⟩ := trodAll_cons r1;obtain ⟨v3, vs3, d3, ds3, p3, q3, rfl, rfl, rfl, h3, r3⟩ := trodAll_cons r2;obtain ⟨rfl, rfl, rfl⟩ := trodAll_nil r3;obtain rfl : args = #[v0, v1, v2, v3] := by cases args; simp_all
  obtain ⟨rfl, rfl⟩ := trodVars_none hV;obtain ⟨a0, rfl, rfl, rfl, w0⟩ := open_int Tryz.underlying3 (hval 0 3 v0 rfl rfl) h0;have L1 : Leaf Tryz.prog W 22 v1 := bj7 Tryz.underlying22 (hval 1 22 v1 rfl rfl) h1;obtain ⟨a2, rfl, rfl, rfl, w2⟩ := open_int Tryz.underlying3 (hval 2 3 v2 rfl rfl) h2;obtain ⟨a3, rfl, rfl, rfl, w3⟩ := open_int Tryz.underlying3 (hval 3 3 v3 rfl rfl) h3;have S1 : Szd.Szd Tryz.prog 26 v1 := Szd.bG4 Tryz.underlying22 h1 (fun el sp he => sized_slice hsz (j := 1) (by kernel_rfl) (he ▸ rfl) Tryz.underlying22);clear hA0 hval0;exact ⟨fun T => walk a0 v1 a2 a3 W T L1 S1, fun C hg => bT5 laidOut (by kernel_rfl) (by kernel_rfl) Tryz.underlying4 rfl hW' rfl hg⟩
theorem over : Rows.trapMeetsRow.holds Tryz.pinned (OpenSpec.ofChange Rows.trapMeetsSpec) :=
  OpenClaim.holds_of_wide_leaving 3 Tryz.f3 rfl rfl rfl rfl rfl rfl rfl ⟨rfl, rfl, rfl, rfl, rfl⟩ rfl rfl rfl rfl rfl (by kernel_rfl) Tryz.func3 (by kernel_rfl)
    (of_decide_eq_true (by kernel_rfl)) (by unfold Func.isWrapper; first | (rw [if_pos (by decide +kernel)]; kernel_rfl) | (rw [if_neg (by decide +kernel)]; exact ⟨rfl, rfl⟩))
    (fun os started H enc _ => lifted os started H enc)
theorem proved : Rows.TrapMeetsSaid :=
  over
end Go.Proofs.YtbkgncikjhibiaaGreat.trapMeets
