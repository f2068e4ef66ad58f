/- printworkskeep1.TrapRadius returns true for every width, every list of vectors, every step, every two radii and every cell, and leaves its arguments as they were. -/
import Derived.Test.YtbkgncikjhibiaaM10
import Derived.Test.YtbkgncikjhibiaaRows
set_option linter.unusedSimpArgs false
set_option linter.unusedVariables false
set_option linter.unusedSectionVars false
namespace Go.Proofs.Ytbkgncikjhibiaa.trapRadius
open Go.ChangeShapes Go.WideShapes Go.ChangeAt Go.RowKit
open Sx
set_option maxRecDepth 100000
theorem bt2 {P : Program} {t : TypeId} {v : Value} {w : World} {T : Tape} (h : Leaf P w t v) : Leaf P { Hid.clean w with tape := T } t v := by
  obtain ⟨H, enc, fuel, x, hx⟩ := h;exact ⟨H, enc, fuel, x, by rw [Hid.bp7 (V := { Hid.clean w with tape := T }) (W := w) (fun a => Hid.bv0 w a) (fun b es c => Hid.bH1 w b es c)]; exact hx⟩
theorem walk (a0 : Int) (a1 : Value) (a2 a3 a4 a5 a6 : Int) (w : World) (T : Tape) (L : Leaf Try.prog w 22 a1) (S1 : Szd.Szd Try.prog 33 a1) :
    Calls Hid.twp 4 #[.int .i64 a0, a1, .int .i64 a2, .int .i64 a3, .int .i64 a4, .int .i64 a5, .int .i64 a6] { Hid.clean w with tape := T } fun e w' => e = .returned (.bool true) ∧ Below w.heap.size { Hid.clean w with tape := T } w' := by
  have L1 := bt2 (T := T) L;obtain ⟨len, f, hR, hw, hlen⟩ := bE2 (k := .u8) (t := 5) 8 Try.underlying22 Try.underlying5 (by kernel_rfl) (by decide) (by kernel_rfl) L1;have hR1 := hR (fun i j => .int .u8 (f i j)) (fun i j hj => match j, hj with | 0, _ => rfl | 1, _ => rfl | 2, _ => rfl | 3, _ => rfl | 4, _ => rfl | 5, _ => rfl | 6, _ => rfl | 7, _ => rfl);have hb := Szd.bZ7 S1 hR1;have e8 : Try.prog.bytesOf 33 = 8 := by kernel_rfl
  have eR : reachBytes = 140737488351232 := by kernel_rfl
  rw [e8, eR] at hb;have wu : ∀ i j, i < len → j < 8 → 0 ≤ f i j ∧ f i j ≤ 255 := fun i j hi hj => wf_u8 (hw i j hi hj)
  have key := ce6 Trl.cc4 ⟨a0, len, f, a2, a3, a4, a5, a6⟩ rfl
    ⟨trivial, fun i j => trivial, trivial, trivial, trivial, trivial, trivial, trivial⟩
    ⟨(show len ≤ 17592186044416 by omega), wu⟩
    (vals := [.int .i64 a0, a1, .int .i64 a2, .int .i64 a3, .int .i64 a4, .int .i64 a5, .int .i64 a6]) (w := { Hid.clean w with tape := T })
    ⟨.int, hR1, .int, .int, .int, .int, .int, trivial⟩
  have es : (Hid.clean w).heap.size = w.heap.size := by simp [Hid.clean]
  rw [show ({ Hid.clean w with tape := T } : World).heap.size = w.heap.size from es] at key;exact key
theorem own : ownKnob Try.prog.godebug = none := by kernel_rfl
theorem laidOut : laidOutB Try.prog = true := by kernel_rfl
theorem lifted (os : Os) (started : os.Started) (H : Type) (enc : TypeId × Value → H) :
    ReturnsInLeavingWide {} Try.checked os 4 .any (Rows.trapRadiusSpec.pre6 enc Try.prog Try.f4 Rows.trapRadiusRow.domain false) (Rows.trapRadiusSpec.post enc Try.prog Try.f4 false true false false) := by
  refine Hid.aL5 own started Tw.func4 Try.func4 (by kernel_rfl) (fun tmps => ⟨tmps.getD 14 undef, fun q w es => by simp [results, Try.results4]⟩)
    (ChangeSpec.witness6 (enc := enc) (C := Try.checked) false ⟨#[], #[.int .i64 0, .slice none 0 0, .int .i64 0, .int .i64 0, .int .i64 0, .int .i64 0, .int .i64 0], []⟩ 8 (by kernel_rfl) (by kernel_rfl) (by kernel_rfl) (by kernel_rfl)) ?_
  intro W base args ds gs before hval0 hW hcnd hsz;have hval : ∀ (j : Nat) t v, Try.f4.params[j]? = some t → args[j]? = some v → Value.okWide Try.prog W .any base t v := hval0;have hW' := hW;obtain ⟨p, q, hA0, hV, rfl, hfz, hnd⟩ := hW;have hA : DataW.TrodAll enc Try.prog W 0 (fun _ => true) true Try.f4.params.toList args.toList ds p := hA0;rw [Try.params4] at hA hval;obtain ⟨v0, vs0, d0, ds0, p0, q0, hargs, rfl, rfl, h0, r0⟩ := trodAll_cons hA;obtain ⟨v1, vs1, d1, ds1, p1, q1, rfl, rfl, rfl, h1, r1⟩ := trodAll_cons r0;obtain ⟨v2, vs2, d2, ds2, p2, q2, rfl, rfl, rfl, h2, r2⟩ := trodAll_cons r1;obtain ⟨v3, vs3, d3, ds3, p3, q3, rfl, rfl, rfl, h3, r3⟩ := trodAll_cons r2;obtain ⟨v4, vs4, d4, ds4, p4, q4, rfl, rfl, rfl, h4, r4⟩ := trodAll_cons r3;obtain ⟨v5, vs5, d5, ds5, p5, q5, rfl, rfl, rfl, h5, r5⟩ := trodAll_cons r4;obtain ⟨v6, vs6, d6, ds6, p6, q6, rfl, rfl, rfl, h6, r6⟩ := trodAll_cons r5;obtain ⟨rfl, rfl, rfl⟩ := trodAll_nil r6;obtain rfl : args = #[v0, v1, v2, v3, v4, v5, v6] := by cases args; simp_all
  obtain ⟨rfl, rfl⟩ := trodVars_none hV;obtain ⟨a0, rfl, rfl, rfl, w0⟩ := open_int Try.underlying3 (hval 0 3 v0 rfl rfl) h0;have L1 : Leaf Try.prog W 22 v1 := bg1 Try.underlying22 (hval 1 22 v1 rfl rfl) h1;obtain ⟨a2, rfl, rfl, rfl, w2⟩ := open_int Try.underlying3 (hval 2 3 v2 rfl rfl) h2;obtain ⟨a3, rfl, rfl, rfl, w3⟩ := open_int Try.underlying3 (hval 3 3 v3 rfl rfl) h3;obtain ⟨a4, rfl, rfl, rfl, w4⟩ := open_int Try.underlying3 (hval 4 3 v4 rfl rfl) h4;obtain ⟨a5, rfl, rfl, rfl, w5⟩ := open_int Try.underlying3 (hval 5 3 v5 rfl rfl) h5;obtain ⟨a6, rfl, rfl, rfl, w6⟩ := open_int Try.underlying3 (hval 6 3 v6 rfl rfl) h6;have S1 : Szd.Szd Try.prog 33 v1 := Szd.bB7 Try.underlying22 h1 (fun el sp he => sized_slice hsz (j := 1) (by kernel_rfl) (he ▸ rfl) Try.underlying22);clear hA0 hval0;exact ⟨fun T => walk a0 v1 a2 a3 a4 a5 a6 W T L1 S1, fun C hg => bN7 laidOut (by kernel_rfl) (by kernel_rfl) Try.underlying4 rfl hW' rfl hg⟩
theorem over : Rows.trapRadiusRow.holds Try.pinned (OpenSpec.ofChange Rows.trapRadiusSpec) :=
  OpenClaim.holds_of_wide_leaving 4 Try.f4 rfl rfl rfl rfl rfl rfl rfl ⟨rfl, rfl, rfl, rfl, rfl⟩ rfl rfl rfl rfl rfl (by kernel_rfl) Try.func4 (by kernel_rfl)
    (of_decide_eq_true (by kernel_rfl)) (by unfold Func.isWrapper; first | (rw [if_pos (by decide +kernel)]; kernel_rfl) | (rw [if_neg (by decide +kernel)]; exact ⟨rfl, rfl⟩))
    (fun os started H enc _ => lifted os started H enc)
theorem proved : Rows.TrapRadiusSaid :=
  over
end Go.Proofs.Ytbkgncikjhibiaa.trapRadius
